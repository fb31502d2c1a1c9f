/-
  Parts of the proof of KeysNamed.
-/
import Derived.Calls
import Derived.Orders
import Derived.Lib.Bytealg
import Derived.Below
import Derived.Deep.MidRow
import Derived.WalkKit
import Derived.ChangeKeysEq
import Derived.WalkLawsBesides
import Derived.Deep.AppendSrc
import Derived.Deep.Upon
import Derived.Lib.UnsafeStr
set_option linter.unusedVariables false
set_option linter.unusedSimpArgs false
theorem J{p : Prop}(h : p := by omega) : p := h
theorem aG{p : Prop}(h : p := by kernel_rfl) : p := h
theorem a1{p : Prop}(h : p := by simp) : p := h
theorem cg{p : Prop}(h : p := by decide) : p := h
namespace Go.bh
inductive ax(α:Type) where
 |nil
 |node (v:Option α) (l r:ax α)
section
variable {α:Type}
noncomputable def ax.get(t:ax α):Nat→Option α :=
 ax.rec (motive:=fun _=>Nat→Option α) (fun _=>none)
  (fun v _ _ nQ DP k=>cond (Nat.beq k 0) v (cond (Nat.beq (k%2) 1) (nQ (k/2)) (DP (k/2-1)))) t
noncomputable def ax.fx(f:Nat):Nat→α→ax α :=
 Nat.rec (motive:=fun _=>Nat→α→ax α) (fun _ v=> .node (some v) .nil .nil)
  (fun _ ih k v=>cond (Nat.beq k 0) (.node (some v) .nil .nil) (cond (Nat.beq (k%2) 1) (.node none (ih (k/2) v) .nil) (.node none .nil (ih (k/2-1) v)))) f
noncomputable def ax.set(t:ax α):Nat→α→ax α :=
 ax.rec (motive:=fun _=>Nat→α→ax α) (fun k v=>ax.fx k k v)
  (fun o l r lC u2 k v=>cond (Nat.beq k 0) (.node (some v) l r) (cond (Nat.beq (k%2) 1) (.node o (lC (k/2) v) r) (.node o l (u2 (k/2-1) v)))) t
theorem beq_true{a b:Nat}(h:a=b):Nat.beq a b=true:=by subst h;exact Nat.beq_refl a
theorem beq_false{a b:Nat}(h:a≠b):Nat.beq a b=false:=by
 cases an:Nat.beq a b with
 |false=>rfl
 |true=>exact absurd (Nat.eq_of_beq_eq_true an) h
theorem ax.kA(k:Nat):(ax.nil:ax α).get k=none:=rfl
theorem ax.ig(v:Option α)(l r:ax α):(ax.node v l r).get 0=v:=rfl
theorem ax.hW(v:Option α)(l r:ax α)(m:Nat):(ax.node v l r).get (2*m+1)=l.get m:=by show cond (Nat.beq (2*m+1) 0) v (cond (Nat.beq ((2*m+1)%2) 1) (l.get ((2*m+1)/2)) (r.get ((2*m+1)/2-1)))=_;rw [beq_false J,beq_true J,show(2*m+1)/2=m by omega];rfl
theorem ax.hX(v:Option α)(l r:ax α)(m:Nat):(ax.node v l r).get (2*m+2)=r.get m:=by show cond (Nat.beq (2*m+2) 0) v (cond (Nat.beq ((2*m+2)%2) 1) (l.get ((2*m+2)/2)) (r.get ((2*m+2)/2-1)))=_;rw [beq_false J,beq_false J,show(2*m+2)/2-1=m by omega];rfl
theorem ax.nR(f:Nat)(v:α):ax.fx f 0 v=.node (some v) .nil .nil:=by cases f<;>rfl
theorem ax.sg(f m:Nat)(v:α):ax.fx (f+1) (2*m+1) v=.node none (ax.fx f m v) .nil:=by show cond (Nat.beq (2*m+1) 0) (ax.node (some v) .nil .nil) (cond (Nat.beq ((2*m+1)%2) 1) (ax.node none (ax.fx f ((2*m+1)/2) v) .nil) (ax.node none .nil (ax.fx f ((2*m+1)/2-1) v)))=_;rw [beq_false J,beq_true J,show(2*m+1)/2=m by omega];rfl
theorem ax.sh(f m:Nat)(v:α):ax.fx (f+1) (2*m+2) v=.node none .nil (ax.fx f m v):=by show cond (Nat.beq (2*m+2) 0) (ax.node (some v) .nil .nil) (cond (Nat.beq ((2*m+2)%2) 1) (ax.node none (ax.fx f ((2*m+2)/2) v) .nil) (ax.node none .nil (ax.fx f ((2*m+2)/2-1) v)))=_;rw [beq_false J,beq_false J,show(2*m+2)/2-1=m by omega];rfl
theorem ax.set_nil(k:Nat)(v:α):(ax.nil:ax α).set k v=ax.fx k k v:=rfl
theorem ax.iR(o:Option α)(l r:ax α)(v:α):(ax.node o l r).set 0 v=.node (some v) l r:=rfl
theorem ax.gv(o:Option α)(l r:ax α)(m:Nat)(v:α):(ax.node o l r).set (2*m+1) v=.node o (l.set m v) r:=by show cond (Nat.beq (2*m+1) 0) (ax.node (some v) l r) (cond (Nat.beq ((2*m+1)%2) 1) (ax.node o (l.set ((2*m+1)/2) v) r) (ax.node o l (r.set ((2*m+1)/2-1) v)))=_;rw [beq_false J,beq_true J,show(2*m+1)/2=m by omega];rfl
theorem ax.gw(o:Option α)(l r:ax α)(m:Nat)(v:α):(ax.node o l r).set (2*m+2) v=.node o l (r.set m v):=by show cond (Nat.beq (2*m+2) 0) (ax.node (some v) l r) (cond (Nat.beq ((2*m+2)%2) 1) (ax.node o (l.set ((2*m+2)/2) v) r) (ax.node o l (r.set ((2*m+2)/2-1) v)))=_;rw [beq_false J,beq_false J,show(2*m+2)/2-1=m by omega];rfl
theorem three(k:Nat):k=0∨(∃m,k=2*m+1)∨ ∃m,k=2*m+2:=by
 rcases Nat.eq_zero_or_pos k with h|h
 ·exact .inl h
 ·rcases Nat.mod_two_eq_zero_or_one k with ae|ae
  ·exact .inr (.inr ⟨k/2-1,J⟩)
  ·exact .inr (.inl ⟨k/2,J⟩)
theorem ax.y0(v:α):∀(k f g:Nat),k≤f→k≤g→ax.fx f k v=ax.fx g k v:=by
 intro k;induction k using Nat.strongRecOn with
 |_ k ih =>
  intro f g aM ah;rcases three k with rfl|⟨m,rfl⟩|⟨m,rfl⟩
  ·rw [ax.nR,ax.nR]
  ·obtain⟨f,rfl⟩:∃ew,f=ew+1:=⟨f-1,J⟩
   obtain⟨g,rfl⟩:∃fH,g=fH+1:=⟨g-1,J⟩
   rw [ax.sg,ax.sg,ih m J f g J J]
  ·obtain⟨f,rfl⟩:∃ew,f=ew+1:=⟨f-1,J⟩
   obtain⟨g,rfl⟩:∃fH,g=fH+1:=⟨g-1,J⟩
   rw [ax.sh,ax.sh,ih m J f g J J]
theorem ax.DQ(v:α):∀(k f j:Nat),k≤f→(ax.fx f k v).get j=if k=j then some v else none:=by
 intro k;induction k using Nat.strongRecOn with
 |_ k ih =>
  intro f j aM;rcases three k with rfl|⟨m,rfl⟩|⟨m,rfl⟩
  ·rw [ax.nR];rcases three j with rfl|⟨i,rfl⟩|⟨i,rfl⟩
   ·rw [ax.ig,if_pos rfl]
   ·rw [ax.hW,ax.kA,if_neg J]
   ·rw [ax.hX,ax.kA,if_neg J]
  ·obtain⟨f,rfl⟩:∃ew,f=ew+1:=⟨f-1,J⟩
   rw [ax.sg];rcases three j with rfl|⟨i,rfl⟩|⟨i,rfl⟩
   ·rw [ax.ig,if_neg J]
   ·rw [ax.hW,ih m J f i J];by_cases h:m=i
    ·rw [if_pos h,if_pos J]
    ·rw [if_neg h,if_neg J]
   ·rw [ax.hX,ax.kA,if_neg J]
  ·obtain⟨f,rfl⟩:∃ew,f=ew+1:=⟨f-1,J⟩
   rw [ax.sh];rcases three j with rfl|⟨i,rfl⟩|⟨i,rfl⟩
   ·rw [ax.ig,if_neg J]
   ·rw [ax.hW,ax.kA,if_neg J]
   ·rw [ax.hX,ih m J f i J];by_cases h:m=i
    ·rw [if_pos h,if_pos J]
    ·rw [if_neg h,if_neg J]
theorem ax.jp(v:α):∀(t:ax α)(k j:Nat),(t.set k v).get j=if k=j then some v else t.get j
 |.nil,k,j=>by rw [ax.set_nil,ax.DQ v k k j (Nat.le_refl _),ax.kA]
 |.node o l r,k,j=>by
  rcases three k with rfl|⟨m,rfl⟩|⟨m,rfl⟩
  ·rw [ax.iR];rcases three j with rfl|⟨i,rfl⟩|⟨i,rfl⟩
   ·rw [ax.ig,if_pos rfl]
   ·rw [ax.hW,ax.hW,if_neg J]
   ·rw [ax.hX,ax.hX,if_neg J]
  ·rw [ax.gv];rcases three j with rfl|⟨i,rfl⟩|⟨i,rfl⟩
   ·rw [ax.ig,ax.ig,if_neg J]
   ·rw [ax.hW,ax.hW,ax.jp v l m i];by_cases h:m=i
    ·rw [if_pos h,if_pos J]
    ·rw [if_neg h,if_neg J]
   ·rw [ax.hX,ax.hX,if_neg J]
  ·rw [ax.gw];rcases three j with rfl|⟨i,rfl⟩|⟨i,rfl⟩
   ·rw [ax.ig,ax.ig,if_neg J]
   ·rw [ax.hW,ax.hW,if_neg J]
   ·rw [ax.hX,ax.hX,ax.jp v r m i];by_cases h:m=i
    ·rw [if_pos h,if_pos J]
    ·rw [if_neg h,if_neg J]
theorem ax.DR(x y:α):∀(a b:Nat),a≠b→(ax.fx a a x).set b y=(ax.fx b b y).set a x:=by
 intro a;induction a using Nat.strongRecOn with
 |_ a ih =>
  intro b ms
  have o4:∀(m:Nat)(v:α),ax.fx (2*m+1) (2*m+1) v=.node none (ax.fx m m v) .nil:=fun m v=>by rw [ax.sg,ax.y0 v m (2*m) m J (Nat.le_refl _)]
  have even:∀(m:Nat)(v:α),ax.fx (2*m+2) (2*m+2) v=.node none .nil (ax.fx m m v):=fun m v=>by rw [ax.sh,ax.y0 v m (2*m+1) m J (Nat.le_refl _)]
  rcases three a with rfl|⟨m,rfl⟩|⟨m,rfl⟩<;>rcases three b with rfl|⟨i,rfl⟩|⟨i,rfl⟩
  ·exact absurd rfl ms
  ·rw [ax.nR,o4,ax.gv,ax.iR,ax.set_nil]
  ·rw [ax.nR,even,ax.gw,ax.iR,ax.set_nil]
  ·rw [ax.nR,o4,ax.gv,ax.iR,ax.set_nil]
  ·rw [o4,o4,ax.gv,ax.gv,ih m J i J]
  ·rw [o4,even,ax.gv,ax.gw,ax.set_nil,ax.set_nil]
  ·rw [ax.nR,even,ax.gw,ax.iR,ax.set_nil]
  ·rw [o4,even,ax.gv,ax.gw,ax.set_nil,ax.set_nil]
  ·rw [even,even,ax.gw,ax.gw,ih m J i J]
theorem ax.set_comm(x y:α):∀(t:ax α)(a b:Nat),a≠b→(t.set a x).set b y=(t.set b y).set a x
 |.nil,a,b,h=>by rw [ax.set_nil,ax.set_nil,ax.DR x y a b h]
 |.node o l r,a,b,h=>by
  rcases three a with rfl|⟨m,rfl⟩|⟨m,rfl⟩<;>rcases three b with rfl|⟨i,rfl⟩|⟨i,rfl⟩
  ·exact absurd rfl h
  ·rw [ax.iR,ax.gv,ax.gv,ax.iR]
  ·rw [ax.iR,ax.gw,ax.gw,ax.iR]
  ·rw [ax.iR,ax.gv,ax.gv,ax.iR]
  ·rw [ax.gv,ax.gv,ax.gv,ax.gv,ax.set_comm x y l m i J]
  ·rw [ax.gv,ax.gw,ax.gw,ax.gv]
  ·rw [ax.gw,ax.iR,ax.iR,ax.gw]
  ·rw [ax.gw,ax.gv,ax.gv,ax.gw]
  ·rw [ax.gw,ax.gw,ax.gw,ax.gw,ax.set_comm x y r m i J]
def u3(f:α→α→Bool):Option α→Option α→Bool
 |none,none=>true
 |some a,some b=>f a b
 |_,_=>false
def ax.mu(bL:Nat):ax α→Nat→Nat→Bool
 |.nil,_,_=>true
 |.node v l r,p,s=>(!decide (p<bL) || v.isNone)&&l.mu bL (p+s) (2*s)&&r.mu bL (p+2*s) (2*s)
def ax.jT(f:α→α→Bool)(bL:Nat):ax α→ax α→Nat→Nat→Bool
 |.nil,u,p,s=>u.mu bL p s
 |.node v l r,.nil,p,s=>(ax.node v l r).mu bL p s
 |.node v l r,.node aK ct dE,p,s=>(!decide (p<bL) || u3 f v aK)&&ax.jT f bL l ct (p+s) (2*s)&&ax.jT f bL r dE (p+2*s) (2*s)
theorem si(p s m:Nat):p+s* (2*m+1)=p+s+2*s*m:=by rw [Nat.mul_add,Nat.mul_one,←Nat.mul_assoc,Nat.mul_comm s 2];omega
theorem sj(p s m:Nat):p+s* (2*m+2)=p+2*s+2*s*m:=by rw [Nat.mul_add,←Nat.mul_assoc,Nat.mul_comm s 2];omega
theorem ax.sk(bL:Nat):∀(t:ax α)(p s:Nat),t.mu bL p s=true→ ∀k,p+s*k<bL→t.get k=none
 |.nil,p,s,_,k,_=>rfl
 |.node v l r,p,s,h,k,ap=>by
  simp only [ax.mu,Bool.and_eq_true,Bool.or_eq_true,Bool.not_eq_true',decide_eq_false_iff_not]at h;obtain⟨⟨aa,ae⟩,aS⟩:=h;rcases three k with rfl|⟨m,rfl⟩|⟨m,rfl⟩
  ·rw [ax.ig];rcases aa with aa|aa
   ·simp at ap;omega
   ·simpa using aa
  ·rw [ax.hW];rw [si]at ap;exact ax.sk bL l _ _ ae m ap
  ·rw [ax.hX];rw [sj]at ap;exact ax.sk bL r _ _ aS m ap
theorem ax.sl(bL:Nat):∀(t:ax α)(p s:Nat),(∀k,p+s*k<bL→t.get k=none)→t.mu bL p s=true
 |.nil,p,s,_=>rfl
 |.node v l r,p,s,h=>by
  simp only [ax.mu,Bool.and_eq_true,Bool.or_eq_true,Bool.not_eq_true',decide_eq_false_iff_not];refine⟨⟨?_,?_⟩,?_⟩
  ·by_cases ab:p<bL
   ·right;have:=h 0 (by simpa using ab);rw [ax.ig]at this;simp [this]
   ·exact .inl ab
  ·exact ax.sl bL l _ _ fun m hm=>by have:=h (2*m+1) (by rw [si];exact hm);rwa [ax.hW]at this
  ·exact ax.sl bL r _ _ fun m hm=>by have:=h (2*m+2) (by rw [sj];exact hm);rwa [ax.hX]at this
theorem ax.u4{f:α→α→Bool}(aM:∀a b,f a b=true→a=b)(bL:Nat):∀(t u:ax α)(p s:Nat),ax.jT f bL t u p s=true→ ∀k,p+s*k<bL→t.get k=u.get k
 |.nil,u,p,s,h,k,ap=>by rw [ax.kA,ax.sk bL u p s (by simpa [ax.jT]using h) k ap]
 |.node v l r,.nil,p,s,h,k,ap=>by rw [ax.kA,ax.sk bL _ p s (by simpa [ax.jT]using h) k ap]
 |.node v l r,.node aK ct dE,p,s,h,k,ap=>by
  simp only [ax.jT,Bool.and_eq_true,Bool.or_eq_true,Bool.not_eq_true',decide_eq_false_iff_not]at h;obtain⟨⟨aa,ae⟩,aS⟩:=h;rcases three k with rfl|⟨m,rfl⟩|⟨m,rfl⟩
  ·rw [ax.ig,ax.ig];rcases aa with aa|aa
   ·simp at ap;omega
   ·cases v<;>cases aK<;>simp [u3]at aa<;>first|rfl|(rw [aM _ _ aa])
  ·rw [ax.hW,ax.hW];rw [si]at ap;exact ax.u4 aM bL l ct _ _ ae m ap
  ·rw [ax.hX,ax.hX];rw [sj]at ap;exact ax.u4 aM bL r dE _ _ aS m ap
theorem ax.sn{f:α→α→Bool}(aM:∀a,f a a=true)(bL:Nat):∀(t u:ax α)(p s:Nat),(∀k,p+s*k<bL→t.get k=u.get k)→ax.jT f bL t u p s=true
 |.nil,u,p,s,h=>by simp only [ax.jT];exact ax.sl bL u p s fun k ap=>by rw [←h k ap,ax.kA]
 |.node v l r,.nil,p,s,h=>by simp only [ax.jT];exact ax.sl bL _ p s fun k ap=>by rw [h k ap,ax.kA]
 |.node v l r,.node aK ct dE,p,s,h=>by
  simp only [ax.jT,Bool.and_eq_true,Bool.or_eq_true,Bool.not_eq_true',decide_eq_false_iff_not];refine⟨⟨?_,?_⟩,?_⟩
  ·by_cases ab:p<bL
   ·right;have:=h 0 (by simpa using ab);rw [ax.ig,ax.ig]at this;subst this;cases v<;>simp [u3,aM]
   ·exact .inl ab
  ·exact ax.sn aM bL l ct _ _ fun m hm=>by have:=h (2*m+1) (by rw [si];exact hm);rwa [ax.hW,ax.hW]at this
  ·exact ax.sn aM bL r dE _ _ fun m hm=>by have:=h (2*m+2) (by rw [sj];exact hm);rwa [ax.hX,ax.hX]at this
end
end Go.bh
namespace Go.bh
noncomputable section
structure di where
 id:Nat
 bf:Nat
 idx:Nat
 fld:Nat
 es:Nat
 deriving DecidableEq
inductive R where
 |undef
 |bool (b:Bool)
 |int (k:IntKind) (n:Int)
 |str (s:List UInt8)
 |ptr (a:Option di)
 |slice (a:Option di) (len cap:Nat)
 |func (fn:Fn) (first captured:List R)
 |nilFunc
 |iface (t:TypeId) (v:R)
 |nilIface
 |agg (cs:List R)
 |tuple (vs:List R)
 deriving Inhabited
abbrev ek:R:= .tuple []
def R.cells:R→List R
 |.agg cs=>cs
 |v=> [v]
def o5:Value→R
 |.bool b=> .bool b
 |.int k n=> .int k n
 |.string s=> .str s.data.toList
 |.pointer none=> .ptr none
 |.slice none 0 0=> .slice none 0 0
 |.nilFunc=> .nilFunc
 |.nilIface=> .nilIface
 |_=> .undef
def mv:Value→R
 |.agg cs=> .agg (cs.toList.map o5)
 |.iface t v=> .iface t (o5 v)
 |v=>o5 v
inductive kB where
 |int (k:IntKind)|bool|string|ptr (e:TypeId)|slice (e:TypeId)|array (n:Nat) (e:TypeId)
 |struct (fs:List (Nat×TypeId))|func|iface (own:Bool)|other
 deriving Inhabited
structure nS where
 kind:kB
 size:Nat
 bytes:Nat
 zero:Option R
 deriving Inhabited
def kB.isAgg:kB→Bool
 |.struct _|.array _ _=>true
 |_=>false
def eS:TypeDesc→kB
 |.int k=> .int k
 |.bool=> .bool
 |.string=> .string
 |.pointer e=> .ptr e
 |.slice e=> .slice e
 |.array n e=> .array n e
 |.struct fs=> .struct (fs.toList.map fun f=>(f.offset,f.type))
 |.func _ _ _=> .func
 |.interface so=> .iface (!so.isEmpty)
 |_=> .other
def sp(P:Program)(t:TypeId):Option nS :=
 match P.info? t,P.underlying t with
 |some i,some d=>some {kind:=eS d,size:=i.size,bytes:=i.bytes,zero:=i.zero.map mv}
 |_,_=>none
abbrev ci:=TypeId→Option nS
def ci.dM(D:ci)(P:Program):Prop:= ∀t d,D t=some d→sp P t=some d
structure ai where
 bc:List R
 es:Nat
 exact:Bool
 ro:Bool
 bf:Nat
 hY:Nat
 lD:Nat
 ty:Option (TypeId×Nat)
 deriving Inhabited
structure I where
 U:Nat
 aB:ax ai
def I.get(h:I)(id:Nat):Option ai:=h.aB.get id
def I.set(h:I)(id:Nat)(b:ai):I:= {h with aB:=h.aB.set id b}
def ai.bL(b:ai)(bf:Nat):Nat :=
 if bf=b.bf then b.bc.length else if b.hY≤bf∧bf<b.bf then b.lD else 0
def ai.elem?(b:ai)(bf idx:Nat):Option R :=
 if idx<b.bL bf then b.bc[idx]? else none
def ai.aq(bc:List R)(es:Nat)(exact:Bool)(ty:Option (TypeId×Nat):=none):ai :=
 {bc,es,exact,ro:=false,bf:=0,hY:=0,lD:=0,ty}
def ai.grow(b:ai)(new:List R):ai :=
 {b with bc:=b.bc++new,bf:=b.bf+1,lD:=if b.hY=b.bf then b.bc.length else min b.lD b.bc.length}
def gx(l:List R)(i:Nat):List R→List R
 |[]=>l
 |v::vs=>gx (l.set i v) (i+1) vs
def ai.put(b:ai)(idx:Nat)(vs:List R):ai :=
 {b with bc:=gx b.bc idx vs,hY:=b.bf}
def gK(kC:Bool)(size fld:Nat)(e:R):Option R :=
 if kC then
  match e with
  |.agg cs=>if fld=0∧size=cs.length then some (.agg cs)else if fld+size≤cs.length then some (.agg ((cs.drop fld).take size))else none
  |_=>none
 else
  match e with
  |.agg cs=>cs[fld]?
  |_=>if fld=0 then some e else none
def bp(D:ci)(t:TypeId)(a:di)(h:I):Option R :=
 match D t,h.get a.id with
 |some d,some b =>
  match b.elem? a.bf a.idx with
  |some e=>gK d.kind.isAgg d.size a.fld e
  |none=>none
 |_,_=>none
def R.gZ:R→Bool
 |.agg _|.tuple _|.undef=>false
 |_=>true
def o6(fld:Nat)(v e:R):Option R :=
 match e with
 |.agg cs=>if fld+v.cells.length≤cs.length then some (.agg (gx cs fld v.cells))else none
 |_=>if fld=0∧v.gZ then some v else none
def R.fits(v:R)(kC:Bool)(size:Nat):Bool :=
 match v with
 |.agg cs=>kC&&cs.length == size&&cs.all (·.gZ)
 |.tuple _=>false
 |.undef=>false
 |_=> !kC&&size == 1
def ii(D:ci)(t:TypeId)(a:di)(v:R)(h:I):Option I :=
 match D t,h.get a.id with
 |some d,some b =>
  if v.fits d.kind.isAgg d.size&&!b.ro&&a.bf == b.bf then
   match b.bc[a.idx]? with
   |some e =>
    match o6 a.fld v e with
    |some cn=>some (h.set a.id {b with bc:=b.bc.set a.idx cn,hY:=b.bf})
    |none=>none
   |none=>none
  else none
 |_,_=>none
def hv(op:BinOp)(k:IntKind)(x y:Int):Option R :=
 match op with
 |.add=>some (.int k (k.wrap (x+y)))
 |.sub=>some (.int k (k.wrap (x-y)))
 |.mul=>some (.int k (k.wrap (x*y)))
 |.quo=>if y=0 then none else some (.int k (k.wrap (x.tdiv y)))
 |.rem=>if y=0 then none else some (.int k (x.tmod y))
 |.and=>some (.int k (k.wrap (BitVec.ofInt k.bits x &&& BitVec.ofInt k.bits y).toNat))
 |.or=>some (.int k (k.wrap (BitVec.ofInt k.bits x ||| BitVec.ofInt k.bits y).toNat))
 |.xor=>some (.int k (k.wrap (BitVec.ofInt k.bits x ^^^ BitVec.ofInt k.bits y).toNat))
 |.andNot=>some (.int k (k.wrap (BitVec.ofInt k.bits x &&& ~~~(BitVec.ofInt k.bits y)).toNat))
 |.eql=>some (.bool (x == y))
 |.neq=>some (.bool (x != y))
 |.lss=>some (.bool (decide (x<y)))
 |.leq=>some (.bool (decide (x≤y)))
 |.gtr=>some (.bool (decide (x>y)))
 |.geq=>some (.bool (decide (x≥y)))
 |_=>none
def qv(op:BinOp)(k:IntKind)(x y:Int):Option R :=
 if y<0 then none else
 match op with
 |.shl=>some (.int k (k.wrap (x*2^(min y.toNat k.bits))))
 |.shr=>some (.int k (x.fdiv (2^(min y.toNat k.bits))))
 |_=>none
def qw(op:BinOp)(x y:List UInt8):Option R :=
 match op with
 |.add=>if x.length+y.length<2^62 then some (.str (x++y))else none
 |.eql=>some (.bool (x == y))
 |.neq=>some (.bool (!(x == y)))
 |.lss=>some (.bool (Op.bytesLess x y))
 |.leq=>some (.bool (Op.bytesLess x y || x == y))
 |.gtr=>some (.bool (!(Op.bytesLess x y || x == y)))
 |.geq=>some (.bool (!Op.bytesLess x y))
 |_=>none
def sq(k:kB)(a b:R):Option Bool :=
 match k,a,b with
 |.int _,.int k a,.int dS b=>if k=dS then some (a == b)else none
 |.bool,.bool a,.bool b=>some (a == b)
 |.string,.str a,.str b=>some (a == b)
 |_,_,_=>none
def nT(D:ci):List (Nat×TypeId)→List R→List R→Option Bool
 |[],[],[]=>some true
 |(_,t)::fs,a::x,b::y =>
  match D t with
  |some d =>
   match sq d.kind a b,nT D fs x y with
   |some p,some q=>some (p&&q)
   |_,_=>none
  |none=>none
 |_,_,_=>none
def o7(k:kB):List R→List R→Option Bool
 |[],[]=>some true
 |a::x,b::y =>
  match sq k a b,o7 k x y with
  |some p,some q=>some (p&&q)
  |_,_=>none
 |_,_=>none
def mw(D:ci)(fa:TypeId→Bool)(lit:Bool)(t:TypeId)(x y:R):Option Bool :=
 match D t with
 |none=>none
 |some d =>
  match d.kind,x,y with
  |.bool,.bool a,.bool b=>some (a == b)
  |.ptr _,.ptr none,.ptr none=>some true
  |.ptr _,.ptr none,.ptr (some _)=>some false
  |.ptr _,.ptr (some _),.ptr none=>some false
  |.slice _,.slice none _ _,.slice none _ _=>some true
  |.slice _,.slice none _ _,.slice (some _) _ _=>some false
  |.slice _,.slice (some _) _ _,.slice none _ _=>some false
  |.func,.nilFunc,.nilFunc=>some true
  |.func,.nilFunc,.func _ _ _=>some false
  |.func,.func _ _ _,.nilFunc=>some false
  |.iface _,.nilIface,.nilIface=>if lit then some true else none
  |.iface _,.nilIface,.iface _ _=>some false
  |.iface _,.iface _ _,.nilIface=>some false
  |.struct fs,.agg x,.agg y=>if fa t then nT D fs x y else none
  |.array n e,.agg x,.agg y =>
   if fa t then
    match D e with
    |some fU=>if fU.size=1∧x.length=n then o7 fU.kind x y else none
    |none=>none
   else none
  |_,_,_=>none
def iS(D:ci)(fa:TypeId→Bool)(lit:Bool)(op:BinOp)(t:TypeId)(x y:R):Option R :=
 match x,y with
 |.int k a,.int dS b =>
  match op with
  |.shl|.shr=>qv op k a b
  |_=>if k=dS then hv op k a b else none
 |.str a,.str b=>qw op a b
 |_,_ =>
  match op with
  |.eql=>(mw D fa lit t x y).map fun b=> .bool b
  |.neq=>(mw D fa lit t x y).map fun b=> .bool (!b)
  |_=>none
def qx(op:UnOp)(x:R):Option R :=
 match op,x with
 |.neg,.int k n=>some (.int k (k.wrap (0-n)))
 |.not,.bool b=>some (.bool (!b))
 |.xor,.int k n=>hv .xor k (if k.signed then-1 else k.max) n
 |_,_=>none
def sr:R→R→Option R
 |.int k x,.int dS y=>if k=dS then some (.int k (if y>x then y else x))else none
 |_,_=>none
def ss:R→R→Option R
 |.int k x,.int dS y=>if k=dS then some (.int k (if y<x then y else x))else none
 |_,_=>none
def my(f:R→R→Option R):R→List R→Option R
 |x,[]=>some x
 |x,y::r =>
  match f x y with
  |some z=>my f z r
  |none=>none
def R.known:R→Bool
 |.undef=>false
 |_=>true
def o8(place:Nat→Option (Nat×Nat))(cells:List R):List (Nat×R)→Option (List R)
 |[]=>some cells
 |(i,v)::rest =>
  match place i with
  |none=>none
  |some (off,size) =>
   if v.cells.length=size∧off+size≤cells.length∧v.known=true then o8 place (gx cells off v.cells) rest else none
def y1(D:ci)(fs:List (Nat×TypeId)):Bool:=fs.all fun f=>(D f.2).isSome
def u5(D:ci)(t:TypeId)(parts:List (Nat×R)):Option R :=
 match D t with
 |some d =>
  match d.kind,d.zero with
  |.struct fs,some z =>
   if z.known=true∧y1 D fs=true then
    (o8 (fun i=>match fs[i]? with|some (off,mz)=>(D mz).map fun x=>(off,x.size)|none=>none) z.cells parts).map .agg
   else none
  |.array _ e,some z =>
   match D e with
   |some x=>if z.known=true then(o8 (fun i=>some (i*x.size,x.size)) z.cells parts).map .agg else none
   |none=>none
  |_,_=>none
 |none=>none
def jU(l:List R):List (Nat×R)→Option (List R)
 |[]=>some l
 |(i,v)::rest=>if i<l.length then jU (l.set i v) rest else none
def gL(nid es len cap:Nat):R:= .slice (some ⟨nid,0,0,0,es⟩) len cap
def ij(D:ci)(t:TypeId)(len:Nat)(parts:List (Nat×R))(nid:Nat)(h:I):Option (R×I) :=
 match D t with
 |some d =>
  match d.kind with
  |.slice e =>
   match D e with
   |some x =>
    match x.zero with
    |some z =>
     if len*x.size≤2^24∧0<x.size∧z.fits x.kind.isAgg x.size∧(parts.all fun p=>p.2.fits x.kind.isAgg x.size)then
      match jU (List.replicate len z) parts with
      |some l=>some (gL nid x.size len len,h.set nid (.aq l x.size true))
      |none=>none
     else none
    |none=>none
   |none=>none
  |_=>none
 |none=>none
def qy(D:ci)(t:TypeId)(len cap:R)(nid:Nat)(h:I):Option (R×I) :=
 match D t,len,cap with
 |some d, .int _ l,.int _ c =>
  match d.kind with
  |.slice e =>
   match D e with
   |some x =>
    match x.zero with
    |some z =>
     if 0≤l∧l≤c∧c<2^62∧x.bytes*c≤2^48∧0<x.size∧z.fits x.kind.isAgg x.size then
      some (gL nid x.size l.toNat c.toNat,h.set nid (.aq (List.replicate c.toNat z) x.size true))
     else none
    |none=>none
   |none=>none
  |_=>none
 |_,_,_=>none
def eD(v:Option R)(u6 qz:Nat):Option Nat :=
 match v with
 |none=>some u6
 |some (.int _ i)=>if 0≤i∧i≤qz then some i.toNat else none
 |_=>none
def eg(D:ci)(t:TypeId)(x:R)(aE ag mx:Option R):Option R :=
 match D t,x with
 |some d, .slice a len cap =>
  match d.kind with
  |.slice e =>
   match D e,eD mx cap cap with
   |some bM,some m =>
    match eD ag len m with
    |some bx =>
     match eD aE 0 bx with
     |some l =>
      if mx.isSome∧ag.isNone then none else
      match a with
      |none=>some (.slice none (bx-l) (m-l))
      |some a=>if a.es=bM.size∧a.fld=0 then some (.slice (some {a with idx:=a.idx+l}) (bx-l) (m-l))else none
     |none=>none
    |none=>none
   |_,_=>none
  |_=>none
 |some d,.ptr (some a) =>
  match d.kind with
  |.array n e =>
   match D e with
   |some bM =>
    if mx.isSome then none else
    match eD ag n n with
    |some bx =>
     match eD aE 0 bx with
     |some l=>if l<n∧bM.size=1 then some (.slice (some {a with fld:=a.fld+l+1}) (bx-l) (n-l))else none
     |none=>none
    |none=>none
   |none=>none
  |_=>none
 |some d,.str s =>
  match d.kind with
  |.string =>
   if mx.isSome then none else
   match eD ag s.length s.length with
   |some bx =>
    match eD aE 0 bx with
    |some l=>some (.str ((s.take bx).drop l))
    |none=>none
   |none=>none
  |_=>none
 |_,_=>none
def qA(D:ci)(t:TypeId)(x i:R):Option R :=
 match D t,x,i with
 |some d,.slice (some a) len _,.int _ i =>
  match d.kind with
  |.slice e =>
   match D e with
   |some bM =>
    if 0≤i∧i<len∧a.es=bM.size∧a.fld=0 then some (.ptr (some {a with idx:=a.idx+i.toNat}))
    else if 0≤i∧i<len∧0<a.fld∧bM.size=1 then some (.ptr (some {a with fld:=a.fld-1+i.toNat}))
    else none
   |none=>none
  |_=>none
 |some d,.ptr (some a),.int _ i =>
  match d.kind with
  |.array n e =>
   match D e with
   |some bM=>if 0≤i∧i<n then some (.ptr (some {a with fld:=a.fld+i.toNat*bM.size}))else none
   |none=>none
  |_=>none
 |_,_,_=>none
def apart(D:ci)(t:TypeId)(cs:List R)(off:Nat):Option R :=
 match D t with
 |some d=>if d.kind.isAgg then(if off+d.size≤cs.length then some (.agg ((cs.drop off).take d.size))else none)else cs[off]?
 |none=>none
def g'(D:ci)(t:TypeId)(x i:R):Option R :=
 match D t,x,i with
 |some d,.agg cs,.int _ i =>
  match d.kind with
  |.array n e =>
   match D e with
   |some bM=>if 0≤i∧i<n then apart D e cs (i.toNat*bM.size)else none
   |none=>none
  |_=>none
 |some d,.str s,.int _ i =>
  match d.kind with
  |.string=>if 0≤i then(s[i.toNat]?).map fun b=> .int .u8 b.toNat else none
  |_=>none
 |_,_,_=>none
def u7(D:ci)(t:TypeId)(x:R)(f:Nat):Option R :=
 match D t,x with
 |some d,.ptr (some a) =>
  match d.kind with
  |.struct fs =>
   match fs[f]? with
   |some (off,mz) =>
    match D mz with
    |some fd=>if 0<fd.size then some (.ptr (some {a with fld:=a.fld+off}))else none
    |none=>none
   |none=>none
  |_=>none
 |_,_=>none
def u9(D:ci)(t:TypeId)(x:R)(f:Nat):Option R :=
 match D t,x with
 |some d,.agg cs =>
  match d.kind with
  |.struct fs =>
   match fs[f]? with
   |some (off,mz)=>apart D mz cs off
   |none=>none
  |_=>none
 |_,_=>none
def en(es:Nat)(x:R)(h:I):Option (List R) :=
 match x with
 |.slice none 0 _=>some []
 |.slice (some a) len _ =>
  if a.fld=0 then
   if a.es=es then
    match h.get a.id with
    |some b=>if len=0 then some []else if a.idx+len≤b.bL a.bf∧a.idx+len≤b.bc.length then some ((b.bc.drop a.idx).take len)else none
    |none=>if len=0 then some []else none
   else none
  else if len=0 then some []
  else if es=1 then
   match h.get a.id with
   |some b =>
    match b.elem? a.bf a.idx with
    |some (.agg cs)=>if a.fld-1+len≤cs.length∧((cs.drop (a.fld-1)).take len).all (·.gZ)=true then some ((cs.drop (a.fld-1)).take len)else none
    |_=>none
   |none=>none
  else none
 |.str s=>if es=1 then some (s.map fun b=> .int .u8 b.toNat)else none
 |_=>none
def nS.nU(d:nS):Bool :=
 match d.zero with
 |some z=>z.fits d.kind.isAgg d.size
 |none=>false
def fb(D:ci)(t:TypeId)(s x:R)(nid:Nat)(h:I):Option (R×I) :=
 match D t,s with
 |some d, .slice base len cap =>
  match d.kind with
  |.slice e =>
   match D e with
   |some bM =>
    match en bM.size x h with
    |some new =>
     let gy:=len+new.length
     if 0 < bM.size∧(gy+gy/4+512)*bM.bytes≤2^48∧gy<2^62∧bM.nU=true then
      match base with
      |none=>if gy=0 then some (.slice none 0 cap,h)else if cap=0∧len=0 then some (gL nid bM.size gy gy,h.set nid (.aq new bM.size false (some (e,0))))else none
      |some a =>
       if a.es =bM.size∧a.fld=0 then
        match h.get a.id with
        |some b =>
         if gy≤cap then
          if new=[]then some (.slice base gy cap,h)else
          if b.ro=false∧a.bf=b.bf∧a.idx+gy≤b.bc.length then some (.slice base gy cap,h.set a.id (b.put (a.idx+len) new))else none
         else if b.exact then
          match en bM.size s h with
          |some old=>some (gL nid bM.size gy gy,h.set nid (.aq (old++new) bM.size false (some (e,0))))
          |none=>none
         else if b.ro=false∧a.bf=b.bf∧a.idx+len=b.bc.length∧new≠[]∧(b.ty=none∨b.ty=some (e,0))then
          some (.slice (some {a with bf:=a.bf+1}) gy gy,
           h.set a.id (b.grow new))
         else none
        |none=>none
       else none
     else none
    |none=>none
   |none=>none
  |_=>none
 |_,_=>none
def u'(D:ci)(t:TypeId)(x:R):Option R :=
 match D t,x with
 |some d,.slice _ n _=>match d.kind with|.slice _=>some (.int .i64 n)|_=>none
 |some d,.str s=>match d.kind with|.string=>some (.int .i64 s.length)|_=>none
 |some d,_=>match d.kind with|.array n _=>some (.int .i64 n)|_=>none
 |_,_=>none
def qB(D:ci)(src dst:TypeId)(x:R):Option R :=
 match D src,D dst,x with
 |some _,some d,.int _ n=>match d.kind with|.int k=>some (.int k (k.wrap n))|.string=>some (.str (Utf8.encode n).data.toList)|_=>none
 |some _,some d,.str s=>match d.kind with|.string=>some (.str s)|_=>none
 |_,_,_=>none
abbrev cu:=FuncId→List R→I→Option (R×I)
abbrev st:=List R→I→Option (R×I)
structure bq where
 D:ci
 eqs:List TypeId
 o9:FuncId→Option st:=fun _=>none
 ext:FuncId→Option Nat:=fun _=>none
 cond:(Nat→Prop)→World→Prop:=fun _ _=>True
def bq.fa(E:bq)(t:TypeId):Bool:=E.eqs.contains t
def bX(s:List R):Operand→R
 |.tmp t=>s.getD t .undef
 |.const v=>mv v
 |.global _=> .undef
 |.func f=> .func (.func f) [] []
def ik:Operand→Bool
 |.const _=>true
 |_=>false
def kD(call:cu)(f:R)(args:List R)(h:I):Option (R×I) :=
 match f with
 |.func (.func g) first captured=>call g (first++args++captured) h
 |_=>none
def bytesOf:List R→Option (List UInt8)
 |[]=>some []
 |.int .u8 n::r=>(bytesOf r).map fun l=>UInt8.ofNat n.toNat::l
 |_=>none
def nV:List R→Bool
 |[]=>true
 |.int .u8 n::r=>decide (0≤n)&&decide (n<256)&&nV r
 |_=>false
def va(D:ci)(vb:TypeId)(p:Option di)(n:Int)(h:I):Option (R×I) :=
 if n=0 then some (.str [],h)else
 match D vb,p with
 |some d,some a =>
  match d.kind,h.get a.id with
  |.ptr e,some b =>
   match D e with
   |some fU =>
    if 0<n∧n≤1048576∧a.idx=0∧a.fld=0∧a.es=1∧b.ro=false∧b.ty=some (e,0)∧fU.size=1∧n.toNat≤b.bL a.bf∧n.toNat≤b.bc.length∧nV (b.bc.take n.toNat)=true then
     (bytesOf (b.bc.take n.toNat)).map fun s=>(.str s,h.set a.id {b with ro:=true})
    else none
   |none=>none
  |_,_=>none
 |_,_=>none
def vc:R→Option R
 |.slice none _ _=>some (.ptr none)
 |.slice (some a) _ c=>if a.fld=0∧0<c then some (.ptr (some a))else none
 |_=>none
def vd(D:ci)(t:TypeId)(s x:R)(h:I):Option (R×I) :=
 match D t,s,x with
 |some d, .slice (some a) len _,.slice (some fy) n _ =>
  match d.kind with
  |.slice e =>
   match D e,h.get fy.id,h.get a.id with
   |some bM,some lE,some b =>
    if bM.size=1∧0<a.fld∧fy.fld=0∧fy.es=1∧0<n∧n≤len∧fy.idx+n≤lE.bL fy.bf∧fy.idx+n≤lE.bc.length∧b.ro=false∧a.bf=b.bf then
     match b.bc[a.idx]? with
     |some (.agg cs) =>
      if a.fld-1+n≤cs.length∧((lE.bc.drop fy.idx).take n).all (·.gZ)=true then
       some (.int .i64 n,h.set a.id {b with bc:=b.bc.set a.idx (.agg (gx cs (a.fld-1) ((lE.bc.drop fy.idx).take n))),hY:=b.bf})
      else none
     |_=>none
    else none
   |_,_,_=>none
  |_=>none
 |_,_,_=>none
def e5(E:bq)(b:Builtin)(ts:Array TypeId)(args:List R)(nid:Nat)(h:I):Option (R×I) :=
 match b with
 |.len =>
  match args,ts[0]? with
  |[x],some t=>(u' E.D t x).map fun v=>(v,h)
  |_,_=>none
 |.append =>
  match args,ts[0]?,ts[1]? with
  |[s,x],some t,some u=>match E.D u with|some il=>(match il.kind with|.slice _=>fb E.D t s x nid h|.string=>fb E.D t s x nid h|_=>none)|none=>none
  |_,_,_=>none
 |.max =>
  match args with
  |x::r=>(my sr x r).map fun v=>(v,h)
  |_=>none
 |.min =>
  match args with
  |x::r=>(my ss x r).map fun v=>(v,h)
  |_=>none
 |.copy =>
  match args,ts[0]?,ts[1]? with
  |[s,x],some t,some u=>vd E.D t s x h
  |_,_,_=>none
 |.unsafeSliceData =>
  match args with
  |[x]=>(vc x).map fun v=>(v,h)
  |_=>none
 |.unsafeString =>
  match args,ts[0]? with
  |[.ptr p,.int .i64 n],some t=>va E.D t p n h
  |_,_=>none
 |_=>none
def bb(E:bq)(call:cu)(nid:Nat)(ρ:Operand→R)(h:I)(o:Op):Option (R×I) :=
 match o with
 |.move x|.assign x=>some (ρ x,h)
 |.pick c a b=>match ρ c with|.bool t=>some (if t then ρ a else ρ b,h)|_=>none
 |.alloc t =>
  match E.D t with
  |some d=>match d.zero with|some z=>if z.fits d.kind.isAgg d.size&&decide (0<d.size)then some (.ptr (some ⟨nid,0,0,0,d.size⟩),h.set nid (.aq [z] d.size true (some (t,d.size))))else none|none=>none
  |none=>none
 |.box t x =>
  match E.D t with
  |some d=>if(ρ x).fits d.kind.isAgg d.size&&decide (0<d.size)then some (.ptr (some ⟨nid,0,0,0,d.size⟩),h.set nid (.aq [ρ x] d.size true (some (t,d.size))))else none
  |none=>none
 |.build t parts=>(u5 E.D t (parts.toList.map fun p=>(p.1,ρ p.2))).map fun v=>(v,h)
 |.buildSlice t n parts=>ij E.D t n (parts.toList.map fun p=>(p.1,ρ p.2)) nid h
 |.load t a=>match ρ a with|.ptr (some a)=>(bp E.D t a h).map fun v=>(v,h)|_=>none
 |.store t a x=>match ρ a with|.ptr (some a)=>(ii E.D t a (ρ x) h).map fun af=>(ek,af)|_=>none
 |.nilCheck x=>match ρ x with|.ptr (some a)=>some (.ptr (some a),h)|.func (.func g) fs cs=>some (.func (.func g) fs cs,h)|_=>none
 |.binOp op t x y _=>(iS E.D E.fa (ik x || ik y) op t (ρ x) (ρ y)).map fun v=>(v,h)
 |.unOp op _ x=>(qx op (ρ x)).map fun v=>(v,h)
 |.convert s d x=>(qB E.D s d (ρ x)).map fun v=>(v,h)
 |.makeFunc (.func g) fs cs=>some (.func (.func g) (fs.toList.map ρ) (cs.toList.map ρ),h)
 |.makeInterface t x=>match E.D t with|some d=>(match d.kind with|.iface _=>none|_=>some (.iface t (ρ x),h))|none=>none
 |.makeSlice t l c=>qy E.D t (ρ l) (ρ c) nid h
 |.slice t x aE ag mx=>(eg E.D t (ρ x) (aE.map ρ) (ag.map ρ) (mx.map ρ)).map fun v=>(v,h)
 |.fieldAddr t x f=>(u7 E.D t (ρ x) f).map fun v=>(v,h)
 |.field t x f=>(u9 E.D t (ρ x) f).map fun v=>(v,h)
 |.indexAddr t x i=>(qA E.D t (ρ x) (ρ i)).map fun v=>(v,h)
 |.index t x i=>(g' E.D t (ρ x) (ρ i)).map fun v=>(v,h)
 |.extract x i=>match ρ x with|.tuple vs=>(vs[i]?).map fun v=>(v,h)|_=>none
 |.call c =>
  match c.callee with
  |.value f=>kD call (ρ f) (c.args.toList.map ρ) h
  |.builtin b=>e5 E b c.argTypes (c.args.toList.map ρ) nid h
  |_=>none
 |_=>none
def nW(D:ci)(src dst:TypeId)(x:R)(nid:Nat)(h:I):Option (R×I) :=
 match D src,D dst,x with
 |some jV,some eT,.str s =>
  match jV.kind,eT.kind with
  |.string,.slice e =>
   match D e with
   |some fU =>
    match fU.kind with
    |.int .u8=>some (gL nid 1 s.length s.length,h.set nid (.aq (s.map fun b=> .int .u8 b.toNat) 1 false))
    |_=>none
   |none=>none
  |_,_=>none
 |some jV,some eT,.slice a n c =>
  match jV.kind,eT.kind with
  |.slice e,.slice _ =>
   match D e,a with
   |some fU,some nX =>
    match fU.kind,h.get nX.id with
    |.int .u8,some b=>if src=dst∧b.ro=false∧nX.fld=0∧0<c then some (.slice (some nX) n c,h)else none
    |_,_=>none
   |_,_=>none
  |.slice e,.string =>
   match D e with
   |some fU =>
    match fU.kind with
    |.int .u8 =>
     match en 1 (.slice a n c) h with
     |some l=>(bytesOf l).map fun s=>(.str s,h)
     |none=>none
    |_=>none
   |none=>none
  |_,_=>none
 |_,_,_=>none
def ve(k:Nat)(args:List R):Option R :=
 match args with
 |[.str s,.int .u8 c] =>
  match k with
  |0=>some (.int .i64 (Go.Lib.countByte s c.toNat.toUInt8))
  |1=>some (.int .i64 (Go.Lib.indexByte s c.toNat.toUInt8))
  |_=>none
 |[.str s,.str t]=>if k=2 then some (.int .i64 (Go.Lib.compareBytes s t))else none
 |_=>none
def dN(E:bq)(nid:Nat)(ρ:Operand→R)(h:I)(o:Op):Option (R×I) :=
 match o with
 |.convert s d x=>nW E.D s d (ρ x) nid h
 |.call c =>
  match c.callee with
  |.value f =>
   match ρ f with
   |.func (.func g) [] [] =>
    match E.ext g with
    |some k=>(ve k (c.args.toList.map ρ)).map fun v=>(v,h)
    |none=>none
   |_=>none
  |_=>none
 |_=>none
def gz(E:bq)(call:cu)(nid:Nat)(ρ:Operand→R)(h:I)(o:Op):Option (R×I) :=
 match bb E call nid ρ h o with
 |some r=>some r
 |none=>dN E nid ρ h o
structure dl where
 c':List R
 heap:I
def fl(s:List R)(dst:Option Tmp)(v:R):List R :=
 match dst with
 |some d=>s.set d v
 |none=>s
def gA(ops:Array Oper)(s:List R)(o:Oper):Option Bool :=
 match o.guard with
 |none=>some true
 |some (j,want) =>
  match (ops[j]?).bind (·.dst)with
  |some d =>
   match s[d]? with
   |some (.bool b)=>some (b == want)
   |some (.tuple [])=>some false
   |_=>none
  |none=>none
def mA(E:bq)(call:cu)(ops:Array Oper)(au i:Nat)(s:dl):Option dl :=
 match ops[i]? with
 |none=>some s
 |some o =>
  match gA ops s.c' o with
  |some true =>
   match gz E call (au+i) (bX s.c') s.heap o.op with
   |some (v,h)=>some ⟨fl s.c' o.dst v,h⟩
   |none=>none
  |some false=>some ⟨fl s.c' o.dst ek,s.heap⟩
  |none=>none
def kE(E:bq)(call:cu)(ops:Array Oper)(au:Nat):List Nat→dl→Option dl
 |[],s=>some s
 |i::r,s =>
  match mA E call ops au i s with
  |some aX=>kE E call ops au r aX
  |none=>none
inductive ch where
 |normal|exit (id:Nat)|goto (l:Nat)|ret
 deriving DecidableEq
inductive vf where
 |pure|load|alloc|store|call|fc|other
 deriving DecidableEq
def cG:Op→vf
 |.move _|.assign _|.pick _ _ _|.build _ _|.nilCheck _|.binOp _ _ _ _ _|.unOp _ _ _|.convert _ _ _|.makeFunc _ _ _|.slice _ _ _ _ _
 |.fieldAddr _ _ _|.field _ _ _|.indexAddr _ _ _|.index _ _ _|.extract _ _|.makeInterface _ _=> .pure
 |.load _ _=> .load
 |.store _ _ _=> .store
 |.alloc _|.box _ _|.buildSlice _ _ _|.makeSlice _ _ _=> .alloc
 |.call c =>
  match c.callee with
  |.value _=> .call
  |.builtin .len|.builtin .max|.builtin .min|.builtin .unsafeSliceData=> .pure
  |.builtin .append=> .fc
  |_=> .other
 |_=> .other
def gi(e:Edge):Bool:=Region.binds .any e
def cB(ops:Array Oper):Array Nat :=
 ops.toList.foldl (fun acc o=>acc.push (o.after.toList.foldl (fun s e=>if gi e then s ||| 2^e.on ||| acc.getD e.on 0 else s) 0)) #[]
def ordered(jq:Array Nat)(i j:Nat):Bool:=(jq.getD j 0).testBit i
def tmpsOf(xs:List Operand):List Tmp:=xs.filterMap fun|.tmp t=>some t|_=>none
def nY(ops:Array Oper)(o:Oper):List Tmp :=
 tmpsOf o.op.operands.toList++(match o.guard with|some (g,_)=>((ops[g]?).bind (·.dst)).toList|none=> [])
def su(ops:Array Oper)(x y:Oper):Bool :=
 (match x.dst with|some d=> !(nY ops y).contains d&&!(y.dst == some d)|none=>true) &&
 (match y.dst with|some d=> !(nY ops x).contains d|none=>true)
def y2:vf→vf→Bool
 |.pure,_|_,.pure=>true
 |.load,.load|.load,.alloc|.alloc,.load|.alloc,.alloc|.call,.load|.load,.call|.load,.store|.store,.load|.fc,.alloc|.alloc,.fc=>true
 |_,_=>false
def kF(ops:Array Oper):Bool :=
 let jq:=cB ops
 (List.range ops.size).all fun j =>
  match ops[j]? with
  |none=>true
  |some y =>
   (y.after.toList.all fun e=> !gi e || decide (e.on<j)) &&
   (List.range j).all fun i =>
    ordered jq i j ||
    match ops[i]? with
    |none=>true
    |some x=>y2 (cG x.op) (cG y.op)&&su ops x y
mutual
def R.same:R→R→Bool
 |.undef,.undef=>true
 |.bool a,.bool b=>a == b
 |.int k a,.int l b=>decide (k=l)&&a == b
 |.str a,.str b=>a == b
 |.ptr a,.ptr b=>decide (a=b)
 |.slice a n c,.slice b m d=>decide (a=b)&&n == m&&c == d
 |.func f a b,.func g c d=>decide (f=g)&&R.jr a c&&R.jr b d
 |.nilFunc,.nilFunc=>true
 |.iface t a,.iface u b=>t == u&&R.same a b
 |.nilIface,.nilIface=>true
 |.agg a,.agg b=>R.jr a b
 |.tuple a,.tuple b=>R.jr a b
 |_,_=>false
def R.jr:List R→List R→Bool
 |[],[]=>true
 |a::x,b::y=>R.same a b&&R.jr x y
 |_,_=>false
end
def ai.same(a b:ai):Bool :=
 R.jr a.bc b.bc&&a.es == b.es&&a.exact == b.exact&&a.ro == b.ro&&a.bf == b.bf&&a.hY == b.hY&&a.lD == b.lD&&a.ty == b.ty
def mB(bL:Nat)(h af:I):Bool:=ax.jT ai.same bL af.aB h.aB 0 1
def js(ops:Array Oper)(jq:Array Nat)(j:Nat):Bool :=
 (List.range ops.size).any fun i =>
  match ops[i]? with
  |some x=>decide (cG x.op=.load)&&!ordered jq i j&&!ordered jq j i
  |none=>false
def lF(ops:Array Oper)(jq:Array Nat)(j:Nat):Bool :=
 (List.range ops.size).any fun i =>
  match ops[i]? with
  |some x=>decide (cG x.op=.store)&&!ordered jq i j&&!ordered jq j i
  |none=>false
def jW(ρ:Operand→R):Op→Option Nat
 |.store _ x _=>match ρ x with|.ptr (some a)=>some a.id|_=>none
 |_=>none
def hx(ρ:Operand→R):Op→Option Nat
 |.load _ x=>match ρ x with|.ptr (some a)=>some a.id|_=>none
 |_=>none
def fz:R→List Nat
 |.slice (some a) _ _=> [a.id]
 |_=> []
def fA(ρ:Operand→R):Op→List Nat
 |.call c=>(c.args.toList.map ρ).flatMap fz
 |_=> []
def gj:Op→Bool
 |.convert _ _ _=>true
 |_=>false
def im(ops:Array Oper)(j:Nat):Bool :=
 let jq:=cB ops
 (List.range ops.size).all fun i =>
  (i == j) || ordered jq i j || ordered jq j i ||
   match ops[i]? with
   |some x=>decide (cG x.op=.pure)&&!(gj x.op)
   |none=>true
def kG(ρ:Operand→R):Op→Option R
 |.convert _ _ x=>match ρ x with|.slice a n c=>some (.slice a n c)|_=>none
 |_=>none
def gk(ops:Array Oper)(au j:Nat)(ρ:Operand→R)(o:Op):Bool :=
 match kG ρ o with
 |some x =>
  ((fz x).all fun b=>decide (b<au) || (decide (b<au+ops.size)&&ordered (cB ops) (b-au) j)) &&
  ((List.range ops.size).all fun i=>(i == j) || ordered (cB ops) i j || ordered (cB ops) j i ||
    match ops[i]? with
    |some y=>decide (cG y.op=.pure) || decide (cG y.op=.load) || decide (cG y.op=.alloc)
    |none=>true)
 |none=>false
def lG(ops:Array Oper)(au j:Nat)(ids:List Nat):Bool :=
 ids.all fun b=>decide (b<au) || (decide (b<au+ops.size)&&ordered (cB ops) (b-au) j) || decide (au+ops.size≤b)
def mC(ops:Array Oper)(j:Nat):Bool :=
 (List.range ops.size).all fun i=>(i == j) || ordered (cB ops) i j || ordered (cB ops) j i ||
  match ops[i]? with
  |some y=>decide (cG y.op=.pure) || decide (cG y.op=.load)
  |none=>true
def du(E:bq)(call:cu)(ops:Array Oper)(au j:Nat)(ρ:Operand→R)(h:I)(o:Op):Option (R×I) :=
 match cG o with
 |.load =>
  match hx ρ o with
  |some b=>if mC ops j=true∨b<au∨(b<au+ops.size∧ordered (cB ops) (b-au) j=true∧lF ops (cB ops) j=false)then bb E call (au+j) ρ h o else none
  |none=>none
 |.store =>
  match jW ρ o with
  |some b=>if js ops (cB ops) j=true∧b<au then none else bb E call (au+j) ρ h o
  |none=>none
 |.call =>
  match bb E call (au+j) ρ h o with
  |some (v,af)=>if js ops (cB ops) j then(if mB (au+ops.size) h af then some (v,af)else none)else some (v,af)
  |none=>none
 |.fc=>if lG ops au j (fA ρ o)=true then bb E call (au+j) ρ h o else none
 |.pure =>
  match bb E call (au+j) ρ h o with
  |some r=>some r
  |none=>if gj o=true∧(im ops j=true∨gk ops au j ρ o=true)then dN E (au+j) ρ h o else none
 |_=>bb E call (au+j) ρ h o
def iT(E:bq)(call:cu)(ops:Array Oper)(au i:Nat)(s:dl):Option dl :=
 match ops[i]? with
 |none=>some s
 |some o =>
  match gA ops s.c' o with
  |some true =>
   match du E call ops au i (bX s.c') s.heap o.op with
   |some (v,h)=>some ⟨fl s.c' o.dst v,h⟩
   |none=>none
  |some false=>some ⟨fl s.c' o.dst ek,s.heap⟩
  |none=>none
def hy(E:bq)(call:cu)(ops:Array Oper)(au:Nat):List Nat→dl→Option dl
 |[],s=>some s
 |i::r,s =>
  match iT E call ops au i s with
  |some aX=>hy E call ops au r aX
  |none=>none
def nZ(E:bq)(call:cu)(ops:Array Oper)(draw:Bool)(s:dl):Option dl :=
 if draw then
  (if kF ops then hy E call ops s.heap.U (List.range ops.size) ⟨s.c',{s.heap with U:=s.heap.U+ops.size}⟩else none)
 else kE E call ops s.heap.U (List.range ops.size) ⟨s.c',{s.heap with U:=s.heap.U+ops.size}⟩
def da(E:bq)(call:cu):Nat→Option Code→Code→dl→Option (ch×dl)
 |0,_,_,_=>none
 |n +1,some body,c,s =>
  match da E call n none c s with
  |some (.goto l,aX) =>
   match findLabel body l with
   |some rest=>da E call n (some body) rest aX
   |none=>some (.goto l,aX)
  |r=>r
 |n +1,none,c,s =>
  match c with
  |.skip=>some (.normal,s)
  |.label _=>some (.normal,s)
  |.region _ ops draw=>(nZ E call ops draw s).map fun aX=>(.normal,aX)
  |.seq a b =>
   match da E call n none a s with
   |some (.normal,aX)=>da E call n none b aX
   |r=>r
  |.cond x a b =>
   match bX s.c' x with
   |.bool true=>da E call n none a s
   |.bool false=>da E call n none b s
   |_=>none
  |.block id c =>
   match da E call n none c s with
   |some (.exit j,aX)=>some (if j=id then .normal else .exit j,aX)
   |r=>r
  |.loop c =>
   match da E call n none c s with
   |some (.normal,aX)=>da E call n none (.loop c) aX
   |r=>r
  |.scope c=>da E call n (some c) c s
  |.goto l=>some (.goto l,s)
  |.exit id=>some (.exit id,s)
  |.ret=>some (.ret,s)
  |_=>none
def gB(D:ci)(gC:List ResultVar)(s:dl):Option (List R) :=
 match gC with
 |[]=>some []
 |.tmp t::r=>(gB D r s).map fun l=>s.c'.getD t .undef::l
 |.cell a t::r =>
  match s.c'.getD a .undef with
  |.ptr (some p) =>
   match bp D t p s.heap,gB D r s with
   |some v,some l=>some (v::l)
   |_,_=>none
  |_=>none
def jt:List R→R
 |[v]=>v
 |l=> .tuple l
def iU(P:Program)(E:bq):Nat→cu
 |0,_,_,_=>none
 |n + 1,f,args,h =>
  match E.o9 f with
  |some g=>g args h
  |none =>
  match P.funcs[f]? with
  |some fn =>
   match fn.body with
   |some c =>
    match da E (iU P E n) n none c ⟨args++List.replicate (fn.ntmps-args.length) ek,h⟩with
    |some (.exit _,_)=>none
    |some (.goto _,_)=>none
    |some (_,s)=>(gB E.D fn.results.toList s).map fun l=>(jt l,s.heap)
    |none=>none
   |none=>none
  |none=>none
end
end Go.bh
namespace Go.bh
noncomputable section
structure Place where
 br:Nat
 off:Nat
 aE:Nat
 es:Nat
 tot:Nat
 exact:Bool
 ro:Bool
abbrev Map:=Nat→Nat→Option Place
def Map.le(φ bO:Map):Prop:= ∀i v p,φ i v=some p→bO i v=some p
theorem Map.le_refl(φ:Map):φ.le φ:=fun _ _ _ h=>h
theorem Map.le_trans{φ bO qC:Map}(h:φ.le bO)(k:bO.le qC):φ.le qC:=fun i v p e=>k i v p (h i v p e)
def Place.at(p:Place)(idx fld:Nat):Addr:=⟨p.br,p.off+(idx-p.aE)*p.es+fld,none⟩
def o'(φ:Map)(a:di)(x:Addr):Prop :=
 ∃p,φ a.id a.bf=some p∧a.es=p.es∧p.aE≤a.idx∧x=p.at a.idx a.fld
def qD(φ:Map)(a:di)(x:Addr)(cap b0:Nat):Prop :=
 ∃p,φ a.id a.bf=some p∧a.es=p.es∧(b0=0∨(p.aE≤a.idx∧x=p.at a.idx 0∧(a.idx-p.aE)+b0≤p.tot))∧(p.exact=true→b0=cap)
def pa(φ:Map)(a:di)(x:Addr)(cap b0:Nat):Prop :=
 (a.fld=0∧qD φ a x cap b0)∨(∃f,a.fld=f+1∧o' φ {a with fld:=f} x)
theorem pa.plain{φ:Map}{a:di}{x:Addr}{cap b0:Nat}(h:pa φ a x cap b0)(aM:a.fld=0):qD φ a x cap b0:=by
 rcases h with h|⟨f,h,_⟩
 ·exact h.2
 ·omega
mutual
def ar(φ:Map):R→Value→Prop
 |.undef,_=>True
 |.bool b,v=>v=.bool b
 |.int k n,v=>v=.int k n
 |.str s,v=> ∃t:ByteArray,v=.string t∧t.data.toList=s
 |.ptr none,v=>v=.pointer none
 |.ptr (some a),v=> ∃x,v=.pointer (some x)∧o' φ a x
 |.slice none len cap,v=>v=.slice none 0 0∧len=0∧cap=0
 |.slice (some a) len cap,v=> ∃x b0,v=.slice (some x) len b0∧len≤cap∧cap≤b0∧pa φ a x cap b0
 |.func fn f c,v=> ∃ew dm,v=.func fn ew dm∧aT φ f ew.toList∧aT φ c dm.toList
 |.nilFunc,v=>v=.nilFunc
 |.iface t a,v=> ∃x,v=.iface t x∧ar φ a x
 |.nilIface,v=>v=.nilIface
 |.agg cs,v=> ∃xs,v=.agg xs∧aT φ cs xs.toList
 |.tuple vs,v=> ∃xs,v=.tuple xs∧aT φ vs xs.toList
def aT(φ:Map):List R→List Value→Prop
 |[],l=>l=[]
 |a::r,l=> ∃v t,l=v::t∧ar φ a v∧aT φ r t
end
theorem o'.mono{φ bO:Map}(h:φ.le bO){a:di}{x:Addr}(k:o' φ a x):o' bO a x :=
 let ⟨p,e,r⟩:=k;⟨p,h _ _ _ e,r⟩
theorem qD.mono{φ bO:Map}(h:φ.le bO){a:di}{x:Addr}{c dm:Nat}(k:qD φ a x c dm):qD bO a x c dm:=by obtain⟨p,e,r⟩:=k;exact⟨p,h _ _ _ e,r⟩
theorem pa.mono{φ bO:Map}(h:φ.le bO){a:di}{x:Addr}{c dm:Nat}(k:pa φ a x c dm):pa bO a x c dm:=by
 rcases k with ⟨aa,ae⟩|⟨f,aa,ae⟩
 ·exact .inl ⟨aa,ae.mono h⟩
 ·exact .inr ⟨f,aa,ae.mono h⟩
mutual
theorem ar.mono{φ bO:Map}(h:φ.le bO):∀{a:R}{v:Value},ar φ a v→ar bO a v
 |.undef,_,_=>by simp [ar]
 |.bool b,v,k=>by simpa [ar]using k
 |.int _ n,v,k=>by simpa [ar]using k
 |.str s,v,k=>by simpa [ar]using k
 |.ptr none,v,k=>by simpa [ar]using k
 |.ptr (some a),v,k=>by simp only [ar]at k⊢;obtain⟨x,e,r⟩:=k;exact⟨x,e,r.mono h⟩
 |.slice none len cap,v,k=>by simpa [ar]using k
 |.slice (some a) len cap,v,k=>by simp only [ar]at k⊢;obtain⟨x,c,e,dv,eE,r⟩:=k;exact⟨x,c,e,dv,eE,r.mono h⟩
 |.func fn f c,v,k=>by simp only [ar]at k⊢;obtain⟨ew,dm,e,dY,eH⟩:=k;exact⟨ew,dm,e,aT.mono h dY,aT.mono h eH⟩
 |.nilFunc,v,k=>by simpa [ar]using k
 |.iface t a,v,k=>by simp only [ar]at k⊢;obtain⟨x,e,r⟩:=k;exact⟨x,e,ar.mono h r⟩
 |.nilIface,v,k=>by simpa [ar]using k
 |.agg cs,v,k=>by simp only [ar]at k⊢;obtain⟨x,e,r⟩:=k;exact⟨x,e,aT.mono h r⟩
 |.tuple cs,v,k=>by simp only [ar]at k⊢;obtain⟨x,e,r⟩:=k;exact⟨x,e,aT.mono h r⟩
theorem aT.mono{φ bO:Map}(h:φ.le bO):∀{l:List R}{t:List Value},aT φ l t→aT bO l t
 |[],t,k=>by simpa [aT]using k
 |a::r,t,k=>by simp only [aT]at k⊢;obtain⟨v,dw,e,a7,ba⟩:=k;exact⟨v,dw,e,ar.mono h a7,aT.mono h ba⟩
end
theorem aT.length{φ:Map} :∀{l:List R}{t:List Value},aT φ l t→t.length=l.length
 |[],t,k=>by simp only [aT]at k;simp [k]
 |a::r,t,k=>by simp only [aT]at k;obtain⟨v,dw,e,a7,ba⟩:=k;simp [e,aT.length ba]
theorem aT.get{φ:Map} :∀{l:List R}{t:List Value}{i:Nat}{a:R},aT φ l t→l[i]? =some a→ ∃v,t[i]? =some v∧ar φ a v
 |[],t,i,a,k,h=>by simp at h
 |b::r,t,i,a,k,h=>by
  simp only [aT]at k;obtain⟨v,dw,e,a7,ba⟩:=k;subst e;cases i with
  |zero=>simp at h;subst h;exact⟨v,a1,a7⟩
  |succ i=>simp at h;obtain⟨u,hu,vg⟩:=aT.get ba h;exact⟨u,by simpa using hu,vg⟩
theorem aT.iV{φ:Map} :∀{l:List R}{t:List Value},t.length=l.length→(∀(i:Nat)(a:R)(v:Value),l[i]? =some a→t[i]? =some v→ar φ a v)→aT φ l t
 |[],t,ay,h=>by simp at ay;simp [aT,ay]
 |a::r,[],ay,h=>by simp at ay
 |a::r,v::t,ay,h=>by simp only [aT];refine⟨v,t,rfl,h 0 a v a1 a1,aT.iV (by simpa using ay) fun i bD aK aD bg=>h (i+1) bD aK (by simpa using aD) (by simpa using bg)⟩
theorem aT.append{φ:Map}{l m:List R}{t u:List Value}(h:aT φ l t)(k:aT φ m u):aT φ (l++m) (t++u):=by
 induction l generalizing t with
 |nil=>simp only [aT]at h;simpa [h]using k
 |cons a r ih =>
  simp only [aT]at h;obtain⟨v,dw,e,a7,ba⟩:=h;simp only [List.cons_append,aT];exact⟨v,dw++u,by simp [e],a7,ih ba⟩
theorem aT.set{φ:Map}{l:List R}{t:List Value}(h:aT φ l t)(i:Nat){a:R}{v:Value}(k:ar φ a v):aT φ (l.set i a) (t.set i v):=by
 refine aT.iV (by simp [h.length]) fun j b u an hu=> ?_
 by_cases e:i=j
 ·subst e
  have ag:i<l.length:=by have:=(List.getElem?_eq_some_iff.1 an).1;simpa using this
  rw [List.getElem?_set_self (by simpa using ag)]at an;rw [List.getElem?_set_self (by rw [h.length];exact ag)]at hu;simp at an hu;subst an hu;exact k
 ·rw [List.getElem?_set_ne e]at an hu;obtain⟨x,ac,rx⟩:=h.get an;rw [hu]at ac;simp at ac;subst ac;exact rx
theorem aT.drop{φ:Map}{l:List R}{t:List Value}(h:aT φ l t)(n:Nat):aT φ (l.drop n) (t.drop n):=by
 refine aT.iV (by simp [h.length]) fun j b u an hu=> ?_
 rw [List.getElem?_drop]at an hu;obtain⟨x,ac,rx⟩:=h.get an;rw [hu]at ac;simp at ac;subst ac;exact rx
theorem aT.take{φ:Map}{l:List R}{t:List Value}(h:aT φ l t)(n:Nat):aT φ (l.take n) (t.take n):=by
 refine aT.iV (by simp [h.length]) fun j b u an hu=> ?_
 rw [List.getElem?_take]at an hu;split at an
 ·rename_i aW;rw [if_pos aW]at hu;obtain⟨x,ac,rx⟩:=h.get an;rw [hu]at ac;simp at ac;subst ac;exact rx
 ·simp at an
theorem aT.map{φ:Map}{α:Type}(l:List α)(f:α→R)(g:α→Value)(h:∀x∈l,ar φ (f x) (g x)):aT φ (l.map f) (l.map g):=by
 induction l with
 |nil=>simp [aT]
 |cons x r ih =>
  simp only [List.map_cons,aT];exact⟨_,_,rfl,h x a1,ih fun y bi=>h y (by simp [bi])⟩
theorem aT.getD{φ:Map}{l:List R}{t:List Value}(h:aT φ l t)(i:Nat):ar φ (l.getD i .undef) (t.getD i undef):=by
 by_cases ag:i<l.length
 ·obtain⟨v,bg,lH⟩:=h.get (i:=i) (a:=l[i]) (List.getElem?_eq_getElem ag);rw [List.getD_eq_getElem?_getD,List.getD_eq_getElem?_getD,List.getElem?_eq_getElem ag,bg];simpa using lH
 ·rw [List.getD_eq_getElem?_getD,List.getElem?_eq_none J];simp [ar]
theorem ar.ek(φ:Map):ar φ ek undef:=by simp only [ar];exact⟨#[],rfl,by simp [aT]⟩
theorem aT.replicate{φ:Map}{a:R}{v:Value}(h:ar φ a v)(n:Nat):aT φ (List.replicate n a) (List.replicate n v):=by
 induction n with
 |zero=>simp [aT]
 |succ n ih=>simp only [List.replicate_succ,aT];exact⟨_,_,rfl,h,ih⟩
theorem vh(φ:Map)(v:Value):ar φ (o5 v) v:=by unfold o5;split<;>simp [ar]
theorem y3(φ:Map)(v:Value):ar φ (mv v) v:=by
 unfold mv;split
 ·rename_i cs;simp only [ar];refine⟨cs,rfl,?_⟩;have:=aT.map (φ:=φ) cs.toList o5 id (fun x _=>vh φ x);simpa using this
 ·simp only [ar];exact⟨_,rfl,vh φ _⟩
 ·exact vh φ v
theorem ar.cells{φ:Map}{a:R}{v:Value}(h:ar φ a v)(hu:a≠ .undef):aT φ a.cells v.cells.toList:=by
 cases a with
 |undef=>exact absurd rfl hu
 |agg cs=>simp only [ar]at h;obtain⟨xs,rfl,r⟩:=h;simpa [R.cells,Value.cells]using r
 |bool b=>have af:=h;simp only [ar]at h;subst h;simp only [R.cells,Value.cells,aT];exact⟨_,_,rfl,af,rfl⟩
 |int k n=>have af:=h;simp only [ar]at h;subst h;simp only [R.cells,Value.cells,aT];exact⟨_,_,rfl,af,rfl⟩
 |str s=>have af:=h;simp only [ar]at h;obtain⟨t,rfl,e⟩:=h;simp only [R.cells,Value.cells,aT];exact⟨_,_,rfl,af,rfl⟩
 |ptr o =>
  have af:=h;cases o with
  |none=>simp only [ar]at h;subst h;simp only [R.cells,Value.cells,aT];exact⟨_,_,rfl,af,rfl⟩
  |some x=>simp only [ar]at h;obtain⟨t,rfl,e⟩:=h;simp only [R.cells,Value.cells,aT];exact⟨_,_,rfl,af,rfl⟩
 |slice o l c =>
  have af:=h;cases o with
  |none=>simp only [ar]at h;obtain⟨rfl,_⟩:=h;simp only [R.cells,Value.cells,aT];exact⟨_,_,rfl,af,rfl⟩
  |some x=>simp only [ar]at h;obtain⟨t,dm,rfl,e⟩:=h;simp only [R.cells,Value.cells,aT];exact⟨_,_,rfl,af,rfl⟩
 |func fn f c=>have af:=h;simp only [ar]at h;obtain⟨t,dm,rfl,e⟩:=h;simp only [R.cells,Value.cells,aT];exact⟨_,_,rfl,af,rfl⟩
 |nilFunc=>have af:=h;simp only [ar]at h;subst h;simp only [R.cells,Value.cells,aT];exact⟨_,_,rfl,af,rfl⟩
 |iface t x=>have af:=h;simp only [ar]at h;obtain⟨t,rfl,e⟩:=h;simp only [R.cells,Value.cells,aT];exact⟨_,_,rfl,af,rfl⟩
 |nilIface=>have af:=h;simp only [ar]at h;subst h;simp only [R.cells,Value.cells,aT];exact⟨_,_,rfl,af,rfl⟩
 |tuple vs=>have af:=h;simp only [ar]at h;obtain⟨t,rfl,e⟩:=h;simp only [R.cells,Value.cells,aT];exact⟨_,_,rfl,af,rfl⟩
structure Safe(S:Nat→Prop)(w aL:World):Prop where
 os:aL.os=w.os
 tape:aL.tape=w.tape
 output:aL.output=w.output
 size:w.heap.size≤aL.heap.size
 block:∀k,S k→aL.heap[k]? =w.heap[k]?
def dq(S:Nat→Prop)(n:Nat):Prop:= ∀k,S k→k<n
theorem dq.le{S:Nat→Prop}{n m:Nat}(h:dq S n)(k:n≤m):dq S m:=fun i ag=>Nat.lt_of_lt_of_le (h i ag) k
theorem dq.no{S:Nat→Prop}{n:Nat}(h:dq S n):¬S n:=fun k=>Nat.lt_irrefl _ (h n k)
theorem Safe.refl(S:Nat→Prop)(w:World):Safe S w w:=⟨rfl,rfl,rfl,Nat.le_refl _,fun _ _=>rfl⟩
theorem Safe.trans{S:Nat→Prop}{a b c:World}(h:Safe S a b)(k:Safe S b c):Safe S a c :=
 ⟨k.os.trans h.os,k.tape.trans h.tape,k.output.trans h.output,Nat.le_trans h.size k.size,fun i ag=>(k.block i ag).trans (h.block i ag)⟩
theorem Safe.less{S T:Nat→Prop}{w aL:World}(h:Safe S w aL)(k:∀i,T i→S i):Safe T w aL:=⟨h.os,h.tape,h.output,h.size,fun i ag=>h.block i (k i ag)⟩
theorem Safe.drew{S:Nat→Prop}{a w:World}(h:Safe S a w):Safe S a w.drew:=⟨h.os,h.tape,h.output,h.size,h.block⟩
theorem Safe.alloc{S:Nat→Prop}{a w:World}(h:Safe S a w)(bF:dq S w.heap.size)(o:Obj):Safe S a (w.alloc o) :=
 h.trans ⟨rfl,rfl,rfl,a1,fun k ap=>Go.RowKit.Below.heap_alloc _ _ _ (bF k ap)⟩
theorem Safe.setCell{S:Nat→Prop}{a w:World}(h:Safe S a w){p:Addr}(ab:¬S p.block)(u:Value):Safe S a (w.setCell p u) :=
 h.trans ⟨rfl,rfl,rfl,by simp [World.setCell],fun k ap=>Go.RowKit.Below.heap_setCell _ _ _ _ (fun e=>ab (e▸ap))⟩
theorem Safe.below{n:Nat}{w aL:World}(h:Safe (fun k=>k<n) w aL):Go.RowKit.Below n w aL:=⟨h.os,h.tape,h.output,h.size,h.block⟩
def dx(w:World)(b:Nat):Option (TypeId×Nat×Nat×Nat) :=
 match w.heap[b]? with
 |some (.cells c t (aE,ag))=>some (t,c.size,aE,ag)
 |_=>none
def hZ(w:World)(b:Nat):Prop:= ∃t n aE ag,dx w b=some (t,n,aE,ag)∧(aE=ag∨n≤aE)
theorem hZ.of_eq{w aL:World}{b:Nat}(h:hZ w b)(e:dx aL b=dx w b):hZ aL b:=by unfold hZ;rw [e];exact h
theorem n0{w aL:World}{b:Nat}(e:aL.heap[b]? =w.heap[b]?):dx aL b=dx w b:=by unfold dx;rw [e]
structure Row(φ:Map)(aF:Nat→Prop)(b:ai)(v:Nat)(p:Place)(w:World):Prop where
 br:p.br<w.heap.size
 base:p.ro=false→ ¬aF p.br
 cells:∀o,o<p.tot*p.es→(w.cell? ⟨p.br,p.off+o,none⟩).isSome=true
 free:b.ro=false→ ∀o,o<p.tot*p.es→w.frozen? ⟨p.br,p.off+o,none⟩=false
 mark:b.ro=false→hZ w p.br
 gD:∀q,b.ty=some q→ ∃n aE ag,dx w p.br=some (q.1,n,aE,ag)∧(q.2≠0→n=q.2)∧p.off=0
 cont:∀i e,p.aE≤i→i<b.bL v→b.bc[i]? =some e →
  e.cells.length=p.es∧i-p.aE<p.tot∧∀j a8,e.cells[j]? =some a8→ ∃x,w.cell? (p.at i j)=some x∧ar φ a8 x∧x.oneCell'=true
structure bP(φ:Map)(aF:Nat→Prop)(h:I)(w:World):Prop where
 b6:∀i v p,φ i v=some p→i<h.U∧∃b,h.get i=some b∧v≤b.bf∧p.es=b.es∧p.exact=b.exact∧(b.ro=false→p.ro=false)∧0<p.es∧Row φ aF b v p w
 apart:∀i v p j u q,φ i v=some p→φ j u=some q→p.br=q.br→i≠j→p.ro=true∧q.ro=true
 same:∀i v p u q,φ i v=some p→φ i u=some q→p.br=q.br→p.off=q.off∧p.aE=q.aE
structure e6(φ bO:Map)(n nid:Nat):Prop where
 le:φ.le bO
 new:∀i,i<n→i≠nid→(∀v,φ i v=none)→ ∀v,bO i v=none
 ro:∀i v p,bO i v=some p→p.ro=true→φ i v=some p
theorem e6.refl(φ:Map)(n nid:Nat):e6 φ φ n nid:=⟨φ.le_refl,fun _ _ _ h=>h,fun _ _ _ h _=>h⟩
structure dr(φ bO:Map)(n:Nat):Prop where
 le:φ.le bO
 new:∀i,i<n→(∀u,φ i u=none)→ ∀u,bO i u=none
 ro:∀i v p,bO i v=some p→p.ro=true→φ i v=some p
theorem dr.refl(φ:Map)(n:Nat):dr φ φ n:=⟨φ.le_refl,fun _ _ h=>h,fun _ _ _ h _=>h⟩
theorem dr.trans{φ bO qC:Map}{n:Nat}(h:dr φ bO n)(k:dr bO qC n):dr φ qC n:=⟨Map.le_trans h.le k.le,fun i ag aI=>k.new i ag (h.new i ag aI),fun i v p ab aR=>h.ro i v p (k.ro i v p ab aR) aR⟩
theorem dr.mono{φ bO:Map}{n m:Nat}(h:dr φ bO n)(hm:m≤n):dr φ bO m:=⟨h.le,fun i ag aI=>h.new i J aI,h.ro⟩
theorem I.jp(h:I)(id:Nat)(b:ai)(j:Nat):(h.set id b).get j=if id=j then some b else h.get j:=ax.jp b h.aB id j
@[simp] theorem I.MX(h:I)(id:Nat)(b:ai) : (h.set id b).U = h.U := rfl
theorem I.eU(h:I)(id:Nat)(b:ai):(h.set id b).get id=some b:=by simp [I.jp]
theorem I.dZ(h:I){id j:Nat}(b:ai)(e:id≠j):(h.set id b).get j=h.get j:=by simp [I.jp,e]
@[simp] theorem I.MY(h:I)(n j:Nat) : ({ h with U := n } : I).get j = h.get j := rfl
theorem ai.y4(l:List R)(es:Nat)(e:Bool)(ty:Option (TypeId×Nat))(v:Nat):(ai.aq l es e ty).bL v=if v=0 then l.length else 0:=by
 by_cases bg:v=0
 ·subst bg;simp [ai.bL,ai.aq]
 ·simp [ai.bL,ai.aq,bg]
structure Alike(w aL:World):Prop where
 size:w.heap.size≤aL.heap.size
 cell:∀a,a.block<w.heap.size→aL.cell? a=w.cell? a
 frozen:∀a,a.block<w.heap.size→aL.frozen? a=w.frozen? a
 mark:∀b,b<w.heap.size→dx aL b=dx w b
theorem Row.alike{φ:Map}{aF:Nat→Prop}{b:ai}{v:Nat}{p:Place}{w aL:World}(r:Row φ aF b v p w)(k:Alike w aL):Row φ aF b v p aL where
 br:=Nat.lt_of_lt_of_le r.br k.size
 base:=r.base
 cells o aj:=by rw [k.cell _ r.br];exact r.cells o aj
 free aR o aj:=by rw [k.frozen _ r.br];exact r.free aR o aj
 mark aR:=(r.mark aR).of_eq (k.mark _ r.br)
 gD t bz:=by rw [k.mark _ r.br];exact r.gD t bz
 cont i e aa ae aS:=by obtain⟨bj,cb,cS⟩:=r.cont i e aa ae aS;refine⟨bj,cb,fun j a8 ac=> ?_⟩;obtain⟨x,cp,dy⟩:=cS j a8 ac;exact⟨x,by rw [k.cell _ (by exact r.br)];exact cp,dy⟩
theorem Row.mono{φ bO:Map}(h:φ.le bO){aF:Nat→Prop}{b:ai}{v:Nat}{p:Place}{w:World}(r:Row φ aF b v p w):Row bO aF b v p w :=
 ⟨r.br,r.base,r.cells,r.free,r.mark,r.gD,fun i e aa ae aS=>by
  obtain⟨bj,cb,cS⟩:=r.cont i e aa ae aS;refine⟨bj,cb,fun j a8 ac=> ?_⟩;obtain⟨x,cp,dy⟩:=cS j a8 ac
  exact⟨x,cp,dy.1.mono h,dy.2⟩⟩
theorem bP.alike{φ:Map}{aF:Nat→Prop}{h:I}{w aL:World}(r:bP φ aF h w)(k:Alike w aL):bP φ aF h aL where
 b6 i v p ab:=by obtain⟨aa,b,ae,aS,bj,cb,cS,dO,bC⟩:=r.b6 i v p ab;exact⟨aa,b,ae,aS,bj,cb,cS,dO,bC.alike k⟩
 apart:=r.apart
 same:=r.same
theorem bP.U{φ:Map}{aF:Nat→Prop}{h:I}{w:World}(r:bP φ aF h w){n:Nat}(aI:h.U≤n):bP φ aF {h with U:=n} w where
 b6 i v p ab:=by obtain⟨aa,b,ae,aS,bj,cb,cS,dO,bC⟩:=r.b6 i v p ab;exact⟨Nat.lt_of_lt_of_le aa aI,b,ae,aS,bj,cb,cS,dO,bC⟩
 apart:=r.apart
 same:=r.same
theorem Alike.drew(w:World)(n:Nat):Alike w {w with drawn:=n} :=⟨Nat.le_refl _,fun _ _=>rfl,fun _ _=>rfl,fun _ _=>rfl⟩
theorem heap_alloc(w:World)(o:Obj):(w.alloc o).heap=w.heap.push o:=rfl
theorem size_alloc(w:World)(o:Obj):(w.alloc o).heap.size=w.heap.size+1:=by rw [heap_alloc];simp
theorem Alike.alloc(w:World)(o:Obj):Alike w (w.alloc o) where
 size:=by rw [size_alloc];omega
 cell a aD:=by
  have:(w.heap.push o)[a.block]? =w.heap[a.block]? :=by rw [Array.getElem?_push];simp;omega
  simp only [World.cell?,heap_alloc,this]
 frozen a aD:=by
  have:(w.heap.push o)[a.block]? =w.heap[a.block]? :=by rw [Array.getElem?_push];simp;omega
  simp only [World.frozen?,heap_alloc,this]
 mark b an:=n0 (by rw [heap_alloc,Array.getElem?_push];simp;omega)
def Map.add(φ:Map)(id v:Nat)(p:Place):Map:=fun i u=>if i=id∧u=v then some p else φ i u
theorem Map.sv(φ:Map)(id v:Nat)(p:Place):φ.add id v p id v=some p:=by simp [Map.add]
theorem Map.mD(φ:Map){id v:Nat}(p:Place)(h:φ id v=none):φ.le (φ.add id v p):=by
 intro i u q av;simp only [Map.add];split
 ·rename_i e;obtain⟨rfl,rfl⟩:=e;rw [h]at av;cases av
 ·exact av
theorem Map.vi(φ:Map){id v:Nat}(p:Place)(aR:p.ro=false):∀i u q,(φ.add id v p) i u=some q→q.ro=true→φ i u=some q:=by
 intro i u q av y5;unfold Map.add at av;split at av
 ·simp only [Option.some.injEq]at av;subst av;rw [aR]at y5;cases y5
 ·exact av
theorem e6.add(φ:Map){id v:Nat}(p:Place)(h:φ id v=none)(n:Nat)(aR:p.ro=false:=by rfl):e6 φ (φ.add id v p) n id where
 le:=φ.mD p h
 new i ag bJ aI u:=by simp [Map.add,bJ,aI u]
 ro:=φ.vi p aR
def flat(l:List R):List R:=l.flatMap R.cells
theorem kH{es:Nat} :∀{l:List R}(ay:∀e∈l,e.cells.length=es){i j:Nat}{e x:R},l[i]? =some e→e.cells[j]? =some x→(flat l)[i*es+j]? =some x
 |[],ay,i,j,e,x,h,k=>by simp at h
 |a ::r,ay,i,j,e,x,h,k=>by
  have aD:a.cells.length=es:=ay a a1;cases i with
  |zero =>
   simp at h;subst h;simp only [flat,List.flatMap_cons,Nat.zero_mul,Nat.zero_add];rw [List.getElem?_append_left (List.getElem?_eq_some_iff.1 k).1];exact k
  |succ i =>
   simp at h;have ih:=kH (l:=r) (fun e he=>ay e (by simp [he])) h k;simp only [flat,List.flatMap_cons]at ih⊢;rw [List.getElem?_append_right (by rw [aD,Nat.succ_mul];omega),aD,show(i+1)*es+j-es=i*es+j by rw [Nat.succ_mul];omega];exact ih
theorem io{es:Nat} :∀{l:List R}(ay:∀e∈l,e.cells.length=es),(flat l).length=l.length*es
 |[],_=>by simp [flat]
 |a::r,ay=>by have aD:a.cells.length=es:=ay a a1;have ih:=io (l:=r) (fun e he=>ay e (by simp [he]));simp only [flat,List.flatMap_cons,List.length_append,List.length_cons]at ih⊢;rw [ih,aD,Nat.succ_mul];omega
theorem pb(w:World)(c:Array Value)(t:TypeId)(f:Nat×Nat)(o:Nat):(w.alloc (.cells c t f)).cell? ⟨w.heap.size,o,none⟩=c[o]? :=by simp [World.cell?,heap_alloc]
theorem y6(w:World)(c:Array Value)(t:TypeId)(o:Nat):(w.alloc (.cells c t)).frozen? ⟨w.heap.size,o,none⟩=false:=by simp [World.frozen?,heap_alloc]
theorem bP.aq{φ:Map}{aF:Nat→Prop}{h:I}{w:World}(r:bP φ aF h w){nid:Nat}(hid:∀v,φ nid v=none)(aI:nid<h.U)(ck:dq aF w.heap.size)
 {l:List R} {es:Nat} (ey:0<es) (ay:∀e∈l,e.cells.length=es) {c:Array Value} {t:TypeId} {tot:Nat} {ex:Bool}
 (al:aT φ (flat l) (c.toList.take (l.length*es))) (dC:tot*es≤c.size) (kI:l.length≤tot) (hz:∀x∈c.toList.take (l.length*es),x.oneCell'=true) {ty:Option (TypeId×Nat)} (h0:∀q,ty=some q→q.1=t∧(q.2≠0→c.size=q.2)) :
 bP (φ.add nid 0 ⟨w.heap.size,0,0,es,tot,ex,false⟩) aF (h.set nid (.aq l es ex ty)) (w.alloc (.cells c t)):=by
 have hle:=φ.mD (id:=nid) (v:=0) ⟨w.heap.size,0,0,es,tot,ex,false⟩ (hid 0);constructor
 ·intro i v p ab;simp only [Map.add]at ab;split at ab
  ·rename_i e;obtain⟨rfl,rfl⟩:=e;simp at ab;subst ab;refine⟨aI,.aq l es ex ty,I.eU _ _ _,Nat.le_refl _,rfl,rfl,fun _=>rfl,ey,?_⟩;constructor
   ·rw [size_alloc];simp
   ·intro _;exact ck.no
   ·intro o aj;simp only at aj⊢;rw [pb,Nat.zero_add,Array.getElem?_eq_getElem J];rfl
   ·intro _ o aj;exact y6 _ _ _ _
   ·intro _;exact⟨t,c.size,0,0,by simp [dx,heap_alloc],.inl rfl⟩
   ·intro dw bz;exact⟨c.size,0,0,by rw [(h0 dw bz).1];simp [dx,heap_alloc],(h0 dw bz).2,rfl⟩
   ·intro i e _ ag he;rw [ai.y4]at ag;simp at ag;have kJ:l[i]? =some e:=he;have hm:e∈l:=List.mem_of_getElem? kJ;refine⟨ay e hm,by simp only;omega,fun j a8 ac=> ?_⟩;have aM:=kH ay kJ ac;obtain⟨x,cp,dy⟩:=al.get aM;refine⟨x,?_,dy.mono hle,hz x (List.mem_of_getElem? cp)⟩;simp only [Place.at,Nat.sub_zero,Nat.zero_add];rw [pb];rw [List.getElem?_take]at cp;split at cp
    ·simpa using cp
    ·simp at cp
  ·obtain⟨aa,b,ae,aS,bj,cb,cS,dO,bC⟩:=r.b6 i v p ab;have bJ:nid≠i:=by intro e;subst e;rw [hid v]at ab;cases ab
   exact⟨aa,b,by rw [I.dZ _ _ bJ];exact ae,aS,bj,cb,cS,dO,(bC.alike (Alike.alloc _ _)).mono hle⟩
 ·intro i v p j u q ab av an fV;simp only [Map.add]at ab av;split at ab<;>split at av
  ·rename_i bk bV;exact absurd (bk.1.trans bV.1.symm) fV
  ·simp at ab;subst ab;obtain⟨_,b,_,_,_,_,_,_,bC⟩:=r.b6 j u q av;have:=bC.br;simp only at an;omega
  ·simp at av;subst av;obtain⟨_,b,_,_,_,_,_,_,bC⟩:=r.b6 i v p ab;have:=bC.br;simp only at an;omega
  ·exact r.apart i v p j u q ab av an fV
 ·intro i v p u q ab av an;simp only [Map.add]at ab av;split at ab<;>split at av
  ·simp at ab av;subst ab av;exact⟨rfl,rfl⟩
  ·simp at ab;subst ab;obtain⟨_,b,_,_,_,_,_,_,bC⟩:=r.b6 i u q av;have:=bC.br;simp only at an;omega
  ·simp at av;subst av;obtain⟨_,b,_,_,_,_,_,_,bC⟩:=r.b6 i v p ab;have:=bC.br;simp only at an;omega
  ·exact r.same i v p u q ab av an
theorem bP.DS{φ:Map}{aF:Nat→Prop}{h:I}{w:World}(r:bP φ aF h w){nid:Nat}(hid:∀v,φ nid v=none)(aI:nid<h.U)(ck:dq aF w.heap.size)
 {l:List R} {es:Nat} (ey:0<es) (ay:∀e∈l,e.cells.length=es) {c:Array Value} {t:TypeId} {jX:Nat×Nat} {tot:Nat} {ex:Bool}
 (al:aT φ (flat l) (c.toList.take (l.length*es))) (dC:tot*es≤c.size) (kI:l.length≤tot) (hz:∀x∈c.toList.take (l.length*es),x.oneCell'=true) (y7:jX.1=jX.2∨c.size≤jX.1) {ty:Option (TypeId×Nat)} (h0:∀q,ty=some q→q.1=t∧(q.2≠0→c.size=q.2)) :
 bP (φ.add nid 0 ⟨w.heap.size,0,0,es,tot,ex,false⟩) aF (h.set nid (.aq l es ex ty)) (w.alloc (.cells c t jX)):=by
 have hle:=φ.mD (id:=nid) (v:=0) ⟨w.heap.size,0,0,es,tot,ex,false⟩ (hid 0);constructor
 ·intro i v p ab;simp only [Map.add]at ab;split at ab
  ·rename_i e;obtain⟨rfl,rfl⟩:=e;simp at ab;subst ab;refine⟨aI,.aq l es ex ty,I.eU _ _ _,Nat.le_refl _,rfl,rfl,fun _=>rfl,ey,?_⟩;constructor
   ·rw [size_alloc];simp
   ·intro _;exact ck.no
   ·intro o aj;simp only at aj⊢;rw [pb,Nat.zero_add,Array.getElem?_eq_getElem J];rfl
   ·intro _ o aj;simp only at aj⊢;rw [Nat.zero_add];simp only [World.frozen?,heap_alloc,Array.getElem?_push_size];obtain⟨f1,f2⟩:=jX;simp only at y7⊢;simp;omega
   ·intro _;exact⟨t,c.size,jX.1,jX.2,by simp [dx,heap_alloc],y7⟩
   ·intro dw bz;exact⟨c.size,jX.1,jX.2,by rw [(h0 dw bz).1];simp [dx,heap_alloc],(h0 dw bz).2,rfl⟩
   ·intro i e _ ag he;rw [ai.y4]at ag;simp at ag;have kJ:l[i]? =some e:=he;have hm:e∈l:=List.mem_of_getElem? kJ;refine⟨ay e hm,by simp only;omega,fun j a8 ac=> ?_⟩;have aM:=kH ay kJ ac;obtain⟨x,cp,dy⟩:=al.get aM;refine⟨x,?_,dy.mono hle,hz x (List.mem_of_getElem? cp)⟩;simp only [Place.at,Nat.sub_zero,Nat.zero_add];rw [pb];rw [List.getElem?_take]at cp;split at cp
    ·simpa using cp
    ·simp at cp
  ·obtain⟨aa,b,ae,aS,bj,cb,cS,dO,bC⟩:=r.b6 i v p ab;have bJ:nid≠i:=by intro e;subst e;rw [hid v]at ab;cases ab
   exact⟨aa,b,by rw [I.dZ _ _ bJ];exact ae,aS,bj,cb,cS,dO,(bC.alike (Alike.alloc _ _)).mono hle⟩
 ·intro i v p j u q ab av an fV;simp only [Map.add]at ab av;split at ab<;>split at av
  ·rename_i bk bV;exact absurd (bk.1.trans bV.1.symm) fV
  ·simp at ab;subst ab;obtain⟨_,b,_,_,_,_,_,_,bC⟩:=r.b6 j u q av;have:=bC.br;simp only at an;omega
  ·simp at av;subst av;obtain⟨_,b,_,_,_,_,_,_,bC⟩:=r.b6 i v p ab;have:=bC.br;simp only at an;omega
  ·exact r.apart i v p j u q ab av an fV
 ·intro i v p u q ab av an;simp only [Map.add]at ab av;split at ab<;>split at av
  ·simp at ab av;subst ab av;exact⟨rfl,rfl⟩
  ·simp at ab;subst ab;obtain⟨_,b,_,_,_,_,_,_,bC⟩:=r.b6 i u q av;have:=bC.br;simp only at an;omega
  ·simp at av;subst av;obtain⟨_,b,_,_,_,_,_,_,bC⟩:=r.b6 i v p ab;have:=bC.br;simp only at an;omega
  ·exact r.same i v p u q ab av an
end
end Go.bh
namespace Go.bh
noncomputable section
theorem vj:∀(vs l:List R)(i:Nat),(gx l i vs).length=l.length
 |[],l,i=>rfl
 |v::vs,l,i=>by simp [gx,vj vs]
theorem sw:∀(vs l:List R)(i k:Nat),(gx l i vs)[k]? =if i≤k∧k<i+vs.length∧k<l.length then vs[k-i]? else l[k]?
 |[],l,i,k=>by simp only [gx,List.length_nil,Nat.add_zero];rw [if_neg J]
 |v ::vs,l,i,k=>by
  simp only [gx,List.length_cons];rw [sw vs (l.set i v) (i+1) k,List.length_set];by_cases ap:i=k
  ·subst ap;rw [if_neg J];by_cases ay:i<l.length
   ·rw [if_pos J,List.getElem?_set_self ay];simp
   ·rw [if_neg J,List.getElem?_eq_none (by simpa using ay),List.getElem?_eq_none J]
  ·rw [List.getElem?_set_ne ap];by_cases h:i+1≤k∧k<i+1+vs.length∧k<l.length
   ·rw [if_pos h,if_pos J,show k-i=k- (i+1)+1 by omega];simp
   ·rw [if_neg h,if_neg J]
theorem World.vk(b:Nat):∀(vs:List Value)(o:Nat)(w:World),(w.setCells b o vs).heap.size=w.heap.size
 |[],_,_=>rfl
 |v::r,o,w=>by rw [World.setCells,World.vk b r];exact World.size_setCell _ _ _
theorem y8(w:World)(a:Addr)(v:Value)(k:Nat):dx (w.setCell a v) k=dx w k:=by
 unfold dx World.setCell;simp only [Array.getElem?_modify];by_cases h:a.block=k
 ·subst h;simp only [if_true];cases bx:w.heap[a.block]? with
  |none=>rfl
  |some o =>
   cases o
   case cells c t f =>
    obtain⟨aE,ag⟩:=f;simp only [Option.map_some];split<;>simp
   all_goals rfl
 ·rw [if_neg h]
theorem hZ.setCells{w:World}{k:Nat}(h:hZ w k)(b o:Nat):∀(vs:List Value),hZ (w.setCells b o vs) k:=by
 intro vs;induction vs generalizing w o with
 |nil=>exact h
 |cons v r ih=>exact ih (h.of_eq (y8 _ _ _ _)) _
theorem qE{w:World}(k b o:Nat):∀(vs:List Value),dx (w.setCells b o vs) k=dx w k:=by
 intro vs;induction vs generalizing w o with
 |nil=>rfl
 |cons v r ih=>exact(ih _).trans (y8 _ _ _ _)
theorem pc{i j es tot:Nat}(ag:i<tot)(aW:j<es):i*es+j<tot*es:=by have h:(i+1)*es≤tot*es:=Nat.mul_le_mul_right es ag;rw [Nat.succ_mul]at h;omega
theorem pd{i k j es:Nat}(ag:i<k)(aW:j<es):i*es+j<k*es:=pc ag aW
theorem bP.wrote{φ:Map}{aF:Nat→Prop}{h:I}{w:World}(r:bP φ aF h w){id:Nat}{b:ai}{p:Place}(ab:φ id b.bf=some p)(an:h.get id=some b)
 (cT:b.ro=false) {l:List R} (ay:l.length=b.bc.length) {o:Nat} {vs:List Value}
 (al:∀i e,p.aE≤i→l[i]? =some e→e.cells.length=p.es∧∀j a8,e.cells[j]? =some a8→ ∃x,(w.setCells p.br o vs).cell? (p.at i j)=some x∧ar φ a8 x∧x.oneCell'=true) :
 bP φ aF (h.set id {b with bc:=l,hY:=b.bf}) (w.setCells p.br o vs):=by
 constructor
 ·intro i v q av;obtain⟨aa,c,ae,aS,bj,cb,cS,dO,bC⟩:=r.b6 i v q av;have dC:=World.vk p.br vs o w;by_cases ag:i=id
  ·subst ag;rw [an]at ae;simp at ae;subst ae;refine⟨aa,_,I.eU _ _ _,aS,bj,cb,cS,dO,⟨by rw [dC];exact bC.br,bC.base,fun gE fB=>World.isSome_setCells _ _ _ _ _ (bC.cells gE fB),fun dz gE fB=>by rw [World.frozen?_setCells];exact bC.free dz gE fB,fun dz=>(bC.mark dz).setCells _ _ _,fun t9 dz=>by rw [qE];exact bC.gD t9 dz,?_⟩⟩;intro k e eV eW iq;simp only [ai.bL]at eW;by_cases bg:v=b.bf
   ·subst bg;rw [ab]at av;simp at av;subst av;rw [if_pos rfl]at eW;obtain⟨cn,kJ⟩:∃cn,b.bc[k]? =some cn:=⟨_,List.getElem?_eq_getElem (by simpa [ay]using eW)⟩
    have:=bC.cont k cn eV (by simpa [ai.bL,ay]using eW) kJ;exact⟨(al k e eV iq).1,this.2.1,(al k e eV iq).2⟩
   ·exfalso;rw [if_neg bg]at eW;rw [if_neg J]at eW;omega
  ·have bJ:p.br≠q.br:=by intro e;have:=r.apart id b.bf p i v q ab av e (fun e=>ag e.symm);obtain⟨_,gl,sx,_,_,_,DT,_,_⟩:=r.b6 id b.bf p ab;rw [an]at sx;simp at sx;subst sx;rw [DT cT]at this;simp at this
   refine⟨aa,c,by rw [I.dZ _ _ (fun e=>ag e.symm)];exact ae,aS,bj,cb,cS,dO,?_⟩;have jY:∀a:Addr,a.block=q.br→(w.setCells p.br o vs).cell? a=w.cell? a:=fun a aD=>World.cell?_setCells_out _ _ _ _ _ (fun bx _=>absurd (bx.symm.trans aD) bJ)
   refine⟨by rw [dC];exact bC.br,bC.base,fun gE fB=>by rw [jY _ rfl];exact bC.cells gE fB,fun dz gE fB=>by rw [World.frozen?_setCells];exact bC.free dz gE fB,fun dz=>(bC.mark dz).setCells _ _ _,fun t9 dz=>by rw [qE];exact bC.gD t9 dz,?_⟩;intro k e eV eW iq;obtain⟨kK,vl,vm⟩:=bC.cont k e eV eW iq;refine⟨kK,vl,fun j a8 ac=> ?_⟩;obtain⟨x,cp,dy⟩:=vm j a8 ac;exact⟨x,by rw [jY _ rfl];exact cp,dy⟩
 ·exact r.apart
 ·exact r.same
theorem bP.store{φ:Map}{aF:Nat→Prop}{h:I}{w:World}(r:bP φ aF h w){id:Nat}{b:ai}{p:Place}(ab:φ id b.bf=some p)(an:h.get id=some b)
 (cT:b.ro=false) {idx fld:Nat} {e cn:R} {cs:List R} {vs:List Value} (cU:p.aE≤idx) (he:b.bc[idx]? =some e)
 (d':aT φ cs vs) (hz:∀x∈vs,x.oneCell'=true) (kL:fld+cs.length≤p.es) (hlen:cn.cells=gx e.cells fld cs) :
 bP φ aF (h.set id {b with bc:=b.bc.set idx cn,hY:=b.bf}) (w.setCells p.br (p.off+(idx-p.aE)*p.es+fld) vs)
 ∧w.there p.br (p.off+(idx-p.aE)*p.es+fld) vs.length:=by
 obtain⟨aa,c,ae,aS,bj,cb,cS,dO,bC⟩:=r.b6 id b.bf p ab;rw [an]at ae;simp at ae;subst ae;have n1:idx<b.bc.length:=(List.getElem?_eq_some_iff.1 he).1;have ir:b.bL b.bf=b.bc.length:=by simp [ai.bL]
 obtain⟨db,c2,c3⟩:=bC.cont idx e cU (by rw [ir];exact n1) he;have iu:vs.length=cs.length:=d'.length
 have mE:w.there p.br (p.off+(idx-p.aE)*p.es+fld) vs.length:=by intro j aW;have an:(idx-p.aE)*p.es+(fld+j)<p.tot*p.es:=pc c2 J;have a7:=bC.cells _ an;have ba:=bC.free cT _ an;have bk:p.off+(idx-p.aE)*p.es+fld+j=p.off+((idx-p.aE)*p.es+(fld+j)):= J;rw [bk];exact⟨a7,ba⟩
 refine⟨?_,mE⟩;refine r.wrote ab an cT a1 fun i f ag aM=> ?_
 by_cases y9:idx=i
 ·subst y9;rw [List.getElem?_set_self n1]at aM;simp at aM;subst aM;refine⟨by rw [hlen,vj];exact db,fun j a8 ac=> ?_⟩;rw [hlen,sw]at ac;split at ac
  ·rename_i al;obtain⟨x,cp,dy⟩:=d'.get ac;have mF:j-fld<vs.length:= J;have:=World.cell?_setCells_in p.br vs (p.off+(idx-p.aE)*p.es+fld) w (fun k ap=>(mE k ap).1) (j-fld) mF;refine⟨x,?_,dy,hz x (List.mem_of_getElem? cp)⟩;rw [List.getElem?_eq_getElem mF]at cp;simp at cp;rw [Place.at,show p.off+(idx-p.aE)*p.es+j=p.off+(idx-p.aE)*p.es+fld+(j-fld)by omega,this,cp]
  ·rename_i al;obtain⟨x,cp,dy⟩:=c3 j a8 ac;refine⟨x,?_,dy⟩;have aW:j<e.cells.length:=(List.getElem?_eq_some_iff.1 ac).1;rw [World.cell?_setCells_out _ _ _ _ _ (fun _ _=> ?_)]
   ·exact cp
   ·simp only [Place.at];omega
 ·rw [List.getElem?_set_ne y9]at aM;have eI:i<b.bc.length:=(List.getElem?_eq_some_iff.1 aM).1;obtain⟨d1,d2,d3⟩:=bC.cont i f ag (by rw [ir];exact eI) aM;refine⟨d1,fun j a8 ac=> ?_⟩;obtain⟨x,cp,dy⟩:=d3 j a8 ac;refine⟨x,?_,dy⟩;have aW:j<f.cells.length:=(List.getElem?_eq_some_iff.1 ac).1;rw [World.cell?_setCells_out _ _ _ _ _ (fun _ _=> ?_)]
  ·exact cp
  ·simp only [Place.at];rcases Nat.lt_or_ge i idx with c1|fI
   ·left;have:=pd (i:=i-p.aE) (k:=idx-p.aE) (j:=j) (es:=p.es) J J;omega
   ·right;have:=pd (i:=idx-p.aE) (k:=i-p.aE) (j:=fld+vs.length-1) (es:=p.es) J J;omega
theorem sy{es:Nat} :∀{l:List R}(ay:∀e∈l,e.cells.length=es)(k:Nat),k<(flat l).length→ ∃i j e,k=i*es+j∧l[i]? =some e∧j<es
 |[],ay,k,h=>by simp [flat]at h
 |a ::r,ay,k,h=>by
  have aD:a.cells.length=es:=ay a a1;by_cases ap:k<es
  ·exact⟨0,k,a,a1,a1,ap⟩
  ·obtain⟨i,j,e,aa,ae,aS⟩:=sy (l:=r) (fun e he=>ay e (by simp [he])) (k-es) (by simp only [flat,List.flatMap_cons,List.length_append]at h⊢; omega);exact⟨i+1,j,e,by rw [Nat.succ_mul];omega,by simpa using ae,aS⟩
theorem bP.DU{φ:Map}{aF:Nat→Prop}{h:I}{w:World}(r:bP φ aF h w){id:Nat}{b:ai}{p:Place}(ab:φ id b.bf=some p)(an:h.get id=some b)
 (cT:b.ro=false) {idx:Nat} {l:List R} {vs:List Value} (cU:p.aE≤idx) (c1:idx+l.length≤b.bc.length) (bJ:l≠[])
 (ay:∀e∈l,e.cells.length=p.es) (qF:aT φ (flat l) vs) (hz:∀x∈vs,x.oneCell'=true) :
 bP φ aF (h.set id (b.put idx l)) (w.setCells p.br (p.off+(idx-p.aE)*p.es) vs)
 ∧w.there p.br (p.off+(idx-p.aE)*p.es) vs.length:=by
 obtain⟨aa,c,ae,aS,bj,cb,cS,dO,bC⟩:=r.b6 id b.bf p ab;rw [an]at ae;simp at ae;subst ae;have ir:b.bL b.bf=b.bc.length:=by simp [ai.bL]
 have iu:vs.length=l.length*p.es:=by rw [qF.length,io ay]
 have mG:0<l.length:=List.length_pos_iff.2 bJ
 have MZ:idx+l.length-1-p.aE<p.tot:=by have lI:idx+l.length-1<b.bc.length:= J;exact(bC.cont (idx+l.length-1) _ J (by rw [ir];exact lI) (List.getElem?_eq_getElem lI)).2.1
 have hmul:(idx-p.aE+l.length)*p.es≤p.tot*p.es:=Nat.mul_le_mul_right _ J;rw [Nat.add_mul]at hmul
 have mE:w.there p.br (p.off+(idx-p.aE)*p.es) vs.length:=by intro j aW;have an:(idx-p.aE)*p.es+j<p.tot*p.es:= J;have bk:p.off+(idx-p.aE)*p.es+j=p.off+((idx-p.aE)*p.es+j):= J;rw [bk];exact⟨bC.cells _ an,bC.free cT _ an⟩
 refine⟨?_,mE⟩;refine r.wrote ab an cT (by simp [vj]) fun i f ag aM=> ?_
 rw [sw]at aM;split at aM
 ·rename_i al;have hm:f∈l:=List.mem_of_getElem? aM;refine⟨ay f hm,fun j a8 ac=> ?_⟩;have aW:j<p.es:=by rw [←ay f hm];exact(List.getElem?_eq_some_iff.1 ac).1
  have ah:=kH ay aM ac;obtain⟨x,cp,dy⟩:=qF.get ah;refine⟨x,?_,dy,hz x (List.mem_of_getElem? cp)⟩;have mF:(i-idx)*p.es+j<vs.length:=by rw [iu];exact pc J aW
  have:=World.cell?_setCells_in p.br vs (p.off+(idx-p.aE)*p.es) w (fun k ap=>(mE k ap).1) _ mF;rw [List.getElem?_eq_getElem mF]at cp;simp at cp;have bV:(i-p.aE)*p.es=(idx-p.aE)*p.es+(i-idx)*p.es:=by rw [←Nat.add_mul];congr 1;omega
  rw [Place.at,show p.off+(i-p.aE)*p.es+j=p.off+(idx-p.aE)*p.es+((i-idx)*p.es+j)by omega,this,cp]
 ·rename_i al;have eI:i<b.bc.length:=(List.getElem?_eq_some_iff.1 aM).1;obtain⟨d1,d2,d3⟩:=bC.cont i f ag (by rw [ir];exact eI) aM;refine⟨d1,fun j a8 ac=> ?_⟩;obtain⟨x,cp,dy⟩:=d3 j a8 ac;refine⟨x,?_,dy⟩;have aW:j<f.cells.length:=(List.getElem?_eq_some_iff.1 ac).1;rw [World.cell?_setCells_out _ _ _ _ _ (fun _ _=> ?_)]
  ·exact cp
  ·simp only [Place.at];rcases Nat.lt_or_ge i idx with c1|fI
   ·left;have:=pd (i:=i-p.aE) (k:=idx-p.aE) (j:=j) (es:=p.es) J J;omega
   ·right;have:=Nat.mul_le_mul_right p.es (show idx-p.aE+l.length≤i-p.aE by omega);rw [Nat.add_mul]at this;omega
theorem ai.y'(b:ai)(new:List R)(v:Nat):(b.grow new).bL v =
 if v=b.bf+1 then b.bc.length+new.length else if b.hY≤v∧v<b.bf+1 then(if b.hY=b.bf then b.bc.length else min b.lD b.bc.length)else 0:=by
 rw [←List.length_append];rfl
theorem ai.za(b:ai)(new:List R)(v:Nat)(h:v≤b.bf):(b.grow new).bL v≤b.bL v∧(b.grow new).bL v≤b.bc.length:=by rw [ai.y'];unfold ai.bL;rw [if_neg J];constructor<;>(repeat' split)<;>omega
theorem ai.zb(b:ai)(new:List R):(b.grow new).bL (b.bf+1)=b.bc.length+new.length:=by rw [ai.y',if_pos rfl]
theorem bP.DV{φ:Map}{aF:Nat→Prop}{h:I}{w:World}(r:bP φ aF h w){id:Nat}{b:ai}{p:Place}(ab:φ id b.bf=some p)(an:h.get id=some b)
 (cT:b.ro=false) (hex:b.exact=false) (ck:dq aF w.heap.size) {idx:Nat} {new:List R} (n1:idx≤b.bc.length)
 (fm:∀e∈b.bc.drop idx,e.cells.length=b.es) (dT:∀e∈new,e.cells.length=b.es)
 {c:Array Value} {t:TypeId} {tot:Nat} (al:aT φ (flat (b.bc.drop idx++new)) (c.toList.take ((b.bc.drop idx++new).length*b.es)))
 (dC:tot*b.es≤c.size) (kI:(b.bc.drop idx++new).length≤tot)
 (hz:∀x∈c.toList.take ((b.bc.drop idx++new).length*b.es),x.oneCell'=true) (h0:∀q,b.ty=some q→q.1=t∧(q.2≠0→c.size=q.2)) :
 bP (φ.add id (b.bf+1) ⟨w.heap.size,0,idx,b.es,tot,false,false⟩) aF (h.set id (b.grow new)) (w.alloc (.cells c t)):=by
 have h1:φ id (b.bf+1)=none:=by
  cases av:φ id (b.bf+1)with
  |none=>rfl
  |some q=>obtain⟨_,gl,ae,aS,_⟩:=r.b6 _ _ _ av;rw [an]at ae;simp at ae;subst ae;omega
 have hle:=φ.mD (id:=id) (v:=b.bf+1) ⟨w.heap.size,0,idx,b.es,tot,false,false⟩ h1;obtain⟨g1,gl,g2,g3,g4,g5,g6,g7,g8⟩:=r.b6 id b.bf p ab;rw [an]at g2;simp at g2;subst g2;constructor
 ·intro i v q av;simp only [Map.add]at av;split at av
  ·rename_i e;obtain⟨rfl,rfl⟩:=e;simp at av;subst av;refine⟨g1,b.grow new,I.eU _ _ _,Nat.le_refl _,rfl,hex.symm,fun _=>rfl,by rw [←g4];exact g7,?_⟩;constructor
   ·rw [size_alloc];simp
   ·intro _;exact ck.no
   ·intro o aj;simp only at aj⊢;rw [pb,Nat.zero_add,Array.getElem?_eq_getElem J];rfl
   ·intro _ o aj;exact y6 _ _ _ _
   ·intro _;exact⟨t,c.size,0,0,by simp [dx,heap_alloc],.inl rfl⟩
   ·intro dw bz;exact⟨c.size,0,0,by rw [(h0 dw bz).1];simp [dx,heap_alloc],(h0 dw bz).2,rfl⟩
   ·intro k e eV eW iq;rw [ai.zb]at eW;have hlen:(b.bc.drop idx++new).length=b.bc.length-idx+new.length:= a1
    have fW:∀e∈b.bc.drop idx++new,e.cells.length=b.es:=fun e he=>by
     rcases List.mem_append.1 he with he|he
     ·exact fm e he
     ·exact dT e he
    have hA:(b.bc++new)[k]? =some e:=iq
    have zc:(b.bc.drop idx++new)[k-idx]? =some e:=by
     simp only at eV;by_cases lJ:k<b.bc.length
     ·rw [List.getElem?_append_left lJ]at hA;rw [List.getElem?_append_left (by simp;omega),List.getElem?_drop,show idx+(k-idx)=k by omega];exact hA
     ·rw [List.getElem?_append_right J]at hA;rw [List.getElem?_append_right (by simp;omega),List.length_drop,show k-idx- (b.bc.length-idx)=k-b.bc.length by omega];exact hA
    have hm:=List.mem_of_getElem? zc;refine⟨fW e hm,by simp only at eV⊢; omega,fun j a8 ac=> ?_⟩;have aM:=kH fW zc ac;obtain⟨x,cp,dy⟩:=al.get aM;refine⟨x,?_,dy.mono hle,hz x (List.mem_of_getElem? cp)⟩;simp only [Place.at,Nat.zero_add];rw [pb];rw [List.getElem?_take]at cp;split at cp
    ·simpa using cp
    ·simp at cp
  ·obtain⟨aa,dm,ae,aS,bj,cb,cS,dO,bC⟩:=r.b6 i v q av;by_cases ag:i=id
   ·subst ag;rw [an]at ae;simp at ae;subst ae;have n2:=(bC.alike (Alike.alloc w (.cells c t))).mono hle;have ir:=ai.za b new v aS;refine⟨aa,b.grow new,I.eU _ _ _,by simp only [ai.grow];omega,bj,cb,cS,dO,⟨n2.br,n2.base,n2.cells,n2.free,n2.mark,n2.gD,fun k e eV eW iq=>n2.cont k e eV J ?_⟩⟩;have hA:(b.bc++new)[k]? =some e:=iq
    rwa [List.getElem?_append_left J]at hA
   ·exact⟨aa,dm,by rw [I.dZ _ _ (fun e=>ag e.symm)];exact ae,aS,bj,cb,cS,dO,(bC.alike (Alike.alloc _ _)).mono hle⟩
 ·intro i v q j u iv av cJ h2 fV;simp only [Map.add]at av cJ;split at av<;>split at cJ
  ·rename_i bk bV;exact absurd (bk.1.trans bV.1.symm) fV
  ·simp at av;subst av;obtain⟨_,_,_,_,_,_,_,_,bC⟩:=r.b6 j u iv cJ;have:=bC.br;simp only at h2;omega
  ·simp at cJ;subst cJ;obtain⟨_,_,_,_,_,_,_,_,bC⟩:=r.b6 i v q av;have:=bC.br;simp only at h2;omega
  ·exact r.apart i v q j u iv av cJ h2 fV
 ·intro i v q u iv av cJ h2;simp only [Map.add]at av cJ;split at av<;>split at cJ
  ·simp at av cJ;subst av cJ;exact⟨rfl,rfl⟩
  ·simp at av;subst av;obtain⟨_,_,_,_,_,_,_,_,bC⟩:=r.b6 i u iv cJ;have:=bC.br;simp only at h2;omega
  ·simp at cJ;subst cJ;obtain⟨_,_,_,_,_,_,_,_,bC⟩:=r.b6 i v q av;have:=bC.br;simp only at h2;omega
  ·exact r.same i v q u iv av cJ h2
theorem bP.DW{φ:Map}{aF:Nat→Prop}{h:I}{w:World}(r:bP φ aF h w){id:Nat}{b:ai}{p:Place}(ab:φ id b.bf=some p)(an:h.get id=some b)
 (cT:b.ro=false) {new:List R} {vs:List Value} (cU:p.aE≤b.bc.length) (sz:b.bc.length-p.aE+new.length≤p.tot)
 (dT:∀e∈new,e.cells.length=p.es) (qF:aT φ (flat new) vs) (hz:∀x∈vs,x.oneCell'=true) :
 bP (φ.add id (b.bf+1) p) aF (h.set id (b.grow new)) (w.setCells p.br (p.off+(b.bc.length-p.aE)*p.es) vs)
 ∧w.there p.br (p.off+(b.bc.length-p.aE)*p.es) vs.length:=by
 have h1:φ id (b.bf+1)=none:=by
  cases av:φ id (b.bf+1)with
  |none=>rfl
  |some q=>obtain⟨_,gl,ae,aS,_⟩:=r.b6 _ _ _ av;rw [an]at ae;simp at ae;subst ae;omega
 have hle:=φ.mD (id:=id) (v:=b.bf+1) p h1;obtain⟨g1,gl,g2,g3,g4,g5,g6,g7,g8⟩:=r.b6 id b.bf p ab;rw [an]at g2;simp at g2;subst g2;have iu:vs.length=new.length*p.es:=by rw [qF.length,io dT]
 have hmul:(b.bc.length-p.aE+new.length)*p.es≤p.tot*p.es:=Nat.mul_le_mul_right _ sz;rw [Nat.add_mul]at hmul
 have mE:w.there p.br (p.off+(b.bc.length-p.aE)*p.es) vs.length:=by intro j aW;have an:(b.bc.length-p.aE)*p.es+j<p.tot*p.es:= J;have bk:p.off+(b.bc.length-p.aE)*p.es+j=p.off+((b.bc.length-p.aE)*p.es+j):= J;rw [bk];exact⟨g8.cells _ an,g8.free cT _ an⟩
 refine⟨?_,mE⟩;have dC:=World.vk p.br vs (p.off+(b.bc.length-p.aE)*p.es) w
 have zd:∀(q:Place)(k j:Nat),q.br=p.br→q.off=p.off→q.aE=p.aE→q.es=p.es→k<b.bc.length→q.aE≤k→j<q.es →
  (w.setCells p.br (p.off+(b.bc.length-p.aE)*p.es) vs).cell? (q.at k j)=w.cell? (q.at k j):=by
  intro q k j ze DX DY DZ eV eW aW;refine World.cell?_setCells_out _ _ _ _ _ (fun _ _=> .inl ?_);simp only [Place.at,DX,DY,DZ];have:=pd (i:=k-p.aE) (k:=b.bc.length-p.aE) (j:=j) (es:=p.es) J J;omega
 have D0:b.bL b.bf=b.bc.length:=by simp [ai.bL]
 constructor
 ·intro i v q av;simp only [Map.add]at av;split at av
  ·rename_i e;obtain⟨rfl,rfl⟩:=e;simp at av;subst av;refine⟨g1,b.grow new,I.eU _ _ _,Nat.le_refl _,g4,g5,g6,g7,⟨by rw [dC];exact g8.br,g8.base,fun gE fB=>World.isSome_setCells _ _ _ _ _ (g8.cells gE fB),fun dz gE fB=>by rw [World.frozen?_setCells];exact g8.free dz gE fB,fun dz=>(g8.mark dz).setCells _ _ _,fun t9 dz=>by rw [qE];exact g8.gD t9 dz,?_⟩⟩;intro k e eV eW iq;rw [ai.zb]at eW;have hA:(b.bc++new)[k]? =some e:=iq;by_cases lJ:k<b.bc.length
   ·rw [List.getElem?_append_left lJ]at hA;obtain⟨d1,d2,d3⟩:=g8.cont k e eV (by rw [D0];exact lJ) hA;refine⟨d1,d2,fun j a8 ac=> ?_⟩;obtain⟨x,cp,dy⟩:=d3 j a8 ac;have aW:j<e.cells.length:=(List.getElem?_eq_some_iff.1 ac).1;exact⟨x,by rw [zd p k j rfl rfl rfl rfl lJ eV J];exact cp,dy.1.mono hle,dy.2⟩
   ·rw [List.getElem?_append_right J]at hA;have hm:=List.mem_of_getElem? hA;refine⟨dT e hm,J,fun j a8 ac=> ?_⟩;have aW:j<p.es:=by rw [←dT e hm];exact(List.getElem?_eq_some_iff.1 ac).1
    have ah:=kH dT hA ac;obtain⟨x,cp,dy⟩:=qF.get ah;refine⟨x,?_,dy.mono hle,hz x (List.mem_of_getElem? cp)⟩;have mF:(k-b.bc.length)*p.es+j<vs.length:=by rw [iu];exact pc (by have:=(List.getElem?_eq_some_iff.1 hA).1;omega) aW
    have:=World.cell?_setCells_in p.br vs (p.off+(b.bc.length-p.aE)*p.es) w (fun k ap=>(mE k ap).1) _ mF;rw [List.getElem?_eq_getElem mF]at cp;simp at cp;have bV:(k-p.aE)*p.es=(b.bc.length-p.aE)*p.es+(k-b.bc.length)*p.es:=by rw [←Nat.add_mul];congr 1;omega
    rw [Place.at,show p.off+(k-p.aE)*p.es+j=p.off+(b.bc.length-p.aE)*p.es+((k-b.bc.length)*p.es+j)by omega,this,cp]
  ·obtain⟨aa,dm,ae,aS,bj,cb,cS,dO,bC⟩:=r.b6 i v q av;by_cases ag:i=id
   ·subst ag;rw [an]at ae;simp at ae;subst ae;have ir:=ai.za b new v aS;refine⟨aa,b.grow new,I.eU _ _ _,by simp only [ai.grow];omega,bj,cb,cS,dO,⟨by rw [dC];exact bC.br,bC.base,fun gE fB=>World.isSome_setCells _ _ _ _ _ (bC.cells gE fB),fun dz gE fB=>by rw [World.frozen?_setCells];exact bC.free dz gE fB,fun dz=>(bC.mark dz).setCells _ _ _,fun t9 dz=>by rw [qE];exact bC.gD t9 dz,fun k e eV eW iq=> ?_⟩⟩;have hA:(b.bc++new)[k]? =some e:=iq;rw [List.getElem?_append_left J]at hA;obtain⟨d1,d2,d3⟩:=bC.cont k e eV J hA;refine⟨d1,d2,fun j a8 ac=> ?_⟩;obtain⟨x,cp,dy⟩:=d3 j a8 ac;have aW:j<e.cells.length:=(List.getElem?_eq_some_iff.1 ac).1;refine⟨x,?_,dy.1.mono hle,dy.2⟩;by_cases vn:q.br=p.br
    ·obtain⟨s1,s2⟩:=r.same i v q b.bf p av ab vn;rw [zd q k j vn s1 s2 (by rw [bj,g4]) J eV J];exact cp
    ·rw [World.cell?_setCells_out _ _ _ _ _ (fun bx _=>absurd bx (by simp only [Place.at];exact vn))];exact cp
   ·have bJ:p.br≠q.br:=by intro e;have:=r.apart id b.bf p i v q ab av e (fun e=>ag e.symm);rw [g6 cT]at this;simp at this
    have jY:∀a:Addr,a.block=q.br→(w.setCells p.br (p.off+(b.bc.length-p.aE)*p.es) vs).cell? a=w.cell? a:=fun a aD=>World.cell?_setCells_out _ _ _ _ _ (fun bx _=>absurd (bx.symm.trans aD) bJ)
    refine⟨aa,dm,by rw [I.dZ _ _ (fun e=>ag e.symm)];exact ae,aS,bj,cb,cS,dO,?_⟩;refine⟨by rw [dC];exact bC.br,bC.base,fun gE fB=>by rw [jY _ rfl];exact bC.cells gE fB,fun dz gE fB=>by rw [World.frozen?_setCells];exact bC.free dz gE fB,fun dz=>(bC.mark dz).setCells _ _ _,fun t9 dz=>by rw [qE];exact bC.gD t9 dz,?_⟩;intro k e eV eW iq;obtain⟨kK,vl,vm⟩:=bC.cont k e eV eW iq;refine⟨kK,vl,fun j a8 ac=> ?_⟩;obtain⟨x,cp,dy⟩:=vm j a8 ac;exact⟨x,by rw [jY _ rfl];exact cp,dy.1.mono hle,dy.2⟩
 ·intro i v q j u iv av cJ h2 fV;simp only [Map.add]at av cJ;split at av<;>split at cJ
  ·rename_i bk bV;exact absurd (bk.1.trans bV.1.symm) fV
  ·rename_i bk bV;simp at av;subst av;exact r.apart id b.bf p j u iv ab cJ h2 (by rw [←bk.1];exact fV)
  ·rename_i bk bV;simp at cJ;subst cJ;exact r.apart i v q id b.bf p av ab h2 (by rw [←bV.1];exact fV)
  ·exact r.apart i v q j u iv av cJ h2 fV
 ·intro i v q u iv av cJ h2;simp only [Map.add]at av cJ;split at av<;>split at cJ
  ·simp at av cJ;subst av cJ;exact⟨rfl,rfl⟩
  ·rename_i bk bV;simp at av;subst av;exact r.same id b.bf p u iv ab (by rw [←bk.1];exact cJ) h2
  ·rename_i bk bV;simp at cJ;subst cJ;exact r.same id v q b.bf p (by rw [←bV.1];exact av) ab h2
  ·exact r.same i v q u iv av cJ h2
open Go.RowKit in
theorem qG{B:Nat→Prop}{a:World}(b:Nat)(an:¬B b):∀(vs:List Value)(o:Nat){w:World},Safe B a w→Safe B a (w.setCells b o vs)
 |[],_,_,h=>h
 |v::r,o,w,h=>qG b an r (o+1) (h.setCell (p:=⟨b,o,none⟩) an v)
end
end Go.bh
namespace Go.bh
noncomputable section
open Go.RowKit
theorem ci.dM.get{D:ci}{P:Program}(h:D.dM P){t:TypeId}{d:nS}(az:D t=some d) :
 ∃i u,P.info? t=some i∧P.underlying t=some u∧d.kind=eS u∧d.size=i.size∧d.bytes=i.bytes∧d.zero=i.zero.map mv:=by
 have:=h t d az;unfold sp at this;split at this
 ·rename_i i u ag hu;simp at this;subst this;exact⟨i,u,ag,hu,rfl,rfl,rfl,rfl⟩
 ·cases this
theorem iw{u:TypeDesc}{e:TypeId}(h:eS u=.slice e):u=.slice e:=by cases u<;>simp [eS]at h⊢; exact h
theorem pe{u:TypeDesc}{n:Nat}{e:TypeId}(h:eS u=.array n e):u=.array n e:=by cases u<;>simp [eS]at h⊢; exact h
theorem mH{u:TypeDesc}(h:eS u=.string):u=.string:=by cases u<;>simp [eS]at h⊢
theorem zf{u:TypeDesc}(h:eS u=.bool):u=.bool:=by cases u<;>simp [eS]at h⊢
theorem qH{u:TypeDesc}{k:IntKind}(h:eS u=.int k):u=.int k:=by cases u<;>simp [eS]at h⊢; exact h
theorem sA{u:TypeDesc}{e:TypeId}(h:eS u=.ptr e):u=.pointer e:=by cases u<;>simp [eS]at h⊢; exact h
theorem vo{u:TypeDesc}(h:eS u=.func):∃a b c,u=.func a b c:=by cases u<;>simp [eS]at h⊢
theorem vp{u:TypeDesc}{o:Bool}(h:eS u=.iface o):∃so,u=.interface so∧o= !so.isEmpty:=by cases u<;>simp [eS]at h⊢; rw [h];simp
theorem sB{u:TypeDesc}{l:List (Nat×TypeId)}(h:eS u=.struct l):∃fs,u=.struct fs∧l=fs.toList.map fun f=>(f.offset,f.type):=by cases u<;>simp [eS]at h⊢; exact h.symm
theorem n3{P:Program}{t:TypeId}{u:TypeDesc}(h:P.underlying t=some u)(w:World):(isAgg t).run P w=.ok (eS u).isAgg w:=by unfold isAgg;rw [Sem.run_bind,run_underlying h];cases u<;>rfl
theorem ix{P:Program}{t:TypeId}{i:TypeInfo}(h:P.info? t=some i)(w:World):(sizeOf t).run P w=.ok i.size w:=by simp [sizeOf,typeInfo,h]
theorem D1{P:Program}{t:TypeId}{i:TypeInfo}(h:P.info? t=some i)(w:World):(typeInfo t).run P w=.ok i w:=by simp [typeInfo,h]
theorem qI{P:Program}{t:TypeId}{i:TypeInfo}{z:Value}(h:P.info? t=some i)(ds:i.zero=some z)(w:World):(zeroValue t).run P w=.ok z w:=by simp [zeroValue,typeInfo,h,ds]
section
variable {P:Program}{φ:Map}
theorem D2{op:BinOp}{k:IntKind}{x y:Int}{v:R}(t:TypeId)(h:hv op k x y=some v)(w:World) :
 ∃aK,(binOp op t (.int k x) (.int k y)).run P w=.ok aK w∧ar φ v aK:=by
 cases op<;>simp only [hv]at h <;>
  first
   |(cases h;done)
   |(split at h<;>first|(cases h;done)|(rename_i bi;simp at h;subst h;exact⟨_,by simp [binOp,Op.intDiv,bi];rfl,by simp only [ar]⟩))
   |(simp at h;subst h;exact⟨_,by simp [binOp,Op.intArith,Op.intBits,Op.intCmp];rfl,by simp only [ar]⟩)
theorem zg{op:BinOp}{k dS:IntKind}{x y:Int}{v:R}(t:TypeId)(hB:op=.shl∨op=.shr)(h:qv op k x y=some v)(w:World) :
 ∃aK,(binOp op t (.int k x) (.int dS y)).run P w=.ok aK w∧ar φ v aK:=by
 unfold qv at h;split at h
 ·cases h
 ·rename_i bi;rcases hB with rfl|rfl
  ·simp at h;subst h;exact⟨_,by simp [binOp,Op.shift,bi];rfl,by simp only [ar]⟩
  ·simp at h;subst h;exact⟨_,by simp [binOp,Op.shift,bi];rfl,by simp only [ar]⟩
theorem D3:IntKind.i64.max=9223372036854775807:=rfl
theorem D4{op:BinOp}{a b:ByteArray}{v:R}(t:TypeId)(h:qw op a.data.toList b.data.toList=some v)(w:World) :
 ∃aK,(binOp op t (.string a) (.string b)).run P w=.ok aK w∧ar φ v aK:=by
 cases op <;> simp only [qw]at h <;>
  first
   |(cases h;done)
   |(split at h<;>first
    |(cases h;done)
    |(rename_i c1
      simp at h;subst h;refine⟨.string (a++b),?_,?_⟩
      ·simp only [binOp,Op.stringOp];rw [if_neg]
       ·rfl
       ·simp only [Array.length_toList]at c1;rw [D3];simp only [ByteArray.size];omega
      ·simp [ar]))
   |(simp at h;subst h;exact⟨_,by simp [binOp,Op.stringOp,ByteArray.toList_eq];rfl,by simp only [ar]⟩)
def vq(P:Program)(t:TypeId):Bool :=
 !P.eqGuardType P.depth t&&!P.stoodInHeld t &&
 (match P.underlying t with
 |some (.struct fs)=>fs.toList.zipIdx.all fun(f,i)=>f.name != "_" && f.offset == i
 |some (.array _ _)=>true
 |_=>false)
def mI(P:Program)(t:TypeId):Prop:=vq P t=true
theorem mI.spec{t:TypeId}(h:mI P t):P.eqGuardType P.depth t=false∧P.stoodInHeld t=false∧∀fs,P.underlying t=some (.struct fs)→ ∀(i:Nat)(f:Field),fs.toList[i]? =some f→f.name≠ "_" ∧f.offset=i:=by unfold mI vq at h;simp only [Bool.and_eq_true,Bool.not_eq_true']at h;obtain⟨⟨aa,ae⟩,aS⟩:=h;refine⟨aa,ae,fun fs sC i f aM=> ?_⟩;rw [sC]at aS;simp only [List.all_eq_true]at aS;have:=aS (f,i) (by rw [List.mem_zipIdx_iff_getElem?];exact aM);simpa using this
theorem zh{k:kB}{a b:R}{x y:Value}(aD:ar φ a x)(an:ar φ b y){r:Bool}(h:sq k a b=some r){t:TypeId}{u:TypeDesc}(hu:P.underlying t=some u)(ap:k=eS u)(d:Nat)(w:World) :
 (Op.equalIn (d+1) t x y).run P w=.ok r w∧(eS u).isAgg=false:=by
 unfold sq at h;split at h
 ·rename_i qu a7 a ba b;have:=qH ap.symm;subst this;split at h
  ·rename_i e;subst e;simp at h;subst h;simp only [ar]at aD an;subst aD an;refine⟨?_,rfl⟩;simp only [Op.equalIn,Sem.run_bind,run_underlying hu,Result.andThen_ok,if_true,Sem.run_pure]
  ·cases h
 ·have:=zf ap.symm;subst this;simp at h;subst h;simp only [ar]at aD an;subst aD an;refine⟨?_,rfl⟩;simp only [Op.equalIn,Sem.run_bind,run_underlying hu,Result.andThen_ok,Sem.run_pure]
 ·have:=mH ap.symm;subst this;simp at h;subst h;simp only [ar]at aD an;obtain⟨s,rfl,rfl⟩:=aD;obtain⟨aX,rfl,rfl⟩:=an;refine⟨?_,rfl⟩;rw [run_equalIn_string w d t s aX hu,ByteArray.toList_eq,ByteArray.toList_eq]
 ·cases h
theorem zi{D:ci}(bt:D.dM P){xs ys:Array Value}(d:Nat)(w:World):∀{fs:List Field}{i:Nat}{x y:List R}{b:Bool},(∀(j:Nat)(f:Field),fs[j]? =some f→f.name≠ "_" ∧f.offset=i+j) →
 aT φ x (xs.toList.drop i)→aT φ y (ys.toList.drop i)→nT D (fs.map fun f=>(f.offset,f.type)) x y=some b→(Op.eqFields (d+1) xs ys fs).run P w=.ok b w
 |[],i,x,y,b,_,_,_,h=>by simp only [List.map_nil]at h;cases x<;>cases y<;>simp [nT]at h;subst h;rfl
 |f ::fs,i,x,y,b,aM,ac,bi,h=>by
  simp only [List.map_cons]at h;cases x with
  |nil=>cases y<;>simp [nT]at h
  |cons a x =>
   cases y with
   |nil=>simp [nT]at h
   |cons c y =>
    simp only [nT]at h;split at h
    ·rename_i mJ D5;obtain⟨gm,u,fC,hu,ap, -⟩:=bt.get D5;split at h
     ·rename_i p q ab av;simp at h;subst h;obtain⟨aI,aj⟩:=aM 0 f a1;simp only [aT]at ac bi;obtain⟨jZ,tx,ex,vr,ac⟩:=ac;obtain⟨qJ,ty,qK,vt,bi⟩:=bi;obtain⟨g1,g2⟩:=zh (P:=P) vr vt ab hu ap d w
      have vu:xs[f.offset]? =some jZ:=by have:=congrArg (fun l=>l[0]?) ex;simpa [aj]using this
      have vv:ys[f.offset]? =some qJ:=by have:=congrArg (fun l=>l[0]?) qK;simpa [aj]using this
      have vw:xs.toList.drop (i+1)=tx:=by rw [←List.drop_drop,ex];rfl
      have vx:ys.toList.drop (i+1)=ty:=by rw [←List.drop_drop,qK];rfl
      have vy:(part f.type xs f.offset).run P w=.ok jZ w:=by simp only [part,Sem.run_bind,n3 hu,Result.andThen_ok,g2];simp [vu]
      have vz:(part f.type ys f.offset).run P w=.ok qJ w:=by simp only [part,Sem.run_bind,n3 hu,Result.andThen_ok,g2];simp [vv]
      have ih:=zi bt (xs:=xs) (ys:=ys) d w (fs:=fs) (i:=i+1) (fun j g ah=>by
       have:=aM (j+1) g (by simpa using ah)
       exact⟨this.1,J⟩) (by rw [vw];exact ac) (by rw [vx];exact bi) av
      simp only [Op.eqFields];rw [if_pos aI];simp only [Sem.run_bind,vy,vz,Result.andThen_ok,g1];cases p
      ·rfl
      ·simp only [Bool.not_true,Bool.false_eq_true,if_false,Bool.true_and];exact ih
     ·cases h
    ·cases h
theorem zj{D:ci}{e:TypeId}{u:TypeDesc}(hu:P.underlying e=some u){xs ys:Array Value}(d:Nat)(w:World):∀{n i:Nat}{x y:List R}{b:Bool},x.length=n →
 aT φ x (xs.toList.drop i)→aT φ y (ys.toList.drop i)→o7 (eS u) x y=some b→(Op.eqItems (d+1) e 1 xs ys (List.range' i n)).run P w=.ok b w
 |n,i,[],y,b,aI,_,_,h=>by simp at aI;subst aI;cases y<;>simp [o7]at h;subst h;rfl
 |n,i,a::x,[],b,aI,_,_,h=>by simp [o7]at h
 |n,i,a::x,c::y,b,aI,ac,bi,h=>by
  obtain⟨m,rfl⟩:∃m,n=m+1:=⟨x.length,by simpa using aI.symm⟩
  simp only [o7]at h;split at h
  ·rename_i p q ab av;simp at h;subst h;simp only [aT]at ac bi;obtain⟨jZ,tx,ex,vr,ac⟩:=ac;obtain⟨qJ,ty,qK,vt,bi⟩:=bi;obtain⟨g1,g2⟩:=zh (P:=P) vr vt ab hu rfl d w
   have vu:xs[i]? =some jZ:=by have:=congrArg (fun l=>l[0]?) ex;simpa using this
   have vv:ys[i]? =some qJ:=by have:=congrArg (fun l=>l[0]?) qK;simpa using this
   have vw:xs.toList.drop (i+1)=tx:=by rw [←List.drop_drop,ex];rfl
   have vx:ys.toList.drop (i+1)=ty:=by rw [←List.drop_drop,qK];rfl
   have vy:(part e xs (i*1)).run P w=.ok jZ w:=by simp only [part,Sem.run_bind,n3 hu,Result.andThen_ok,g2];simp [vu]
   have vz:(part e ys (i*1)).run P w=.ok qJ w:=by simp only [part,Sem.run_bind,n3 hu,Result.andThen_ok,g2];simp [vv]
   have ih:=zj (D:=D) hu (xs:=xs) (ys:=ys) d w (n:=m) (i:=i+1) (by simpa using aI) (by rw [vw];exact ac) (by rw [vx];exact bi) av;rw [List.range'_succ];simp only [Op.eqItems];simp only [Sem.run_bind,vy,vz,Result.andThen_ok,g1];cases p
   ·rfl
   ·simp only [Bool.not_true,Bool.false_eq_true,if_false,Bool.true_and];exact ih
  ·cases h
theorem md:Op.maxDepth=9999+1:=rfl
theorem zk{D:ci}(bt:D.dM P){fa:TypeId→Bool}(bA:∀t,fa t=true→mI P t){lit:Bool}{t:TypeId}{x y:R}{a8 eJ:Value}{b:Bool}
 (ac:ar φ x a8) (bi:ar φ y eJ) (h:mw D fa lit t x y=some b) (w:World):(Op.equalIn Op.maxDepth t a8 eJ).run P w=.ok b w:=by
 unfold mw at h;split at h
 ·cases h
 ·rename_i d az;obtain⟨i,u,ag,hu,ap, -⟩:=bt.get az;rw [ap]at h;split at h
  ·rename_i e;have:=zf e;subst this;simp only [ar]at ac bi;subst ac bi;simp at h;subst h;rw [md];generalize 9999=eT;simp only [Op.equalIn,Sem.run_bind,run_underlying hu,Result.andThen_ok,Sem.run_pure,Option.isNone_some,Option.isNone_none]
  ·rename_i e;have:=sA e;subst this;simp only [ar]at ac bi;subst ac bi;simp at h;subst h;rw [md];generalize 9999=eT;simp only [Op.equalIn,Sem.run_bind,run_underlying hu,Result.andThen_ok,Sem.run_pure,Option.isNone_some,Option.isNone_none]
  ·rename_i e;have:=sA e;subst this;simp only [ar]at ac bi;obtain⟨z,rfl,_⟩:=bi;subst ac;simp at h;subst h;rw [md];generalize 9999=eT;simp only [Op.equalIn,Sem.run_bind,run_underlying hu,Result.andThen_ok,Sem.run_pure,Option.isNone_some,Option.isNone_none]
  ·rename_i e;have:=sA e;subst this;simp only [ar]at ac bi;obtain⟨z,rfl,_⟩:=ac;subst bi;simp at h;subst h;rw [md];generalize 9999=eT;simp only [Op.equalIn,Sem.run_bind,run_underlying hu,Result.andThen_ok,Sem.run_pure,Option.isNone_some,Option.isNone_none]
  ·rename_i e;have:=iw e;subst this;simp only [ar]at ac bi;obtain⟨rfl,_⟩:=ac;obtain⟨rfl,_⟩:=bi;simp at h;subst h;rw [md];generalize 9999=eT;simp only [Op.equalIn,Sem.run_bind,run_underlying hu,Result.andThen_ok,Sem.run_pure,Option.isNone_some,Option.isNone_none]
  ·rename_i e;have:=iw e;subst this;simp only [ar]at ac bi;obtain⟨rfl,_⟩:=ac;obtain⟨z,c,rfl,_⟩:=bi;simp at h;subst h;rw [md];generalize 9999=eT;simp only [Op.equalIn,Sem.run_bind,run_underlying hu,Result.andThen_ok,Sem.run_pure,Option.isNone_some,Option.isNone_none]
  ·rename_i e;have:=iw e;subst this;simp only [ar]at ac bi;obtain⟨rfl,_⟩:=bi;obtain⟨z,c,rfl,_⟩:=ac;simp at h;subst h;rw [md];generalize 9999=eT;simp only [Op.equalIn,Sem.run_bind,run_underlying hu,Result.andThen_ok,Sem.run_pure,Option.isNone_some,Option.isNone_none]
  ·rename_i e;obtain⟨_,_,_,rfl⟩:=vo e;simp only [ar]at ac bi;subst ac bi;simp at h;subst h;rw [md];generalize 9999=eT;simp only [Op.equalIn,Sem.run_bind,run_underlying hu,Result.andThen_ok,Sem.run_pure,Option.isNone_some,Option.isNone_none]
  ·rename_i e;obtain⟨_,_,_,rfl⟩:=vo e;simp only [ar]at ac bi;obtain⟨_,_,rfl,_⟩:=bi;subst ac;simp at h;subst h;rw [md];generalize 9999=eT;simp only [Op.equalIn,Sem.run_bind,run_underlying hu,Result.andThen_ok,Sem.run_pure,Option.isNone_some,Option.isNone_none]
  ·rename_i e;obtain⟨_,_,_,rfl⟩:=vo e;simp only [ar]at ac bi;obtain⟨_,_,rfl,_⟩:=ac;subst bi;simp at h;subst h;rw [md];generalize 9999=eT;simp only [Op.equalIn,Sem.run_bind,run_underlying hu,Result.andThen_ok,Sem.run_pure,Option.isNone_some,Option.isNone_none]
  ·rename_i e;obtain⟨_,rfl,_⟩:=vp e;simp only [ar]at ac bi;subst ac bi;split at h<;>simp at h;subst h;rw [md];generalize 9999=eT;simp only [Op.equalIn,Sem.run_bind,run_underlying hu,Result.andThen_ok,Sem.run_pure,Option.isNone_some,Option.isNone_none]
  ·rename_i e;obtain⟨_,rfl,_⟩:=vp e;simp only [ar]at ac bi;obtain⟨_,rfl,_⟩:=bi;subst ac;simp at h;subst h;rw [md];generalize 9999=eT;simp only [Op.equalIn,Sem.run_bind,run_underlying hu,Result.andThen_ok,Sem.run_pure,Option.isNone_some,Option.isNone_none]
  ·rename_i e;obtain⟨_,rfl,_⟩:=vp e;simp only [ar]at ac bi;obtain⟨_,rfl,_⟩:=ac;subst bi;simp at h;subst h;rw [md];generalize 9999=eT;simp only [Op.equalIn,Sem.run_bind,run_underlying hu,Result.andThen_ok,Sem.run_pure,Option.isNone_some,Option.isNone_none]
  ·rename_i fs x y e;obtain⟨hC,rfl,j0⟩:=sB e;simp only [ar]at ac bi;obtain⟨xs,rfl,rx⟩:=ac;obtain⟨ys,rfl,sD⟩:=bi;split at h
   ·rename_i he;obtain⟨aa,ae,aS⟩:=(bA t he).spec;have zl:P.fieldsOf t=hC:=by simp [Program.fieldsOf,hu]
    rw [md,run_equalIn_struct w 9999 t xs ys (by rw [zl];exact hu) ae,zl];rw [j0]at h;exact zi bt 9998 w (i:=0) (fun j f aM=>by have:=aS hC hu j f aM;exact⟨this.1,J⟩) (by simpa using rx) (by simpa using sD) h
   ·cases h
  ·rename_i n e x y D6;have:=pe D6;subst this;simp only [ar]at ac bi;obtain⟨xs,rfl,rx⟩:=ac;obtain⟨ys,rfl,sD⟩:=bi;split at h
   ·split at h
    ·rename_i fU lK;obtain⟨sE,mK,kM,lL,iy,ey, -⟩:=bt.get lK;split at h
     ·rename_i al
      have pf:P.cellsOf e=1:=by unfold Program.cellsOf;rw [kM];simp;omega
      rw [md,run_equalIn_array w 9999 xs ys hu kM,pf,List.range_eq_range'];rw [iy]at h;exact zj (D:=D) lL 9998 w al.2 (by simpa using rx) (by simpa using sD) h
     ·cases h
    ·cases h
   ·cases h
  ·cases h
theorem zm{D:ci}{fa:TypeId→Bool}(bA:∀t,fa t=true→mI P t){op:BinOp}{t:TypeId}{kN kO:Operand}{x y:R}{a8 eJ:Value}{b:Bool}
 (ac:ar φ x a8) (bi:ar φ y eJ) (h:mw D fa (ik kN || ik kO) t x y=some b) (w:World):(eqGuard op t kN kO a8 eJ).run P w=.ok () w:=by
 have key :op=.eql∨op=.neq→(eqGuard op t kN kO a8 eJ).run P w=.ok () w:=by
  intro hB;unfold mw at h;split at h
  ·cases h
  ·split at h
   all_goals first
    |(cases h;done)
    |(simp only [ar]at ac bi;subst ac bi;rcases hB with rfl|rfl<;>rfl)
    |(simp only [ar]at ac bi;obtain⟨rfl,_⟩:=ac;obtain⟨rfl,_⟩:=bi;rcases hB with rfl|rfl<;>rfl)
    |(simp only [ar]at ac bi;subst ac;obtain⟨_,rfl,_⟩:=bi;rcases hB with rfl|rfl<;>rfl)
    |(simp only [ar]at ac bi;subst bi;obtain⟨_,rfl,_⟩:=ac;rcases hB with rfl|rfl<;>rfl)
    |(simp only [ar]at ac bi;obtain⟨rfl,_⟩:=ac;obtain⟨_,_,rfl,_⟩:=bi;rcases hB with rfl|rfl<;>rfl)
    |(simp only [ar]at ac bi;obtain⟨rfl,_⟩:=bi;obtain⟨_,_,rfl,_⟩:=ac;rcases hB with rfl|rfl<;>rfl)
    |(simp only [ar]at ac bi;subst ac;obtain⟨_,_,rfl,_⟩:=bi;rcases hB with rfl|rfl<;>rfl)
    |(simp only [ar]at ac bi;subst bi;obtain⟨_,_,rfl,_⟩:=ac;rcases hB with rfl|rfl<;>rfl)
    |(simp only [ar]at ac bi;subst ac bi;split at h<;>first|(cases h;done)|skip
      rename_i ay;simp only [Bool.or_eq_true]at ay;rcases ay with ay|ay
      ·cases kN<;>first|(simp [ik]at ay;done)|(rcases hB with rfl|rfl<;>rfl)
      ·cases kO<;>first|(simp [ik]at ay;done)|(rcases hB with rfl|rfl<;>simp [eqGuard]))
    |(simp only [ar]at ac bi;obtain⟨_,rfl,rx⟩:=ac;obtain⟨_,rfl,sD⟩:=bi;split at h<;>first|(cases h;done)|skip
      rename_i he
      exact run_eqGuard_agg w op t kN kO _ _ (bA t he).spec.1)
 cases op<;>first|exact key (.inl rfl)|exact key (.inr rfl)|rfl
def qL:Value→Bool
 |.bool _|.pointer _|.slice _ _ _|.func _ _ _|.nilFunc|.nilIface|.iface _ _|.agg _=>true
 |_=>false
theorem D7(t:TypeId)(x y:Value)(h:qL x=true):binOp .eql t x y=(do pure (.bool (←Op.equal t x y))):=by cases x<;>first|(simp [qL]at h;done)|(cases y<;>rfl)
theorem D8(t:TypeId)(x y:Value)(h:qL x=true):binOp .neq t x y=(do pure (.bool (!(←Op.equal t x y)))):=by cases x<;>first|(simp [qL]at h;done)|(cases y<;>rfl)
theorem zn{D:ci}{fa:TypeId→Bool}{lit:Bool}{t:TypeId}{x y:R}{a8:Value}{b:Bool}(ac:ar φ x a8)(h:mw D fa lit t x y=some b):qL a8=true:=by
 unfold mw at h;split at h
 ·cases h
 ·split at h
  all_goals first
   |(cases h;done)
   |(simp only [ar]at ac;subst ac;rfl)
   |(simp only [ar]at ac;obtain⟨rfl,_⟩:=ac;rfl)
   |(simp only [ar]at ac;obtain⟨_,rfl,_⟩:=ac;rfl)
   |(simp only [ar]at ac;obtain⟨_,_,rfl,_⟩:=ac;rfl)
theorem D9{D:ci}(bt:D.dM P){fa:TypeId→Bool}(bA:∀t,fa t=true→mI P t){op:BinOp}{t:TypeId}{kN kO:Operand}{x y v:R}{a8 eJ:Value}
 (ac:ar φ x a8) (bi:ar φ y eJ) (h:iS D fa (ik kN || ik kO) op t x y=some v) (w:World) :
 ∃aK,(eqGuard op t kN kO a8 eJ).run P w=.ok () w∧(binOp op t a8 eJ).run P w=.ok aK w∧ar φ v aK:=by
 unfold iS at h;split at h
 ·rename_i k a dS b;simp only [ar]at ac bi;subst ac bi
  have ah:(eqGuard op t kN kO (.int k a) (.int dS b)).run P w=.ok () w:=by unfold eqGuard;split<;>rfl
  split at h
  ·obtain⟨aK,aa,ae⟩:=zg (P:=P) (φ:=φ) (dS:=dS) t (.inl rfl) h w;exact⟨aK,ah,aa,ae⟩
  ·obtain⟨aK,aa,ae⟩:=zg (P:=P) (φ:=φ) (dS:=dS) t (.inr rfl) h w;exact⟨aK,ah,aa,ae⟩
  ·split at h
   ·rename_i ap;subst ap;obtain⟨aK,aa,ae⟩:=D2 (P:=P) (φ:=φ) t h w;exact⟨aK,ah,aa,ae⟩
   ·cases h
 ·rename_i a b;simp only [ar]at ac bi;obtain⟨s,rfl,rfl⟩:=ac;obtain⟨u,rfl,rfl⟩:=bi
  have ah:(eqGuard op t kN kO (.string s) (.string u)).run P w=.ok () w:=by unfold eqGuard;split<;>rfl
  obtain⟨aK,aa,ae⟩:=D4 (P:=P) (φ:=φ) t h w;exact⟨aK,ah,aa,ae⟩
 ·rename_i dU dn;split at h
  ·simp only [Option.map_eq_some_iff]at h;obtain⟨b,an,rfl⟩:=h;refine⟨.bool b,zm (D:=D) bA ac bi an w,?_,by simp [ar]⟩;have he:=zk bt bA ac bi an w;rw [D7 t a8 eJ (zn ac an)];simp [Op.equal,he]
  ·simp only [Option.map_eq_some_iff]at h;obtain⟨b,an,rfl⟩:=h;refine⟨.bool (!b),zm (D:=D) bA ac bi an w,?_,by simp [ar]⟩;have he:=zk bt bA ac bi an w;rw [D8 t a8 eJ (zn ac an)];simp [Op.equal,he]
  ·cases h
end
end
end Go.bh
namespace Go.bh
noncomputable section
open Go.RowKit
section
variable {P:Program}{φ:Map}
theorem D'{op:UnOp}{x v:R}{a8:Value}(ac:ar φ x a8)(h:qx op x=some v)(w:World):∃aK,(Op.unary op a8).run P w=.ok aK w∧ar φ v aK:=by
 unfold qx at h;split at h
 ·simp only [ar]at ac;subst ac;simp at h;subst h;exact⟨_,by simp [Op.unary,Op.intArith];rfl,by simp only [ar]⟩
 ·simp only [ar]at ac;subst ac;simp at h;subst h;exact⟨_,by simp [Op.unary];rfl,by simp only [ar]⟩
 ·simp only [ar]at ac;subst ac;simp [hv]at h;subst h;exact⟨_,by simp [Op.unary,Op.intBits];rfl,by simp only [ar]⟩
 ·cases h
theorem Ea{D:ci}(bt:D.dM P){s t:TypeId}{x v:R}{a8:Value}(ac:ar φ x a8)(h:qB D s t x=some v)(w:World) :
 ∃aK,(convert s t a8).run P w=.ok aK w∧ar φ v aK:=by
 unfold qB at h;split at h
 ·rename_i hV Eb k n hs bz;simp only [ar]at ac;subst ac;obtain⟨_,vA,_,sF,_⟩:=bt.get hs;obtain⟨_,ut,_,sG,ap,_⟩:=bt.get bz;rw [ap]at h;split at h
  ·rename_i ju e;have:=qH e;subst this;simp at h;subst h;refine⟨.int ju (ju.wrap n),?_,by simp only [ar]⟩;simp only [convert,Sem.run_bind,run_underlying sF,run_underlying sG,Result.andThen_ok];cases vA<;>simp [Conv.intToInt]
  ·rename_i e;have:=mH e;subst this;simp at h;subst h;exact⟨.string (Utf8.encode n),run_convert_int_string w s t k n (by rw [sF];rfl) sG,by simp only [ar];exact⟨_,rfl,rfl⟩⟩
  ·cases h
 ·rename_i hV Eb l hs bz;simp only [ar]at ac;obtain⟨aX,rfl,rfl⟩:=ac;obtain⟨_,vA,_,sF,_⟩:=bt.get hs;obtain⟨_,ut,_,sG,ap,_⟩:=bt.get bz;rw [ap]at h;split at h
  ·rename_i e;have:=mH e;subst this;simp at h;subst h;refine⟨.string aX,?_,by simp [ar]⟩;simp only [convert,Sem.run_bind,run_underlying sF,run_underlying sG,Result.andThen_ok];cases vA<;>rfl
  ·cases h
 ·cases h
theorem Ec{x y v:R}{a8 eJ:Value}(ac:ar φ x a8)(bi:ar φ y eJ)(h:sr x y=some v)(w:World):∃aK,(Builtin.max2 a8 eJ).run P w=.ok aK w∧ar φ v aK:=by
 unfold sr at h;split at h
 ·simp only [ar]at ac bi;subst ac bi;split at h
  ·rename_i ap;subst ap;simp at h;subst h;exact⟨_,by simp only [Builtin.max2];rfl,by simp only [ar]⟩
  ·cases h
 ·cases h
theorem Ed{x y v:R}{a8 eJ:Value}(ac:ar φ x a8)(bi:ar φ y eJ)(h:ss x y=some v)(w:World):∃aK,(Builtin.min2 a8 eJ).run P w=.ok aK w∧ar φ v aK:=by
 unfold ss at h;split at h
 ·simp only [ar]at ac bi;subst ac bi;split at h
  ·rename_i ap;subst ap;simp at h;subst h;exact⟨_,by simp only [Builtin.min2];rfl,by simp only [ar]⟩
  ·cases h
 ·cases h
theorem vB{f:R→R→Option R}{g:Value→Value→Sem Value}(w:World)
 (aM:∀x y v a8 eJ,ar φ x a8→ar φ y eJ→f x y=some v→ ∃aK,(g a8 eJ).run P w=.ok aK w∧ar φ v aK) :
 ∀{l:List R}{t:List Value}{x v:R}{a8:Value},ar φ x a8→aT φ l t→my f x l=some v→ ∃aK,(t.foldlM g a8).run P w=.ok aK w∧ar φ v aK
 |[],t,x,v,a8,ac,ay,h=>by simp only [aT]at ay;subst ay;simp [my]at h;subst h;exact⟨a8,rfl,ac⟩
 |a ::r,t,x,v,a8,ac,ay,h=>by
  simp only [aT]at ay;obtain⟨u,dw,rfl,aa,ae⟩:=ay;simp only [my]at h;split at h
  ·rename_i z ds;obtain⟨dF,bk,bV⟩:=aM _ _ _ _ _ ac aa ds;obtain⟨aK,jv,j1⟩:=vB w aM bV ae h;exact⟨aK,by rw [List.foldlM_cons,Sem.run_bind,bk];exact jv,j1⟩
  ·cases h
theorem Ee{x v:R}{l:List R}{xs:Array Value}(ts:Array TypeId)(ty:TypeId)(ac:aT φ (x::l) xs.toList)(h:my sr x l=some v)(w:World) :
 ∃aK,(Builtin.max_ ts ty xs).run P w=.ok aK w∧ar φ v aK:=by
 simp only [aT]at ac;obtain⟨a8,t,e,aa,ae⟩:=ac;unfold Builtin.max_;rw [e];exact vB w (fun _ _ _ _ _ a b c=>Ec a b c w) aa ae h
theorem Ef{x v:R}{l:List R}{xs:Array Value}(ts:Array TypeId)(ty:TypeId)(ac:aT φ (x::l) xs.toList)(h:my ss x l=some v)(w:World) :
 ∃aK,(Builtin.min_ ts ty xs).run P w=.ok aK w∧ar φ v aK:=by
 simp only [aT]at ac;obtain⟨a8,t,e,aa,ae⟩:=ac;unfold Builtin.min_;rw [e];exact vB w (fun _ _ _ _ _ a b c=>Ed a b c w) aa ae h
theorem zo{D:ci}(bt:D.dM P){t:TypeId}{cs:List R}{xs:Array Value}{off:Nat}{v:R}(ac:aT φ cs xs.toList)(h:apart D t cs off=some v)(w:World) :
 ∃aK,(part t xs off).run P w=.ok aK w∧ar φ v aK:=by
 unfold apart at h;split at h
 ·rename_i d az;obtain⟨i,u,ag,hu,ap,hs, -⟩:=bt.get az;rw [ap]at h;split at h
  ·rename_i aD;split at h
   ·rename_i hle;simp at h;subst h;refine⟨.agg (xs.extract off (off+i.size)),?_,?_⟩
    ·simp only [part,Sem.run_bind,n3 hu,Result.andThen_ok,aD,if_true,ix ag,Sem.run_pure]
    ·simp only [ar];refine⟨_,rfl,?_⟩
     have e:(xs.extract off (off+i.size)).toList=(xs.toList.drop off).take i.size:=by simp [List.extract]
     rw [e,hs];exact(ac.drop off).take i.size
   ·cases h
  ·rename_i aD;obtain⟨aK,aa,ae⟩:=ac.get h;refine⟨aK,?_,ae⟩;have fX:xs[off]? =some aK:=by simpa using aa
   simp only [part,Sem.run_bind,n3 hu,Result.andThen_ok];simp only [aD];simp [fX]
 ·cases h
theorem Eg{D:ci}(bt:D.dM P){t:TypeId}{x:R}{a8:Value}{f:Nat}{v:R}(ac:ar φ x a8)(h:u9 D t x f=some v)(w:World) :
 ∃aK,(Instr.field t a8 f).run P w=.ok aK w∧ar φ v aK:=by
 unfold u9 at h;split at h
 ·rename_i d cs az;obtain⟨i,u,ag,hu,ap,hs, -⟩:=bt.get az;rw [ap]at h;split at h
  ·rename_i fs e;obtain⟨hC,rfl,j0⟩:=sB e;split at h
   ·rename_i off mz aM;simp only [ar]at ac;obtain⟨xs,rfl,dd⟩:=ac;rw [j0]at aM;simp only [List.getElem?_map,Option.map_eq_some_iff]at aM;obtain⟨pg,mL,he⟩:=aM;simp at he;obtain⟨rfl,rfl⟩:=he;obtain⟨aK,aa,ae⟩:=zo bt dd h w;refine⟨aK,?_,ae⟩;have qM:hC[f]? =some pg:=by simpa using mL
    simp [Instr.field,run_underlying hu,qM,asAgg,aa]
   ·cases h
  ·cases h
 ·cases h
theorem Eh{D:ci}(bt:D.dM P){t:TypeId}{x i:R}{a8 dj:Value}{v:R}(ac:ar φ x a8)(ag:ar φ i dj)(h:g' D t x i=some v)(w:World) :
 ∃aK,(Instr.index t a8 dj).run P w=.ok aK w∧ar φ v aK:=by
 unfold g' at h;split at h
 ·rename_i d cs k n az;obtain⟨gm,u,fC,hu,ap,hs, -⟩:=bt.get az;rw [ap]at h;split at h
  ·rename_i len e he;have:=pe he;subst this;split at h
   ·rename_i bM dP;obtain⟨cw,kP,ea,sH,sI,dd, -⟩:=bt.get dP;split at h
    ·rename_i an;simp only [ar]at ac ag;obtain⟨xs,rfl,Ei⟩:=ac;subst ag;obtain⟨aK,aa,ae⟩:=zo bt Ei h w;refine⟨aK,?_,ae⟩;rw [dd]at aa;simp [Instr.index,asIntOf,run_underlying hu,an,ix ea,aa]
    ·cases h
   ·cases h
  ·cases h
 ·rename_i d s k n az;obtain⟨gm,u,fC,hu,ap,hs, -⟩:=bt.get az;rw [ap]at h;split at h
  ·rename_i e;have:=mH e;subst this;split at h
   ·rename_i aI;simp only [ar]at ac ag;obtain⟨aX,rfl,rfl⟩:=ac;subst ag;simp only [Option.map_eq_some_iff]at h;obtain⟨b,an,rfl⟩:=h;refine⟨.int .u8 b.toNat,?_,by simp only [ar]⟩
    have eX:aX[n.toNat]? =some b:=by
     have c1:=(List.getElem?_eq_some_iff.1 an).1;have he:=(List.getElem?_eq_some_iff.1 an).2;have lI:n.toNat<aX.size:=by rw [Array.length_toList]at c1;exact c1
     rw [getElem?_pos aX n.toNat lI];rw [←he];rfl
    simp [Instr.index,asIntOf,run_underlying hu,aI,eX]
   ·cases h
  ·cases h
 ·cases h
theorem Ej{vs:List R}{a8:Value}{i:Nat}{v:R}(ac:ar φ (.tuple vs) a8)(h:vs[i]? =some v)(w:World) :
 ∃aK,(Instr.extract a8 i).run P w=.ok aK w∧ar φ v aK:=by
 simp only [ar]at ac;obtain⟨xs,rfl,dd⟩:=ac;obtain⟨aK,aa,ae⟩:=dd.get h;have fX:xs[i]? =some aK:=by simpa using aa
 exact⟨aK,by simp [Instr.extract,fX],ae⟩
theorem Place.mM(p:Place)(i f n:Nat):(p.at i f).add n=p.at i (f+n):=by unfold Place.at;rw [Addr.add_mid];rw [Nat.add_assoc]
theorem Ek{D:ci}(bt:D.dM P){t:TypeId}{x:R}{a8:Value}{f:Nat}{v:R}(ac:ar φ x a8)(h:u7 D t x f=some v)(w:World) :
 ∃aK,(Instr.fieldAt t a8 f).run P w=.ok aK w∧ar φ v aK:=by
 unfold u7 at h;split at h
 ·rename_i d a az;obtain⟨i,u,ag,hu,ap,hs, -⟩:=bt.get az;rw [ap]at h;split at h
  ·rename_i fs e;obtain⟨hC,rfl,j0⟩:=sB e;split at h
   ·rename_i off mz aM;split at h
    ·rename_i fd lM;obtain⟨El,yY,Em,M0,M1,sC, -⟩:=bt.get lM;split at h
     ·rename_i lN;simp at h;subst h;rw [j0]at aM;simp only [List.getElem?_map,Option.map_eq_some_iff]at aM;obtain⟨pg,mL,he⟩:=aM;simp at he;obtain⟨rfl,rfl⟩:=he;simp only [ar]at ac;obtain⟨dG,rfl,p,ab,ey,cU,rfl⟩:=ac;have qM:hC[f]? =some pg:=by simpa using mL
      refine⟨.pointer (some (p.at a.idx (a.fld+pg.offset))),?_,?_⟩
      ·have bJ:¬El.size=0:= J;simp [Instr.fieldAt,run_underlying hu,qM,Instr.sureAddr,fieldPlace,ix Em,bJ,Place.mM]
      ·simp only [ar];exact⟨_,rfl,p,ab,ey,cU,rfl⟩
     ·cases h
    ·cases h
   ·cases h
  ·cases h
 ·cases h
theorem En{D:ci}(bt:D.dM P){t:TypeId}{x i:R}{a8 dj:Value}{v:R}(ac:ar φ x a8)(ag:ar φ i dj)(h:qA D t x i=some v)(w:World) :
 ∃aK,(Instr.indexAt t a8 dj).run P w=.ok aK w∧ar φ v aK:=by
 unfold qA at h;split at h
 ·rename_i d a len cap k n az;obtain⟨gm,u,fC,hu,ap,hs, -⟩:=bt.get az;rw [ap]at h;split at h
  ·rename_i e he;have:=iw he;subst this;split at h
   ·rename_i bM dP;obtain⟨cw,kP,ea,sH,sI,dd, -⟩:=bt.get dP;split at h
    ·rename_i an;simp at h;subst h;simp only [ar]at ac ag;obtain⟨dG,b0,rfl,dv,eE,fY⟩:=ac;have aM:=an.2.2.2;obtain⟨p,ab,ey,h3,hex⟩:=fY.plain aM;subst ag;rcases h3 with a6|⟨cU,rfl,kI⟩
     ·omega
     ·refine⟨.pointer (some (p.at (a.idx+n.toNat) 0)),?_,?_⟩
      ·have bk:(p.at a.idx 0).add (n.toNat*cw.size)=p.at (a.idx+n.toNat) 0:=by
        rw [Place.mM];unfold Place.at;have:a.idx+n.toNat-p.aE=(a.idx-p.aE)+n.toNat:= J;rw [this,Nat.add_mul,←dd,←an.2.2.1,ey]
        congr 1;omega
       have j2:=an.1;have mN:=an.2.1;simp [Instr.indexAt,asIntOf,run_underlying hu,j2,mN,ix ea,bk]
      ·simp only [ar];exact⟨_,rfl,p,ab,ey,by show p.aE≤a.idx+n.toNat;omega,by simp only [aM]⟩
    ·split at h
     ·rename_i an;simp at h;subst h;simp only [ar]at ac ag;obtain⟨dG,b0,rfl,dv,eE,fY⟩:=ac;subst ag;rcases fY with ⟨aM,_⟩|⟨f,aM,p,ab,ey,cU,rfl⟩
      ·omega
      ·simp only at ab ey cU;have cp:cw.size=1:= J;have j2:=an.1;have mN:=an.2.1;refine⟨.pointer (some (p.at a.idx (f+n.toNat))),?_,?_⟩
       ·have bk:(p.at a.idx f).add (n.toNat*cw.size)=p.at a.idx (f+n.toNat):=by rw [Place.mM,cp,Nat.mul_one]
        simp [Instr.indexAt,asIntOf,run_underlying hu,j2,mN,ix ea,bk]
       ·simp only [ar];exact⟨_,rfl,p,ab,ey,cU,by show p.at a.idx (f+n.toNat)=p.at a.idx (a.fld-1+n.toNat);rw [aM];rfl⟩
     ·cases h
   ·cases h
  ·cases h
 ·rename_i d a k n az;obtain⟨gm,u,fC,hu,ap,hs, -⟩:=bt.get az;rw [ap]at h;split at h
  ·rename_i len e he;have:=pe he;subst this;split at h
   ·rename_i bM dP;obtain⟨cw,kP,ea,sH,sI,dd, -⟩:=bt.get dP;split at h
    ·rename_i an;simp at h;subst h;simp only [ar]at ac ag;obtain⟨dG,rfl,p,ab,ey,cU,rfl⟩:=ac;subst ag;refine⟨.pointer (some (p.at a.idx (a.fld+n.toNat*cw.size))),?_,?_⟩
     ·have j2:=an.1;have mN:=an.2;simp [Instr.indexAt,asIntOf,run_underlying hu,j2,mN,ix ea,Instr.sureAddr,Place.mM]
     ·simp only [ar];exact⟨_,rfl,p,ab,ey,cU,by simp only [dd]⟩
    ·cases h
   ·cases h
  ·cases h
 ·cases h
end
end
end Go.bh
namespace Go.bh
noncomputable section
open Go.RowKit
section
variable {P:Program}{φ:Map}
def iW(φ:Map):Option R→Option Value→Prop
 |none,none=>True
 |some a,some b=>ar φ a b
 |_,_=>False
theorem qN{v:Option R}{aK:Option Value}(bg:iW φ v aK){u6 qz r:Nat}(h:eD v u6 qz=some r)(hs:v.isSome=true)
 {vC:Nat} (hm:qz≤vC) (w:World) (code:BoundsCode):∃x,aK=some x∧(Instr.sliceBound x vC code).run P w=.ok r w∧r≤qz:=by
 cases v with
 |none=>cases hs
 |some a =>
  cases aK with
  |none=>exact bg.elim
  |some x =>
   refine⟨x,rfl,?_⟩;unfold eD at h;split at h
   ·rename_i e;cases e
   ·rename_i k i e;simp at e;subst e;split at h
    ·rename_i an;simp at h;subst h;simp only [iW,ar]at bg;subst bg;have hle:i≤(vC:Int):= J;exact⟨by simp [Instr.sliceBound,asIntOf,an.1,hle],J⟩
    ·cases h
   ·cases h
theorem sJ{aE ag mx:Option R}{fD eI jw:Option Value}(cU:iW φ aE fD)(h4:iW φ ag eI)(n4:iW φ mx jw){len cap b0 m bx l:Nat}(zp:len≤cap)(b7:cap≤b0)
 (hm:eD mx cap cap=some m) (ph:eD ag len m=some bx) (ay:eD aE 0 bx=some l) (iX:¬(mx.isSome=true∧ag.isNone=true)) (isSlice:Bool) (w:World) :
 ∃eF,(Instr.sliceBounds isSlice len b0 fD eI jw).run P w=.ok (l,bx,eF) w∧m≤eF∧eF≤b0∧(b0=cap→eF=m)∧bx≤m∧l≤bx:=by
 have aS:∀code,(match fD with|some v=>Instr.sliceBound v bx code|none=>pure 0:Sem Nat).run P w=.ok l w∧l≤bx:=by
  intro code;cases aE with
  |none=>cases fD with
   |none=>simp [eD]at ay;subst ay;exact⟨rfl,Nat.zero_le _⟩
   |some _=>exact cU.elim
  |some a =>
   obtain⟨x,rfl,aa,ae⟩:=qN (P:=P) cU ay rfl (Nat.le_refl _) w code;exact⟨aa,ae⟩
 cases mx with
 |none =>
  cases jw with
  |some _=>exact n4.elim
  |none =>
   simp [eD]at hm;subst hm;refine⟨b0,?_,b7,Nat.le_refl _,fun h=>h,?_⟩
   ·cases ag with
    |none=>cases eI with
     |some _=>exact h4.elim
     |none =>
      simp [eD]at ph;subst ph;have:=(aS .sliceB).1;cases fD<;>simp_all [Instr.sliceBounds]
    |some b =>
     obtain⟨x,rfl,aa,ae⟩:=qN (P:=P) h4 ph rfl b7 w (if isSlice then .sliceAcap else .sliceAlen);have:=(aS .sliceB).1;cases fD<;>simp_all [Instr.sliceBounds]
   ·refine⟨?_,(aS .sliceB).2⟩;cases ag with
    |none=>simp [eD]at ph;omega
    |some b=>obtain⟨x,rfl,aa,ae⟩:=qN (P:=P) h4 ph rfl b7 w .sliceB;exact ae
 |some a =>
  obtain⟨y,rfl,g1,g2⟩:=qN (P:=P) n4 hm rfl b7 w (if isSlice then .slice3Acap else .slice3Alen);cases ag with
  |none=>simp at iX
  |some b =>
   obtain⟨x,rfl,aa,ae⟩:=qN (P:=P) h4 ph rfl (Nat.le_refl _) w .slice3B;refine⟨m,?_,Nat.le_refl _,J,fun _=>rfl,ae,(aS .sliceB).2⟩;have:=(aS .slice3C).1;cases fD<;>simp_all [Instr.sliceBounds]
theorem Eo(s:ByteArray)(l h:Nat):(s.extract l h).data.toList=(s.data.toList.take h).drop l:=by have:(s.extract l h).data=s.data.extract l h:= a1;rw [this];simp [List.extract,List.drop_take]
theorem Ep{D:ci}(bt:D.dM P){t:TypeId}{x v:R}{a8:Value}{aE ag mx:Option R}{fD eI jw:Option Value}(ac:ar φ x a8)
 (cU:iW φ aE fD) (h4:iW φ ag eI) (n4:iW φ mx jw) (h:eg D t x aE ag mx=some v) (w:World) :
 ∃aK,(Instr.sliceAt t a8 fD eI jw).run P w=.ok aK w∧ar φ v aK:=by
 unfold eg at h;split at h
 ·rename_i d a len cap az;obtain⟨gm,u,fC,hu,ap,hs, -⟩:=bt.get az;rw [ap]at h;split at h
  ·rename_i e he;have:=iw he;subst this;split at h
   ·rename_i bM m dP hm;obtain⟨cw,kP,ea,sH,sI,dd, -⟩:=bt.get dP;split at h
    ·rename_i bx n5;split at h
     ·rename_i l ay;split at h
      ·cases h
      ·rename_i iX;split at h
       ·simp at h;subst h;simp only [ar]at ac;obtain⟨rfl,rfl,rfl⟩:=ac;obtain⟨eF,a7,ba,cC,eK,fJ,jx⟩:=sJ (P:=P) cU h4 n4 (Nat.le_refl _) (Nat.le_refl 0) hm n5 ay iX true w;have bk:eF=0:= J;have bV:m=0:= J;have jv:bx=0:= J;have j1:l=0:= J;subst bk bV jv j1;refine⟨.slice none 0 0,?_,by simp [ar]⟩;simp [Instr.sliceAt,run_underlying hu,Instr.slice,a7,ix ea]
       ·rename_i a;split at h
        ·rename_i Er;obtain⟨ey,aM⟩:=Er;simp at h;subst h;simp only [ar]at ac;obtain⟨dG,b0,rfl,dv,eE,fY⟩:=ac;obtain⟨p,ab,gM,h3,hex⟩:=fY.plain aM;obtain⟨eF,a7,ba,cC,eK,fJ,jx⟩:=sJ (P:=P) cU h4 n4 dv eE hm n5 ay iX true w;refine⟨.slice (if eF=l then some dG else some (dG.add (l*cw.size))) (bx-l) (eF-l),?_,?_⟩
         ·simp [Instr.sliceAt,run_underlying hu,Instr.slice,a7,ix ea]
         ·simp only [ar];by_cases sK:eF=l
          ·rw [if_pos sK];exact⟨dG,eF-l,rfl,J,J,.inl ⟨aM,p,ab,gM,.inl J,fun bx=>by have:=eK (hex bx);omega⟩⟩
          ·rw [if_neg sK];refine⟨_,eF-l,rfl,J,J,.inl ⟨aM,p,ab,gM,?_,fun bx=>by have:=eK (hex bx);omega⟩⟩;rcases h3 with a6|⟨g1,rfl,g3⟩
           ·left;omega
           ·right;refine⟨by show p.aE≤a.idx+l;omega,?_,by show a.idx+l-p.aE+(eF-l)≤p.tot;omega⟩;rw [Place.mM];unfold Place.at;have:a.idx+l-p.aE=(a.idx-p.aE)+l:= J;simp only [this,Nat.add_mul,←dd,←ey,gM]
            congr 1;omega
        ·cases h
     ·cases h
    ·cases h
   ·cases h
  ·cases h
 ·rename_i d a az;obtain⟨gm,u,fC,hu,ap,hs, -⟩:=bt.get az;rw [ap]at h;split at h
  ·rename_i n el lO;have:=pe lO;subst this;split at h
   ·rename_i bM dP;obtain⟨cw,kP,ea,sH,sI,dd, -⟩:=bt.get dP;split at h
    ·cases h
    ·rename_i iX;split at h
     ·rename_i bx n5;split at h
      ·rename_i l ay;split at h
       ·rename_i al;obtain⟨lP,lQ⟩:=al;simp at h;subst h;simp only [ar]at ac;obtain⟨dG,rfl,p,ab,gM,Es,rfl⟩:=ac;have vD:mx=none:=by cases mx<;>simp_all
        subst vD;have vE:jw=none:=by cases jw with|none=>rfl|some _=>exact n4.elim
        subst vE;obtain⟨eF,a7,ba,cC,eK,fJ,jx⟩:=sJ (P:=P) (mx:=none) (jw:=none) cU h4 trivial (Nat.le_refl n) (Nat.le_refl n) (m:=n) (by simp [eD]) n5 ay a1 false w;have iY:=eK rfl;subst iY;have cp:cw.size=1:= J;refine⟨.slice (some ((p.at a.idx a.fld).add (l*cw.size))) (bx-l) (eF-l),?_,?_⟩
        ·have bJ:¬eF=l:= J;simp [Instr.sliceAt,run_underlying hu,a7,ix ea,Instr.sureAddr,bJ]
        ·simp only [ar];refine⟨_,eF-l,rfl,J,Nat.le_refl _,.inr ⟨a.fld+l,rfl,p,ab,gM,Es,?_⟩⟩;rw [Place.mM,cp,Nat.mul_one]
       ·cases h
      ·cases h
     ·cases h
   ·cases h
  ·cases h
 ·rename_i d s az;obtain⟨gm,u,fC,hu,ap,hs, -⟩:=bt.get az;rw [ap]at h;split at h
  ·rename_i e;have:=mH e;subst this;split at h
   ·cases h
   ·rename_i iX;split at h
    ·rename_i bx n5;split at h
     ·rename_i l ay;simp at h;subst h;simp only [ar]at ac;obtain⟨aX,rfl,rfl⟩:=ac;rw [Array.length_toList]at n5;have vD:mx=none:=by cases mx<;>simp_all
      subst vD;have vE:jw=none:=by cases jw with|none=>rfl|some _=>exact n4.elim
      subst vE;obtain⟨eF,a7,ba,cC,eK,fJ,jx⟩:=sJ (P:=P) (mx:=none) (jw:=none) cU h4 trivial (Nat.le_refl aX.size) (Nat.le_refl aX.size) (m:=aX.size) (by simp [eD]) n5 ay a1 false w;refine⟨.string (aX.extract l bx),?_,by simp only [ar];exact⟨_,rfl,Eo _ _ _⟩⟩;simp [Instr.sliceAt,run_underlying hu,Instr.slice,a7]
     ·cases h
    ·cases h
  ·cases h
 ·cases h
theorem sL{w:World}{b o:Nat} :∀{l:List R},(∀j a8,l[j]? =some a8→ ∃x,w.cell? ⟨b,o+j,none⟩=some x∧ar φ a8 x∧x.oneCell'=true) →
 ∃vs,aT φ l vs∧w.rangeAt b o vs∧∀x∈vs,x.oneCell'=true
 |[],_=>⟨[],by simp [aT],by intro j v bg;simp at bg,a1⟩
 |a ::r,h=>by
  obtain⟨x,cp,dy⟩:=h 0 a a1
  have ih:=sL (w:=w) (b:=b) (o:=o+1) (l:=r) (fun j a8 aW=>by
   obtain⟨x,g1,g2⟩:=h (j+1) a8 (by simpa using aW)
   exact⟨x,by rw [show o+1+j=o+(j+1)by omega];exact g1,g2⟩)
  obtain⟨vs,i1,i2,i3⟩:=ih;refine⟨x::vs,by simp only [aT];exact⟨_,_,rfl,dy.1,i1⟩,?_,?_⟩
  ·intro j v bg;cases j with
   |zero=>simp at bg;subst bg;exact cp
   |succ j=>simp at bg;have:=i2 j v bg;rw [show o+(j+1)=o+1+j by omega];exact this
  ·intro y bi;rcases List.mem_cons.1 bi with rfl|bi
   ·exact dy.2
   ·exact i3 y bi
theorem bP.Et{aF:Nat→Prop}{h:I}{w:World}(r:bP φ aF h w){a:di}{dG:Addr}(aD:o' φ a dG){b:ai}(an:h.get a.id=some b){e:R}(he:b.elem? a.bf a.idx=some e) :
 ∃p,φ a.id a.bf=some p∧dG=p.at a.idx a.fld∧p.aE≤a.idx∧e.cells.length=p.es∧∀j a8,e.cells[j]? =some a8→ ∃x,w.cell? (p.at a.idx j)=some x∧ar φ a8 x∧x.oneCell'=true:=by
 obtain⟨p,ab,ey,cU,rfl⟩:=aD;obtain⟨aa,c,ae,aS,bj,cb,cS,dO,bC⟩:=r.b6 _ _ _ ab;rw [an]at ae;simp at ae;subst ae;unfold ai.elem? at he;split at he
 ·rename_i ay;obtain⟨db,c2,c3⟩:=bC.cont _ _ cU ay he;exact⟨p,ab,rfl,cU,db,c3⟩
 ·cases he
theorem zq{D:ci}(bt:D.dM P){aF:Nat→Prop}{h:I}{w:World}(r:bP φ aF h w){t:TypeId}{a:di}{a8:Value}{v:R}(ac:ar φ (.ptr (some a)) a8)(aj:bp D t a h=some v) :
 ∃aK,(Instr.loadAt t a8).run P w=.ok aK w∧ar φ v aK:=by
 unfold bp at aj;split at aj
 ·rename_i d b az an;obtain⟨gm,u,fC,hu,ap,hs, -⟩:=bt.get az;split at aj
  ·rename_i e he;simp only [ar]at ac;obtain⟨dG,rfl,kQ⟩:=ac;obtain⟨p,ab,rfl,cU,hlen,pf⟩:=r.Et kQ an he;rw [ap,hs]at aj;cases sM:(eS u).isAgg with
   |true =>
    rw [sM]at aj;simp only [gK,if_true]at aj;split at aj
    ·rename_i cs
     have key:∀(l:List R),(∀(j:Nat)(a8:R),l[j]? =some a8→cs[a.fld+j]? =some a8)→l.length=gm.size→ ∃aK,(Instr.loadAt t (.pointer (some (p.at a.idx a.fld)))).run P w=.ok aK w∧ar φ (.agg l) aK:=by
      intro l ay kR
      obtain⟨vs,sN,sO, -⟩:=sL (φ:=φ) (w:=w) (b:=p.br) (o:=p.off+(a.idx-p.aE)*p.es+a.fld) (l:=l) (fun j a8 aW=>by
       obtain⟨x,g1,g2⟩:=pf (a.fld+j) a8 (ay j a8 aW)
       exact⟨x,by rw [Place.at,←Nat.add_assoc]at g1;exact g1,g2⟩)
      refine⟨.agg vs.toArray,?_,by simp only [ar];exact⟨_,rfl,by simpa using sN⟩⟩;exact run_loadAt_mid w p.br _ t vs u sO hu (by cases u<;>simp [eS,kB.isAgg]at sM⊢) (by rw [fC];simp [sN.length,kR])
     split at aj
     ·rename_i al;simp at aj;subst aj;exact key cs (fun j a8 aW=>by rw [al.1,Nat.zero_add];exact aW) al.2.symm
     ·split at aj
      ·rename_i al;simp at aj;subst aj;refine key _ (fun j a8 aW=> ?_) (by simp;omega);rw [List.getElem?_take]at aW;split at aW
       ·rw [List.getElem?_drop]at aW;exact aW
       ·simp at aW
      ·cases aj
    ·cases aj
   |false =>
    rw [sM]at aj
    have key:∀(j:Nat)(y:R),e.cells[j]? =some y→a.fld=j→ ∃aK,(Instr.loadAt t (.pointer (some (p.at a.idx a.fld)))).run P w=.ok aK w∧ar φ y aK:=by intro j y bi aW;subst aW;obtain⟨x,g1,g2⟩:=pf a.fld y bi;refine⟨x,?_,g2.1⟩;simp only [Instr.loadAt,Instr.sureAddr,Sem.run_bind,Sem.run_pure,Result.andThen_ok,loadVar,n3 hu,sM];simp [g1]
    simp only [gK]at aj;cases e with
    |agg cs=>exact key a.fld v aj rfl
    |_ =>
     simp at aj;obtain⟨aM,rfl⟩:=aj;exact key 0 _ (by simp [R.cells]) aM
  ·cases aj
 ·cases aj
theorem ar.Eu{a:R}{v:Value}(h:ar φ a v)(hs:a.gZ=true):v.oneCell'=true:=by
 cases a with
 |undef=>cases hs
 |agg cs=>cases hs
 |tuple cs=>cases hs
 |bool b=>simp only [ar]at h;subst h;rfl
 |int k n=>simp only [ar]at h;subst h;rfl
 |str s=>simp only [ar]at h;obtain⟨_,rfl,_⟩:=h;rfl
 |ptr o=>cases o with
  |none=>simp only [ar]at h;subst h;rfl
  |some x=>simp only [ar]at h;obtain⟨_,rfl,_⟩:=h;rfl
 |slice o l c=>cases o with
  |none=>simp only [ar]at h;obtain⟨rfl,_⟩:=h;rfl
  |some x=>simp only [ar]at h;obtain⟨_,_,rfl,_⟩:=h;rfl
 |func fn f c=>simp only [ar]at h;obtain⟨_,_,rfl,_⟩:=h;rfl
 |nilFunc=>simp only [ar]at h;subst h;rfl
 |iface t x=>simp only [ar]at h;obtain⟨_,rfl,_⟩:=h;rfl
 |nilIface=>simp only [ar]at h;subst h;rfl
end
end
end Go.bh
namespace Go.bh
noncomputable section
open Go.RowKit
section
variable {P:Program}{φ:Map}
theorem vF{v:R}(h:v.gZ=true):v.cells=[v]:=by cases v<;>first|rfl|(simp [R.gZ]at h)
theorem n6{v:R}{kC:Bool}{size:Nat}(h:v.fits kC size=true):v.cells.length=size∧v≠ .undef∧∀c∈v.cells,c.gZ=true:=by cases v<;>simp [R.fits,R.cells,R.gZ]at h⊢ <;>first|exact h.2.symm|exact⟨h.1.2,h.2⟩|skip
theorem aT.one{l:List R}{t:List Value}(h:aT φ l t)(hs:∀c∈l,c.gZ=true):∀x∈t,x.oneCell'=true:=by
 intro x ac;obtain⟨i,ag,rfl⟩:=List.mem_iff_getElem.1 ac;have eI:i<l.length:=by rw [←h.length];exact ag
 obtain⟨v,bg,lH⟩:=h.get (List.getElem?_eq_getElem eI);rw [List.getElem?_eq_getElem ag]at bg;simp at bg;subst bg;exact lH.Eu (hs _ (List.getElem_mem _))
theorem Ev{D:ci}(bt:D.dM P){aF:Nat→Prop}{h af:I}{aN w:World}(r:bP φ aF h w)(b3:Safe aF aN w){t:TypeId}{a:di}{v:R}{a8 aK:Value}
 (ac:ar φ (.ptr (some a)) a8) (bg:ar φ v aK) (aj:ii D t a v h=some af) :
 ∃aL,(Instr.storeAt t a8 aK).run P w=.ok () aL∧bP φ aF af aL∧Safe aF aN aL∧af.U=h.U:=by
 unfold ii at aj;split at aj
 ·rename_i d b az an;obtain⟨gm,u,fC,hu,ap,hs, -⟩:=bt.get az;split at aj
  ·rename_i al;simp only [Bool.and_eq_true,Bool.not_eq_true',beq_iff_eq]at al;obtain⟨⟨vG,cT⟩,kS⟩:=al;split at aj
   ·rename_i e he;split at aj
    ·rename_i cn gF;simp at aj;subst aj;simp only [ar]at ac;obtain⟨dG,rfl,p,ab,ey,cU,rfl⟩:=ac;rw [kS]at ab;obtain⟨f1,f2,f3⟩:=n6 vG;have d':=bg.cells f2;have hz:=d'.one f3;obtain⟨aa,c,ae,aS,bj,cb,cS,dO,bC⟩:=r.b6 _ _ _ ab;rw [an]at ae;simp at ae;subst ae;have n1:a.idx<b.bc.length:=(List.getElem?_eq_some_iff.1 he).1;obtain⟨db,c2,c3⟩:=bC.cont a.idx e cU (by simp [ai.bL];exact n1) he
     have zr:a.fld+v.cells.length≤p.es∧cn.cells=gx e.cells a.fld v.cells:=by
      unfold o6 at gF;split at gF
      ·rename_i cs;split at gF
       ·rename_i hle;simp at gF;subst gF;simp only [R.cells]at db;exact⟨J,rfl⟩
       ·cases gF
      ·rename_i bJ;split at gF
       ·rename_i al;simp at gF;subst gF;have bk:e.cells=[e]:=by cases e<;>first|rfl|exact absurd rfl (bJ _)
        rw [bk]at db⊢;have bV:=vF al.2;rw [al.1,bV];simp at db;exact⟨by simp;omega,rfl⟩
       ·cases gF
     obtain⟨a7,ba⟩:=r.store ab an cT cU he d' hz zr.1 zr.2;refine⟨_,?_,a7,?_,rfl⟩
     ·have dC:aK.cells.size=gm.size:=by have:=d'.length;rw [Array.length_toList]at this;omega
      have hD:=run_storeCells_cells (P:=P) p.br (p.off+(a.idx-p.aE)*p.es+a.fld) aK.cells.toList 0 w (fun j aW=>by simpa using (ba j aW).1) (fun j aW=>by simpa using (ba j aW).2) hz;simp only [Nat.add_zero]at hD;simp only [Instr.storeAt,Instr.sureAddr,Sem.run_bind,Sem.run_pure,Result.andThen_ok,storeVar,ix fC,dC,Place.at];simp only [ne_eq,not_true_eq_false,if_false];exact hD
     ·exact qG _ (bC.base (cS cT)) _ _ b3
    ·cases aj
   ·cases aj
  ·cases aj
 ·cases aj
theorem Ew(v:R):flat [v]=v.cells:=by simp [flat]
theorem zt{D:ci}{aF:Nat→Prop}{h:I}{aN w:World}(r:bP φ aF h w)(b3:Safe aF aN w)(ck:dq aF aN.heap.size){nid:Nat}(hid:∀v,φ nid v=none)(aI:nid<h.U)(t:TypeId){v:R}{aK:Value}{kC:Bool}{size:Nat}
 (bg:ar φ v aK) (vG:v.fits kC size=true) (lN:0<size) :
 ∃aL aZ,(newVar t aK).run P w=.ok ⟨w.heap.size,0,none⟩ aL∧e6 φ aZ h.U nid∧ar aZ (.ptr (some ⟨nid,0,0,0,size⟩)) (.pointer (some ⟨w.heap.size,0,none⟩))
  ∧bP aZ aF (h.set nid (.aq [v] size true (some (t,size)))) aL∧Safe aF aN aL:=by
 obtain⟨f1,f2,f3⟩:=n6 vG;have d':=bg.cells f2;have hz:=d'.one f3;have hlen:aK.cells.toList.length=size:=by rw [d'.length,f1]
 have fZ:dq aF w.heap.size:=ck.le b3.size;refine⟨w.alloc (.cells aK.cells t),φ.add nid 0 ⟨w.heap.size,0,0,size,1,true,false⟩,rfl,e6.add φ _ (hid 0) _,?_,?_,b3.alloc fZ _⟩
 ·simp only [ar];refine⟨_,rfl,_,Map.sv _ _ _ _,rfl,Nat.le_refl _,?_⟩;simp [Place.at]
 ·refine r.aq hid aI fZ lN (by intro e he;simp at he;subst he;exact f1) ?_ ?_ a1 ?_ (fun q h=>by cases h;exact⟨rfl,fun _=>by rw [←Array.length_toList,hlen]⟩)
  ·rw [Ew,List.take_of_length_le (by simp [hlen])];exact d'
  ·rw [←Array.length_toList,hlen];omega
  ·intro x ac;exact hz x (List.mem_of_mem_take ac)
def qO(l:List Value)(i:Nat):List Value→List Value
 |[]=>l
 |v::vs=>qO (l.set i v) (i+1) vs
theorem aT.put{l m:List R}{t u:List Value}(h:aT φ l t)(k:aT φ m u)(i:Nat):aT φ (bh.gx l i m) (qO t i u):=by
 induction m generalizing l t u i with
 |nil=>simp only [aT]at k;subst k;exact h
 |cons a r ih =>
  simp only [aT]at k;obtain⟨v,pi,rfl,aa,ae⟩:=k;exact ih (h.set i aa) ae (i+1)
theorem zu:∀(vs:List Value)(off k:Nat)(cells:Array Value),((vs.zipIdx k).foldl (fun cs (x:Value×Nat)=>cs.setIfInBounds (off+x.2) x.1) cells).toList=qO cells.toList (off+k) vs
 |[],off,k,cells=>rfl
 |v::vs,off,k,cells=>by simp only [List.zipIdx_cons,List.foldl_cons,qO];rw [zu vs off (k+1),Array.toList_setIfInBounds,Nat.add_assoc]
theorem zv(vs:Array Value)(off:Nat)(cells:Array Value):(vs.zipIdx.foldl (fun cs (x:Value×Nat)=>cs.setIfInBounds (off+x.2) x.1) cells).toList=qO cells.toList off vs.toList:=by rw [←Array.foldl_toList,Array.toList_zipIdx];exact zu vs.toList off 0 cells
theorem vH{place sP:Nat→Option (Nat×Nat)}(ab:∀i x,place i=some x→sP i=some x):∀{parts:List (Nat×R)} {n7:List (Nat×Value)} {l ct:List R} {cells:Array Value},
 (parts.map (·.1)=n7.map (·.1))→aT φ (parts.map (·.2)) (n7.map (·.2))→aT φ l cells.toList→o8 place l parts=some ct →
 ∃hE,Instr.fill sP cells n7=some hE∧aT φ ct hE.toList
 |[],[],l,ct,cells,_,_,ay,h=>by simp [o8]at h;subst h;exact⟨cells,rfl,ay⟩
 |[],_::_,_,_,_,h,_,_,_=>by simp at h
 |_::_,[],_,_,_,h,_,_,_=>by simp at h
 |(i, v)::rest,(dj,aK)::Ex,l,ct,cells,aa,ae,ay,h=>by
  simp at aa;obtain⟨rfl,aa⟩:=aa;simp only [List.map_cons,aT]at ae;obtain⟨u,t,e,bg,ae⟩:=ae;simp at e;obtain⟨rfl,rfl⟩:=e;simp only [o8]at h;split at h
  ·cases h
  ·rename_i off size pj;split at h
   ·rename_i al;have d':=bg.cells (by rintro rfl;simp [R.known]at al);have dC:aK.cells.size=size:=by have:=d'.length;rw [Array.length_toList]at this;omega
    have fK:cells.size=l.length:=by have:=ay.length;rw [Array.length_toList]at this;omega
    have key:=vH ab aa ae (l:=gx l off v.cells) (cells:=aK.cells.zipIdx.foldl (fun cs (x:Value×Nat)=>cs.setIfInBounds (off+x.2) x.1) cells)
     (by rw [zv];exact ay.put d' off) h
    obtain⟨hE,a7,ba⟩:=key;refine⟨hE,?_,ba⟩;simp only [Instr.fill,ab _ _ pj];split
    ·rename_i vI;exfalso;simp only [ne_eq,Bool.or_eq_true,decide_eq_true_eq]at vI;omega
    ·exact a7
   ·cases h
theorem vJ(parts:Array (Nat×Operand))(ρ:Operand→R)(cq:Operand→Value) :
 (parts.toList.map fun p=>(p.1,ρ p.2)).map (·.1)=((parts.map fun(i,x)=>(i,cq x)).toList).map (·.1):=by
 simp only [Array.toList_map,List.map_map];rfl
theorem vK{ρ:Operand→R}{cq:Operand→Value}(bN:∀x,ar φ (ρ x) (cq x))(parts:Array (Nat×Operand)) :
 aT φ ((parts.toList.map fun p=>(p.1,ρ p.2)).map (·.2)) (((parts.map fun(i,x)=>(i,cq x)).toList).map (·.2)):=by
 simp only [Array.toList_map,List.map_map];exact aT.map _ _ _ fun x _=>bN x.2
theorem pk{D:ci}(bt:D.dM P){t:TypeId}{d:nS}{i:TypeInfo}{z:R}(h:d.zero=i.zero.map mv)(ds:d.zero=some z):∃dF,i.zero=some dF∧ar φ z dF:=by
 rw [ds]at h;cases ag:i.zero with
 |none=>rw [ag]at h;cases h
 |some dF=>rw [ag]at h;simp at h;subst h;exact⟨dF,rfl,y3 φ dF⟩
theorem Ey{fs:Array Field}{w:World}{g:Field→Nat}(ah:∀f∈fs.toList,(sizeOf f.type).run P w=.ok (g f) w) :
 ((fs.mapM fun f=>(do pure (f.offset,←sizeOf f.type):Sem (Nat×Nat)))).run P w=.ok (fs.map fun f=>(f.offset,g f)) w:=by
 have key:∀(l:List Field),(∀f∈l,(sizeOf f.type).run P w=.ok (g f) w)→(l.mapM fun f=>(do pure (f.offset,←sizeOf f.type):Sem (Nat×Nat))).run P w=.ok (l.map fun f=>(f.offset,g f)) w:=by
  intro l;induction l with
  |nil=>intro _;rfl
  |cons f r ih =>
   intro h;simp only [List.mapM_cons,Sem.run_bind,h f a1,Result.andThen_ok,Sem.run_pure,ih (fun f aM=>h f (by simp [aM])),List.map_cons]
 have:=key fs.toList ah;rw [←Array.toArray_toList (xs:=fs)];simp only [List.mapM_toArray,Sem.run_map,this,Result.andThen_ok,List.map_toArray]
theorem Ez{D:ci}(bt:D.dM P){t:TypeId}{parts:Array (Nat×Operand)}{ρ:Operand→R}{cq:Operand→Value}(bN:∀x,ar φ (ρ x) (cq x)){v:R}
 (h:u5 D t (parts.toList.map fun p=>(p.1,ρ p.2))=some v) (w:World) :
 ∃aK,(Instr.build t (parts.map fun(i,x)=>(i,cq x))).run P w=.ok aK w∧ar φ v aK:=by
 unfold u5 at h;split at h
 ·rename_i d az;obtain⟨gm,u,fC,hu,ap,hs, -,ds⟩:=bt.get az;split at h
  ·rename_i fs z cW vL;split at h
   ·rename_i n8;rw [ap]at cW;obtain⟨hC,rfl,j0⟩:=sB cW;obtain⟨dF,iZ,j3⟩:=pk (P:=P) (φ:=φ) (t:=t) bt ds vL;simp only [Option.map_eq_some_iff]at h;obtain⟨cells,al,rfl⟩:=h
    have dC:∀f∈hC.toList,∃x,D f.type=some x:=by intro f aM;have vM:=n8.2;unfold y1 at vM;rw [j0,List.all_eq_true]at vM;have:=vM (f.offset,f.type) (List.mem_map.2 ⟨f,aM,rfl⟩);exact Option.isSome_iff_exists.1 this
    have hD:=Ey (P:=P) (w:=w) (fs:=hC) (g:=fun f=>((D f.type).map (·.size)).getD 0) (fun f aM=>by
     obtain⟨x,ac⟩:=dC f aM;obtain⟨cw,kP,ea, -, -,dd, -⟩:=bt.get ac
     rw [ix ea,ac];simp [dd])
    have vN:z≠ .undef:=by rintro rfl;simp [R.known]at n8
    obtain⟨hE,a7,ba⟩:=vH (φ:=φ) (sP:=fun i=>(hC.map fun f=>(f.offset,((D f.type).map (·.size)).getD 0))[i]?) (fun i x ac=>by
     split at ac
     ·rename_i off mz aM;simp only [Option.map_eq_some_iff]at ac;obtain⟨y,bi,rfl⟩:=ac;rw [j0]at aM;simp only [List.getElem?_map,Option.map_eq_some_iff]at aM;obtain⟨pg,mL,he⟩:=aM;simp at he;obtain⟨rfl,rfl⟩:=he;have qM:hC[i]? =some pg:=by simpa using mL
      simp [qM,bi]
     ·cases ac) (vJ parts ρ cq) (vK bN parts) (j3.cells vN) al
    refine⟨.agg hE,?_,by simp only [ar];exact⟨_,rfl,ba⟩⟩;simp only [Instr.build,Sem.run_bind,qI fC iZ,Result.andThen_ok,run_underlying hu,hD,a7,Sem.run_pure]
   ·cases h
  ·rename_i n e z cW vL;split at h
   ·rename_i bM dP;split at h
    ·rename_i n8;rw [ap]at cW;have:=pe cW;subst this;obtain⟨dF,iZ,j3⟩:=pk (P:=P) (φ:=φ) (t:=t) bt ds vL;obtain⟨cw,kP,ea, -, -,dd, -⟩:=bt.get dP;simp only [Option.map_eq_some_iff]at h;obtain⟨cells,al,rfl⟩:=h;have vN:z≠ .undef:=by rintro rfl;simp [R.known]at n8
     obtain⟨hE,a7,ba⟩:=vH (φ:=φ) (sP:=fun i=>some (i*cw.size,cw.size)) (fun i x ac=>by rw [←dd];exact ac) (vJ parts ρ cq) (vK bN parts) (j3.cells vN) al;refine⟨.agg hE,?_,by simp only [ar];exact⟨_,rfl,ba⟩⟩;simp only [Instr.build,Sem.run_bind,qI fC iZ,Result.andThen_ok,run_underlying hu,ix ea,a7,Sem.run_pure]
    ·cases h
   ·cases h
  ·cases h
 ·cases h
end
end
end Go.bh
namespace Go.bh
noncomputable section
open Go.RowKit
section
variable {P:Program}{φ:Map}
def lR(P:Program)(φ:Map)(aF:Nat→Prop)(aN:World)(h:I)(nid:Nat)(v:R)(af:I)(s:Sem Value)(w:World):Prop :=
 ∃aK aL aZ,s.run P w=.ok aK aL∧e6 φ aZ h.U nid∧ar aZ v aK∧bP aZ aF af aL∧Safe aF aN aL∧af.U=h.U
theorem lR.pure{aF:Nat→Prop}{aN:World}{h:I}{nid:Nat}{v:R}{s:Sem Value}{w:World}(r:bP φ aF h w)(an:Safe aF aN w)(k:∃aK,s.run P w=.ok aK w∧ar φ v aK):lR P φ aF aN h nid v h s w :=
 let ⟨aK,aa,ae⟩:=k;⟨aK,w,φ,aa,e6.refl _ _ _,ae,r,an,rfl⟩
theorem EA(zs:Array Value)(i:Nat)(h:i<zs.size):zs[i]! =zs[i]:=by simp [getElem!_pos,h]
theorem zw{z:R}{dF:Value}{es:Nat}(ds:ar φ z dF)(ap:z≠ .undef)(hlen:z.cells.length=es)(ey:0<es)(n:Nat) :
 aT φ (flat (List.replicate n z)) ((Array.range (n*es)).map (fun i=>dF.cells[i%dF.cells.size]!)).toList:=by
 have al:=ds.cells ap;have dC:dF.cells.size=es:=by have:=al.length;rw [Array.length_toList]at this;omega
 have fW:∀e∈List.replicate n z,e.cells.length=es:=by intro e he;rw [List.eq_of_mem_replicate he];exact hlen
 refine aT.iV (by rw [io fW];simp) fun i a v aD bg=> ?_
 have ag:i<(flat (List.replicate n z)).length:=(List.getElem?_eq_some_iff.1 aD).1;obtain⟨q,j,e,rfl,he,aW⟩:=sy fW i ag;have EB:e=z:=List.eq_of_mem_replicate (List.mem_of_getElem? he);subst EB;have qP:e.cells[j]? =some (e.cells[j]' J):=List.getElem?_eq_getElem _;have aM:=kH fW he qP;rw [aM]at aD;simp at aD;subst aD;have EC:(q*es+j)%es=j:=by rw [Nat.add_comm,Nat.add_mul_mod_self_right];exact Nat.mod_eq_of_lt aW
 have c1:q*es+j<n*es:=by rw [io fW]at ag;simpa using ag
 obtain⟨u,hu,vg⟩:=al.get qP
 have ED:dF.cells[j]' J =u:=by have:=(List.getElem?_eq_some_iff.1 hu).2;simpa using this
 simp only [Array.toList_map,Array.toList_range,List.getElem?_map,List.getElem?_range c1,Option.map_some,Option.some.injEq]at bg;rw [dC,EC,EA _ _ J,ED]at bg;subst bg;exact vg
theorem zx:∀{parts:List (Nat×R)} {l ct:List R},jU l parts=some ct→ct.length=l.length
 |[],l,ct,h=>by simp [jU]at h;subst h;rfl
 |(i,v)::r,l,ct,h=>by
  simp only [jU]at h;split at h
  ·rw [zx h];simp
  ·cases h
theorem EE{es:Nat} :∀{l:List R}(ay:∀e∈l,e.cells.length=es){i:Nat}{v:R},i<l.length→v.cells.length=es→flat (l.set i v)=gx (flat l) (i*es) v.cells:=by
 intro l ay i v ag bg
 have pn:∀e∈l.set i v,e.cells.length=es:=by
  intro e he;rcases List.mem_or_eq_of_mem_set he with h|h
  ·exact ay e h
  ·rw [h];exact bg
 apply List.ext_getElem?;intro k;rw [sw];by_cases ap:k<(flat (l.set i v)).length
 ·obtain⟨q,j,e,rfl,he,aW⟩:=sy pn k ap;have EF:e.cells.length=es:=pn e (List.mem_of_getElem? he);rw [kH pn he (List.getElem?_eq_getElem (by omega:j<e.cells.length))];have lJ:q*es+j<(flat l).length:=by rw [io ay];rw [io pn,List.length_set]at ap;exact ap
  by_cases zy:i=q
  ·subst zy;rw [List.getElem?_set_self ag]at he;simp at he;subst he;rw [if_pos ⟨J,by rw [bg];omega,lJ⟩,show i*es+j-i*es=j by omega,List.getElem?_eq_getElem J]
  ·rw [List.getElem?_set_ne zy]at he;rw [if_neg]
   ·rw [kH ay he (List.getElem?_eq_getElem (by omega:j<e.cells.length))]
   ·intro al;rcases Nat.lt_or_ge q i with c1|fI
    ·have:=pd (i:=q) (k:=i) (j:=j) (es:=es) c1 aW;omega
    ·have:=pd (i:=i) (k:=q) (j:=es-1) (es:=es) J J ;omega
 ·rw [List.getElem?_eq_none J,if_neg (by rw [io pn,List.length_set]at ap;rw [io ay];omega),List.getElem?_eq_none (by rw [io ay];rw [io pn,List.length_set]at ap;omega)]
theorem zz{es:Nat} :∀{parts:List (Nat×R)} {n7:List (Nat×Value)} {l ct:List R} {cells:Array Value},
 (parts.map (·.1)=n7.map (·.1))→aT φ (parts.map (·.2)) (n7.map (·.2))→(∀p∈parts,p.2≠ .undef∧p.2.cells.length=es)→(∀e∈l,e.cells.length=es)→aT φ (flat l) cells.toList→jU l parts=some ct →
 ∃hE,Instr.fill (fun i=>some (i*es,es)) cells n7=some hE∧aT φ (flat ct) hE.toList∧(∀e∈ct,e.cells.length=es)
 |[],[],l,ct,cells,_,_,_,mG,ay,h=>by simp [jU]at h;subst h;exact⟨cells,rfl,ay,mG⟩
 |[],_::_,_,_,_,h,_,_,_,_,_=>by simp at h
 |_::_,[],_,_,_,h,_,_,_,_,_=>by simp at h
 |(i, v)::rest,(dj,aK)::Ex,l,ct,cells,aa,ae,aS,mG,ay,h=>by
  simp at aa;obtain⟨rfl,aa⟩:=aa;simp only [List.map_cons,aT]at ae;obtain⟨u,t,e,bg,ae⟩:=ae;simp at e;obtain⟨rfl,rfl⟩:=e;simp only [jU]at h;split at h
  ·rename_i ag;obtain⟨EG,iu⟩:v≠ .undef∧v.cells.length=es:=aS (i,v) a1;have d':=bg.cells EG;have dC:aK.cells.size=es:=by have:=d'.length;rw [Array.length_toList]at this;omega
   have fK:cells.size=l.length*es:=by have:=ay.length;rw [Array.length_toList,io mG]at this;omega
   have hle:i*es+es≤l.length*es:=by have:=Nat.mul_le_mul_right es (show i+1≤l.length by omega);rw [Nat.succ_mul]at this;exact this
   have key:=zz aa ae (fun p c6=>aS p (by simp [c6])) (l:=l.set i v) (cells:=aK.cells.zipIdx.foldl (fun cs (x:Value×Nat)=>cs.setIfInBounds (i*es+x.2) x.1) cells)
    (by
     intro e he;rcases List.mem_or_eq_of_mem_set he with h|h
     ·exact mG e h
     ·rw [h];exact iu)
    (by rw [zv,EE mG ag iu];exact ay.put d' _) h
   obtain⟨hE,a7,ba,cC⟩:=key;refine⟨hE,?_,ba,cC⟩;simp only [Instr.fill];split
   ·rename_i vI;exfalso;simp only [ne_eq,Bool.or_eq_true,decide_eq_true_eq]at vI;omega
   ·exact a7
  ·cases h
theorem zA{l:List R}{kC:Bool}{es:Nat}(h:∀e∈l,e.fits kC es=true):∀c∈flat l,c.gZ=true:=by intro c al;obtain⟨e,he,EH⟩:=List.mem_flatMap.1 al;exact(n6 (h e he)).2.2 c EH
theorem zB(t:TypeId)(c:Array Value)(w:World):(newRow t c).run P w=.ok ⟨w.heap.size,0,none⟩ (w.alloc (.cells c t)):=rfl
theorem ar.gL{φ:Map}{nid b es len cap tot:Nat}{ex:Bool}{b0:Nat}(zp:len≤cap)(b7:cap≤b0)(bz:b0≤tot)(hex:ex=true→b0=cap) :
 ar (φ.add nid 0 ⟨b,0,0,es,tot,ex,false⟩) (gL nid es len cap) (.slice (some ⟨b,0,none⟩) len b0):=by
 simp only [bh.gL,ar];refine⟨_,_,rfl,zp,b7,.inl ⟨rfl,_,Map.sv _ _ _ _,rfl,.inr ⟨Nat.le_refl _,?_,by simpa using bz⟩,hex⟩⟩;simp [Place.at]
theorem EI{D:ci}(bt:D.dM P){aF:Nat→Prop}{h af:I}{aN w:World}(r:bP φ aF h w)(b3:Safe aF aN w)(ck:dq aF aN.heap.size){nid:Nat}(hid:∀v,φ nid v=none)(aI:nid<h.U)
 {t:TypeId} {n:Nat} {parts:Array (Nat×Operand)} {ρ:Operand→R} {cq:Operand→Value} (bN:∀x,ar φ (ρ x) (cq x)) {v:R}
 (aj:ij D t n (parts.toList.map fun p=>(p.1,ρ p.2)) nid h=some (v,af)) :
 lR P φ aF aN h nid v af (Instr.buildSlice t n (parts.map fun(i,x)=>(i,cq x))) w:=by
 unfold ij at aj;split at aj
 ·rename_i d az;obtain⟨gm,u,fC,hu,ap,hs, -, -⟩:=bt.get az;split at aj
  ·rename_i e cW;rw [ap]at cW;have:=iw cW;subst this;split at aj
   ·rename_i bM dP;obtain⟨cw,kP,ea, -, -,dd, -,qQ⟩:=bt.get dP;split at aj
    ·rename_i z ds;obtain⟨dF,iZ,j3⟩:=pk (P:=P) (φ:=φ) (t:=e) bt qQ ds;split at aj
     ·rename_i al;obtain⟨lP,lQ,qR,mO⟩:=al;split at aj
      ·rename_i l ay;simp at aj;obtain⟨rfl,rfl⟩:=aj;obtain⟨f1,f2,f3⟩:=n6 qR;have lN:0<cw.size:= J;have vO:∀e∈List.replicate n z,e.fits bM.kind.isAgg bM.size=true:=by intro e he;rw [List.eq_of_mem_replicate he];exact qR
       have EJ:∀e∈l,e.fits bM.kind.isAgg bM.size=true:=by
        have key:∀(parts:List (Nat×R)) (m eF:List R),(∀p∈parts,p.2.fits bM.kind.isAgg bM.size=true)→(∀e∈m,e.fits bM.kind.isAgg bM.size=true)→jU m parts=some eF→ ∀e∈eF,e.fits bM.kind.isAgg bM.size=true:=by
         intro parts;induction parts with
         |nil=>intro m eF _ hm hs;simp [jU]at hs;subst hs;exact hm
         |cons p r ih =>
          obtain⟨i,v⟩:=p;intro m eF ab hm hs;simp only [jU]at hs;split at hs
          ·refine ih (m.set i v) eF (fun p c6=>ab p (by simp [c6])) ?_ hs;intro e he;rcases List.mem_or_eq_of_mem_set he with h|h
           ·exact hm e h
           ·rw [h];exact ab (i,v) a1
          ·cases hs
        exact key _ _ _ (fun p ab=>List.all_eq_true.1 mO p ab) vO ay
       obtain⟨hE,a7,ba,cC⟩:=zz (φ:=φ) (es:=cw.size) (vJ parts ρ cq) (vK bN parts)
        (fun p ab=>by have:=n6 (List.all_eq_true.1 mO p ab);exact⟨this.2.1,J⟩)
        (by intro e he;rw [List.eq_of_mem_replicate he];omega)
        (zw j3 f2 (by omega:z.cells.length=cw.size) lN n) ay
       have kR:l.length=n:=by rw [zx ay];simp
       have fZ:dq aF w.heap.size:=ck.le b3.size;have j0:(flat l).length=n*cw.size:=by rw [io cC,kR]
       have fK:hE.size=n*cw.size:=by have:=ba.length;rw [Array.length_toList]at this;omega
       refine⟨.slice (some ⟨w.heap.size,0,none⟩) n n,w.alloc (.cells hE e),φ.add nid 0 ⟨w.heap.size,0,0,bM.size,n,true,false⟩,?_,e6.add φ _ (hid 0) _,ar.gL (Nat.le_refl _) (Nat.le_refl _) (Nat.le_refl _) (fun _=>rfl),?_,b3.alloc fZ _,rfl⟩
       ·have hle:¬n*cw.size>2^24:=by rw [←dd];omega
        simp only [Instr.buildSlice,Sem.run_bind,run_underlying hu,Result.andThen_ok,ix ea];rw [if_neg hle];by_cases jy:n*cw.size=0
        ·have EK:n=0:=by rcases Nat.mul_eq_zero.1 jy with h|h<;>omega
         subst EK;simp only [Nat.zero_mul,if_true,Sem.run_bind,Sem.run_pure,Result.andThen_ok]at a7⊢;have e0:(Array.range 0).map (fun i=>(#[]:Array Value)[i%(#[]:Array Value).size]!)=(Array.range 0).map (fun i=>dF.cells[i%dF.cells.size]!):= a1;rw [e0,a7];rfl
        ·rw [if_neg jy];simp only [Sem.run_bind,qI ea iZ,Result.andThen_ok,Sem.run_pure,a7];rfl
       ·refine r.aq hid aI fZ lQ (by intro e he;rw [cC e he,dd]) ?_ (by rw [fK,dd];exact Nat.le_refl _) J ?_ nofun
        ·rw [List.take_of_length_le (by rw [Array.length_toList,fK,kR,dd];exact Nat.le_refl _)];exact ba
        ·intro x ac;exact ba.one (zA EJ) x (List.mem_of_mem_take ac)
      ·cases aj
     ·cases aj
    ·cases aj
   ·cases aj
  ·cases aj
 ·cases aj
theorem zC{k:IntKind}{n:Int}(h:0≤n)(ae:n<2^62)(ap:k=.i64):k.wrap n=n:=by subst ap;have e:(2:Int)^62=4611686018427387904:= cg;exact IntWalk.i64_in _ J
theorem EL{D:ci}(bt:D.dM P){aF:Nat→Prop}{h af:I}{aN w:World}(r:bP φ aF h w)(b3:Safe aF aN w)(ck:dq aF aN.heap.size){nid:Nat}(hid:∀v,φ nid v=none)(aI:nid<h.U)
 {t:TypeId} {x y v:R} {a8 eJ:Value} (ac:ar φ x a8) (bi:ar φ y eJ) (aj:qy D t x y nid h=some (v,af)) :
 lR P φ aF aN h nid v af (Instr.makeSlice t a8 eJ) w:=by
 unfold qy at aj;split at aj
 ·rename_i d a7 l ba c az;simp only [ar]at ac bi;subst ac bi;obtain⟨gm,u,fC,hu,ap,hs, -, -⟩:=bt.get az;split at aj
  ·rename_i e cW;rw [ap]at cW;have:=iw cW;subst this;split at aj
   ·rename_i bM dP;obtain⟨cw,kP,ea, -, -,dd,vP,qQ⟩:=bt.get dP;split at aj
    ·rename_i z ds;obtain⟨dF,iZ,j3⟩:=pk (P:=P) (φ:=φ) (t:=e) bt qQ ds;split at aj
     ·rename_i al;obtain⟨lP,lQ,qR,mO,EM,zD⟩:=al;simp at aj;obtain⟨rfl,rfl⟩:=aj;obtain⟨f1,f2,f3⟩:=n6 zD;have lN:0<cw.size:= J;have fZ:dq aF w.heap.size:=ck.le b3.size;have zE:IntKind.i64.wrap l=l:=zC lP J rfl;have EN:IntKind.i64.wrap c=c:=zC J qR rfl;have zF:=zw j3 f2 (by omega:z.cells.length=cw.size) lN c.toNat;have vO:∀e∈List.replicate c.toNat z,e.fits bM.kind.isAgg bM.size=true:=by intro e he;rw [List.eq_of_mem_replicate he];exact zD
      have fW:∀e∈List.replicate c.toNat z,e.cells.length=cw.size:=by intro e he;rw [List.eq_of_mem_replicate he];omega
      refine⟨.slice (some ⟨w.heap.size,0,none⟩) l.toNat c.toNat,w.alloc (.cells ((Array.range (c.toNat*cw.size)).map (fun i=>dF.cells[i%dF.cells.size]!)) e),
       φ.add nid 0 ⟨w.heap.size,0,0,bM.size,c.toNat,true,false⟩,?_,e6.add φ _ (hid 0) _,ar.gL J (Nat.le_refl _) (Nat.le_refl _) (fun _=>rfl),?_,b3.alloc fZ _,rfl⟩
      ·have b7:¬c<0:= J;have kR:¬l<0:= J;have M2:¬l>c:= J;have qS:¬((cw.bytes:Int)*c>2^48):=by rw [←vP];omega
       simp only [Instr.makeSlice,Sem.run_bind,run_underlying hu,Result.andThen_ok,asInt,asIntOf,Sem.run_pure,D1 ea,zE,EN];rw [if_neg (by simp only [Bool.or_eq_true,decide_eq_true_eq];omega)];simp only [Sem.run_bind,Sem.run_pure,run_askRoom,Result.andThen_ok,ix ea];by_cases jy:c.toNat*cw.size=0
       ·have e0:c.toNat*cw.size=0:=jy;rw [if_pos jy];have bk:Array.range 0= #[]:=rfl;simp only [Sem.run_bind,Sem.run_pure,Result.andThen_ok,e0,zB,bk];simp
       ·rw [if_neg jy];simp only [Sem.run_bind,qI ea iZ,Result.andThen_ok,Sem.run_pure,zB]
      ·refine r.aq hid aI fZ EM (by intro e he;rw [fW e he,dd]) ?_ (by rw [dd];simp) a1 ?_ nofun
       ·rw [List.take_of_length_le (by simp [dd])];exact zF
       ·intro x ac;exact zF.one (zA vO) x (List.mem_of_mem_take ac)
     ·cases aj
    ·cases aj
   ·cases aj
  ·cases aj
 ·cases aj
theorem EO{D:ci}(bt:D.dM P){t:TypeId}{x v:R}{xs:Array Value}{ts:Array TypeId}(ty:TypeId)(ac:aT φ [x] xs.toList)(bz:ts[0]? =some t)(h:u' D t x=some v)(w:World) :
 ∃aK,(Builtin.len_ ts ty xs).run P w=.ok aK w∧ar φ v aK:=by
 simp only [aT]at ac;obtain⟨a8,l,e,ac,ay⟩:=ac;have qT:xs[0]? =some a8:=by rw [←Array.getElem?_toList,e];rfl
 unfold u' at h;split at h
 ·rename_i d a n c az;obtain⟨gm,u,fC,hu,ap, -⟩:=bt.get az;split at h
  ·rename_i e cW;rw [ap]at cW;have:=iw cW;subst this;simp at h;subst h;refine⟨.int .i64 n,?_,by simp only [ar]⟩
   have:∃bD dm,a8=.slice bD n dm:=by
    cases a with
    |none=>simp only [ar]at ac;obtain⟨rfl,rfl,rfl⟩:=ac;exact⟨_,_,rfl⟩
    |some a=>simp only [ar]at ac;obtain⟨_,_,rfl,_⟩:=ac;exact⟨_,_,rfl⟩
   obtain⟨bD,dm,rfl⟩:=this;simp [Builtin.len_,bz,qT,run_underlying hu,goInt]
  ·cases h
 ·rename_i d s az;obtain⟨gm,u,fC,hu,ap, -⟩:=bt.get az;split at h
  ·rename_i cW;rw [ap]at cW;have:=mH cW;subst this;simp at h;subst h;simp only [ar]at ac;obtain⟨aX,rfl,rfl⟩:=ac;refine⟨.int .i64 aX.size,?_,by simp only [ar];rfl⟩;simp [Builtin.len_,bz,qT,run_underlying hu,goInt]
  ·cases h
 ·rename_i d az _ _;obtain⟨gm,u,fC,hu,ap, -⟩:=bt.get az;split at h
  ·rename_i n e cW;rw [ap]at cW;have:=pe cW;subst this;simp at h;subst h;refine⟨.int .i64 n,?_,by simp only [ar]⟩;simp [Builtin.len_,bz,qT,run_underlying hu,goInt]
  ·cases h
 ·cases h
end
end
end Go.bh
namespace Go.bh
noncomputable section
open Go.RowKit
section
variable {P:Program}{φ:Map}
theorem bP.vQ{aF:Nat→Prop}{h:I}{w:World}(r:bP φ aF h w){id bf:Nat}{p:Place}(ab:φ id bf=some p){b:ai}(an:h.get id=some b){idx len:Nat}
 (cU:p.aE≤idx) (ay:idx+len≤b.bL bf) (hle:idx+len≤b.bc.length) :
 ∃news,aT φ (flat ((b.bc.drop idx).take len)) news∧w.rangeAt p.br (p.off+(idx-p.aE)*p.es) news∧(∀x∈news,x.oneCell'=true)∧(∀e∈(b.bc.drop idx).take len,e.cells.length=p.es)∧news.length=len*p.es:=by
 obtain⟨aa,c,ae,aS,bj,cb,cS,dO,bC⟩:=r.b6 _ _ _ ab;rw [an]at ae;simp at ae;subst ae
 have fo:∀(i:Nat)(e:R),((b.bc.drop idx).take len)[i]? =some e→i<len∧b.bc[idx+i]? =some e:=by
  intro i e he;rw [List.getElem?_take]at he;split at he
  ·rw [List.getElem?_drop]at he;exact⟨by assumption,he⟩
  ·simp at he
 have fW:∀e∈(b.bc.drop idx).take len,e.cells.length=p.es:=by intro e he;obtain⟨i,ag⟩:=List.getElem?_of_mem he;obtain⟨g1,g2⟩:=fo i e ag;exact(bC.cont (idx+i) e J J g2).1
 obtain⟨news,dU,dn,i'⟩:=sL (φ:=φ) (w:=w) (b:=p.br) (o:=p.off+(idx-p.aE)*p.es) (l:=flat ((b.bc.drop idx).take len)) (fun k a8 ap=>by
  have lJ:=(List.getElem?_eq_some_iff.1 ap).1;obtain⟨i,j,e,rfl,he,aW⟩:=sy fW k lJ;obtain⟨g1,g2⟩:=fo i e he;have EF:e.cells.length=p.es:=fW e (List.mem_of_getElem? he);obtain⟨db,c2,c3⟩:=bC.cont (idx+i) e J J g2;have qP:e.cells[j]? =some (e.cells[j]' J):=List.getElem?_eq_getElem _;rw [kH fW he qP]at ap;simp at ap;subst ap;obtain⟨x,lS,sQ⟩:=c3 j _ qP;refine⟨x,?_,sQ⟩;have bV:(idx+i-p.aE)*p.es=(idx-p.aE)*p.es+i*p.es:=by rw [←Nat.add_mul];congr 1;omega
  rw [show p.off+(idx-p.aE)*p.es+(i*p.es+j)=p.off+(idx+i-p.aE)*p.es+j by omega]
  exact lS)
 exact⟨news,dU,dn,i',fW,by rw [dU.length,io fW];congr 1;simp;omega⟩
theorem sR{aF:Nat→Prop}{h:I}{w:World}(r:bP φ aF h w){es:Nat}{x:R}{a8:Value}(ac:ar φ x a8){l:List R}(he:en es x h=some l)(ey:0<es){tx:TypeId}
 (ap:(∃cn,P.underlying tx=some (.slice cn))∨P.underlying tx=some .string) :
 ∃news,Src P es tx a8 l.length news w∧aT φ (flat l) news∧(∀e∈l,e.cells.length=es):=by
 unfold en at he;split at he
 ·rename_i c;simp at he;subst he;simp only [ar]at ac;obtain⟨rfl,_,_⟩:=ac;refine⟨[],⟨ap,fun _=>rfl,run_firstCells_none w es 0 0 0,run_firstCells_none w.drew es 0 0 0,a1,a1⟩,by simp [flat,aT],a1⟩
 ·rename_i a len cap;simp only [ar]at ac;obtain⟨dG,b0,rfl,dv,eE,fY⟩:=ac
  have po:len=0→l=[]→ ∃news,Src P es tx (.slice (some dG) len b0) l.length news w∧aT φ (flat l) news∧(∀e∈l,e.cells.length=es):=by rintro rfl rfl;exact⟨[],⟨ap,fun _=>rfl,run_firstCells_some w es 0 dG 0 b0 [] a1 a1,run_firstCells_some w.drew es 0 dG 0 b0 [] a1 a1,a1,a1⟩,by simp [flat,aT],a1⟩
  split at he
  ·rename_i aM;obtain⟨p,ab,gM,h3,hex⟩:=fY.plain aM;split at he
   ·rename_i lO;split at he
    ·rename_i b an;split at he
     ·rename_i a6;simp at he;subst he;exact po a6 rfl
     ·rename_i a6;split at he
      ·rename_i ay;simp at he;subst he;rcases h3 with ds|⟨cU,rfl,kI⟩
       ·omega
       ·obtain⟨_,c,ae,_⟩:=r.b6 _ _ _ ab;have hle:a.idx+len≤b.bc.length:=ay.2;obtain⟨news,dU,dn,i',n9,n'⟩:=r.vQ ab an cU ay.1 hle;have hlen:((b.bc.drop a.idx).take len).length=len:=by simp;omega
        have ja:p.es=es:= J;refine⟨news,?_,dU,by rw [←ja];exact n9⟩;rw [hlen]
        have al:∀j v,news[j]? =some v→w.cell? ((p.at a.idx 0).add j)=some v:=by intro j v bg;rw [Place.mM,Nat.zero_add];exact dn j v bg
        exact⟨ap,fun _=>rfl,run_firstCells_some w es len _ len b0 news (by rw [n',ja]) al,run_firstCells_some w.drew es len _ len b0 news (by rw [n',ja]) (by simpa using al),by rw [n',ja],i'⟩
      ·cases he
    ·split at he
     ·rename_i a6;simp at he;subst he;exact po a6 rfl
     ·cases he
   ·cases he
  ·rename_i aM;split at he
   ·rename_i a6;simp at he;subst he;exact po a6 rfl
   ·rename_i a6;split at he
    ·rename_i aa;subst aa;split at he
     ·rename_i b an;split at he
      ·rename_i cs d';split at he
       ·rename_i al;simp only [Option.some.injEq]at he;subst he;rcases fY with ⟨EP,_⟩|⟨f,mL,p,ab,gM,cU,rfl⟩
        ·exact absurd EP aM
        ·simp only at ab gM cU;obtain⟨g1,gl,g2,g3,g4,g5,g6,g7,g8⟩:=r.b6 _ _ _ ab;rw [an]at g2;simp at g2;subst g2;have EQ:a.fld-1=f:= J;rw [EQ]at al⊢;unfold ai.elem? at d';split at d'
         ·rename_i ir;obtain⟨bY,bU,ez⟩:=g8.cont a.idx _ cU ir d';have oa:((cs.drop f).take len).length=len:=by simp;omega
          obtain⟨vs,v1,v2,v3⟩:=sL (φ:=φ) (w:=w) (b:=p.br) (o:=p.off+(a.idx-p.aE)*p.es+f) (l:=(cs.drop f).take len) (fun j a8 ac=>by
           rw [List.getElem?_take]at ac;split at ac
           ·rw [List.getElem?_drop]at ac;obtain⟨x,ob,oc⟩:=ez (f+j) a8 ac;refine⟨x,?_,oc⟩;rw [←ob];unfold Place.at;congr 2;omega
           ·cases ac)
          have iu:vs.length=len:=by have:=v1.length;omega
          have j0:flat ((cs.drop f).take len)=(cs.drop f).take len:=by
           have hs:=al.2;generalize (cs.drop f).take len=l at hs;induction l with
           |nil=>rfl
           |cons x r ih =>
            simp only [List.all_cons,Bool.and_eq_true]at hs;have ih:=ih hs.2;simp only [flat,List.flatMap_cons]at ih⊢;rw [vF hs.1,ih];rfl
          refine⟨vs,?_,by rw [j0];exact v1,fun e he=>by rw [vF (List.all_eq_true.1 al.2 e he)];rfl⟩;rw [oa]
          have jY:∀j v,vs[j]? =some v→w.cell? ((p.at a.idx f).add j)=some v:=by intro j v bg;rw [Place.mM];have:=v2 j v bg;rw [←this];unfold Place.at;congr 2;omega
          exact⟨ap,fun _=>rfl,run_firstCells_some w 1 len _ len b0 vs J jY,run_firstCells_some w.drew 1 len _ len b0 vs J (by simpa using jY),J,v3⟩
         ·cases d'
       ·cases he
      ·cases he
     ·cases he
    ·cases he
 ·rename_i s;split at he
  ·rename_i aa;subst aa;simp at he;subst he;simp only [ar]at ac;obtain⟨aX,rfl,rfl⟩:=ac;have hlen:(aX.data.toList.map fun b=>R.int .u8 b.toNat).length=aX.size:=by rw [List.length_map,Array.length_toList];rfl
   refine⟨byteCells aX,?_,?_,?_⟩
   ·rw [hlen]
    exact⟨ap,fun _=>rfl,firstCells_string aX w,firstCells_string aX w.drew,by rw [byteCells_length,Nat.mul_one],fun u hu=>by
     obtain⟨_,_,rfl⟩:=List.mem_map.1 hu
     rfl⟩
   ·have:flat (aX.data.toList.map fun b=>R.int .u8 b.toNat)=aX.data.toList.map fun b=>R.int .u8 b.toNat:=by
     generalize aX.data.toList=l;induction l with
     |nil=>rfl
     |cons a r ih=>simp only [List.map_cons,flat,List.flatMap_cons,R.cells]at ih⊢; rw [ih];rfl
    rw [this];exact aT.map _ _ _ fun b _=>by simp only [ar]
   ·intro e he;obtain⟨b,_,rfl⟩:=List.mem_map.1 he;rfl
  ·cases he
 ·cases he
theorem zG(n:Nat):∀(r c:Nat),c≤n+n/4+512→Builtin.growBy n r c≤n+n/4+512
 |0,c,h=>h
 |r+1,c,h=>by
  simp only [Builtin.growBy];split
  ·exact h
  ·exact zG n r _ J
theorem nextslicecap_le{gy cap:Nat}(h:cap<gy):Builtin.nextslicecap gy cap≤gy+gy/4+512:=by
 unfold Builtin.nextslicecap;split
 ·omega
 ·split
  ·omega
  ·exact zG _ _ _ J
theorem ER(zs:Array Value)(n:Nat):(Builtin.zeroCells zs n).size=n*zs.size:=by simp [Builtin.zeroCells]
theorem Alike.qU(w:World):Alike w w.drew:=Alike.drew w _
theorem vR{vs:List Value}{zs:Array Value}{n c es:Nat}(ay:vs.length=n*es)(ds:zs.size=es)(aI:n≤c) :
 (vs.toArray++Builtin.zeroCells zs (c-n)).size=c*es∧(vs.toArray++Builtin.zeroCells zs (c-n)).toList.take (n*es)=vs:=by
 constructor
 ·simp only [Array.size_append,List.size_toArray,ER,ay,ds];rw [←Nat.add_mul];congr 1;omega
 ·simp only [Array.toList_append];rw [List.take_left' (by simpa using ay)]
theorem zH(l m:List R):flat (l++m)=flat l++flat m:=by simp [flat]
theorem ES{D:ci}(bt:D.dM P){aF:Nat→Prop}{h af:I}{aN w:World}(r:bP φ aF h w)(b3:Safe aF aN w)(ck:dq aF aN.heap.size){nid:Nat}(hid:∀v,φ nid v=none)(aI:nid<h.U)
 {t tx:TypeId} (ty:TypeId) {s x v:R} {aX a8:Value} (hs:ar φ s aX) (ac:ar φ x a8)
 (ap:(∃cn,P.underlying tx=some (.slice cn))∨P.underlying tx=some .string) (aj:fb D t s x nid h=some (v,af)) :
 lR P φ aF aN h nid v af (Builtin.append_ #[t,tx] ty #[aX,a8]) w:=by
 unfold fb at aj;split at aj
 ·rename_i d base len cap az;obtain⟨gm,u,fC,hu,vS,_, -, -⟩:=bt.get az;split at aj
  ·rename_i e cW;rw [vS]at cW;have:=iw cW;subst this;split at aj
   ·rename_i bM dP;obtain⟨cw,kP,ea, -, -,dd,vP,qQ⟩:=bt.get dP;split at aj
    ·rename_i new dT;simp only at aj;split at aj
     ·rename_i al;obtain⟨lP,lQ,qR,mO⟩:=al;obtain⟨news,src,j4,eh⟩:=sR (P:=P) (tx:=tx) r ac dT lP ap;rw [dd]at src;have fZ:dq aF w.heap.size:=ck.le b3.size
      have ET:∃dF,cw.zero=some dF∧dF.cells.size=cw.size:=by
       unfold nS.nU at mO;cases qV:bM.zero with
       |none=>simp [qV]at mO
       |some z =>
        rw [qV]at mO;obtain⟨dF,iZ,j3⟩:=pk (P:=P) (φ:=φ) (t:=e) bt qQ qV;obtain⟨f1,f2,f3⟩:=n6 mO;have:=(j3.cells f2).length;rw [Array.length_toList]at this;exact⟨dF,iZ,J⟩
      obtain⟨dF,iZ,vT⟩:=ET;have M3:(2:Nat)^62=4611686018427387904:= cg;have M4:(2:Nat)^48=281474976710656:= cg
      have grow:∀(sS:Option Addr)(b0:Nat)(olds:List Value),(Builtin.firstCells cw.size len (.slice sS len b0)).run P w.drew=.ok olds.toArray w.drew→b0<len+new.length →
       (Builtin.append_ #[t,tx] ty #[.slice sS len b0,a8]).run P w =
        .ok (.slice (some ⟨w.heap.size,0,none⟩) (len+new.length) (grownCap w (len+new.length) b0 e))
         (w.drew.alloc (.cells ((olds++news).toArray++Builtin.zeroCells dF.cells (grownCap w (len+new.length) b0 e- (len+new.length))) e)):=by
       intro sS b0 olds fm c1;refine run_append_grow_src w t tx ty e cw dF hu ea iZ sS len b0 olds fm a8 new.length news src c1 J ?_;have aa:=nextslicecap_le c1;have ae:=Nat.mul_le_mul_right cw.bytes aa;rw [vP]at lQ;omega
      have vU:Safe aF aN w.drew:=b3.drew;split at aj
      ·
        simp only [ar]at hs;obtain⟨rfl,rfl,rfl⟩:=hs;split at aj
        ·rename_i a6;simp only [Option.some.injEq,Prod.mk.injEq]at aj;obtain⟨rfl,rfl⟩:=aj;have jy:new=[]:=List.length_eq_zero_iff.1 J;subst jy;have vV:news=[]:=by have:=j4.length;simp [flat]at this;exact this
         subst vV;refine⟨.slice none 0 0,w,φ,?_,e6.refl _ _ _,by simp [ar],r,b3,rfl⟩;exact run_append_nothing w t tx ty e cw hu ea none 0 0 (Nat.le_refl _) a8 src
        ·rename_i a6;split at aj
         ·simp only [Option.some.injEq,Prod.mk.injEq]at aj;obtain⟨rfl,rfl⟩:=aj;have ah:=grow none 0 [] (run_firstCells_none _ _ _ _ _) J;have fI:=grownCap_ge w (0+new.length) 0 e;have iu:news.length=new.length*cw.size:=by rw [src.newsLen]
          obtain⟨g1,g2⟩:=vR (vs:=news) (zs:=dF.cells) (n:=0+new.length) (c:=grownCap w (0+new.length) 0 e) (es:=cw.size) (by rw [iu,Nat.zero_add]) vT fI
          refine⟨_,_,φ.add nid 0 ⟨w.heap.size,0,0,bM.size,grownCap w (0+new.length) 0 e,false,false⟩,ah,e6.add φ _ (hid 0) _,
           ar.gL (ex:=false) (Nat.le_refl _) fI (Nat.le_refl _) a1,?_,vU.alloc (by simpa using fZ) _,rfl⟩
          refine(r.alike (Alike.qU w)).aq hid aI (by simpa using fZ) lP eh ?_ ?_ J ?_ (fun q h=>by cases h;exact⟨rfl,fun h=>absurd rfl h⟩)
          ·simp only [List.nil_append];rw [show new.length*bM.size=(0+new.length)*cw.size by rw [dd,Nat.zero_add],g2];exact j4
          ·simp only [List.nil_append];rw [g1,dd];exact Nat.le_refl _
          ·simp only [List.nil_append];rw [show new.length*bM.size=(0+new.length)*cw.size by rw [dd,Nat.zero_add],g2];exact src.one
         ·cases aj
      ·rename_i a;split at aj
       ·rename_i EU;obtain⟨lO,aM⟩:=EU;split at aj
        ·rename_i b an;simp only [ar]at hs;obtain⟨dG,b0,rfl,dv,eE,fY⟩:=hs;obtain⟨p,ab,gM,h3,hex⟩:=fY.plain aM;obtain⟨g1,gl,g2,g3,g4,g5,g6,g7,g8⟩:=r.b6 _ _ _ ab;rw [an]at g2;simp at g2;subst g2;have ja:p.es=cw.size:= J;split at aj
         ·rename_i kL;split at aj
          ·rename_i a6;subst a6;simp only [Option.some.injEq,Prod.mk.injEq]at aj;obtain⟨rfl,rfl⟩:=aj;have vV:news=[]:=by have:=j4.length;simp [flat]at this;exact this
           subst vV;refine⟨.slice (some dG) len b0,w,φ,?_,e6.refl _ _ _,?_,r,b3,rfl⟩
           ·exact run_append_nothing w t tx ty e cw hu ea (some dG) len b0 J a8 src
           ·simp only [ar,List.length_nil,Nat.add_zero];exact⟨dG,b0,rfl,dv,eE,.inl ⟨aM,p,ab,gM,h3,hex⟩⟩
          ·rename_i bJ;split at aj
           ·rename_i b7;obtain⟨cT,kS,ir⟩:=b7;simp only [Option.some.injEq,Prod.mk.injEq]at aj;obtain⟨rfl,rfl⟩:=aj;have vW:0<new.length:=List.length_pos_iff.2 bJ;rcases h3 with ds|⟨cU,rfl,kI⟩
            ·omega
            ·rw [kS]at ab;obtain⟨a7,ba⟩:=r.DU ab an cT (idx:=a.idx+len) (l:=new) J J bJ (by rw [ja,←dd];exact eh) j4 src.one
             have vX:p.off+(a.idx+len-p.aE)*p.es=p.off+(a.idx-p.aE)*p.es+0+len*cw.size:=by have:a.idx+len-p.aE=(a.idx-p.aE)+len:= J;rw [this,Nat.add_mul,←ja];omega
             rw [vX]at a7 ba;have hD:=run_append_room_src (P:=P) w t tx ty e cw hu ea p.br (p.off+(a.idx-p.aE)*p.es+0) len b0 a8 new.length news src J (fun j aW=>(ba j aW).1) (fun j aW=>(ba j aW).2);refine⟨_,_,φ,hD,e6.refl _ _ _,?_,a7,?_,rfl⟩
             ·simp only [ar];exact⟨_,b0,rfl,kL,eE,.inl ⟨aM,p,by rw [kS];exact ab,gM,.inr ⟨cU,rfl,kI⟩,hex⟩⟩
             ·exact qG _ (g8.base (g6 cT)) _ _ b3
           ·cases aj
         ·rename_i kL;split at aj
          ·rename_i vY;split at aj
           ·rename_i old fm;simp only [Option.some.injEq,Prod.mk.injEq]at aj;obtain⟨rfl,rfl⟩:=aj;have mP:b0=cap:=hex (by rw [g5,vY])
            have cI:ar φ (.slice (some a) len cap) (.slice (some dG) len b0):=by simp only [ar];exact⟨dG,b0,rfl,dv,eE,.inl ⟨aM,p,ab,gM,h3,hex⟩⟩
            obtain⟨olds,j5,sT,sU⟩:=sR (P:=P) (tx:=t) r cI fm lP (.inl ⟨e,hu⟩)
            have od:old.length=len:=by have bk:=j5.len w;simp [Builtin.lenOf]at bk;exact bk.symm
            rw [od,dd]at j5;have ah:=grow (some dG) b0 olds j5.cellsD J;have fI:=grownCap_ge w (len+new.length) b0 e;have iu:(olds++news).length=(len+new.length)*cw.size:=by rw [List.length_append,src.newsLen,j5.newsLen,Nat.add_mul]
            obtain⟨bY,bU⟩:=vR (vs:=olds++news) (zs:=dF.cells) (n:=len+new.length) (c:=grownCap w (len+new.length) b0 e) (es:=cw.size) iu vT fI;have oa:(old++new).length*bM.size=(len+new.length)*cw.size:=by rw [List.length_append,od,dd]
            refine⟨_,_,φ.add nid 0 ⟨w.heap.size,0,0,bM.size,grownCap w (len+new.length) b0 e,false,false⟩,ah,e6.add φ _ (hid 0) _,
             ar.gL (ex:=false) (Nat.le_refl _) fI (Nat.le_refl _) a1,?_,vU.alloc (by simpa using fZ) _,rfl⟩
            refine(r.alike (Alike.qU w)).aq hid aI (by simpa using fZ) lP (fun e he=> ?_) ?_ ?_ (by rw [List.length_append,od];exact fI) ?_ (fun q h=>by cases h;exact⟨rfl,fun h=>absurd rfl h⟩)
            ·rcases List.mem_append.1 he with he|he
             ·exact sU e he
             ·exact eh e he
            ·rw [oa,bU,zH];exact sT.append j4
            ·rw [bY,dd];exact Nat.le_refl _
            ·rw [oa,bU];intro y bi;rcases List.mem_append.1 bi with bi|bi
             ·exact j5.one y bi
             ·exact src.one y bi
           ·cases aj
          ·rename_i vY;split at aj
           ·rename_i b7;obtain⟨cT,kS,M5,pq,h0⟩:=b7;simp only [Option.some.injEq,Prod.mk.injEq]at aj;obtain⟨rfl,rfl⟩:=aj;have zI:b.exact=false:=by simpa using vY
            rw [kS]at ab;by_cases sz:len+new.length≤b0
            ·
              rcases h3 with ds|⟨cU,rfl,kI⟩
              ·exfalso;have jy:new.length=0:= J;omega
              ·obtain⟨a7,ba⟩:=r.DW ab an cT (new:=new) J J (by rw [ja,←dd];exact eh) j4 src.one
               have vX:p.off+(b.bc.length-p.aE)*p.es=p.off+(a.idx-p.aE)*p.es+0+len*cw.size:=by have:b.bc.length-p.aE=(a.idx-p.aE)+len:= J;rw [this,Nat.add_mul,←ja];omega
               rw [vX]at a7 ba;have hD:=run_append_room_src (P:=P) w t tx ty e cw hu ea p.br (p.off+(a.idx-p.aE)*p.es+0) len b0 a8 new.length news src sz (fun j aW=>(ba j aW).1) (fun j aW=>(ba j aW).2)
               have h1:φ a.id (b.bf+1)=none:=by
                cases av:φ a.id (b.bf+1)with
                |none=>rfl
                |some q=>obtain⟨_,gl,ae,aS,_⟩:=r.b6 _ _ _ av;rw [an]at ae;simp at ae;subst ae;omega
               refine⟨_,_,φ.add a.id (b.bf+1) p,hD,⟨φ.mD p h1,fun i ag bJ jb u=> ?_,φ.vi p (g6 cT)⟩,?_,a7,?_,rfl⟩
               ·have:i≠a.id:=by rintro rfl;rw [jb]at ab;cases ab
                simp [Map.add,this,jb u]
               ·simp only [ar];refine⟨_,b0,rfl,Nat.le_refl _,sz,.inl ⟨aM,p,by rw [kS];exact Map.sv _ _ _ _,gM,.inr ⟨cU,rfl,kI⟩,fun h=> ?_⟩⟩;rw [g5,zI]at h;cases h
               ·exact qG _ (g8.base (g6 cT)) _ _ b3
            ·
              have cI:ar φ (.slice (some a) len cap) (.slice (some dG) len b0):=by simp only [ar];exact⟨dG,b0,rfl,dv,eE,.inl ⟨aM,p,by rw [kS];exact ab,gM,h3,hex⟩⟩
              have fm:en bM.size (.slice (some a) len cap) h=some ((b.bc.drop a.idx).take len):=by
               simp only [en,aM,lO,if_true,an];split
               ·rename_i a6;simp [a6]
               ·rw [if_pos];rw [kS];simp [ai.bL];omega
              obtain⟨olds,j5,sT,sU⟩:=sR (P:=P) (tx:=t) r cI fm lP (.inl ⟨e,hu⟩);have EV:(b.bc.drop a.idx).take len=b.bc.drop a.idx:=List.take_of_length_le (by simp;omega);rw [EV]at sT sU j5;have od:(b.bc.drop a.idx).length=len:=by simp;omega
              rw [od,dd]at j5;have ah:=grow (some dG) b0 olds j5.cellsD J;have fI:=grownCap_ge w (len+new.length) b0 e;have iu:(olds++news).length=(len+new.length)*cw.size:=by rw [List.length_append,src.newsLen,j5.newsLen,Nat.add_mul]
              obtain⟨bY,bU⟩:=vR (vs:=olds++news) (zs:=dF.cells) (n:=len+new.length) (c:=grownCap w (len+new.length) b0 e) (es:=cw.size) iu vT fI;have zJ:b.es=cw.size:= J;have oa:(b.bc.drop a.idx++new).length*b.es=(len+new.length)*cw.size:=by rw [List.length_append,od,zJ]
              have h1:φ a.id (b.bf+1)=none:=by
               cases av:φ a.id (b.bf+1)with
               |none=>rfl
               |some q=>obtain⟨_,gl,ae,aS,_⟩:=r.b6 _ _ _ av;rw [an]at ae;simp at ae;subst ae;omega
              refine⟨_,_,φ.add a.id (b.bf+1) ⟨w.heap.size,0,a.idx,b.es,grownCap w (len+new.length) b0 e,false,false⟩,ah,⟨φ.mD _ h1,fun i ag bJ jb u=> ?_,φ.vi _ rfl⟩,?_,?_,vU.alloc (by simpa using fZ) _,rfl⟩
              ·have:i≠a.id:=by rintro rfl;rw [jb]at ab;cases ab
               simp [Map.add,this,jb u]
              ·simp only [ar];refine⟨_,_,rfl,Nat.le_refl _,fI,.inl ⟨aM,_,by rw [kS];exact Map.sv _ _ _ _,by rw [←g4,gM],.inr ⟨Nat.le_refl _,by simp [Place.at],a1⟩,a1⟩⟩
              ·refine(r.alike (Alike.qU w)).DV ab an cT zI (by simpa using fZ) J (fun e he=>by rw [sU e he];omega) (fun e he=>by rw [eh e he];omega) ?_ (by rw [bY,zJ];exact Nat.le_refl _) (by rw [List.length_append,od];exact fI) ?_ (fun q h=>by rcases h0 with h0|h0<;>rw [h0]at h<;>cases h;exact⟨rfl,fun h=>absurd rfl h⟩)
               ·rw [oa,bU,zH];exact sT.append j4
               ·rw [oa,bU];intro y bi;rcases List.mem_append.1 bi with bi|bi
                ·exact j5.one y bi
                ·exact src.one y bi
           ·cases aj
        ·cases aj
       ·cases aj
     ·cases aj
    ·cases aj
   ·cases aj
  ·cases aj
 ·cases aj
end
end
end Go.bh
namespace Go.bh
noncomputable section
open Go.RowKit
section
variable {P:Program}{φ:Map}
theorem zK:∀{l:List R}{s:List UInt8}{news:List Value},bytesOf l=some s→aT φ (flat l) news→ ∃gn:List Int,news=gn.map (Value.int .u8)∧s=gn.map (fun n=>UInt8.ofNat n.toNat)
 |[],s,news,h,k=>by simp only [bytesOf,Option.some.injEq]at h;subst h;simp only [flat,List.flatMap_nil,aT]at k;subst k;exact⟨[],rfl,rfl⟩
 |a ::r,s,news,h,k=>by
  unfold bytesOf at h;split at h
  ·rename_i a6;cases a6
  ·rename_i n dE e;simp only [List.cons.injEq]at e;obtain⟨rfl,rfl⟩:=e;cases an:bytesOf r with
   |none=>rw [an]at h;cases h
   |some q =>
    rw [an]at h;simp only [Option.map_some,Option.some.injEq]at h;subst h;simp only [flat,List.flatMap_cons,R.cells,List.cons_append,List.nil_append,aT]at k;obtain⟨v,t,rfl,a7,ba⟩:=k;simp only [ar]at a7;subst a7;obtain⟨gn,bk,bV⟩:=zK an ba;exact⟨n::gn,by rw [bk];rfl,by rw [bV];rfl⟩
  ·cases h
theorem zL:∀{l:List R}{s:List UInt8}{news:List Value},bytesOf l=some s→nV l=true→aT φ (flat l) news→news=s.map fun x=>Value.int .u8 x.toNat
 |[],s,news,h,an,k=>by simp only [bytesOf,Option.some.injEq]at h;subst h;simp only [flat,List.flatMap_nil,aT]at k;subst k;rfl
 |a ::r,s,news,h,an,k=>by
  unfold bytesOf at h;split at h
  ·rename_i a6;cases a6
  ·rename_i n dE e;simp only [List.cons.injEq]at e;obtain⟨rfl,rfl⟩:=e;cases av:bytesOf r with
   |none=>rw [av]at h;cases h
   |some q =>
    rw [av]at h;simp only [Option.map_some,Option.some.injEq]at h;subst h;simp only [nV,Bool.and_eq_true,decide_eq_true_eq]at an;simp only [flat,List.flatMap_cons,R.cells,List.cons_append,List.nil_append,aT]at k;obtain⟨v,t,rfl,a7,ba⟩:=k;simp only [ar]at a7;subst a7;rw [zL av an.2 ba,List.map_cons]
    have:((UInt8.ofNat n.toNat).toNat:Int)=n:=by rw [UInt8.toNat_ofNat',Nat.mod_eq_of_lt J];omega
    rw [this]
  ·cases h
theorem sV(w:World)(a:Addr){n:Nat}(aI:n≠0)(k:Nat):(w.freeze a n).heap[k]? =if a.block=k then(w.heap[k]?).map fun o=>match o with
 |.cells c elem (aE,ag)=> .cells c elem (if aE == ag then(a.off,a.off+n)else(min aE a.off,max ag (a.off+n)))
 |o=>o else w.heap[k]? :=by
 unfold World.freeze;rw [if_neg aI];simp only [Array.getElem?_modify];rfl
theorem sW(w:World)(a x:Addr){n:Nat}(aI:n≠0):(w.freeze a n).cell? x=w.cell? x:=by
 unfold World.cell?;rw [sV w a aI];by_cases h:a.block=x.block
 ·rw [if_pos h];cases bx:w.heap[x.block]? with
  |none=>rfl
  |some o =>
   cases o;case cells c t f=>obtain⟨aE,ag⟩:=f;rfl
   all_goals rfl
 ·rw [if_neg h]
theorem EW{w:World}{a:Addr}{m:Nat}(hm:m≠0){k:Nat}{t:TypeId}{n aE ag:Nat}(h:dx w k=some (t,n,aE,ag)):∃aE ag,dx (w.freeze a m) k=some (t,n,aE,ag):=by
 unfold dx at h⊢;rw [sV w a hm];by_cases e:a.block=k
 ·rw [if_pos e];cases bx:w.heap[k]? with
  |none=>rw [bx]at h;cases h
  |some o =>
   rw [bx]at h;cases o
   case cells c dw f =>
    obtain⟨fD,eI⟩:=f;simp only [Option.some.injEq,Prod.mk.injEq]at h;obtain⟨rfl,rfl,rfl,rfl⟩:=h;simp only [Option.map_some];by_cases ay:fD=eI
    ·exact⟨a.off,a.off+m,by simp [ay]⟩
    ·exact⟨min fD a.off,max eI (a.off+m),by simp [ay]⟩
   all_goals cases h
 ·rw [if_neg e];exact⟨aE,ag,h⟩
theorem vZ(w:World)(a:Addr)(n:Nat):(w.freeze a n).heap.size=w.heap.size:=by unfold World.freeze;split<;>simp
theorem bP.EX{aF:Nat→Prop}{h:I}{w:World}(r:bP φ aF h w){id v:Nat}{p:Place}{b:ai}(ab:φ id v=some p)(an:h.get id=some b)(cT:b.ro=false){a:Addr}(aD:a.block=p.br){n:Nat}(aI:n≠0) :
 bP φ aF (h.set id {b with ro:=true}) (w.freeze a n) where
 b6 i u q av:=by
  obtain⟨aa,c,ae,aS,bj,cb,cS,dO,bC⟩:=r.b6 i u q av;by_cases e:id=i
  ·subst e;rw [an]at ae;simp at ae;subst ae;refine⟨aa,_,I.eU _ _ _,aS,bj,cb,nofun,dO,⟨by rw [vZ];exact bC.br,bC.base,fun o aj=>by rw [sW w a _ aI];exact bC.cells o aj,nofun,nofun,fun t9 dz=> ?_,fun i e g1 g2 g3=> ?_⟩⟩
   ·obtain⟨v7,EY,i9,v8,qW,v'⟩:=bC.gD t9 dz;obtain⟨wa,i8,qX⟩:=EW (a:=a) aI v8;exact⟨v7,wa,i8,qX,qW,v'⟩
   ·obtain⟨bY,bU,ez⟩:=bC.cont i e g1 g2 g3
    exact⟨bY,bU,fun j a8 ac=>by
     obtain⟨x,ob,oc⟩:=ez j a8 ac
     exact⟨x,by rw [sW w a _ aI];exact ob,oc⟩⟩
  ·obtain⟨_,gl,g2,_,_,_,g6,_,_⟩:=r.b6 id v p ab;rw [an]at g2;simp at g2;subst g2
   have bJ:p.br≠q.br:=fun k=>by have:=(r.apart id v p i u q ab av k e).1;rw [g6 cT]at this;cases this
   have wb:(w.freeze a n).heap[q.br]? =w.heap[q.br]? :=by rw [sV w a aI,if_neg (by rw [aD];exact bJ)]
   refine⟨aa,c,by rw [I.dZ _ _ e];exact ae,aS,bj,cb,cS,dO,⟨by rw [vZ];exact bC.br,bC.base,fun o aj=>by rw [sW w a _ aI];exact bC.cells o aj,fun aR o aj=> ?_,fun aR=>(bC.mark aR).of_eq (n0 wb),fun t9 dz=>by rw [n0 wb];exact bC.gD t9 dz,fun i e g1 g2 g3=> ?_⟩⟩
   ·have:=bC.free aR o aj;unfold World.frozen? at this⊢;rw [wb];exact this
   ·obtain⟨bY,bU,ez⟩:=bC.cont i e g1 g2 g3
    exact⟨bY,bU,fun j a8 ac=>by
     obtain⟨x,ob,oc⟩:=ez j a8 ac
     exact⟨x,by rw [sW w a _ aI];exact ob,oc⟩⟩
 apart:=r.apart
 same:=r.same
theorem Safe.EZ{S:Nat→Prop}{a w:World}(h:Safe S a w){p:Addr}(ab:¬S p.block){n:Nat}(aI:n≠0):Safe S a (w.freeze p n) :=
 h.trans ⟨by unfold World.freeze;rw [if_neg aI],by unfold World.freeze;rw [if_neg aI],by unfold World.freeze;rw [if_neg aI],by rw [vZ];exact Nat.le_refl _,fun k ap=>by
  have bJ:¬p.block=k:=fun e=>ab (by rw [e];exact ap)
  rw [sV w p aI,if_neg bJ]⟩
theorem E0{w:World}{k:Nat}{t:TypeId}{n aE ag:Nat}(h:dx w k=some (t,n,aE,ag)):w.shape? k=some (t,n):=by
 unfold dx at h;unfold World.shape?;cases bx:w.heap[k]? with
 |none=>rw [bx]at h;cases h
 |some o =>
  rw [bx]at h;cases o
  case cells c dw f =>
   obtain⟨fD,eI⟩:=f;simp only [Option.some.injEq,Prod.mk.injEq]at h;obtain⟨rfl,rfl,rfl,rfl⟩:=h;rfl
  all_goals cases h
theorem E1{w:World}{k:Nat}{t:TypeId}{n aE ag o:Nat}(h:dx w k=some (t,n,aE,ag))(al:(w.cell? ⟨k,o,none⟩).isSome=true):o<n:=by
 unfold dx at h;unfold World.cell? at al;cases bx:w.heap[k]? with
 |none=>rw [bx]at h;cases h
 |some wc =>
  simp only at al;rw [bx]at h al;cases wc
  case cells c dw f =>
   obtain⟨fD,eI⟩:=f;simp only [Option.some.injEq,Prod.mk.injEq]at h;obtain⟨rfl,rfl,rfl,rfl⟩:=h;simp only [Option.isSome_none,Bool.false_eq_true,if_false]at al;rcases Nat.lt_or_ge o c.size with h|h
   ·exact h
   ·rw [Array.getElem?_eq_none h]at al;cases al
  all_goals cases h
theorem E2{ts:Array TypeId}{ty:TypeId}{x v:R}{a8:Value}(ac:ar φ x a8)(h:vc x=some v)(w:World) :
 ∃aK,(Builtin.unsafeSliceData_ ts ty #[a8]).run P w=.ok aK w∧ar φ v aK:=by
 unfold vc at h;split at h
 ·simp only [Option.some.injEq]at h;subst h;simp only [ar]at ac;obtain⟨rfl,_,_⟩:=ac;exact⟨.pointer none,rfl,by simp only [ar]⟩
 ·rename_i a n c;split at h
  ·rename_i al;simp only [Option.some.injEq]at h;subst h;simp only [ar]at ac;obtain⟨dG,b0,rfl,dv,eE,fY⟩:=ac;obtain⟨p,ab,gM,h3,hex⟩:=fY.plain al.1;rcases h3 with ds|⟨cU,rfl,kI⟩
   ·omega
   ·have mP:b0≠0:= J;refine⟨.pointer (some (p.at a.idx 0)),?_,?_⟩
    ·have sX:Builtin.unsafeSliceData_ ts ty #[.slice (some (p.at a.idx 0)) n b0] =
      (do
       if b0≠0 then pure (.pointer (some (p.at a.idx 0)))
       else if(←viewAt (p.at a.idx 0).block).isSome then pure (.pointer (some (p.at a.idx 0)))
       else pure (.pointer (some ⟨←newObj (.view (p.at a.idx 0) (←elemOf ty)),0,none⟩))):=rfl
     rw [sX,if_pos mP];rfl
    ·simp only [ar];exact⟨_,rfl,p,ab,gM,cU,by rw [al.1]⟩
  ·cases h
 ·cases h
theorem E3{D:ci}(bt:D.dM P){aF:Nat→Prop}{h af:I}{aN w:World}(r:bP φ aF h w)(b3:Safe aF aN w){ts:Array TypeId}{t ty:TypeId}(bz:ts[0]? =some t){p:Option di}{n:Int}{a8:Value}(ac:ar φ (.ptr p) a8){v:R}
 (aj:va D t p n h=some (v,af)) :
 ∃aK aL,(Builtin.unsafeString_ ts ty #[a8,.int .i64 n]).run P w=.ok aK aL∧ar φ v aK∧bP φ aF af aL∧Safe aF aN aL∧af.U=h.U:=by
 have sX:∀(ts:Array TypeId) q,Builtin.unsafeString_ ts ty #[.pointer q,.int .i64 n]=(do
  let n ←asInt (.int .i64 n)
  let some vb:=ts[0]? | stuck "unsafe.String: no argument types"
  if n<0 then runtimePanic (.error "unsafe.String: len out of range")
  if n>IntKind.i64.max then unsupported (.unsafePointer "String: a length above the largest int")
  match q with
  |none =>
   if n=0 then pure (.string .empty)
   else runtimePanic (.error "unsafe.String: ptr is nil and len is not zero")
  |some a =>
   if n=0 then pure (.string .empty)
   else if ←variablesAt a (←elemOf vb) n.toNat then do
    let s ←loadBytes a .empty n.toNat
    freeze a n.toNat
    pure (.string s)
   else unsupported (.unsafePointer "String: not so many bytes at ptr")):=fun _ _=>rfl
 have zM:∀q,(Builtin.unsafeString_ ts ty #[.pointer q,.int .i64 n]).run P w=(Builtin.unsafeString_ #[t,t] ty #[.pointer q,.int .i64 n]).run P w:=fun q=>by
  have e:ts[0]? =(#[t,t]:Array TypeId)[0]? :=by rw [bz];rfl
  rw [sX,sX,e]
 unfold va at aj;split at aj
 ·rename_i a6;subst a6;simp only [Option.some.injEq,Prod.mk.injEq]at aj;obtain⟨rfl,rfl⟩:=aj
  obtain⟨q,rfl⟩:∃q,a8=.pointer q:=by
   cases p with
   |none=>simp only [ar]at ac;exact⟨_,ac⟩
   |some a=>simp only [ar]at ac;obtain⟨x,rfl,_⟩:=ac;exact⟨_,rfl⟩
  refine⟨_,w,by rw [zM];exact Go.Lib.run_unsafeString_none w _ _ _ q,?_,r,b3,rfl⟩;simp only [ar];exact⟨_,rfl,rfl⟩
 ·rename_i a6;split at aj
  ·rename_i d a az;obtain⟨we,wg,wh,mQ,mR, -⟩:=bt.get az;split at aj
   ·rename_i e b ap an;rw [mR]at ap;have:=sA ap;subst this;split at aj
    ·rename_i fU lK;obtain⟨sE,mK,kM,lL,iy,ey, -⟩:=bt.get lK;split at aj
     ·rename_i al;obtain⟨db,c2,c3,c4,c5,j6,lT,kT,c9,zN,zO⟩:=al;cases wi:bytesOf (b.bc.take n.toNat)with
      |none=>rw [wi]at aj;cases aj
      |some s =>
       rw [wi]at aj;simp only [Option.map_some,Option.some.injEq,Prod.mk.injEq]at aj;obtain⟨rfl,rfl⟩:=aj;simp only [ar]at ac;obtain⟨x,rfl,pl,ab,ja,cU,rfl⟩:=ac;obtain⟨g1,gl,g2,g3,g4,g5,g6,g7,g8⟩:=r.b6 _ _ _ ab;rw [an]at g2;simp at g2;subst g2;obtain⟨m,aE,ag,a7,ba,cC⟩:=g8.gD _ lT;obtain⟨news,dU,dn,i',n9,n'⟩:=r.vQ ab an (idx:=0) (len:=n.toNat) J J J;rw [List.drop_zero]at dU;have zP:=zL wi zO dU;have E4:pl.es=1:= J
       have sY:s.length=n.toNat:=by have:=n';rw [zP,List.length_map,E4,Nat.mul_one]at this;exact this
       have E5:pl.at a.idx a.fld=⟨pl.br,0,none⟩:=by simp [Place.at,c3,c4,cC]
       have jY:∀j x,s[j]? =some x→w.cell? ((⟨pl.br,0,none⟩:Addr).add j)=some (.int .u8 x.toNat):=by intro j x aW;have aI:=dn j (.int .u8 x.toNat) (by rw [zP,List.getElem?_map,aW];rfl);rw [Addr.add_mid,Nat.zero_add];simpa [cC]using aI
       have wj:s≠[]:=by rintro rfl;simp at sY;omega
       have hle:s.length≤m:=by
        have c1:s.length-1<s.length:=by have:=List.length_pos_iff.2 wj;omega
        have zQ:=jY (s.length-1) _ (List.getElem?_eq_getElem c1);rw [Addr.add_mid,Nat.zero_add]at zQ;have:=E1 a7 (o:=s.length-1) (by rw [zQ];rfl);omega
       have pf:P.cellsOf e=1:=by unfold Program.cellsOf;rw [kM];simp;omega
       have hD:=Go.Lib.run_unsafeString_row (P:=P) w t t ty e mQ pf pl.br m (E0 a7) s wj hle J jY;have jb:(n:Int)=s.length:=by rw [sY];omega
       have lU:s.length≠0:=by simp only [ne_eq,List.length_eq_zero_iff];exact wj
       have bY:bP φ aF (h.set a.id {b with ro:=true}) (w.freeze ⟨pl.br,0,none⟩ s.length):=r.EX (a:=⟨pl.br,0,none⟩) ab an j6 rfl lU;have bU:Safe aF aN (w.freeze ⟨pl.br,0,none⟩ s.length):=Safe.EZ b3 (p:=⟨pl.br,0,none⟩) (g8.base (g6 j6)) lU;refine⟨.string ⟨s.toArray⟩,w.freeze ⟨pl.br,0,none⟩ s.length,?_,?_,bY,bU,rfl⟩
       ·rw [zM,E5,jb];exact hD
       ·simp only [ar];exact⟨_,rfl,a1⟩
     ·cases aj
    ·cases aj
   ·cases aj
  ·cases aj
end
end
end Go.bh
