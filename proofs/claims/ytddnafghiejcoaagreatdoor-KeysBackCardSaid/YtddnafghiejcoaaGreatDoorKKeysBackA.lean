/-
  Parts of the proof of KeysBack.
-/
import Derived.Calls
import Derived.Orders
import Derived.Lib.Bytealg
import Derived.Below
import Derived.Deep.MidRow
import Derived.WalkKit
import Derived.ChangeKeysEq
import Derived.WalkLawsBesides
import Derived.Deep.AppendSrc
import Derived.Deep.Upon
import Derived.Lib.UnsafeStr
set_option linter.unusedVariables false
set_option linter.unusedSimpArgs false
theorem ab{p : Prop}(h : p := by omega) : p := h
theorem ay{p : Prop}(h : p := by kernel_rfl) : p := h
theorem aM{p : Prop}(h : p := by simp) : p := h
theorem aS{p : Prop}(h : p := by decide) : p := h
namespace Go.cf
inductive aV(α:Type) where
 |nil
 |node (v:Option α) (l r:aV α)
section
variable {α:Type}
noncomputable def aV.get(t:aV α):Nat→Option α :=
 aV.rec (motive:=fun _=>Nat→Option α) (fun _=>none)
  (fun v _ _ Sm Sn k=>cond (Nat.beq k 0) v (cond (Nat.beq (k%2) 1) (Sm (k/2)) (Sn (k/2-1)))) t
noncomputable def aV.hY(f:Nat):Nat→α→aV α :=
 Nat.rec (motive:=fun _=>Nat→α→aV α) (fun _ v=> .node (some v) .nil .nil)
  (fun _ ih k v=>cond (Nat.beq k 0) (.node (some v) .nil .nil) (cond (Nat.beq (k%2) 1) (.node none (ih (k/2) v) .nil) (.node none .nil (ih (k/2-1) v)))) f
noncomputable def aV.set(t:aV α):Nat→α→aV α :=
 aV.rec (motive:=fun _=>Nat→α→aV α) (fun k v=>aV.hY k k v)
  (fun o l r pS DA k v=>cond (Nat.beq k 0) (.node (some v) l r) (cond (Nat.beq (k%2) 1) (.node o (pS (k/2) v) r) (.node o l (DA (k/2-1) v)))) t
theorem beq_true{a b:Nat}(h:a=b):Nat.beq a b=true:=by subst h;exact Nat.beq_refl a
theorem beq_false{a b:Nat}(h:a≠b):Nat.beq a b=false:=by
 cases ax:Nat.beq a b with
 |false=>rfl
 |true=>exact absurd (Nat.eq_of_beq_eq_true ax) h
theorem aV.oI(k:Nat):(aV.nil:aV α).get k=none:=rfl
theorem aV.ln(v:Option α)(l r:aV α):(aV.node v l r).get 0=v:=rfl
theorem aV.kO(v:Option α)(l r:aV α)(m:Nat):(aV.node v l r).get (2*m+1)=l.get m:=by show cond (Nat.beq (2*m+1) 0) v (cond (Nat.beq ((2*m+1)%2) 1) (l.get ((2*m+1)/2)) (r.get ((2*m+1)/2-1)))=_;rw [beq_false ab,beq_true ab,show(2*m+1)/2=m by omega];rfl
theorem aV.kP(v:Option α)(l r:aV α)(m:Nat):(aV.node v l r).get (2*m+2)=r.get m:=by show cond (Nat.beq (2*m+2) 0) v (cond (Nat.beq ((2*m+2)%2) 1) (l.get ((2*m+2)/2)) (r.get ((2*m+2)/2-1)))=_;rw [beq_false ab,beq_false ab,show(2*m+2)/2-1=m by omega];rfl
theorem aV.sC(f:Nat)(v:α):aV.hY f 0 v=.node (some v) .nil .nil:=by cases f<;>rfl
theorem aV.zP(f m:Nat)(v:α):aV.hY (f+1) (2*m+1) v=.node none (aV.hY f m v) .nil:=by show cond (Nat.beq (2*m+1) 0) (aV.node (some v) .nil .nil) (cond (Nat.beq ((2*m+1)%2) 1) (aV.node none (aV.hY f ((2*m+1)/2) v) .nil) (aV.node none .nil (aV.hY f ((2*m+1)/2-1) v)))=_;rw [beq_false ab,beq_true ab,show(2*m+1)/2=m by omega];rfl
theorem aV.zQ(f m:Nat)(v:α):aV.hY (f+1) (2*m+2) v=.node none .nil (aV.hY f m v):=by show cond (Nat.beq (2*m+2) 0) (aV.node (some v) .nil .nil) (cond (Nat.beq ((2*m+2)%2) 1) (aV.node none (aV.hY f ((2*m+2)/2) v) .nil) (aV.node none .nil (aV.hY f ((2*m+2)/2-1) v)))=_;rw [beq_false ab,beq_false ab,show(2*m+2)/2-1=m by omega];rfl
theorem aV.set_nil(k:Nat)(v:α):(aV.nil:aV α).set k v=aV.hY k k v:=rfl
theorem aV.l4(o:Option α)(l r:aV α)(v:α):(aV.node o l r).set 0 v=.node (some v) l r:=rfl
theorem aV.js(o:Option α)(l r:aV α)(m:Nat)(v:α):(aV.node o l r).set (2*m+1) v=.node o (l.set m v) r:=by show cond (Nat.beq (2*m+1) 0) (aV.node (some v) l r) (cond (Nat.beq ((2*m+1)%2) 1) (aV.node o (l.set ((2*m+1)/2) v) r) (aV.node o l (r.set ((2*m+1)/2-1) v)))=_;rw [beq_false ab,beq_true ab,show(2*m+1)/2=m by omega];rfl
theorem aV.jt(o:Option α)(l r:aV α)(m:Nat)(v:α):(aV.node o l r).set (2*m+2) v=.node o l (r.set m v):=by show cond (Nat.beq (2*m+2) 0) (aV.node (some v) l r) (cond (Nat.beq ((2*m+2)%2) 1) (aV.node o (l.set ((2*m+2)/2) v) r) (aV.node o l (r.set ((2*m+2)/2-1) v)))=_;rw [beq_false ab,beq_false ab,show(2*m+2)/2-1=m by omega];rfl
theorem three(k:Nat):k=0∨(∃m,k=2*m+1)∨ ∃m,k=2*m+2:=by
 rcases Nat.eq_zero_or_pos k with h|h
 ·exact .inl h
 ·rcases Nat.mod_two_eq_zero_or_one k with ai|ai
  ·exact .inr (.inr ⟨k/2-1,ab⟩)
  ·exact .inr (.inl ⟨k/2,ab⟩)
theorem aV.Kj(v:α):∀(k f g:Nat),k≤f→k≤g→aV.hY f k v=aV.hY g k v:=by
 intro k;induction k using Nat.strongRecOn with
 |_ k ih =>
  intro f g aZ ak;rcases three k with rfl|⟨m,rfl⟩|⟨m,rfl⟩
  ·rw [aV.sC,aV.sC]
  ·obtain⟨f,rfl⟩:∃gb,f=gb+1:=⟨f-1,ab⟩
   obtain⟨g,rfl⟩:∃dp,g=dp+1:=⟨g-1,ab⟩
   rw [aV.zP,aV.zP,ih m ab f g ab ab]
  ·obtain⟨f,rfl⟩:∃gb,f=gb+1:=⟨f-1,ab⟩
   obtain⟨g,rfl⟩:∃dp,g=dp+1:=⟨g-1,ab⟩
   rw [aV.zQ,aV.zQ,ih m ab f g ab ab]
theorem aV.So(v:α):∀(k f j:Nat),k≤f→(aV.hY f k v).get j=if k=j then some v else none:=by
 intro k;induction k using Nat.strongRecOn with
 |_ k ih =>
  intro f j aZ;rcases three k with rfl|⟨m,rfl⟩|⟨m,rfl⟩
  ·rw [aV.sC];rcases three j with rfl|⟨i,rfl⟩|⟨i,rfl⟩
   ·rw [aV.ln,if_pos rfl]
   ·rw [aV.kO,aV.oI,if_neg ab]
   ·rw [aV.kP,aV.oI,if_neg ab]
  ·obtain⟨f,rfl⟩:∃gb,f=gb+1:=⟨f-1,ab⟩
   rw [aV.zP];rcases three j with rfl|⟨i,rfl⟩|⟨i,rfl⟩
   ·rw [aV.ln,if_neg ab]
   ·rw [aV.kO,ih m ab f i ab];by_cases h:m=i
    ·rw [if_pos h,if_pos ab]
    ·rw [if_neg h,if_neg ab]
   ·rw [aV.kP,aV.oI,if_neg ab]
  ·obtain⟨f,rfl⟩:∃gb,f=gb+1:=⟨f-1,ab⟩
   rw [aV.zQ];rcases three j with rfl|⟨i,rfl⟩|⟨i,rfl⟩
   ·rw [aV.ln,if_neg ab]
   ·rw [aV.kO,aV.oI,if_neg ab]
   ·rw [aV.kP,ih m ab f i ab];by_cases h:m=i
    ·rw [if_pos h,if_pos ab]
    ·rw [if_neg h,if_neg ab]
theorem aV.kQ(v:α):∀(t:aV α)(k j:Nat),(t.set k v).get j=if k=j then some v else t.get j
 |.nil,k,j=>by rw [aV.set_nil,aV.So v k k j (Nat.le_refl _),aV.oI]
 |.node o l r,k,j=>by
  rcases three k with rfl|⟨m,rfl⟩|⟨m,rfl⟩
  ·rw [aV.l4];rcases three j with rfl|⟨i,rfl⟩|⟨i,rfl⟩
   ·rw [aV.ln,if_pos rfl]
   ·rw [aV.kO,aV.kO,if_neg ab]
   ·rw [aV.kP,aV.kP,if_neg ab]
  ·rw [aV.js];rcases three j with rfl|⟨i,rfl⟩|⟨i,rfl⟩
   ·rw [aV.ln,aV.ln,if_neg ab]
   ·rw [aV.kO,aV.kO,aV.kQ v l m i];by_cases h:m=i
    ·rw [if_pos h,if_pos ab]
    ·rw [if_neg h,if_neg ab]
   ·rw [aV.kP,aV.kP,if_neg ab]
  ·rw [aV.jt];rcases three j with rfl|⟨i,rfl⟩|⟨i,rfl⟩
   ·rw [aV.ln,aV.ln,if_neg ab]
   ·rw [aV.kO,aV.kO,if_neg ab]
   ·rw [aV.kP,aV.kP,aV.kQ v r m i];by_cases h:m=i
    ·rw [if_pos h,if_pos ab]
    ·rw [if_neg h,if_neg ab]
theorem aV.Sp(x y:α):∀(a b:Nat),a≠b→(aV.hY a a x).set b y=(aV.hY b b y).set a x:=by
 intro a;induction a using Nat.strongRecOn with
 |_ a ih =>
  intro b sD
  have ui:∀(m:Nat)(v:α),aV.hY (2*m+1) (2*m+1) v=.node none (aV.hY m m v) .nil:=fun m v=>by rw [aV.zP,aV.Kj v m (2*m) m ab (Nat.le_refl _)]
  have even:∀(m:Nat)(v:α),aV.hY (2*m+2) (2*m+2) v=.node none .nil (aV.hY m m v):=fun m v=>by rw [aV.zQ,aV.Kj v m (2*m+1) m ab (Nat.le_refl _)]
  rcases three a with rfl|⟨m,rfl⟩|⟨m,rfl⟩<;>rcases three b with rfl|⟨i,rfl⟩|⟨i,rfl⟩
  ·exact absurd rfl sD
  ·rw [aV.sC,ui,aV.js,aV.l4,aV.set_nil]
  ·rw [aV.sC,even,aV.jt,aV.l4,aV.set_nil]
  ·rw [aV.sC,ui,aV.js,aV.l4,aV.set_nil]
  ·rw [ui,ui,aV.js,aV.js,ih m ab i ab]
  ·rw [ui,even,aV.js,aV.jt,aV.set_nil,aV.set_nil]
  ·rw [aV.sC,even,aV.jt,aV.l4,aV.set_nil]
  ·rw [ui,even,aV.js,aV.jt,aV.set_nil,aV.set_nil]
  ·rw [even,even,aV.jt,aV.jt,ih m ab i ab]
theorem aV.set_comm(x y:α):∀(t:aV α)(a b:Nat),a≠b→(t.set a x).set b y=(t.set b y).set a x
 |.nil,a,b,h=>by rw [aV.set_nil,aV.set_nil,aV.Sp x y a b h]
 |.node o l r,a,b,h=>by
  rcases three a with rfl|⟨m,rfl⟩|⟨m,rfl⟩<;>rcases three b with rfl|⟨i,rfl⟩|⟨i,rfl⟩
  ·exact absurd rfl h
  ·rw [aV.l4,aV.js,aV.js,aV.l4]
  ·rw [aV.l4,aV.jt,aV.jt,aV.l4]
  ·rw [aV.l4,aV.js,aV.js,aV.l4]
  ·rw [aV.js,aV.js,aV.js,aV.js,aV.set_comm x y l m i ab]
  ·rw [aV.js,aV.jt,aV.jt,aV.js]
  ·rw [aV.jt,aV.l4,aV.l4,aV.jt]
  ·rw [aV.jt,aV.js,aV.js,aV.jt]
  ·rw [aV.jt,aV.jt,aV.jt,aV.jt,aV.set_comm x y r m i ab]
def DB(f:α→α→Bool):Option α→Option α→Bool
 |none,none=>true
 |some a,some b=>f a b
 |_,_=>false
def aV.q4(cC:Nat):aV α→Nat→Nat→Bool
 |.nil,_,_=>true
 |.node v l r,p,s=>(!decide (p<cC) || v.isNone)&&l.q4 cC (p+s) (2*s)&&r.q4 cC (p+2*s) (2*s)
def aV.nP(f:α→α→Bool)(cC:Nat):aV α→aV α→Nat→Nat→Bool
 |.nil,u,p,s=>u.q4 cC p s
 |.node v l r,.nil,p,s=>(aV.node v l r).q4 cC p s
 |.node v l r,.node br cQ fH,p,s=>(!decide (p<cC) || DB f v br)&&aV.nP f cC l cQ (p+s) (2*s)&&aV.nP f cC r fH (p+2*s) (2*s)
theorem zR(p s m:Nat):p+s* (2*m+1)=p+s+2*s*m:=by rw [Nat.mul_add,Nat.mul_one,←Nat.mul_assoc,Nat.mul_comm s 2];omega
theorem zS(p s m:Nat):p+s* (2*m+2)=p+2*s+2*s*m:=by rw [Nat.mul_add,←Nat.mul_assoc,Nat.mul_comm s 2];omega
theorem aV.zT(cC:Nat):∀(t:aV α)(p s:Nat),t.q4 cC p s=true→ ∀k,p+s*k<cC→t.get k=none
 |.nil,p,s,_,k,_=>rfl
 |.node v l r,p,s,h,k,au=>by
  simp only [aV.q4,Bool.and_eq_true,Bool.or_eq_true,Bool.not_eq_true',decide_eq_false_iff_not]at h;obtain⟨⟨ac,ai⟩,a8⟩:=h;rcases three k with rfl|⟨m,rfl⟩|⟨m,rfl⟩
  ·rw [aV.ln];rcases ac with ac|ac
   ·simp at au;omega
   ·simpa using ac
  ·rw [aV.kO];rw [zR]at au;exact aV.zT cC l _ _ ai m au
  ·rw [aV.kP];rw [zS]at au;exact aV.zT cC r _ _ a8 m au
theorem aV.zU(cC:Nat):∀(t:aV α)(p s:Nat),(∀k,p+s*k<cC→t.get k=none)→t.q4 cC p s=true
 |.nil,p,s,_=>rfl
 |.node v l r,p,s,h=>by
  simp only [aV.q4,Bool.and_eq_true,Bool.or_eq_true,Bool.not_eq_true',decide_eq_false_iff_not];refine⟨⟨?_,?_⟩,?_⟩
  ·by_cases ah:p<cC
   ·right;have:=h 0 (by simpa using ah);rw [aV.ln]at this;simp [this]
   ·exact .inl ah
  ·exact aV.zU cC l _ _ fun m hm=>by have:=h (2*m+1) (by rw [zR];exact hm);rwa [aV.kO]at this
  ·exact aV.zU cC r _ _ fun m hm=>by have:=h (2*m+2) (by rw [zS];exact hm);rwa [aV.kP]at this
theorem aV.DC{f:α→α→Bool}(aZ:∀a b,f a b=true→a=b)(cC:Nat):∀(t u:aV α)(p s:Nat),aV.nP f cC t u p s=true→ ∀k,p+s*k<cC→t.get k=u.get k
 |.nil,u,p,s,h,k,au=>by rw [aV.oI,aV.zT cC u p s (by simpa [aV.nP]using h) k au]
 |.node v l r,.nil,p,s,h,k,au=>by rw [aV.oI,aV.zT cC _ p s (by simpa [aV.nP]using h) k au]
 |.node v l r,.node br cQ fH,p,s,h,k,au=>by
  simp only [aV.nP,Bool.and_eq_true,Bool.or_eq_true,Bool.not_eq_true',decide_eq_false_iff_not]at h;obtain⟨⟨ac,ai⟩,a8⟩:=h;rcases three k with rfl|⟨m,rfl⟩|⟨m,rfl⟩
  ·rw [aV.ln,aV.ln];rcases ac with ac|ac
   ·simp at au;omega
   ·cases v<;>cases br<;>simp [DB]at ac<;>first|rfl|(rw [aZ _ _ ac])
  ·rw [aV.kO,aV.kO];rw [zR]at au;exact aV.DC aZ cC l cQ _ _ ai m au
  ·rw [aV.kP,aV.kP];rw [zS]at au;exact aV.DC aZ cC r fH _ _ a8 m au
theorem aV.DD{f:α→α→Bool}(aZ:∀a,f a a=true)(cC:Nat):∀(t u:aV α)(p s:Nat),(∀k,p+s*k<cC→t.get k=u.get k)→aV.nP f cC t u p s=true
 |.nil,u,p,s,h=>by simp only [aV.nP];exact aV.zU cC u p s fun k au=>by rw [←h k au,aV.oI]
 |.node v l r,.nil,p,s,h=>by simp only [aV.nP];exact aV.zU cC _ p s fun k au=>by rw [h k au,aV.oI]
 |.node v l r,.node br cQ fH,p,s,h=>by
  simp only [aV.nP,Bool.and_eq_true,Bool.or_eq_true,Bool.not_eq_true',decide_eq_false_iff_not];refine⟨⟨?_,?_⟩,?_⟩
  ·by_cases ah:p<cC
   ·right;have:=h 0 (by simpa using ah);rw [aV.ln,aV.ln]at this;subst this;cases v<;>simp [DB,aZ]
   ·exact .inl ah
  ·exact aV.DD aZ cC l cQ _ _ fun m hm=>by have:=h (2*m+1) (by rw [zR];exact hm);rwa [aV.kO,aV.kO]at this
  ·exact aV.DD aZ cC r fH _ _ fun m hm=>by have:=h (2*m+2) (by rw [zS];exact hm);rwa [aV.kP,aV.kP]at this
end
end Go.cf
namespace Go.cf
noncomputable section
structure bA where
 id:Nat
 ad:Nat
 idx:Nat
 fld:Nat
 es:Nat
 deriving DecidableEq
inductive aa where
 |undef
 |bool (b:Bool)
 |int (k:IntKind) (n:Int)
 |str (s:List UInt8)
 |ptr (a:Option bA)
 |slice (a:Option bA) (len cap:Nat)
 |func (fn:Fn) (first captured:List aa)
 |nilFunc
 |iface (t:TypeId) (v:aa)
 |nilIface
 |agg (bm:List aa)
 |tuple (vs:List aa)
 deriving Inhabited
abbrev gg:aa:= .tuple []
def aa.cells:aa→List aa
 |.agg bm=>bm
 |v=> [v]
def gV:Value→aa
 |.bool b=> .bool b
 |.int k n=> .int k n
 |.string s=> .str s.data.toList
 |.pointer none=> .ptr none
 |.slice none 0 0=> .slice none 0 0
 |.nilFunc=> .nilFunc
 |.nilIface=> .nilIface
 |_=> .undef
def q5:Value→aa
 |.agg bm=> .agg (bm.toList.map gV)
 |.iface t v=> .iface t (gV v)
 |v=>gV v
inductive kR where
 |int (k:IntKind)|bool|string|ptr (e:TypeId)|slice (e:TypeId)|array (n:Nat) (e:TypeId)
 |struct (fs:List (Nat×TypeId))|func|iface (own:Bool)|other
 deriving Inhabited
structure q6 where
 kind:kR
 size:Nat
 bytes:Nat
 zero:Option aa
 deriving Inhabited
def kR.isAgg:kR→Bool
 |.struct _|.array _ _=>true
 |_=>false
def gW:TypeDesc→kR
 |.int k=> .int k
 |.bool=> .bool
 |.string=> .string
 |.pointer e=> .ptr e
 |.slice e=> .slice e
 |.array n e=> .array n e
 |.struct fs=> .struct (fs.toList.map fun f=>(f.offset,f.type))
 |.func _ _ _=> .func
 |.interface zV=> .iface (!zV.isEmpty)
 |_=> .other
def zW(P:Program)(t:TypeId):Option q6 :=
 match P.info? t,P.underlying t with
 |some i,some d=>some {kind:=gW d,size:=i.size,bytes:=i.bytes,zero:=i.zero.map q5}
 |_,_=>none
abbrev dH:=TypeId→Option q6
def dH.dt(D:dH)(P:Program):Prop:= ∀t d,D t=some d→zW P t=some d
structure af where
 bk:List aa
 es:Nat
 exact:Bool
 ro:Bool
 ad:Nat
 gd:Nat
 hj:Nat
 ty:Option (TypeId×Nat)
 deriving Inhabited
structure J where
 U:Nat
 aH:aV af
def J.get(h:J)(id:Nat):Option af:=h.aH.get id
def J.set(h:J)(id:Nat)(b:af):J:= {h with aH:=h.aH.set id b}
def af.cC(b:af)(ad:Nat):Nat :=
 if ad=b.ad then b.bk.length else if b.gd≤ad∧ad<b.ad then b.hj else 0
def af.elem?(b:af)(ad idx:Nat):Option aa :=
 if idx<b.cC ad then b.bk[idx]? else none
def af.an(bk:List aa)(es:Nat)(exact:Bool)(ty:Option (TypeId×Nat):=none):af :=
 {bk,es,exact,ro:=false,ad:=0,gd:=0,hj:=0,ty}
def af.grow(b:af)(new:List aa):af :=
 {b with bk:=b.bk++new,ad:=b.ad+1,hj:=if b.gd=b.ad then b.bk.length else min b.hj b.bk.length}
def iZ(l:List aa)(i:Nat):List aa→List aa
 |[]=>l
 |v::vs=>iZ (l.set i v) (i+1) vs
def af.put(b:af)(idx:Nat)(vs:List aa):af :=
 {b with bk:=iZ b.bk idx vs,gd:=b.ad}
def hZ(oJ:Bool)(size fld:Nat)(e:aa):Option aa :=
 if oJ then
  match e with
  |.agg bm=>if fld=0∧size=bm.length then some (.agg bm)else if fld+size≤bm.length then some (.agg ((bm.drop fld).take size))else none
  |_=>none
 else
  match e with
  |.agg bm=>bm[fld]?
  |_=>if fld=0 then some e else none
def bM(D:dH)(t:TypeId)(a:bA)(h:J):Option aa :=
 match D t,h.get a.id with
 |some d,some b =>
  match b.elem? a.ad a.idx with
  |some e=>hZ d.kind.isAgg d.size a.fld e
  |none=>none
 |_,_=>none
def aa.ka:aa→Bool
 |.agg _|.tuple _|.undef=>false
 |_=>true
def sE(fld:Nat)(v e:aa):Option aa :=
 match e with
 |.agg bm=>if fld+v.cells.length≤bm.length then some (.agg (iZ bm fld v.cells))else none
 |_=>if fld=0∧v.ka then some v else none
def aa.fits(v:aa)(oJ:Bool)(size:Nat):Bool :=
 match v with
 |.agg bm=>oJ&&bm.length == size&&bm.all (·.ka)
 |.tuple _=>false
 |.undef=>false
 |_=> !oJ&&size == 1
def hL(D:dH)(t:TypeId)(a:bA)(v:aa)(h:J):Option J :=
 match D t,h.get a.id with
 |some d,some b =>
  if v.fits d.kind.isAgg d.size&&!b.ro&&a.ad == b.ad then
   match b.bk[a.idx]? with
   |some e =>
    match sE a.fld v e with
    |some dS=>some (h.set a.id {b with bk:=b.bk.set a.idx dS,gd:=b.ad})
    |none=>none
   |none=>none
  else none
 |_,_=>none
def kn(op:BinOp)(k:IntKind)(x y:Int):Option aa :=
 match op with
 |.add=>some (.int k (k.wrap (x+y)))
 |.sub=>some (.int k (k.wrap (x-y)))
 |.mul=>some (.int k (k.wrap (x*y)))
 |.quo=>if y=0 then none else some (.int k (k.wrap (x.tdiv y)))
 |.rem=>if y=0 then none else some (.int k (x.tmod y))
 |.and=>some (.int k (k.wrap (BitVec.ofInt k.bits x &&& BitVec.ofInt k.bits y).toNat))
 |.or=>some (.int k (k.wrap (BitVec.ofInt k.bits x ||| BitVec.ofInt k.bits y).toNat))
 |.xor=>some (.int k (k.wrap (BitVec.ofInt k.bits x ^^^ BitVec.ofInt k.bits y).toNat))
 |.andNot=>some (.int k (k.wrap (BitVec.ofInt k.bits x &&& ~~~(BitVec.ofInt k.bits y)).toNat))
 |.eql=>some (.bool (x == y))
 |.neq=>some (.bool (x != y))
 |.lss=>some (.bool (decide (x<y)))
 |.leq=>some (.bool (decide (x≤y)))
 |.gtr=>some (.bool (decide (x>y)))
 |.geq=>some (.bool (decide (x≥y)))
 |_=>none
def wv(op:BinOp)(k:IntKind)(x y:Int):Option aa :=
 if y<0 then none else
 match op with
 |.shl=>some (.int k (k.wrap (x*2^(min y.toNat k.bits))))
 |.shr=>some (.int k (x.fdiv (2^(min y.toNat k.bits))))
 |_=>none
def ww(op:BinOp)(x y:List UInt8):Option aa :=
 match op with
 |.add=>if x.length+y.length<2^62 then some (.str (x++y))else none
 |.eql=>some (.bool (x == y))
 |.neq=>some (.bool (!(x == y)))
 |.lss=>some (.bool (Op.bytesLess x y))
 |.leq=>some (.bool (Op.bytesLess x y || x == y))
 |.gtr=>some (.bool (!(Op.bytesLess x y || x == y)))
 |.geq=>some (.bool (!Op.bytesLess x y))
 |_=>none
def zX(k:kR)(a b:aa):Option Bool :=
 match k,a,b with
 |.int _,.int k a,.int e6 b=>if k=e6 then some (a == b)else none
 |.bool,.bool a,.bool b=>some (a == b)
 |.string,.str a,.str b=>some (a == b)
 |_,_,_=>none
def sF(D:dH):List (Nat×TypeId)→List aa→List aa→Option Bool
 |[],[],[]=>some true
 |(_,t)::fs,a::x,b::y =>
  match D t with
  |some d =>
   match zX d.kind a b,sF D fs x y with
   |some p,some q=>some (p&&q)
   |_,_=>none
  |none=>none
 |_,_,_=>none
def uj(k:kR):List aa→List aa→Option Bool
 |[],[]=>some true
 |a::x,b::y =>
  match zX k a b,uj k x y with
  |some p,some q=>some (p&&q)
  |_,_=>none
 |_,_=>none
def q7(D:dH)(ik:TypeId→Bool)(lit:Bool)(t:TypeId)(x y:aa):Option Bool :=
 match D t with
 |none=>none
 |some d =>
  match d.kind,x,y with
  |.bool,.bool a,.bool b=>some (a == b)
  |.ptr _,.ptr none,.ptr none=>some true
  |.ptr _,.ptr none,.ptr (some _)=>some false
  |.ptr _,.ptr (some _),.ptr none=>some false
  |.slice _,.slice none _ _,.slice none _ _=>some true
  |.slice _,.slice none _ _,.slice (some _) _ _=>some false
  |.slice _,.slice (some _) _ _,.slice none _ _=>some false
  |.func,.nilFunc,.nilFunc=>some true
  |.func,.nilFunc,.func _ _ _=>some false
  |.func,.func _ _ _,.nilFunc=>some false
  |.iface _,.nilIface,.nilIface=>if lit then some true else none
  |.iface _,.nilIface,.iface _ _=>some false
  |.iface _,.iface _ _,.nilIface=>some false
  |.struct fs,.agg x,.agg y=>if ik t then sF D fs x y else none
  |.array n e,.agg x,.agg y =>
   if ik t then
    match D e with
    |some gX=>if gX.size=1∧x.length=n then uj gX.kind x y else none
    |none=>none
   else none
  |_,_,_=>none
def oK(D:dH)(ik:TypeId→Bool)(lit:Bool)(op:BinOp)(t:TypeId)(x y:aa):Option aa :=
 match x,y with
 |.int k a,.int e6 b =>
  match op with
  |.shl|.shr=>wv op k a b
  |_=>if k=e6 then kn op k a b else none
 |.str a,.str b=>ww op a b
 |_,_ =>
  match op with
  |.eql=>(q7 D ik lit t x y).map fun b=> .bool b
  |.neq=>(q7 D ik lit t x y).map fun b=> .bool (!b)
  |_=>none
def wx(op:UnOp)(x:aa):Option aa :=
 match op,x with
 |.neg,.int k n=>some (.int k (k.wrap (0-n)))
 |.not,.bool b=>some (.bool (!b))
 |.xor,.int k n=>kn .xor k (if k.signed then-1 else k.max) n
 |_,_=>none
def zY:aa→aa→Option aa
 |.int k x,.int e6 y=>if k=e6 then some (.int k (if y>x then y else x))else none
 |_,_=>none
def zZ:aa→aa→Option aa
 |.int k x,.int e6 y=>if k=e6 then some (.int k (if y<x then y else x))else none
 |_,_=>none
def q8(f:aa→aa→Option aa):aa→List aa→Option aa
 |x,[]=>some x
 |x,y::r =>
  match f x y with
  |some z=>q8 f z r
  |none=>none
def aa.known:aa→Bool
 |.undef=>false
 |_=>true
def uk(place:Nat→Option (Nat×Nat))(cells:List aa):List (Nat×aa)→Option (List aa)
 |[]=>some cells
 |(i,v)::rest =>
  match place i with
  |none=>none
  |some (off,size) =>
   if v.cells.length=size∧off+size≤cells.length∧v.known=true then uk place (iZ cells off v.cells) rest else none
def Kk(D:dH)(fs:List (Nat×TypeId)):Bool:=fs.all fun f=>(D f.2).isSome
def DE(D:dH)(t:TypeId)(parts:List (Nat×aa)):Option aa :=
 match D t with
 |some d =>
  match d.kind,d.zero with
  |.struct fs,some z =>
   if z.known=true∧Kk D fs=true then
    (uk (fun i=>match fs[i]? with|some (off,q9)=>(D q9).map fun x=>(off,x.size)|none=>none) z.cells parts).map .agg
   else none
  |.array _ e,some z =>
   match D e with
   |some x=>if z.known=true then(uk (fun i=>some (i*x.size,x.size)) z.cells parts).map .agg else none
   |none=>none
  |_,_=>none
 |none=>none
def nQ(l:List aa):List (Nat×aa)→Option (List aa)
 |[]=>some l
 |(i,v)::rest=>if i<l.length then nQ (l.set i v) rest else none
def kb(nid es len cap:Nat):aa:= .slice (some ⟨nid,0,0,0,es⟩) len cap
def oL(D:dH)(t:TypeId)(len:Nat)(parts:List (Nat×aa))(nid:Nat)(h:J):Option (aa×J) :=
 match D t with
 |some d =>
  match d.kind with
  |.slice e =>
   match D e with
   |some x =>
    match x.zero with
    |some z =>
     if len*x.size≤2^24∧0<x.size∧z.fits x.kind.isAgg x.size∧(parts.all fun p=>p.2.fits x.kind.isAgg x.size)then
      match nQ (List.replicate len z) parts with
      |some l=>some (kb nid x.size len len,h.set nid (.an l x.size true))
      |none=>none
     else none
    |none=>none
   |none=>none
  |_=>none
 |none=>none
def wy(D:dH)(t:TypeId)(len cap:aa)(nid:Nat)(h:J):Option (aa×J) :=
 match D t,len,cap with
 |some d, .int _ l,.int _ c =>
  match d.kind with
  |.slice e =>
   match D e with
   |some x =>
    match x.zero with
    |some z =>
     if 0≤l∧l≤c∧c<2^62∧x.bytes*c≤2^48∧0<x.size∧z.fits x.kind.isAgg x.size then
      some (kb nid x.size l.toNat c.toNat,h.set nid (.an (List.replicate c.toNat z) x.size true))
     else none
    |none=>none
   |none=>none
  |_=>none
 |_,_,_=>none
def gY(v:Option aa)(DF wz:Nat):Option Nat :=
 match v with
 |none=>some DF
 |some (.int _ i)=>if 0≤i∧i≤wz then some i.toNat else none
 |_=>none
def ko(D:dH)(t:TypeId)(x:aa)(bb aq mx:Option aa):Option aa :=
 match D t,x with
 |some d, .slice a len cap =>
  match d.kind with
  |.slice e =>
   match D e,gY mx cap cap with
   |some cJ,some m =>
    match gY aq len m with
    |some bU =>
     match gY bb 0 bU with
     |some l =>
      if mx.isSome∧aq.isNone then none else
      match a with
      |none=>some (.slice none (bU-l) (m-l))
      |some a=>if a.es=cJ.size∧a.fld=0 then some (.slice (some {a with idx:=a.idx+l}) (bU-l) (m-l))else none
     |none=>none
    |none=>none
   |_,_=>none
  |_=>none
 |some d,.ptr (some a) =>
  match d.kind with
  |.array n e =>
   match D e with
   |some cJ =>
    if mx.isSome then none else
    match gY aq n n with
    |some bU =>
     match gY bb 0 bU with
     |some l=>if l<n∧cJ.size=1 then some (.slice (some {a with fld:=a.fld+l+1}) (bU-l) (n-l))else none
     |none=>none
    |none=>none
   |none=>none
  |_=>none
 |some d,.str s =>
  match d.kind with
  |.string =>
   if mx.isSome then none else
   match gY aq s.length s.length with
   |some bU =>
    match gY bb 0 bU with
    |some l=>some (.str ((s.take bU).drop l))
    |none=>none
   |none=>none
  |_=>none
 |_,_=>none
def sG(D:dH)(t:TypeId)(x i:aa):Option aa :=
 match D t,x,i with
 |some d,.slice (some a) len _,.int _ i =>
  match d.kind with
  |.slice e =>
   match D e with
   |some cJ =>
    if 0≤i∧i<len∧a.es=cJ.size∧a.fld=0 then some (.ptr (some {a with idx:=a.idx+i.toNat}))
    else if 0≤i∧i<len∧0<a.fld∧cJ.size=1 then some (.ptr (some {a with fld:=a.fld-1+i.toNat}))
    else none
   |none=>none
  |_=>none
 |some d,.ptr (some a),.int _ i =>
  match d.kind with
  |.array n e =>
   match D e with
   |some cJ=>if 0≤i∧i<n then some (.ptr (some {a with fld:=a.fld+i.toNat*cJ.size}))else none
   |none=>none
  |_=>none
 |_,_,_=>none
def apart(D:dH)(t:TypeId)(bm:List aa)(off:Nat):Option aa :=
 match D t with
 |some d=>if d.kind.isAgg then(if off+d.size≤bm.length then some (.agg ((bm.drop off).take d.size))else none)else bm[off]?
 |none=>none
def oM(D:dH)(t:TypeId)(x i:aa):Option aa :=
 match D t,x,i with
 |some d,.agg bm,.int _ i =>
  match d.kind with
  |.array n e =>
   match D e with
   |some cJ=>if 0≤i∧i<n then apart D e bm (i.toNat*cJ.size)else none
   |none=>none
  |_=>none
 |some d,.str s,.int _ i =>
  match d.kind with
  |.string=>if 0≤i then(s[i.toNat]?).map fun b=> .int .u8 b.toNat else none
  |_=>none
 |_,_,_=>none
def DG(D:dH)(t:TypeId)(x:aa)(f:Nat):Option aa :=
 match D t,x with
 |some d,.ptr (some a) =>
  match d.kind with
  |.struct fs =>
   match fs[f]? with
   |some (off,q9) =>
    match D q9 with
    |some fd=>if 0<fd.size then some (.ptr (some {a with fld:=a.fld+off}))else none
    |none=>none
   |none=>none
  |_=>none
 |_,_=>none
def DH(D:dH)(t:TypeId)(x:aa)(f:Nat):Option aa :=
 match D t,x with
 |some d,.agg bm =>
  match d.kind with
  |.struct fs =>
   match fs[f]? with
   |some (off,q9)=>apart D q9 bm off
   |none=>none
  |_=>none
 |_,_=>none
def fU(es:Nat)(x:aa)(h:J):Option (List aa) :=
 match x with
 |.slice none 0 _=>some []
 |.slice (some a) len _ =>
  if a.fld=0 then
   if a.es=es then
    match h.get a.id with
    |some b=>if len=0 then some []else if a.idx+len≤b.cC a.ad∧a.idx+len≤b.bk.length then some ((b.bk.drop a.idx).take len)else none
    |none=>if len=0 then some []else none
   else none
  else if len=0 then some []
  else if es=1 then
   match h.get a.id with
   |some b =>
    match b.elem? a.ad a.idx with
    |some (.agg bm)=>if a.fld-1+len≤bm.length∧((bm.drop (a.fld-1)).take len).all (·.ka)=true then some ((bm.drop (a.fld-1)).take len)else none
    |_=>none
   |none=>none
  else none
 |.str s=>if es=1 then some (s.map fun b=> .int .u8 b.toNat)else none
 |_=>none
def q6.ul(d:q6):Bool :=
 match d.zero with
 |some z=>z.fits d.kind.isAgg d.size
 |none=>false
def hB(D:dH)(t:TypeId)(s x:aa)(nid:Nat)(h:J):Option (aa×J) :=
 match D t,s with
 |some d, .slice base len cap =>
  match d.kind with
  |.slice e =>
   match D e with
   |some cJ =>
    match fU cJ.size x h with
    |some new =>
     let ju:=len+new.length
     if 0 < cJ.size∧(ju+ju/4+512)*cJ.bytes≤2^48∧ju<2^62∧cJ.ul=true then
      match base with
      |none=>if ju=0 then some (.slice none 0 cap,h)else if cap=0∧len=0 then some (kb nid cJ.size ju ju,h.set nid (.an new cJ.size false (some (e,0))))else none
      |some a =>
       if a.es =cJ.size∧a.fld=0 then
        match h.get a.id with
        |some b =>
         if ju≤cap then
          if new=[]then some (.slice base ju cap,h)else
          if b.ro=false∧a.ad=b.ad∧a.idx+ju≤b.bk.length then some (.slice base ju cap,h.set a.id (b.put (a.idx+len) new))else none
         else if b.exact then
          match fU cJ.size s h with
          |some old=>some (kb nid cJ.size ju ju,h.set nid (.an (old++new) cJ.size false (some (e,0))))
          |none=>none
         else if b.ro=false∧a.ad=b.ad∧a.idx+len=b.bk.length∧new≠[]∧(b.ty=none∨b.ty=some (e,0))then
          some (.slice (some {a with ad:=a.ad+1}) ju ju,
           h.set a.id (b.grow new))
         else none
        |none=>none
       else none
     else none
    |none=>none
   |none=>none
  |_=>none
 |_,_=>none
def DI(D:dH)(t:TypeId)(x:aa):Option aa :=
 match D t,x with
 |some d,.slice _ n _=>match d.kind with|.slice _=>some (.int .i64 n)|_=>none
 |some d,.str s=>match d.kind with|.string=>some (.int .i64 s.length)|_=>none
 |some d,_=>match d.kind with|.array n _=>some (.int .i64 n)|_=>none
 |_,_=>none
def wA(D:dH)(src dst:TypeId)(x:aa):Option aa :=
 match D src,D dst,x with
 |some _,some d,.int _ n=>match d.kind with|.int k=>some (.int k (k.wrap n))|.string=>some (.str (Utf8.encode n).data.toList)|_=>none
 |some _,some d,.str s=>match d.kind with|.string=>some (.str s)|_=>none
 |_,_,_=>none
abbrev dV:=FuncId→List aa→J→Option (aa×J)
abbrev z1:=List aa→J→Option (aa×J)
structure bY where
 D:dH
 eqs:List TypeId
 um:FuncId→Option z1:=fun _=>none
 ext:FuncId→Option Nat:=fun _=>none
 cond:(Nat→Prop)→World→Prop:=fun _ _=>True
def bY.ik(E:bY)(t:TypeId):Bool:=E.eqs.contains t
def de(s:List aa):Operand→aa
 |.tmp t=>s.getD t .undef
 |.const v=>q5 v
 |.global _=> .undef
 |.func f=> .func (.func f) [] []
def oN:Operand→Bool
 |.const _=>true
 |_=>false
def oO(call:dV)(f:aa)(args:List aa)(h:J):Option (aa×J) :=
 match f with
 |.func (.func g) first captured=>call g (first++args++captured) h
 |_=>none
def bytesOf:List aa→Option (List UInt8)
 |[]=>some []
 |.int .u8 n::r=>(bytesOf r).map fun l=>UInt8.ofNat n.toNat::l
 |_=>none
def sH:List aa→Bool
 |[]=>true
 |.int .u8 n::r=>decide (0≤n)&&decide (n<256)&&sH r
 |_=>false
def DJ(D:dH)(DK:TypeId)(p:Option bA)(n:Int)(h:J):Option (aa×J) :=
 if n=0 then some (.str [],h)else
 match D DK,p with
 |some d,some a =>
  match d.kind,h.get a.id with
  |.ptr e,some b =>
   match D e with
   |some gX =>
    if 0<n∧n≤1048576∧a.idx=0∧a.fld=0∧a.es=1∧b.ro=false∧b.ty=some (e,0)∧gX.size=1∧n.toNat≤b.cC a.ad∧n.toNat≤b.bk.length∧sH (b.bk.take n.toNat)=true then
     (bytesOf (b.bk.take n.toNat)).map fun s=>(.str s,h.set a.id {b with ro:=true})
    else none
   |none=>none
  |_,_=>none
 |_,_=>none
def DL:aa→Option aa
 |.slice none _ _=>some (.ptr none)
 |.slice (some a) _ c=>if a.fld=0∧0<c then some (.ptr (some a))else none
 |_=>none
def DM(D:dH)(t:TypeId)(s x:aa)(h:J):Option (aa×J) :=
 match D t,s,x with
 |some d, .slice (some a) len _,.slice (some h0) n _ =>
  match d.kind with
  |.slice e =>
   match D e,h.get h0.id,h.get a.id with
   |some cJ,some oP,some b =>
    if cJ.size=1∧0<a.fld∧h0.fld=0∧h0.es=1∧0<n∧n≤len∧h0.idx+n≤oP.cC h0.ad∧h0.idx+n≤oP.bk.length∧b.ro=false∧a.ad=b.ad then
     match b.bk[a.idx]? with
     |some (.agg bm) =>
      if a.fld-1+n≤bm.length∧((oP.bk.drop h0.idx).take n).all (·.ka)=true then
       some (.int .i64 n,h.set a.id {b with bk:=b.bk.set a.idx (.agg (iZ bm (a.fld-1) ((oP.bk.drop h0.idx).take n))),gd:=b.ad})
      else none
     |_=>none
    else none
   |_,_,_=>none
  |_=>none
 |_,_,_=>none
def hC(E:bY)(b:Builtin)(ts:Array TypeId)(args:List aa)(nid:Nat)(h:J):Option (aa×J) :=
 match b with
 |.len =>
  match args,ts[0]? with
  |[x],some t=>(DI E.D t x).map fun v=>(v,h)
  |_,_=>none
 |.append =>
  match args,ts[0]?,ts[1]? with
  |[s,x],some t,some u=>match E.D u with|some lo=>(match lo.kind with|.slice _=>hB E.D t s x nid h|.string=>hB E.D t s x nid h|_=>none)|none=>none
  |_,_,_=>none
 |.max =>
  match args with
  |x::r=>(q8 zY x r).map fun v=>(v,h)
  |_=>none
 |.min =>
  match args with
  |x::r=>(q8 zZ x r).map fun v=>(v,h)
  |_=>none
 |.copy =>
  match args,ts[0]?,ts[1]? with
  |[s,x],some t,some u=>DM E.D t s x h
  |_,_,_=>none
 |.unsafeSliceData =>
  match args with
  |[x]=>(DL x).map fun v=>(v,h)
  |_=>none
 |.unsafeString =>
  match args,ts[0]? with
  |[.ptr p,.int .i64 n],some t=>DJ E.D t p n h
  |_,_=>none
 |_=>none
def bN(E:bY)(call:dV)(nid:Nat)(ρ:Operand→aa)(h:J)(o:Op):Option (aa×J) :=
 match o with
 |.move x|.assign x=>some (ρ x,h)
 |.pick c a b=>match ρ c with|.bool t=>some (if t then ρ a else ρ b,h)|_=>none
 |.alloc t =>
  match E.D t with
  |some d=>match d.zero with|some z=>if z.fits d.kind.isAgg d.size&&decide (0<d.size)then some (.ptr (some ⟨nid,0,0,0,d.size⟩),h.set nid (.an [z] d.size true (some (t,d.size))))else none|none=>none
  |none=>none
 |.box t x =>
  match E.D t with
  |some d=>if(ρ x).fits d.kind.isAgg d.size&&decide (0<d.size)then some (.ptr (some ⟨nid,0,0,0,d.size⟩),h.set nid (.an [ρ x] d.size true (some (t,d.size))))else none
  |none=>none
 |.build t parts=>(DE E.D t (parts.toList.map fun p=>(p.1,ρ p.2))).map fun v=>(v,h)
 |.buildSlice t n parts=>oL E.D t n (parts.toList.map fun p=>(p.1,ρ p.2)) nid h
 |.load t a=>match ρ a with|.ptr (some a)=>(bM E.D t a h).map fun v=>(v,h)|_=>none
 |.store t a x=>match ρ a with|.ptr (some a)=>(hL E.D t a (ρ x) h).map fun ag=>(gg,ag)|_=>none
 |.nilCheck x=>match ρ x with|.ptr (some a)=>some (.ptr (some a),h)|.func (.func g) fs bm=>some (.func (.func g) fs bm,h)|_=>none
 |.binOp op t x y _=>(oK E.D E.ik (oN x || oN y) op t (ρ x) (ρ y)).map fun v=>(v,h)
 |.unOp op _ x=>(wx op (ρ x)).map fun v=>(v,h)
 |.convert s d x=>(wA E.D s d (ρ x)).map fun v=>(v,h)
 |.makeFunc (.func g) fs bm=>some (.func (.func g) (fs.toList.map ρ) (bm.toList.map ρ),h)
 |.makeInterface t x=>match E.D t with|some d=>(match d.kind with|.iface _=>none|_=>some (.iface t (ρ x),h))|none=>none
 |.makeSlice t l c=>wy E.D t (ρ l) (ρ c) nid h
 |.slice t x bb aq mx=>(ko E.D t (ρ x) (bb.map ρ) (aq.map ρ) (mx.map ρ)).map fun v=>(v,h)
 |.fieldAddr t x f=>(DG E.D t (ρ x) f).map fun v=>(v,h)
 |.field t x f=>(DH E.D t (ρ x) f).map fun v=>(v,h)
 |.indexAddr t x i=>(sG E.D t (ρ x) (ρ i)).map fun v=>(v,h)
 |.index t x i=>(oM E.D t (ρ x) (ρ i)).map fun v=>(v,h)
 |.extract x i=>match ρ x with|.tuple vs=>(vs[i]?).map fun v=>(v,h)|_=>none
 |.call c =>
  match c.callee with
  |.value f=>oO call (ρ f) (c.args.toList.map ρ) h
  |.builtin b=>hC E b c.argTypes (c.args.toList.map ρ) nid h
  |_=>none
 |_=>none
def q'(D:dH)(src dst:TypeId)(x:aa)(nid:Nat)(h:J):Option (aa×J) :=
 match D src,D dst,x with
 |some nR,some gq,.str s =>
  match nR.kind,gq.kind with
  |.string,.slice e =>
   match D e with
   |some gX =>
    match gX.kind with
    |.int .u8=>some (kb nid 1 s.length s.length,h.set nid (.an (s.map fun b=> .int .u8 b.toNat) 1 false))
    |_=>none
   |none=>none
  |_,_=>none
 |some nR,some gq,.slice a n c =>
  match nR.kind,gq.kind with
  |.slice e,.slice _ =>
   match D e,a with
   |some gX,some sI =>
    match gX.kind,h.get sI.id with
    |.int .u8,some b=>if src=dst∧b.ro=false∧sI.fld=0∧0<c then some (.slice (some sI) n c,h)else none
    |_,_=>none
   |_,_=>none
  |.slice e,.string =>
   match D e with
   |some gX =>
    match gX.kind with
    |.int .u8 =>
     match fU 1 (.slice a n c) h with
     |some l=>(bytesOf l).map fun s=>(.str s,h)
     |none=>none
    |_=>none
   |none=>none
  |_,_=>none
 |_,_,_=>none
def DN(k:Nat)(args:List aa):Option aa :=
 match args with
 |[.str s,.int .u8 c] =>
  match k with
  |0=>some (.int .i64 (Go.Lib.countByte s c.toNat.toUInt8))
  |1=>some (.int .i64 (Go.Lib.indexByte s c.toNat.toUInt8))
  |_=>none
 |[.str s,.str t]=>if k=2 then some (.int .i64 (Go.Lib.compareBytes s t))else none
 |_=>none
def e7(E:bY)(nid:Nat)(ρ:Operand→aa)(h:J)(o:Op):Option (aa×J) :=
 match o with
 |.convert s d x=>q' E.D s d (ρ x) nid h
 |.call c =>
  match c.callee with
  |.value f =>
   match ρ f with
   |.func (.func g) [] [] =>
    match E.ext g with
    |some k=>(DN k (c.args.toList.map ρ)).map fun v=>(v,h)
    |none=>none
   |_=>none
  |_=>none
 |_=>none
def jv(E:bY)(call:dV)(nid:Nat)(ρ:Operand→aa)(h:J)(o:Op):Option (aa×J) :=
 match bN E call nid ρ h o with
 |some r=>some r
 |none=>e7 E nid ρ h o
structure fr where
 e3:List aa
 heap:J
def hM(s:List aa)(dst:Option Tmp)(v:aa):List aa :=
 match dst with
 |some d=>s.set d v
 |none=>s
def jw(ops:Array Oper)(s:List aa)(o:Oper):Option Bool :=
 match o.guard with
 |none=>some true
 |some (j,want) =>
  match (ops[j]?).bind (·.dst)with
  |some d =>
   match s[d]? with
   |some (.bool b)=>some (b == want)
   |some (.tuple [])=>some false
   |_=>none
  |none=>none
def ra(E:bY)(call:dV)(ops:Array Oper)(ap i:Nat)(s:fr):Option fr :=
 match ops[i]? with
 |none=>some s
 |some o =>
  match jw ops s.e3 o with
  |some true =>
   match jv E call (ap+i) (de s.e3) s.heap o.op with
   |some (v,h)=>some ⟨hM s.e3 o.dst v,h⟩
   |none=>none
  |some false=>some ⟨hM s.e3 o.dst gg,s.heap⟩
  |none=>none
def oQ(E:bY)(call:dV)(ops:Array Oper)(ap:Nat):List Nat→fr→Option fr
 |[],s=>some s
 |i::r,s =>
  match ra E call ops ap i s with
  |some bG=>oQ E call ops ap r bG
  |none=>none
inductive cW where
 |normal|exit (id:Nat)|goto (l:Nat)|ret
 deriving DecidableEq
inductive DO where
 |pure|load|alloc|store|call|hk|other
 deriving DecidableEq
def ek:Op→DO
 |.move _|.assign _|.pick _ _ _|.build _ _|.nilCheck _|.binOp _ _ _ _ _|.unOp _ _ _|.convert _ _ _|.makeFunc _ _ _|.slice _ _ _ _ _
 |.fieldAddr _ _ _|.field _ _ _|.indexAddr _ _ _|.index _ _ _|.extract _ _|.makeInterface _ _=> .pure
 |.load _ _=> .load
 |.store _ _ _=> .store
 |.alloc _|.box _ _|.buildSlice _ _ _|.makeSlice _ _ _=> .alloc
 |.call c =>
  match c.callee with
  |.value _=> .call
  |.builtin .len|.builtin .max|.builtin .min|.builtin .unsafeSliceData=> .pure
  |.builtin .append=> .hk
  |_=> .other
 |_=> .other
def i'(e:Edge):Bool:=Region.binds .any e
def eb(ops:Array Oper):Array Nat :=
 ops.toList.foldl (fun acc o=>acc.push (o.after.toList.foldl (fun s e=>if i' e then s ||| 2^e.on ||| acc.getD e.on 0 else s) 0)) #[]
def ordered(l5:Array Nat)(i j:Nat):Bool:=(l5.getD j 0).testBit i
def tmpsOf(xs:List Operand):List Tmp:=xs.filterMap fun|.tmp t=>some t|_=>none
def sJ(ops:Array Oper)(o:Oper):List Tmp :=
 tmpsOf o.op.operands.toList++(match o.guard with|some (g,_)=>((ops[g]?).bind (·.dst)).toList|none=> [])
def z6(ops:Array Oper)(x y:Oper):Bool :=
 (match x.dst with|some d=> !(sJ ops y).contains d&&!(y.dst == some d)|none=>true) &&
 (match y.dst with|some d=> !(sJ ops x).contains d|none=>true)
def Kl:DO→DO→Bool
 |.pure,_|_,.pure=>true
 |.load,.load|.load,.alloc|.alloc,.load|.alloc,.alloc|.call,.load|.load,.call|.load,.store|.store,.load|.hk,.alloc|.alloc,.hk=>true
 |_,_=>false
def oR(ops:Array Oper):Bool :=
 let l5:=eb ops
 (List.range ops.size).all fun j =>
  match ops[j]? with
  |none=>true
  |some y =>
   (y.after.toList.all fun e=> !i' e || decide (e.on<j)) &&
   (List.range j).all fun i =>
    ordered l5 i j ||
    match ops[i]? with
    |none=>true
    |some x=>Kl (ek x.op) (ek y.op)&&z6 ops x y
mutual
def aa.same:aa→aa→Bool
 |.undef,.undef=>true
 |.bool a,.bool b=>a == b
 |.int k a,.int l b=>decide (k=l)&&a == b
 |.str a,.str b=>a == b
 |.ptr a,.ptr b=>decide (a=b)
 |.slice a n c,.slice b m d=>decide (a=b)&&n == m&&c == d
 |.func f a b,.func g c d=>decide (f=g)&&aa.oS a c&&aa.oS b d
 |.nilFunc,.nilFunc=>true
 |.iface t a,.iface u b=>t == u&&aa.same a b
 |.nilIface,.nilIface=>true
 |.agg a,.agg b=>aa.oS a b
 |.tuple a,.tuple b=>aa.oS a b
 |_,_=>false
def aa.oS:List aa→List aa→Bool
 |[],[]=>true
 |a::x,b::y=>aa.same a b&&aa.oS x y
 |_,_=>false
end
def af.same(a b:af):Bool :=
 aa.oS a.bk b.bk&&a.es == b.es&&a.exact == b.exact&&a.ro == b.ro&&a.ad == b.ad&&a.gd == b.gd&&a.hj == b.hj&&a.ty == b.ty
def pT(cC:Nat)(h ag:J):Bool:=aV.nP af.same cC ag.aH h.aH 0 1
def mR(ops:Array Oper)(l5:Array Nat)(j:Nat):Bool :=
 (List.range ops.size).any fun i =>
  match ops[i]? with
  |some x=>decide (ek x.op=.load)&&!ordered l5 i j&&!ordered l5 j i
  |none=>false
def pU(ops:Array Oper)(l5:Array Nat)(j:Nat):Bool :=
 (List.range ops.size).any fun i =>
  match ops[i]? with
  |some x=>decide (ek x.op=.store)&&!ordered l5 i j&&!ordered l5 j i
  |none=>false
def nS(ρ:Operand→aa):Op→Option Nat
 |.store _ x _=>match ρ x with|.ptr (some a)=>some a.id|_=>none
 |_=>none
def kp(ρ:Operand→aa):Op→Option Nat
 |.load _ x=>match ρ x with|.ptr (some a)=>some a.id|_=>none
 |_=>none
def h1:aa→List Nat
 |.slice (some a) _ _=> [a.id]
 |_=> []
def h2(ρ:Operand→aa):Op→List Nat
 |.call c=>(c.args.toList.map ρ).flatMap h1
 |_=> []
def ja:Op→Bool
 |.convert _ _ _=>true
 |_=>false
def lp(ops:Array Oper)(j:Nat):Bool :=
 let l5:=eb ops
 (List.range ops.size).all fun i =>
  (i == j) || ordered l5 i j || ordered l5 j i ||
   match ops[i]? with
   |some x=>decide (ek x.op=.pure)&&!(ja x.op)
   |none=>true
def oT(ρ:Operand→aa):Op→Option aa
 |.convert _ _ x=>match ρ x with|.slice a n c=>some (.slice a n c)|_=>none
 |_=>none
def jb(ops:Array Oper)(ap j:Nat)(ρ:Operand→aa)(o:Op):Bool :=
 match oT ρ o with
 |some x =>
  ((h1 x).all fun b=>decide (b<ap) || (decide (b<ap+ops.size)&&ordered (eb ops) (b-ap) j)) &&
  ((List.range ops.size).all fun i=>(i == j) || ordered (eb ops) i j || ordered (eb ops) j i ||
    match ops[i]? with
    |some y=>decide (ek y.op=.pure) || decide (ek y.op=.load) || decide (ek y.op=.alloc)
    |none=>true)
 |none=>false
def pV(ops:Array Oper)(ap j:Nat)(ids:List Nat):Bool :=
 ids.all fun b=>decide (b<ap) || (decide (b<ap+ops.size)&&ordered (eb ops) (b-ap) j) || decide (ap+ops.size≤b)
def rb(ops:Array Oper)(j:Nat):Bool :=
 (List.range ops.size).all fun i=>(i == j) || ordered (eb ops) i j || ordered (eb ops) j i ||
  match ops[i]? with
  |some y=>decide (ek y.op=.pure) || decide (ek y.op=.load)
  |none=>true
def fB(E:bY)(call:dV)(ops:Array Oper)(ap j:Nat)(ρ:Operand→aa)(h:J)(o:Op):Option (aa×J) :=
 match ek o with
 |.load =>
  match kp ρ o with
  |some b=>if rb ops j=true∨b<ap∨(b<ap+ops.size∧ordered (eb ops) (b-ap) j=true∧pU ops (eb ops) j=false)then bN E call (ap+j) ρ h o else none
  |none=>none
 |.store =>
  match nS ρ o with
  |some b=>if mR ops (eb ops) j=true∧b<ap then none else bN E call (ap+j) ρ h o
  |none=>none
 |.call =>
  match bN E call (ap+j) ρ h o with
  |some (v,ag)=>if mR ops (eb ops) j then(if pT (ap+ops.size) h ag then some (v,ag)else none)else some (v,ag)
  |none=>none
 |.hk=>if pV ops ap j (h2 ρ o)=true then bN E call (ap+j) ρ h o else none
 |.pure =>
  match bN E call (ap+j) ρ h o with
  |some r=>some r
  |none=>if ja o=true∧(lp ops j=true∨jb ops ap j ρ o=true)then e7 E (ap+j) ρ h o else none
 |_=>bN E call (ap+j) ρ h o
def l6(E:bY)(call:dV)(ops:Array Oper)(ap i:Nat)(s:fr):Option fr :=
 match ops[i]? with
 |none=>some s
 |some o =>
  match jw ops s.e3 o with
  |some true =>
   match fB E call ops ap i (de s.e3) s.heap o.op with
   |some (v,h)=>some ⟨hM s.e3 o.dst v,h⟩
   |none=>none
  |some false=>some ⟨hM s.e3 o.dst gg,s.heap⟩
  |none=>none
def kq(E:bY)(call:dV)(ops:Array Oper)(ap:Nat):List Nat→fr→Option fr
 |[],s=>some s
 |i::r,s =>
  match l6 E call ops ap i s with
  |some bG=>kq E call ops ap r bG
  |none=>none
def sK(E:bY)(call:dV)(ops:Array Oper)(draw:Bool)(s:fr):Option fr :=
 if draw then
  (if oR ops then kq E call ops s.heap.U (List.range ops.size) ⟨s.e3,{s.heap with U:=s.heap.U+ops.size}⟩else none)
 else oQ E call ops s.heap.U (List.range ops.size) ⟨s.e3,{s.heap with U:=s.heap.U+ops.size}⟩
def e4(E:bY)(call:dV):Nat→Option Code→Code→fr→Option (cW×fr)
 |0,_,_,_=>none
 |n +1,some body,c,s =>
  match e4 E call n none c s with
  |some (.goto l,bG) =>
   match findLabel body l with
   |some rest=>e4 E call n (some body) rest bG
   |none=>some (.goto l,bG)
  |r=>r
 |n +1,none,c,s =>
  match c with
  |.skip=>some (.normal,s)
  |.label _=>some (.normal,s)
  |.region _ ops draw=>(sK E call ops draw s).map fun bG=>(.normal,bG)
  |.seq a b =>
   match e4 E call n none a s with
   |some (.normal,bG)=>e4 E call n none b bG
   |r=>r
  |.cond x a b =>
   match de s.e3 x with
   |.bool true=>e4 E call n none a s
   |.bool false=>e4 E call n none b s
   |_=>none
  |.block id c =>
   match e4 E call n none c s with
   |some (.exit j,bG)=>some (if j=id then .normal else .exit j,bG)
   |r=>r
  |.loop c =>
   match e4 E call n none c s with
   |some (.normal,bG)=>e4 E call n none (.loop c) bG
   |r=>r
  |.scope c=>e4 E call n (some c) c s
  |.goto l=>some (.goto l,s)
  |.exit id=>some (.exit id,s)
  |.ret=>some (.ret,s)
  |_=>none
def jx(D:dH)(dR:List ResultVar)(s:fr):Option (List aa) :=
 match dR with
 |[]=>some []
 |.tmp t::r=>(jx D r s).map fun l=>s.e3.getD t .undef::l
 |.cell a t::r =>
  match s.e3.getD a .undef with
  |.ptr (some p) =>
   match bM D t p s.heap,jx D r s with
   |some v,some l=>some (v::l)
   |_,_=>none
  |_=>none
def mS:List aa→aa
 |[v]=>v
 |l=> .tuple l
def l7(P:Program)(E:bY):Nat→dV
 |0,_,_,_=>none
 |n + 1,f,args,h =>
  match E.um f with
  |some g=>g args h
  |none =>
  match P.funcs[f]? with
  |some fn =>
   match fn.body with
   |some c =>
    match e4 E (l7 P E n) n none c ⟨args++List.replicate (fn.ntmps-args.length) gg,h⟩with
    |some (.exit _,_)=>none
    |some (.goto _,_)=>none
    |some (_,s)=>(jx E.D fn.results.toList s).map fun l=>(mS l,s.heap)
    |none=>none
   |none=>none
  |none=>none
end
end Go.cf
namespace Go.cf
noncomputable section
structure Place where
 cd:Nat
 off:Nat
 bb:Nat
 es:Nat
 tot:Nat
 exact:Bool
 ro:Bool
abbrev Map:=Nat→Nat→Option Place
def Map.le(φ cO:Map):Prop:= ∀i v p,φ i v=some p→cO i v=some p
theorem Map.le_refl(φ:Map):φ.le φ:=fun _ _ _ h=>h
theorem Map.le_trans{φ cO wB:Map}(h:φ.le cO)(k:cO.le wB):φ.le wB:=fun i v p e=>k i v p (h i v p e)
def Place.at(p:Place)(idx fld:Nat):Addr:=⟨p.cd,p.off+(idx-p.bb)*p.es+fld,none⟩
def uo(φ:Map)(a:bA)(x:Addr):Prop :=
 ∃p,φ a.id a.ad=some p∧a.es=p.es∧p.bb≤a.idx∧x=p.at a.idx a.fld
def wC(φ:Map)(a:bA)(x:Addr)(cap di:Nat):Prop :=
 ∃p,φ a.id a.ad=some p∧a.es=p.es∧(di=0∨(p.bb≤a.idx∧x=p.at a.idx 0∧(a.idx-p.bb)+di≤p.tot))∧(p.exact=true→di=cap)
def uq(φ:Map)(a:bA)(x:Addr)(cap di:Nat):Prop :=
 (a.fld=0∧wC φ a x cap di)∨(∃f,a.fld=f+1∧uo φ {a with fld:=f} x)
theorem uq.plain{φ:Map}{a:bA}{x:Addr}{cap di:Nat}(h:uq φ a x cap di)(aZ:a.fld=0):wC φ a x cap di:=by
 rcases h with h|⟨f,h,_⟩
 ·exact h.2
 ·omega
mutual
def aL(φ:Map):aa→Value→Prop
 |.undef,_=>True
 |.bool b,v=>v=.bool b
 |.int k n,v=>v=.int k n
 |.str s,v=> ∃t:ByteArray,v=.string t∧t.data.toList=s
 |.ptr none,v=>v=.pointer none
 |.ptr (some a),v=> ∃x,v=.pointer (some x)∧uo φ a x
 |.slice none len cap,v=>v=.slice none 0 0∧len=0∧cap=0
 |.slice (some a) len cap,v=> ∃x di,v=.slice (some x) len di∧len≤cap∧cap≤di∧uq φ a x cap di
 |.func fn f c,v=> ∃gb ft,v=.func fn gb ft∧bz φ f gb.toList∧bz φ c ft.toList
 |.nilFunc,v=>v=.nilFunc
 |.iface t a,v=> ∃x,v=.iface t x∧aL φ a x
 |.nilIface,v=>v=.nilIface
 |.agg bm,v=> ∃xs,v=.agg xs∧bz φ bm xs.toList
 |.tuple vs,v=> ∃xs,v=.tuple xs∧bz φ vs xs.toList
def bz(φ:Map):List aa→List Value→Prop
 |[],l=>l=[]
 |a::r,l=> ∃v t,l=v::t∧aL φ a v∧bz φ r t
end
theorem uo.mono{φ cO:Map}(h:φ.le cO){a:bA}{x:Addr}(k:uo φ a x):uo cO a x :=
 let ⟨p,e,r⟩:=k;⟨p,h _ _ _ e,r⟩
theorem wC.mono{φ cO:Map}(h:φ.le cO){a:bA}{x:Addr}{c ft:Nat}(k:wC φ a x c ft):wC cO a x c ft:=by obtain⟨p,e,r⟩:=k;exact⟨p,h _ _ _ e,r⟩
theorem uq.mono{φ cO:Map}(h:φ.le cO){a:bA}{x:Addr}{c ft:Nat}(k:uq φ a x c ft):uq cO a x c ft:=by
 rcases k with ⟨ac,ai⟩|⟨f,ac,ai⟩
 ·exact .inl ⟨ac,ai.mono h⟩
 ·exact .inr ⟨f,ac,ai.mono h⟩
mutual
theorem aL.mono{φ cO:Map}(h:φ.le cO):∀{a:aa}{v:Value},aL φ a v→aL cO a v
 |.undef,_,_=>by simp [aL]
 |.bool b,v,k=>by simpa [aL]using k
 |.int _ n,v,k=>by simpa [aL]using k
 |.str s,v,k=>by simpa [aL]using k
 |.ptr none,v,k=>by simpa [aL]using k
 |.ptr (some a),v,k=>by simp only [aL]at k⊢;obtain⟨x,e,r⟩:=k;exact⟨x,e,r.mono h⟩
 |.slice none len cap,v,k=>by simpa [aL]using k
 |.slice (some a) len cap,v,k=>by simp only [aL]at k⊢;obtain⟨x,c,e,et,l2,r⟩:=k;exact⟨x,c,e,et,l2,r.mono h⟩
 |.func fn f c,v,k=>by simp only [aL]at k⊢;obtain⟨gb,ft,e,e8,il⟩:=k;exact⟨gb,ft,e,bz.mono h e8,bz.mono h il⟩
 |.nilFunc,v,k=>by simpa [aL]using k
 |.iface t a,v,k=>by simp only [aL]at k⊢;obtain⟨x,e,r⟩:=k;exact⟨x,e,aL.mono h r⟩
 |.nilIface,v,k=>by simpa [aL]using k
 |.agg bm,v,k=>by simp only [aL]at k⊢;obtain⟨x,e,r⟩:=k;exact⟨x,e,bz.mono h r⟩
 |.tuple bm,v,k=>by simp only [aL]at k⊢;obtain⟨x,e,r⟩:=k;exact⟨x,e,bz.mono h r⟩
theorem bz.mono{φ cO:Map}(h:φ.le cO):∀{l:List aa}{t:List Value},bz φ l t→bz cO l t
 |[],t,k=>by simpa [bz]using k
 |a::r,t,k=>by simp only [bz]at k⊢;obtain⟨v,eQ,e,aK,aP⟩:=k;exact⟨v,eQ,e,aL.mono h aK,bz.mono h aP⟩
end
theorem bz.length{φ:Map} :∀{l:List aa}{t:List Value},bz φ l t→t.length=l.length
 |[],t,k=>by simp only [bz]at k;simp [k]
 |a::r,t,k=>by simp only [bz]at k;obtain⟨v,eQ,e,aK,aP⟩:=k;simp [e,bz.length aP]
theorem bz.get{φ:Map} :∀{l:List aa}{t:List Value}{i:Nat}{a:aa},bz φ l t→l[i]? =some a→ ∃v,t[i]? =some v∧aL φ a v
 |[],t,i,a,k,h=>by simp at h
 |b::r,t,i,a,k,h=>by
  simp only [bz]at k;obtain⟨v,eQ,e,aK,aP⟩:=k;subst e;cases i with
  |zero=>simp at h;subst h;exact⟨v,aM,aK⟩
  |succ i=>simp at h;obtain⟨u,hu,DP⟩:=bz.get aP h;exact⟨u,by simpa using hu,DP⟩
theorem bz.eV{φ:Map} :∀{l:List aa}{t:List Value},t.length=l.length→(∀(i:Nat)(a:aa)(v:Value),l[i]? =some a→t[i]? =some v→aL φ a v)→bz φ l t
 |[],t,aC,h=>by simp at aC;simp [bz,aC]
 |a::r,[],aC,h=>by simp at aC
 |a::r,v::t,aC,h=>by simp only [bz];refine⟨v,t,rfl,h 0 a v aM aM,bz.eV (by simpa using aC) fun i cv br aT bh=>h (i+1) cv br (by simpa using aT) (by simpa using bh)⟩
theorem bz.append{φ:Map}{l m:List aa}{t u:List Value}(h:bz φ l t)(k:bz φ m u):bz φ (l++m) (t++u):=by
 induction l generalizing t with
 |nil=>simp only [bz]at h;simpa [h]using k
 |cons a r ih =>
  simp only [bz]at h;obtain⟨v,eQ,e,aK,aP⟩:=h;simp only [List.cons_append,bz];exact⟨v,eQ++u,by simp [e],aK,ih aP⟩
theorem bz.set{φ:Map}{l:List aa}{t:List Value}(h:bz φ l t)(i:Nat){a:aa}{v:Value}(k:aL φ a v):bz φ (l.set i a) (t.set i v):=by
 refine bz.eV (by simp [h.length]) fun j b u ax hu=> ?_
 by_cases e:i=j
 ·subst e
  have aq:i<l.length:=by have:=(List.getElem?_eq_some_iff.1 ax).1;simpa using this
  rw [List.getElem?_set_self (by simpa using aq)]at ax;rw [List.getElem?_set_self (by rw [h.length];exact aq)]at hu;simp at ax hu;subst ax hu;exact k
 ·rw [List.getElem?_set_ne e]at ax hu;obtain⟨x,aj,rx⟩:=h.get ax;rw [hu]at aj;simp at aj;subst aj;exact rx
theorem bz.drop{φ:Map}{l:List aa}{t:List Value}(h:bz φ l t)(n:Nat):bz φ (l.drop n) (t.drop n):=by
 refine bz.eV (by simp [h.length]) fun j b u ax hu=> ?_
 rw [List.getElem?_drop]at ax hu;obtain⟨x,aj,rx⟩:=h.get ax;rw [hu]at aj;simp at aj;subst aj;exact rx
theorem bz.take{φ:Map}{l:List aa}{t:List Value}(h:bz φ l t)(n:Nat):bz φ (l.take n) (t.take n):=by
 refine bz.eV (by simp [h.length]) fun j b u ax hu=> ?_
 rw [List.getElem?_take]at ax hu;split at ax
 ·rename_i a1;rw [if_pos a1]at hu;obtain⟨x,aj,rx⟩:=h.get ax;rw [hu]at aj;simp at aj;subst aj;exact rx
 ·simp at ax
theorem bz.map{φ:Map}{α:Type}(l:List α)(f:α→aa)(g:α→Value)(h:∀x∈l,aL φ (f x) (g x)):bz φ (l.map f) (l.map g):=by
 induction l with
 |nil=>simp [bz]
 |cons x r ih =>
  simp only [List.map_cons,bz];exact⟨_,_,rfl,h x aM,ih fun y bV=>h y (by simp [bV])⟩
theorem bz.getD{φ:Map}{l:List aa}{t:List Value}(h:bz φ l t)(i:Nat):aL φ (l.getD i .undef) (t.getD i undef):=by
 by_cases aq:i<l.length
 ·obtain⟨v,bh,pW⟩:=h.get (i:=i) (a:=l[i]) (List.getElem?_eq_getElem aq);rw [List.getD_eq_getElem?_getD,List.getD_eq_getElem?_getD,List.getElem?_eq_getElem aq,bh];simpa using pW
 ·rw [List.getD_eq_getElem?_getD,List.getElem?_eq_none ab];simp [aL]
theorem aL.gg(φ:Map):aL φ gg undef:=by simp only [aL];exact⟨#[],rfl,by simp [bz]⟩
theorem bz.replicate{φ:Map}{a:aa}{v:Value}(h:aL φ a v)(n:Nat):bz φ (List.replicate n a) (List.replicate n v):=by
 induction n with
 |zero=>simp [bz]
 |succ n ih=>simp only [List.replicate_succ,bz];exact⟨_,_,rfl,h,ih⟩
theorem z7(φ:Map)(v:Value):aL φ (gV v) v:=by unfold gV;split<;>simp [aL]
theorem Km(φ:Map)(v:Value):aL φ (q5 v) v:=by
 unfold q5;split
 ·rename_i bm;simp only [aL];refine⟨bm,rfl,?_⟩;have:=bz.map (φ:=φ) bm.toList gV id (fun x _=>z7 φ x);simpa using this
 ·simp only [aL];exact⟨_,rfl,z7 φ _⟩
 ·exact z7 φ v
theorem aL.cells{φ:Map}{a:aa}{v:Value}(h:aL φ a v)(hu:a≠ .undef):bz φ a.cells v.cells.toList:=by
 cases a with
 |undef=>exact absurd rfl hu
 |agg bm=>simp only [aL]at h;obtain⟨xs,rfl,r⟩:=h;simpa [aa.cells,Value.cells]using r
 |bool b=>have ag:=h;simp only [aL]at h;subst h;simp only [aa.cells,Value.cells,bz];exact⟨_,_,rfl,ag,rfl⟩
 |int k n=>have ag:=h;simp only [aL]at h;subst h;simp only [aa.cells,Value.cells,bz];exact⟨_,_,rfl,ag,rfl⟩
 |str s=>have ag:=h;simp only [aL]at h;obtain⟨t,rfl,e⟩:=h;simp only [aa.cells,Value.cells,bz];exact⟨_,_,rfl,ag,rfl⟩
 |ptr o =>
  have ag:=h;cases o with
  |none=>simp only [aL]at h;subst h;simp only [aa.cells,Value.cells,bz];exact⟨_,_,rfl,ag,rfl⟩
  |some x=>simp only [aL]at h;obtain⟨t,rfl,e⟩:=h;simp only [aa.cells,Value.cells,bz];exact⟨_,_,rfl,ag,rfl⟩
 |slice o l c =>
  have ag:=h;cases o with
  |none=>simp only [aL]at h;obtain⟨rfl,_⟩:=h;simp only [aa.cells,Value.cells,bz];exact⟨_,_,rfl,ag,rfl⟩
  |some x=>simp only [aL]at h;obtain⟨t,ft,rfl,e⟩:=h;simp only [aa.cells,Value.cells,bz];exact⟨_,_,rfl,ag,rfl⟩
 |func fn f c=>have ag:=h;simp only [aL]at h;obtain⟨t,ft,rfl,e⟩:=h;simp only [aa.cells,Value.cells,bz];exact⟨_,_,rfl,ag,rfl⟩
 |nilFunc=>have ag:=h;simp only [aL]at h;subst h;simp only [aa.cells,Value.cells,bz];exact⟨_,_,rfl,ag,rfl⟩
 |iface t x=>have ag:=h;simp only [aL]at h;obtain⟨t,rfl,e⟩:=h;simp only [aa.cells,Value.cells,bz];exact⟨_,_,rfl,ag,rfl⟩
 |nilIface=>have ag:=h;simp only [aL]at h;subst h;simp only [aa.cells,Value.cells,bz];exact⟨_,_,rfl,ag,rfl⟩
 |tuple vs=>have ag:=h;simp only [aL]at h;obtain⟨t,rfl,e⟩:=h;simp only [aa.cells,Value.cells,bz];exact⟨_,_,rfl,ag,rfl⟩
structure Safe(S:Nat→Prop)(w bq:World):Prop where
 os:bq.os=w.os
 tape:bq.tape=w.tape
 output:bq.output=w.output
 size:w.heap.size≤bq.heap.size
 block:∀k,S k→bq.heap[k]? =w.heap[k]?
def fu(S:Nat→Prop)(n:Nat):Prop:= ∀k,S k→k<n
theorem fu.le{S:Nat→Prop}{n m:Nat}(h:fu S n)(k:n≤m):fu S m:=fun i aq=>Nat.lt_of_lt_of_le (h i aq) k
theorem fu.no{S:Nat→Prop}{n:Nat}(h:fu S n):¬S n:=fun k=>Nat.lt_irrefl _ (h n k)
theorem Safe.refl(S:Nat→Prop)(w:World):Safe S w w:=⟨rfl,rfl,rfl,Nat.le_refl _,fun _ _=>rfl⟩
theorem Safe.trans{S:Nat→Prop}{a b c:World}(h:Safe S a b)(k:Safe S b c):Safe S a c :=
 ⟨k.os.trans h.os,k.tape.trans h.tape,k.output.trans h.output,Nat.le_trans h.size k.size,fun i aq=>(k.block i aq).trans (h.block i aq)⟩
theorem Safe.less{S T:Nat→Prop}{w bq:World}(h:Safe S w bq)(k:∀i,T i→S i):Safe T w bq:=⟨h.os,h.tape,h.output,h.size,fun i aq=>h.block i (k i aq)⟩
theorem Safe.drew{S:Nat→Prop}{a w:World}(h:Safe S a w):Safe S a w.drew:=⟨h.os,h.tape,h.output,h.size,h.block⟩
theorem Safe.alloc{S:Nat→Prop}{a w:World}(h:Safe S a w)(cu:fu S w.heap.size)(o:Obj):Safe S a (w.alloc o) :=
 h.trans ⟨rfl,rfl,rfl,aM,fun k au=>Go.RowKit.Below.heap_alloc _ _ _ (cu k au)⟩
theorem Safe.setCell{S:Nat→Prop}{a w:World}(h:Safe S a w){p:Addr}(ah:¬S p.block)(u:Value):Safe S a (w.setCell p u) :=
 h.trans ⟨rfl,rfl,rfl,by simp [World.setCell],fun k au=>Go.RowKit.Below.heap_setCell _ _ _ _ (fun e=>ah (e▸au))⟩
theorem Safe.below{n:Nat}{w bq:World}(h:Safe (fun k=>k<n) w bq):Go.RowKit.Below n w bq:=⟨h.os,h.tape,h.output,h.size,h.block⟩
def fC(w:World)(b:Nat):Option (TypeId×Nat×Nat×Nat) :=
 match w.heap[b]? with
 |some (.cells c t (bb,aq))=>some (t,c.size,bb,aq)
 |_=>none
def kS(w:World)(b:Nat):Prop:= ∃t n bb aq,fC w b=some (t,n,bb,aq)∧(bb=aq∨n≤bb)
theorem kS.of_eq{w bq:World}{b:Nat}(h:kS w b)(e:fC bq b=fC w b):kS bq b:=by unfold kS;rw [e];exact h
theorem sL{w bq:World}{b:Nat}(e:bq.heap[b]? =w.heap[b]?):fC bq b=fC w b:=by unfold fC;rw [e]
structure Row(φ:Map)(be:Nat→Prop)(b:af)(v:Nat)(p:Place)(w:World):Prop where
 cd:p.cd<w.heap.size
 base:p.ro=false→ ¬be p.cd
 cells:∀o,o<p.tot*p.es→(w.cell? ⟨p.cd,p.off+o,none⟩).isSome=true
 free:b.ro=false→ ∀o,o<p.tot*p.es→w.frozen? ⟨p.cd,p.off+o,none⟩=false
 mark:b.ro=false→kS w p.cd
 jy:∀q,b.ty=some q→ ∃n bb aq,fC w p.cd=some (q.1,n,bb,aq)∧(q.2≠0→n=q.2)∧p.off=0
 cont:∀i e,p.bb≤i→i<b.cC v→b.bk[i]? =some e →
  e.cells.length=p.es∧i-p.bb<p.tot∧∀j bT,e.cells[j]? =some bT→ ∃x,w.cell? (p.at i j)=some x∧aL φ bT x∧x.oneCell'=true
structure cS(φ:Map)(be:Nat→Prop)(h:J)(w:World):Prop where
 dD:∀i v p,φ i v=some p→i<h.U∧∃b,h.get i=some b∧v≤b.ad∧p.es=b.es∧p.exact=b.exact∧(b.ro=false→p.ro=false)∧0<p.es∧Row φ be b v p w
 apart:∀i v p j u q,φ i v=some p→φ j u=some q→p.cd=q.cd→i≠j→p.ro=true∧q.ro=true
 same:∀i v p u q,φ i v=some p→φ i u=some q→p.cd=q.cd→p.off=q.off∧p.bb=q.bb
structure hl(φ cO:Map)(n nid:Nat):Prop where
 le:φ.le cO
 new:∀i,i<n→i≠nid→(∀v,φ i v=none)→ ∀v,cO i v=none
 ro:∀i v p,cO i v=some p→p.ro=true→φ i v=some p
theorem hl.refl(φ:Map)(n nid:Nat):hl φ φ n nid:=⟨φ.le_refl,fun _ _ _ h=>h,fun _ _ _ h _=>h⟩
structure eW(φ cO:Map)(n:Nat):Prop where
 le:φ.le cO
 new:∀i,i<n→(∀u,φ i u=none)→ ∀u,cO i u=none
 ro:∀i v p,cO i v=some p→p.ro=true→φ i v=some p
theorem eW.refl(φ:Map)(n:Nat):eW φ φ n:=⟨φ.le_refl,fun _ _ h=>h,fun _ _ _ h _=>h⟩
theorem eW.trans{φ cO wB:Map}{n:Nat}(h:eW φ cO n)(k:eW cO wB n):eW φ wB n:=⟨Map.le_trans h.le k.le,fun i aq aR=>k.new i aq (h.new i aq aR),fun i v p ah bc=>h.ro i v p (k.ro i v p ah bc) bc⟩
theorem eW.mono{φ cO:Map}{n m:Nat}(h:eW φ cO n)(hm:m≤n):eW φ cO m:=⟨h.le,fun i aq aR=>h.new i ab aR,h.ro⟩
theorem J.kQ(h:J)(id:Nat)(b:af)(j:Nat):(h.set id b).get j=if id=j then some b else h.get j:=aV.kQ b h.aH id j
@[simp] theorem J.Sq(h:J)(id:Nat)(b:af) : (h.set id b).U = h.U := rfl
theorem J.gE(h:J)(id:Nat)(b:af):(h.set id b).get id=some b:=by simp [J.kQ]
theorem J.fg(h:J){id j:Nat}(b:af)(e:id≠j):(h.set id b).get j=h.get j:=by simp [J.kQ,e]
@[simp] theorem J.ahc(h:J)(n j:Nat) : ({ h with U := n } : J).get j = h.get j := rfl
theorem af.Kn(l:List aa)(es:Nat)(e:Bool)(ty:Option (TypeId×Nat))(v:Nat):(af.an l es e ty).cC v=if v=0 then l.length else 0:=by
 by_cases bh:v=0
 ·subst bh;simp [af.cC,af.an]
 ·simp [af.cC,af.an,bh]
structure Alike(w bq:World):Prop where
 size:w.heap.size≤bq.heap.size
 cell:∀a,a.block<w.heap.size→bq.cell? a=w.cell? a
 frozen:∀a,a.block<w.heap.size→bq.frozen? a=w.frozen? a
 mark:∀b,b<w.heap.size→fC bq b=fC w b
theorem Row.alike{φ:Map}{be:Nat→Prop}{b:af}{v:Nat}{p:Place}{w bq:World}(r:Row φ be b v p w)(k:Alike w bq):Row φ be b v p bq where
 cd:=Nat.lt_of_lt_of_le r.cd k.size
 base:=r.base
 cells o ao:=by rw [k.cell _ r.cd];exact r.cells o ao
 free bc o ao:=by rw [k.frozen _ r.cd];exact r.free bc o ao
 mark bc:=(r.mark bc).of_eq (k.mark _ r.cd)
 jy t bW:=by rw [k.mark _ r.cd];exact r.jy t bW
 cont i e ac ai a8:=by obtain⟨bQ,bF,dv⟩:=r.cont i e ac ai a8;refine⟨bQ,bF,fun j bT aj=> ?_⟩;obtain⟨x,dT,fD⟩:=dv j bT aj;exact⟨x,by rw [k.cell _ (by exact r.cd)];exact dT,fD⟩
theorem Row.mono{φ cO:Map}(h:φ.le cO){be:Nat→Prop}{b:af}{v:Nat}{p:Place}{w:World}(r:Row φ be b v p w):Row cO be b v p w :=
 ⟨r.cd,r.base,r.cells,r.free,r.mark,r.jy,fun i e ac ai a8=>by
  obtain⟨bQ,bF,dv⟩:=r.cont i e ac ai a8;refine⟨bQ,bF,fun j bT aj=> ?_⟩;obtain⟨x,dT,fD⟩:=dv j bT aj
  exact⟨x,dT,fD.1.mono h,fD.2⟩⟩
theorem cS.alike{φ:Map}{be:Nat→Prop}{h:J}{w bq:World}(r:cS φ be h w)(k:Alike w bq):cS φ be h bq where
 dD i v p ah:=by obtain⟨ac,b,ai,a8,bQ,bF,dv,cE,cj⟩:=r.dD i v p ah;exact⟨ac,b,ai,a8,bQ,bF,dv,cE,cj.alike k⟩
 apart:=r.apart
 same:=r.same
theorem cS.U{φ:Map}{be:Nat→Prop}{h:J}{w:World}(r:cS φ be h w){n:Nat}(aR:h.U≤n):cS φ be {h with U:=n} w where
 dD i v p ah:=by obtain⟨ac,b,ai,a8,bQ,bF,dv,cE,cj⟩:=r.dD i v p ah;exact⟨Nat.lt_of_lt_of_le ac aR,b,ai,a8,bQ,bF,dv,cE,cj⟩
 apart:=r.apart
 same:=r.same
theorem Alike.drew(w:World)(n:Nat):Alike w {w with drawn:=n} :=⟨Nat.le_refl _,fun _ _=>rfl,fun _ _=>rfl,fun _ _=>rfl⟩
theorem heap_alloc(w:World)(o:Obj):(w.alloc o).heap=w.heap.push o:=rfl
theorem size_alloc(w:World)(o:Obj):(w.alloc o).heap.size=w.heap.size+1:=by rw [heap_alloc];simp
theorem Alike.alloc(w:World)(o:Obj):Alike w (w.alloc o) where
 size:=by rw [size_alloc];omega
 cell a aT:=by
  have:(w.heap.push o)[a.block]? =w.heap[a.block]? :=by rw [Array.getElem?_push];simp;omega
  simp only [World.cell?,heap_alloc,this]
 frozen a aT:=by
  have:(w.heap.push o)[a.block]? =w.heap[a.block]? :=by rw [Array.getElem?_push];simp;omega
  simp only [World.frozen?,heap_alloc,this]
 mark b ax:=sL (by rw [heap_alloc,Array.getElem?_push];simp;omega)
def Map.add(φ:Map)(id v:Nat)(p:Place):Map:=fun i u=>if i=id∧u=v then some p else φ i u
theorem Map.z8(φ:Map)(id v:Nat)(p:Place):φ.add id v p id v=some p:=by simp [Map.add]
theorem Map.rc(φ:Map){id v:Nat}(p:Place)(h:φ id v=none):φ.le (φ.add id v p):=by
 intro i u q aB;simp only [Map.add];split
 ·rename_i e;obtain⟨rfl,rfl⟩:=e;rw [h]at aB;cases aB
 ·exact aB
theorem Map.DQ(φ:Map){id v:Nat}(p:Place)(bc:p.ro=false):∀i u q,(φ.add id v p) i u=some q→q.ro=true→φ i u=some q:=by
 intro i u q aB Ko;unfold Map.add at aB;split at aB
 ·simp only [Option.some.injEq]at aB;subst aB;rw [bc]at Ko;cases Ko
 ·exact aB
theorem hl.add(φ:Map){id v:Nat}(p:Place)(h:φ id v=none)(n:Nat)(bc:p.ro=false:=by rfl):hl φ (φ.add id v p) n id where
 le:=φ.rc p h
 new i aq bX aR u:=by simp [Map.add,bX,aR u]
 ro:=φ.DQ p bc
def flat(l:List aa):List aa:=l.flatMap aa.cells
theorem oU{es:Nat} :∀{l:List aa}(aC:∀e∈l,e.cells.length=es){i j:Nat}{e x:aa},l[i]? =some e→e.cells[j]? =some x→(flat l)[i*es+j]? =some x
 |[],aC,i,j,e,x,h,k=>by simp at h
 |a ::r,aC,i,j,e,x,h,k=>by
  have aT:a.cells.length=es:=aC a aM;cases i with
  |zero =>
   simp at h;subst h;simp only [flat,List.flatMap_cons,Nat.zero_mul,Nat.zero_add];rw [List.getElem?_append_left (List.getElem?_eq_some_iff.1 k).1];exact k
  |succ i =>
   simp at h;have ih:=oU (l:=r) (fun e he=>aC e (by simp [he])) h k;simp only [flat,List.flatMap_cons]at ih⊢;rw [List.getElem?_append_right (by rw [aT,Nat.succ_mul];omega),aT,show(i+1)*es+j-es=i*es+j by rw [Nat.succ_mul];omega];exact ih
theorem lq{es:Nat} :∀{l:List aa}(aC:∀e∈l,e.cells.length=es),(flat l).length=l.length*es
 |[],_=>by simp [flat]
 |a::r,aC=>by have aT:a.cells.length=es:=aC a aM;have ih:=lq (l:=r) (fun e he=>aC e (by simp [he]));simp only [flat,List.flatMap_cons,List.length_append,List.length_cons]at ih⊢;rw [ih,aT,Nat.succ_mul];omega
theorem ur(w:World)(c:Array Value)(t:TypeId)(f:Nat×Nat)(o:Nat):(w.alloc (.cells c t f)).cell? ⟨w.heap.size,o,none⟩=c[o]? :=by simp [World.cell?,heap_alloc]
theorem Kp(w:World)(c:Array Value)(t:TypeId)(o:Nat):(w.alloc (.cells c t)).frozen? ⟨w.heap.size,o,none⟩=false:=by simp [World.frozen?,heap_alloc]
theorem cS.an{φ:Map}{be:Nat→Prop}{h:J}{w:World}(r:cS φ be h w){nid:Nat}(hid:∀v,φ nid v=none)(aR:nid<h.U)(db:fu be w.heap.size)
 {l:List aa} {es:Nat} (ck:0<es) (aC:∀e∈l,e.cells.length=es) {c:Array Value} {t:TypeId} {tot:Nat} {ex:Bool}
 (aw:bz φ (flat l) (c.toList.take (l.length*es))) (fq:tot*es≤c.size) (oV:l.length≤tot) (kr:∀x∈c.toList.take (l.length*es),x.oneCell'=true) {ty:Option (TypeId×Nat)} (kT:∀q,ty=some q→q.1=t∧(q.2≠0→c.size=q.2)) :
 cS (φ.add nid 0 ⟨w.heap.size,0,0,es,tot,ex,false⟩) be (h.set nid (.an l es ex ty)) (w.alloc (.cells c t)):=by
 have hle:=φ.rc (id:=nid) (v:=0) ⟨w.heap.size,0,0,es,tot,ex,false⟩ (hid 0);constructor
 ·intro i v p ah;simp only [Map.add]at ah;split at ah
  ·rename_i e;obtain⟨rfl,rfl⟩:=e;simp at ah;subst ah;refine⟨aR,.an l es ex ty,J.gE _ _ _,Nat.le_refl _,rfl,rfl,fun _=>rfl,ck,?_⟩;constructor
   ·rw [size_alloc];simp
   ·intro _;exact db.no
   ·intro o ao;simp only at ao⊢;rw [ur,Nat.zero_add,Array.getElem?_eq_getElem ab];rfl
   ·intro _ o ao;exact Kp _ _ _ _
   ·intro _;exact⟨t,c.size,0,0,by simp [fC,heap_alloc],.inl rfl⟩
   ·intro eQ bW;exact⟨c.size,0,0,by rw [(kT eQ bW).1];simp [fC,heap_alloc],(kT eQ bW).2,rfl⟩
   ·intro i e _ aq he;rw [af.Kn]at aq;simp at aq;have jN:l[i]? =some e:=he;have hm:e∈l:=List.mem_of_getElem? jN;refine⟨aC e hm,by simp only;omega,fun j bT aj=> ?_⟩;have aZ:=oU aC jN aj;obtain⟨x,dT,fD⟩:=aw.get aZ;refine⟨x,?_,fD.mono hle,kr x (List.mem_of_getElem? dT)⟩;simp only [Place.at,Nat.sub_zero,Nat.zero_add];rw [ur];rw [List.getElem?_take]at dT;split at dT
    ·simpa using dT
    ·simp at dT
  ·obtain⟨ac,b,ai,a8,bQ,bF,dv,cE,cj⟩:=r.dD i v p ah;have bX:nid≠i:=by intro e;subst e;rw [hid v]at ah;cases ah
   exact⟨ac,b,by rw [J.fg _ _ bX];exact ai,a8,bQ,bF,dv,cE,(cj.alike (Alike.alloc _ _)).mono hle⟩
 ·intro i v p j u q ah aB ax iC;simp only [Map.add]at ah aB;split at ah<;>split at aB
  ·rename_i bi bu;exact absurd (bi.1.trans bu.1.symm) iC
  ·simp at ah;subst ah;obtain⟨_,b,_,_,_,_,_,_,cj⟩:=r.dD j u q aB;have:=cj.cd;simp only at ax;omega
  ·simp at aB;subst aB;obtain⟨_,b,_,_,_,_,_,_,cj⟩:=r.dD i v p ah;have:=cj.cd;simp only at ax;omega
  ·exact r.apart i v p j u q ah aB ax iC
 ·intro i v p u q ah aB ax;simp only [Map.add]at ah aB;split at ah<;>split at aB
  ·simp at ah aB;subst ah aB;exact⟨rfl,rfl⟩
  ·simp at ah;subst ah;obtain⟨_,b,_,_,_,_,_,_,cj⟩:=r.dD i u q aB;have:=cj.cd;simp only at ax;omega
  ·simp at aB;subst aB;obtain⟨_,b,_,_,_,_,_,_,cj⟩:=r.dD i v p ah;have:=cj.cd;simp only at ax;omega
  ·exact r.same i v p u q ah aB ax
theorem cS.Sr{φ:Map}{be:Nat→Prop}{h:J}{w:World}(r:cS φ be h w){nid:Nat}(hid:∀v,φ nid v=none)(aR:nid<h.U)(db:fu be w.heap.size)
 {l:List aa} {es:Nat} (ck:0<es) (aC:∀e∈l,e.cells.length=es) {c:Array Value} {t:TypeId} {cF:Nat×Nat} {tot:Nat} {ex:Bool}
 (aw:bz φ (flat l) (c.toList.take (l.length*es))) (fq:tot*es≤c.size) (oV:l.length≤tot) (kr:∀x∈c.toList.take (l.length*es),x.oneCell'=true) (Kq:cF.1=cF.2∨c.size≤cF.1) {ty:Option (TypeId×Nat)} (kT:∀q,ty=some q→q.1=t∧(q.2≠0→c.size=q.2)) :
 cS (φ.add nid 0 ⟨w.heap.size,0,0,es,tot,ex,false⟩) be (h.set nid (.an l es ex ty)) (w.alloc (.cells c t cF)):=by
 have hle:=φ.rc (id:=nid) (v:=0) ⟨w.heap.size,0,0,es,tot,ex,false⟩ (hid 0);constructor
 ·intro i v p ah;simp only [Map.add]at ah;split at ah
  ·rename_i e;obtain⟨rfl,rfl⟩:=e;simp at ah;subst ah;refine⟨aR,.an l es ex ty,J.gE _ _ _,Nat.le_refl _,rfl,rfl,fun _=>rfl,ck,?_⟩;constructor
   ·rw [size_alloc];simp
   ·intro _;exact db.no
   ·intro o ao;simp only at ao⊢;rw [ur,Nat.zero_add,Array.getElem?_eq_getElem ab];rfl
   ·intro _ o ao;simp only at ao⊢;rw [Nat.zero_add];simp only [World.frozen?,heap_alloc,Array.getElem?_push_size];obtain⟨f1,f2⟩:=cF;simp only at Kq⊢;simp;omega
   ·intro _;exact⟨t,c.size,cF.1,cF.2,by simp [fC,heap_alloc],Kq⟩
   ·intro eQ bW;exact⟨c.size,cF.1,cF.2,by rw [(kT eQ bW).1];simp [fC,heap_alloc],(kT eQ bW).2,rfl⟩
   ·intro i e _ aq he;rw [af.Kn]at aq;simp at aq;have jN:l[i]? =some e:=he;have hm:e∈l:=List.mem_of_getElem? jN;refine⟨aC e hm,by simp only;omega,fun j bT aj=> ?_⟩;have aZ:=oU aC jN aj;obtain⟨x,dT,fD⟩:=aw.get aZ;refine⟨x,?_,fD.mono hle,kr x (List.mem_of_getElem? dT)⟩;simp only [Place.at,Nat.sub_zero,Nat.zero_add];rw [ur];rw [List.getElem?_take]at dT;split at dT
    ·simpa using dT
    ·simp at dT
  ·obtain⟨ac,b,ai,a8,bQ,bF,dv,cE,cj⟩:=r.dD i v p ah;have bX:nid≠i:=by intro e;subst e;rw [hid v]at ah;cases ah
   exact⟨ac,b,by rw [J.fg _ _ bX];exact ai,a8,bQ,bF,dv,cE,(cj.alike (Alike.alloc _ _)).mono hle⟩
 ·intro i v p j u q ah aB ax iC;simp only [Map.add]at ah aB;split at ah<;>split at aB
  ·rename_i bi bu;exact absurd (bi.1.trans bu.1.symm) iC
  ·simp at ah;subst ah;obtain⟨_,b,_,_,_,_,_,_,cj⟩:=r.dD j u q aB;have:=cj.cd;simp only at ax;omega
  ·simp at aB;subst aB;obtain⟨_,b,_,_,_,_,_,_,cj⟩:=r.dD i v p ah;have:=cj.cd;simp only at ax;omega
  ·exact r.apart i v p j u q ah aB ax iC
 ·intro i v p u q ah aB ax;simp only [Map.add]at ah aB;split at ah<;>split at aB
  ·simp at ah aB;subst ah aB;exact⟨rfl,rfl⟩
  ·simp at ah;subst ah;obtain⟨_,b,_,_,_,_,_,_,cj⟩:=r.dD i u q aB;have:=cj.cd;simp only at ax;omega
  ·simp at aB;subst aB;obtain⟨_,b,_,_,_,_,_,_,cj⟩:=r.dD i v p ah;have:=cj.cd;simp only at ax;omega
  ·exact r.same i v p u q ah aB ax
end
end Go.cf
namespace Go.cf
noncomputable section
theorem DR:∀(vs l:List aa)(i:Nat),(iZ l i vs).length=l.length
 |[],l,i=>rfl
 |v::vs,l,i=>by simp [iZ,DR vs]
theorem z':∀(vs l:List aa)(i k:Nat),(iZ l i vs)[k]? =if i≤k∧k<i+vs.length∧k<l.length then vs[k-i]? else l[k]?
 |[],l,i,k=>by simp only [iZ,List.length_nil,Nat.add_zero];rw [if_neg ab]
 |v ::vs,l,i,k=>by
  simp only [iZ,List.length_cons];rw [z' vs (l.set i v) (i+1) k,List.length_set];by_cases au:i=k
  ·subst au;rw [if_neg ab];by_cases aC:i<l.length
   ·rw [if_pos ab,List.getElem?_set_self aC];simp
   ·rw [if_neg ab,List.getElem?_eq_none (by simpa using aC),List.getElem?_eq_none ab]
  ·rw [List.getElem?_set_ne au];by_cases h:i+1≤k∧k<i+1+vs.length∧k<l.length
   ·rw [if_pos h,if_pos ab,show k-i=k- (i+1)+1 by omega];simp
   ·rw [if_neg h,if_neg ab]
theorem World.DS(b:Nat):∀(vs:List Value)(o:Nat)(w:World),(w.setCells b o vs).heap.size=w.heap.size
 |[],_,_=>rfl
 |v::r,o,w=>by rw [World.setCells,World.DS b r];exact World.size_setCell _ _ _
theorem Kr(w:World)(a:Addr)(v:Value)(k:Nat):fC (w.setCell a v) k=fC w k:=by
 unfold fC World.setCell;simp only [Array.getElem?_modify];by_cases h:a.block=k
 ·subst h;simp only [if_true];cases bU:w.heap[a.block]? with
  |none=>rfl
  |some o =>
   cases o
   case cells c t f =>
    obtain⟨bb,aq⟩:=f;simp only [Option.map_some];split<;>simp
   all_goals rfl
 ·rw [if_neg h]
theorem kS.setCells{w:World}{k:Nat}(h:kS w k)(b o:Nat):∀(vs:List Value),kS (w.setCells b o vs) k:=by
 intro vs;induction vs generalizing w o with
 |nil=>exact h
 |cons v r ih=>exact ih (h.of_eq (Kr _ _ _ _)) _
theorem wD{w:World}(k b o:Nat):∀(vs:List Value),fC (w.setCells b o vs) k=fC w k:=by
 intro vs;induction vs generalizing w o with
 |nil=>rfl
 |cons v r ih=>exact(ih _).trans (Kr _ _ _ _)
theorem us{i j es tot:Nat}(aq:i<tot)(a1:j<es):i*es+j<tot*es:=by have h:(i+1)*es≤tot*es:=Nat.mul_le_mul_right es aq;rw [Nat.succ_mul]at h;omega
theorem uu{i k j es:Nat}(aq:i<k)(a1:j<es):i*es+j<k*es:=us aq a1
theorem cS.wrote{φ:Map}{be:Nat→Prop}{h:J}{w:World}(r:cS φ be h w){id:Nat}{b:af}{p:Place}(ah:φ id b.ad=some p)(ax:h.get id=some b)
 (eu:b.ro=false) {l:List aa} (aC:l.length=b.bk.length) {o:Nat} {vs:List Value}
 (aw:∀i e,p.bb≤i→l[i]? =some e→e.cells.length=p.es∧∀j bT,e.cells[j]? =some bT→ ∃x,(w.setCells p.cd o vs).cell? (p.at i j)=some x∧aL φ bT x∧x.oneCell'=true) :
 cS φ be (h.set id {b with bk:=l,gd:=b.ad}) (w.setCells p.cd o vs):=by
 constructor
 ·intro i v q aB;obtain⟨ac,c,ai,a8,bQ,bF,dv,cE,cj⟩:=r.dD i v q aB;have fq:=World.DS p.cd vs o w;by_cases aq:i=id
  ·subst aq;rw [ax]at ai;simp at ai;subst ai;refine⟨ac,_,J.gE _ _ _,a8,bQ,bF,dv,cE,⟨by rw [fq];exact cj.cd,cj.base,fun eB hD=>World.isSome_setCells _ _ _ _ _ (cj.cells eB hD),fun fv eB hD=>by rw [World.frozen?_setCells];exact cj.free fv eB hD,fun fv=>(cj.mark fv).setCells _ _ _,fun t9 fv=>by rw [wD];exact cj.jy t9 fv,?_⟩⟩;intro k e gh cn lr;simp only [af.cC]at cn;by_cases bh:v=b.ad
   ·subst bh;rw [ah]at aB;simp at aB;subst aB;rw [if_pos rfl]at cn;obtain⟨dS,jN⟩:∃dS,b.bk[k]? =some dS:=⟨_,List.getElem?_eq_getElem (by simpa [aC]using cn)⟩
    have:=cj.cont k dS gh (by simpa [af.cC,aC]using cn) jN;exact⟨(aw k e gh lr).1,this.2.1,(aw k e gh lr).2⟩
   ·exfalso;rw [if_neg bh]at cn;rw [if_neg ab]at cn;omega
  ·have bX:p.cd≠q.cd:=by intro e;have:=r.apart id b.ad p i v q ah aB e (fun e=>aq e.symm);obtain⟨_,jc,Aa,_,_,_,Ks,_,_⟩:=r.dD id b.ad p ah;rw [ax]at Aa;simp at Aa;subst Aa;rw [Ks eu]at this;simp at this
   refine⟨ac,c,by rw [J.fg _ _ (fun e=>aq e.symm)];exact ai,a8,bQ,bF,dv,cE,?_⟩;have nT:∀a:Addr,a.block=q.cd→(w.setCells p.cd o vs).cell? a=w.cell? a:=fun a aT=>World.cell?_setCells_out _ _ _ _ _ (fun bU _=>absurd (bU.symm.trans aT) bX)
   refine⟨by rw [fq];exact cj.cd,cj.base,fun eB hD=>by rw [nT _ rfl];exact cj.cells eB hD,fun fv eB hD=>by rw [World.frozen?_setCells];exact cj.free fv eB hD,fun fv=>(cj.mark fv).setCells _ _ _,fun t9 fv=>by rw [wD];exact cj.jy t9 fv,?_⟩;intro k e gh cn lr;obtain⟨pX,DT,DU⟩:=cj.cont k e gh cn lr;refine⟨pX,DT,fun j bT aj=> ?_⟩;obtain⟨x,dT,fD⟩:=DU j bT aj;exact⟨x,by rw [nT _ rfl];exact dT,fD⟩
 ·exact r.apart
 ·exact r.same
theorem cS.store{φ:Map}{be:Nat→Prop}{h:J}{w:World}(r:cS φ be h w){id:Nat}{b:af}{p:Place}(ah:φ id b.ad=some p)(ax:h.get id=some b)
 (eu:b.ro=false) {idx fld:Nat} {e dS:aa} {bm:List aa} {vs:List Value} (eI:p.bb≤idx) (he:b.bk[idx]? =some e)
 (fo:bz φ bm vs) (kr:∀x∈vs,x.oneCell'=true) (oW:fld+bm.length≤p.es) (hlen:dS.cells=iZ e.cells fld bm) :
 cS φ be (h.set id {b with bk:=b.bk.set idx dS,gd:=b.ad}) (w.setCells p.cd (p.off+(idx-p.bb)*p.es+fld) vs)
 ∧w.there p.cd (p.off+(idx-p.bb)*p.es+fld) vs.length:=by
 obtain⟨ac,c,ai,a8,bQ,bF,dv,cE,cj⟩:=r.dD id b.ad p ah;rw [ax]at ai;simp at ai;subst ai;have sM:idx<b.bk.length:=(List.getElem?_eq_some_iff.1 he).1;have ls:b.cC b.ad=b.bk.length:=by simp [af.cC]
 obtain⟨dI,c2,c3⟩:=cj.cont idx e eI (by rw [ls];exact sM) he;have lu:vs.length=bm.length:=fo.length
 have re:w.there p.cd (p.off+(idx-p.bb)*p.es+fld) vs.length:=by intro j a1;have ax:(idx-p.bb)*p.es+(fld+j)<p.tot*p.es:=us c2 ab;have aK:=cj.cells _ ax;have aP:=cj.free eu _ ax;have bi:p.off+(idx-p.bb)*p.es+fld+j=p.off+((idx-p.bb)*p.es+(fld+j)):= ab;rw [bi];exact⟨aK,aP⟩
 refine⟨?_,re⟩;refine r.wrote ah ax eu aM fun i f aq aZ=> ?_
 by_cases Kt:idx=i
 ·subst Kt;rw [List.getElem?_set_self sM]at aZ;simp at aZ;subst aZ;refine⟨by rw [hlen,DR];exact dI,fun j bT aj=> ?_⟩;rw [hlen,z']at aj;split at aj
  ·rename_i aw;obtain⟨x,dT,fD⟩:=fo.get aj;have rf:j-fld<vs.length:= ab;have:=World.cell?_setCells_in p.cd vs (p.off+(idx-p.bb)*p.es+fld) w (fun k au=>(re k au).1) (j-fld) rf;refine⟨x,?_,fD,kr x (List.mem_of_getElem? dT)⟩;rw [List.getElem?_eq_getElem rf]at dT;simp at dT;rw [Place.at,show p.off+(idx-p.bb)*p.es+j=p.off+(idx-p.bb)*p.es+fld+(j-fld)by omega,this,dT]
  ·rename_i aw;obtain⟨x,dT,fD⟩:=c3 j bT aj;refine⟨x,?_,fD⟩;have a1:j<e.cells.length:=(List.getElem?_eq_some_iff.1 aj).1;rw [World.cell?_setCells_out _ _ _ _ _ (fun _ _=> ?_)]
   ·exact dT
   ·simp only [Place.at];omega
 ·rw [List.getElem?_set_ne Kt]at aZ;have gF:i<b.bk.length:=(List.getElem?_eq_some_iff.1 aZ).1;obtain⟨d1,d2,d3⟩:=cj.cont i f aq (by rw [ls];exact gF) aZ;refine⟨d1,fun j bT aj=> ?_⟩;obtain⟨x,dT,fD⟩:=d3 j bT aj;refine⟨x,?_,fD⟩;have a1:j<f.cells.length:=(List.getElem?_eq_some_iff.1 aj).1;rw [World.cell?_setCells_out _ _ _ _ _ (fun _ _=> ?_)]
  ·exact dT
  ·simp only [Place.at];rcases Nat.lt_or_ge i idx with cG|gi
   ·left;have:=uu (i:=i-p.bb) (k:=idx-p.bb) (j:=j) (es:=p.es) ab ab;omega
   ·right;have:=uu (i:=idx-p.bb) (k:=i-p.bb) (j:=fld+vs.length-1) (es:=p.es) ab ab;omega
theorem Ab{es:Nat} :∀{l:List aa}(aC:∀e∈l,e.cells.length=es)(k:Nat),k<(flat l).length→ ∃i j e,k=i*es+j∧l[i]? =some e∧j<es
 |[],aC,k,h=>by simp [flat]at h
 |a ::r,aC,k,h=>by
  have aT:a.cells.length=es:=aC a aM;by_cases au:k<es
  ·exact⟨0,k,a,aM,aM,au⟩
  ·obtain⟨i,j,e,ac,ai,a8⟩:=Ab (l:=r) (fun e he=>aC e (by simp [he])) (k-es) (by simp only [flat,List.flatMap_cons,List.length_append]at h⊢; omega);exact⟨i+1,j,e,by rw [Nat.succ_mul];omega,by simpa using ai,a8⟩
theorem cS.Ss{φ:Map}{be:Nat→Prop}{h:J}{w:World}(r:cS φ be h w){id:Nat}{b:af}{p:Place}(ah:φ id b.ad=some p)(ax:h.get id=some b)
 (eu:b.ro=false) {idx:Nat} {l:List aa} {vs:List Value} (eI:p.bb≤idx) (cG:idx+l.length≤b.bk.length) (bX:l≠[])
 (aC:∀e∈l,e.cells.length=p.es) (wE:bz φ (flat l) vs) (kr:∀x∈vs,x.oneCell'=true) :
 cS φ be (h.set id (b.put idx l)) (w.setCells p.cd (p.off+(idx-p.bb)*p.es) vs)
 ∧w.there p.cd (p.off+(idx-p.bb)*p.es) vs.length:=by
 obtain⟨ac,c,ai,a8,bQ,bF,dv,cE,cj⟩:=r.dD id b.ad p ah;rw [ax]at ai;simp at ai;subst ai;have ls:b.cC b.ad=b.bk.length:=by simp [af.cC]
 have lu:vs.length=l.length*p.es:=by rw [wE.length,lq aC]
 have jO:0<l.length:=List.length_pos_iff.2 bX
 have ahd:idx+l.length-1-p.bb<p.tot:=by have pY:idx+l.length-1<b.bk.length:= ab;exact(cj.cont (idx+l.length-1) _ ab (by rw [ls];exact pY) (List.getElem?_eq_getElem pY)).2.1
 have hmul:(idx-p.bb+l.length)*p.es≤p.tot*p.es:=Nat.mul_le_mul_right _ ab;rw [Nat.add_mul]at hmul
 have re:w.there p.cd (p.off+(idx-p.bb)*p.es) vs.length:=by intro j a1;have ax:(idx-p.bb)*p.es+j<p.tot*p.es:= ab;have bi:p.off+(idx-p.bb)*p.es+j=p.off+((idx-p.bb)*p.es+j):= ab;rw [bi];exact⟨cj.cells _ ax,cj.free eu _ ax⟩
 refine⟨?_,re⟩;refine r.wrote ah ax eu (by simp [DR]) fun i f aq aZ=> ?_
 rw [z']at aZ;split at aZ
 ·rename_i aw;have hm:f∈l:=List.mem_of_getElem? aZ;refine⟨aC f hm,fun j bT aj=> ?_⟩;have a1:j<p.es:=by rw [←aC f hm];exact(List.getElem?_eq_some_iff.1 aj).1
  have ak:=oU aC aZ aj;obtain⟨x,dT,fD⟩:=wE.get ak;refine⟨x,?_,fD,kr x (List.mem_of_getElem? dT)⟩;have rf:(i-idx)*p.es+j<vs.length:=by rw [lu];exact us ab a1
  have:=World.cell?_setCells_in p.cd vs (p.off+(idx-p.bb)*p.es) w (fun k au=>(re k au).1) _ rf;rw [List.getElem?_eq_getElem rf]at dT;simp at dT;have bu:(i-p.bb)*p.es=(idx-p.bb)*p.es+(i-idx)*p.es:=by rw [←Nat.add_mul];congr 1;omega
  rw [Place.at,show p.off+(i-p.bb)*p.es+j=p.off+(idx-p.bb)*p.es+((i-idx)*p.es+j)by omega,this,dT]
 ·rename_i aw;have gF:i<b.bk.length:=(List.getElem?_eq_some_iff.1 aZ).1;obtain⟨d1,d2,d3⟩:=cj.cont i f aq (by rw [ls];exact gF) aZ;refine⟨d1,fun j bT aj=> ?_⟩;obtain⟨x,dT,fD⟩:=d3 j bT aj;refine⟨x,?_,fD⟩;have a1:j<f.cells.length:=(List.getElem?_eq_some_iff.1 aj).1;rw [World.cell?_setCells_out _ _ _ _ _ (fun _ _=> ?_)]
  ·exact dT
  ·simp only [Place.at];rcases Nat.lt_or_ge i idx with cG|gi
   ·left;have:=uu (i:=i-p.bb) (k:=idx-p.bb) (j:=j) (es:=p.es) ab ab;omega
   ·right;have:=Nat.mul_le_mul_right p.es (show idx-p.bb+l.length≤i-p.bb by omega);rw [Nat.add_mul]at this;omega
theorem af.Ku(b:af)(new:List aa)(v:Nat):(b.grow new).cC v =
 if v=b.ad+1 then b.bk.length+new.length else if b.gd≤v∧v<b.ad+1 then(if b.gd=b.ad then b.bk.length else min b.hj b.bk.length)else 0:=by
 rw [←List.length_append];rfl
theorem af.Kv(b:af)(new:List aa)(v:Nat)(h:v≤b.ad):(b.grow new).cC v≤b.cC v∧(b.grow new).cC v≤b.bk.length:=by rw [af.Ku];unfold af.cC;rw [if_neg ab];constructor<;>(repeat' split)<;>omega
theorem af.Kw(b:af)(new:List aa):(b.grow new).cC (b.ad+1)=b.bk.length+new.length:=by rw [af.Ku,if_pos rfl]
theorem cS.St{φ:Map}{be:Nat→Prop}{h:J}{w:World}(r:cS φ be h w){id:Nat}{b:af}{p:Place}(ah:φ id b.ad=some p)(ax:h.get id=some b)
 (eu:b.ro=false) (hex:b.exact=false) (db:fu be w.heap.size) {idx:Nat} {new:List aa} (sM:idx≤b.bk.length)
 (aF:∀e∈b.bk.drop idx,e.cells.length=b.es) (fS:∀e∈new,e.cells.length=b.es)
 {c:Array Value} {t:TypeId} {tot:Nat} (aw:bz φ (flat (b.bk.drop idx++new)) (c.toList.take ((b.bk.drop idx++new).length*b.es)))
 (fq:tot*b.es≤c.size) (oV:(b.bk.drop idx++new).length≤tot)
 (kr:∀x∈c.toList.take ((b.bk.drop idx++new).length*b.es),x.oneCell'=true) (kT:∀q,b.ty=some q→q.1=t∧(q.2≠0→c.size=q.2)) :
 cS (φ.add id (b.ad+1) ⟨w.heap.size,0,idx,b.es,tot,false,false⟩) be (h.set id (b.grow new)) (w.alloc (.cells c t)):=by
 have im:φ id (b.ad+1)=none:=by
  cases aB:φ id (b.ad+1)with
  |none=>rfl
  |some q=>obtain⟨_,jc,ai,a8,_⟩:=r.dD _ _ _ aB;rw [ax]at ai;simp at ai;subst ai;omega
 have hle:=φ.rc (id:=id) (v:=b.ad+1) ⟨w.heap.size,0,idx,b.es,tot,false,false⟩ im;obtain⟨g1,jc,g2,g3,g4,g5,g6,g7,g8⟩:=r.dD id b.ad p ah;rw [ax]at g2;simp at g2;subst g2;constructor
 ·intro i v q aB;simp only [Map.add]at aB;split at aB
  ·rename_i e;obtain⟨rfl,rfl⟩:=e;simp at aB;subst aB;refine⟨g1,b.grow new,J.gE _ _ _,Nat.le_refl _,rfl,hex.symm,fun _=>rfl,by rw [←g4];exact g7,?_⟩;constructor
   ·rw [size_alloc];simp
   ·intro _;exact db.no
   ·intro o ao;simp only at ao⊢;rw [ur,Nat.zero_add,Array.getElem?_eq_getElem ab];rfl
   ·intro _ o ao;exact Kp _ _ _ _
   ·intro _;exact⟨t,c.size,0,0,by simp [fC,heap_alloc],.inl rfl⟩
   ·intro eQ bW;exact⟨c.size,0,0,by rw [(kT eQ bW).1];simp [fC,heap_alloc],(kT eQ bW).2,rfl⟩
   ·intro k e gh cn lr;rw [af.Kw]at cn;have hlen:(b.bk.drop idx++new).length=b.bk.length-idx+new.length:= aM
    have h3:∀e∈b.bk.drop idx++new,e.cells.length=b.es:=fun e he=>by
     rcases List.mem_append.1 he with he|he
     ·exact aF e he
     ·exact fS e he
    have kt:(b.bk++new)[k]? =some e:=lr
    have Kx:(b.bk.drop idx++new)[k-idx]? =some e:=by
     simp only at gh;by_cases lv:k<b.bk.length
     ·rw [List.getElem?_append_left lv]at kt;rw [List.getElem?_append_left (by simp;omega),List.getElem?_drop,show idx+(k-idx)=k by omega];exact kt
     ·rw [List.getElem?_append_right ab]at kt;rw [List.getElem?_append_right (by simp;omega),List.length_drop,show k-idx- (b.bk.length-idx)=k-b.bk.length by omega];exact kt
    have hm:=List.mem_of_getElem? Kx;refine⟨h3 e hm,by simp only at gh⊢; omega,fun j bT aj=> ?_⟩;have aZ:=oU h3 Kx aj;obtain⟨x,dT,fD⟩:=aw.get aZ;refine⟨x,?_,fD.mono hle,kr x (List.mem_of_getElem? dT)⟩;simp only [Place.at,Nat.zero_add];rw [ur];rw [List.getElem?_take]at dT;split at dT
    ·simpa using dT
    ·simp at dT
  ·obtain⟨ac,ft,ai,a8,bQ,bF,dv,cE,cj⟩:=r.dD i v q aB;by_cases aq:i=id
   ·subst aq;rw [ax]at ai;simp at ai;subst ai;have sN:=(cj.alike (Alike.alloc w (.cells c t))).mono hle;have ls:=af.Kv b new v a8;refine⟨ac,b.grow new,J.gE _ _ _,by simp only [af.grow];omega,bQ,bF,dv,cE,⟨sN.cd,sN.base,sN.cells,sN.free,sN.mark,sN.jy,fun k e gh cn lr=>sN.cont k e gh ab ?_⟩⟩;have kt:(b.bk++new)[k]? =some e:=lr
    rwa [List.getElem?_append_left ab]at kt
   ·exact⟨ac,ft,by rw [J.fg _ _ (fun e=>aq e.symm)];exact ai,a8,bQ,bF,dv,cE,(cj.alike (Alike.alloc _ _)).mono hle⟩
 ·intro i v q j u jP aB eC kU iC;simp only [Map.add]at aB eC;split at aB<;>split at eC
  ·rename_i bi bu;exact absurd (bi.1.trans bu.1.symm) iC
  ·simp at aB;subst aB;obtain⟨_,_,_,_,_,_,_,_,cj⟩:=r.dD j u jP eC;have:=cj.cd;simp only at kU;omega
  ·simp at eC;subst eC;obtain⟨_,_,_,_,_,_,_,_,cj⟩:=r.dD i v q aB;have:=cj.cd;simp only at kU;omega
  ·exact r.apart i v q j u jP aB eC kU iC
 ·intro i v q u jP aB eC kU;simp only [Map.add]at aB eC;split at aB<;>split at eC
  ·simp at aB eC;subst aB eC;exact⟨rfl,rfl⟩
  ·simp at aB;subst aB;obtain⟨_,_,_,_,_,_,_,_,cj⟩:=r.dD i u jP eC;have:=cj.cd;simp only at kU;omega
  ·simp at eC;subst eC;obtain⟨_,_,_,_,_,_,_,_,cj⟩:=r.dD i v q aB;have:=cj.cd;simp only at kU;omega
  ·exact r.same i v q u jP aB eC kU
theorem cS.Su{φ:Map}{be:Nat→Prop}{h:J}{w:World}(r:cS φ be h w){id:Nat}{b:af}{p:Place}(ah:φ id b.ad=some p)(ax:h.get id=some b)
 (eu:b.ro=false) {new:List aa} {vs:List Value} (eI:p.bb≤b.bk.length) (Ac:b.bk.length-p.bb+new.length≤p.tot)
 (fS:∀e∈new,e.cells.length=p.es) (wE:bz φ (flat new) vs) (kr:∀x∈vs,x.oneCell'=true) :
 cS (φ.add id (b.ad+1) p) be (h.set id (b.grow new)) (w.setCells p.cd (p.off+(b.bk.length-p.bb)*p.es) vs)
 ∧w.there p.cd (p.off+(b.bk.length-p.bb)*p.es) vs.length:=by
 have im:φ id (b.ad+1)=none:=by
  cases aB:φ id (b.ad+1)with
  |none=>rfl
  |some q=>obtain⟨_,jc,ai,a8,_⟩:=r.dD _ _ _ aB;rw [ax]at ai;simp at ai;subst ai;omega
 have hle:=φ.rc (id:=id) (v:=b.ad+1) p im;obtain⟨g1,jc,g2,g3,g4,g5,g6,g7,g8⟩:=r.dD id b.ad p ah;rw [ax]at g2;simp at g2;subst g2;have lu:vs.length=new.length*p.es:=by rw [wE.length,lq fS]
 have hmul:(b.bk.length-p.bb+new.length)*p.es≤p.tot*p.es:=Nat.mul_le_mul_right _ Ac;rw [Nat.add_mul]at hmul
 have re:w.there p.cd (p.off+(b.bk.length-p.bb)*p.es) vs.length:=by intro j a1;have ax:(b.bk.length-p.bb)*p.es+j<p.tot*p.es:= ab;have bi:p.off+(b.bk.length-p.bb)*p.es+j=p.off+((b.bk.length-p.bb)*p.es+j):= ab;rw [bi];exact⟨g8.cells _ ax,g8.free eu _ ax⟩
 refine⟨?_,re⟩;have fq:=World.DS p.cd vs (p.off+(b.bk.length-p.bb)*p.es) w
 have Ky:∀(q:Place)(k j:Nat),q.cd=p.cd→q.off=p.off→q.bb=p.bb→q.es=p.es→k<b.bk.length→q.bb≤k→j<q.es →
  (w.setCells p.cd (p.off+(b.bk.length-p.bb)*p.es) vs).cell? (q.at k j)=w.cell? (q.at k j):=by
  intro q k j wF uv Sv Sw gh cn a1;refine World.cell?_setCells_out _ _ _ _ _ (fun _ _=> .inl ?_);simp only [Place.at,uv,Sv,Sw];have:=uu (i:=k-p.bb) (k:=b.bk.length-p.bb) (j:=j) (es:=p.es) ab ab;omega
 have Sx:b.cC b.ad=b.bk.length:=by simp [af.cC]
 constructor
 ·intro i v q aB;simp only [Map.add]at aB;split at aB
  ·rename_i e;obtain⟨rfl,rfl⟩:=e;simp at aB;subst aB;refine⟨g1,b.grow new,J.gE _ _ _,Nat.le_refl _,g4,g5,g6,g7,⟨by rw [fq];exact g8.cd,g8.base,fun eB hD=>World.isSome_setCells _ _ _ _ _ (g8.cells eB hD),fun fv eB hD=>by rw [World.frozen?_setCells];exact g8.free fv eB hD,fun fv=>(g8.mark fv).setCells _ _ _,fun t9 fv=>by rw [wD];exact g8.jy t9 fv,?_⟩⟩;intro k e gh cn lr;rw [af.Kw]at cn;have kt:(b.bk++new)[k]? =some e:=lr;by_cases lv:k<b.bk.length
   ·rw [List.getElem?_append_left lv]at kt;obtain⟨d1,d2,d3⟩:=g8.cont k e gh (by rw [Sx];exact lv) kt;refine⟨d1,d2,fun j bT aj=> ?_⟩;obtain⟨x,dT,fD⟩:=d3 j bT aj;have a1:j<e.cells.length:=(List.getElem?_eq_some_iff.1 aj).1;exact⟨x,by rw [Ky p k j rfl rfl rfl rfl lv gh ab];exact dT,fD.1.mono hle,fD.2⟩
   ·rw [List.getElem?_append_right ab]at kt;have hm:=List.mem_of_getElem? kt;refine⟨fS e hm,ab,fun j bT aj=> ?_⟩;have a1:j<p.es:=by rw [←fS e hm];exact(List.getElem?_eq_some_iff.1 aj).1
    have ak:=oU fS kt aj;obtain⟨x,dT,fD⟩:=wE.get ak;refine⟨x,?_,fD.mono hle,kr x (List.mem_of_getElem? dT)⟩;have rf:(k-b.bk.length)*p.es+j<vs.length:=by rw [lu];exact us (by have:=(List.getElem?_eq_some_iff.1 kt).1;omega) a1
    have:=World.cell?_setCells_in p.cd vs (p.off+(b.bk.length-p.bb)*p.es) w (fun k au=>(re k au).1) _ rf;rw [List.getElem?_eq_getElem rf]at dT;simp at dT;have bu:(k-p.bb)*p.es=(b.bk.length-p.bb)*p.es+(k-b.bk.length)*p.es:=by rw [←Nat.add_mul];congr 1;omega
    rw [Place.at,show p.off+(k-p.bb)*p.es+j=p.off+(b.bk.length-p.bb)*p.es+((k-b.bk.length)*p.es+j)by omega,this,dT]
  ·obtain⟨ac,ft,ai,a8,bQ,bF,dv,cE,cj⟩:=r.dD i v q aB;by_cases aq:i=id
   ·subst aq;rw [ax]at ai;simp at ai;subst ai;have ls:=af.Kv b new v a8;refine⟨ac,b.grow new,J.gE _ _ _,by simp only [af.grow];omega,bQ,bF,dv,cE,⟨by rw [fq];exact cj.cd,cj.base,fun eB hD=>World.isSome_setCells _ _ _ _ _ (cj.cells eB hD),fun fv eB hD=>by rw [World.frozen?_setCells];exact cj.free fv eB hD,fun fv=>(cj.mark fv).setCells _ _ _,fun t9 fv=>by rw [wD];exact cj.jy t9 fv,fun k e gh cn lr=> ?_⟩⟩;have kt:(b.bk++new)[k]? =some e:=lr;rw [List.getElem?_append_left ab]at kt;obtain⟨d1,d2,d3⟩:=cj.cont k e gh ab kt;refine⟨d1,d2,fun j bT aj=> ?_⟩;obtain⟨x,dT,fD⟩:=d3 j bT aj;have a1:j<e.cells.length:=(List.getElem?_eq_some_iff.1 aj).1;refine⟨x,?_,fD.1.mono hle,fD.2⟩;by_cases DV:q.cd=p.cd
    ·obtain⟨s1,s2⟩:=r.same i v q b.ad p aB ah DV;rw [Ky q k j DV s1 s2 (by rw [bQ,g4]) ab gh ab];exact dT
    ·rw [World.cell?_setCells_out _ _ _ _ _ (fun bU _=>absurd bU (by simp only [Place.at];exact DV))];exact dT
   ·have bX:p.cd≠q.cd:=by intro e;have:=r.apart id b.ad p i v q ah aB e (fun e=>aq e.symm);rw [g6 eu]at this;simp at this
    have nT:∀a:Addr,a.block=q.cd→(w.setCells p.cd (p.off+(b.bk.length-p.bb)*p.es) vs).cell? a=w.cell? a:=fun a aT=>World.cell?_setCells_out _ _ _ _ _ (fun bU _=>absurd (bU.symm.trans aT) bX)
    refine⟨ac,ft,by rw [J.fg _ _ (fun e=>aq e.symm)];exact ai,a8,bQ,bF,dv,cE,?_⟩;refine⟨by rw [fq];exact cj.cd,cj.base,fun eB hD=>by rw [nT _ rfl];exact cj.cells eB hD,fun fv eB hD=>by rw [World.frozen?_setCells];exact cj.free fv eB hD,fun fv=>(cj.mark fv).setCells _ _ _,fun t9 fv=>by rw [wD];exact cj.jy t9 fv,?_⟩;intro k e gh cn lr;obtain⟨pX,DT,DU⟩:=cj.cont k e gh cn lr;refine⟨pX,DT,fun j bT aj=> ?_⟩;obtain⟨x,dT,fD⟩:=DU j bT aj;exact⟨x,by rw [nT _ rfl];exact dT,fD.1.mono hle,fD.2⟩
 ·intro i v q j u jP aB eC kU iC;simp only [Map.add]at aB eC;split at aB<;>split at eC
  ·rename_i bi bu;exact absurd (bi.1.trans bu.1.symm) iC
  ·rename_i bi bu;simp at aB;subst aB;exact r.apart id b.ad p j u jP ah eC kU (by rw [←bi.1];exact iC)
  ·rename_i bi bu;simp at eC;subst eC;exact r.apart i v q id b.ad p aB ah kU (by rw [←bu.1];exact iC)
  ·exact r.apart i v q j u jP aB eC kU iC
 ·intro i v q u jP aB eC kU;simp only [Map.add]at aB eC;split at aB<;>split at eC
  ·simp at aB eC;subst aB eC;exact⟨rfl,rfl⟩
  ·rename_i bi bu;simp at aB;subst aB;exact r.same id b.ad p u jP ah (by rw [←bi.1];exact eC) kU
  ·rename_i bi bu;simp at eC;subst eC;exact r.same id v q b.ad p (by rw [←bu.1];exact aB) ah kU
  ·exact r.same i v q u jP aB eC kU
open Go.RowKit in
theorem wG{B:Nat→Prop}{a:World}(b:Nat)(ax:¬B b):∀(vs:List Value)(o:Nat){w:World},Safe B a w→Safe B a (w.setCells b o vs)
 |[],_,_,h=>h
 |v::r,o,w,h=>wG b ax r (o+1) (h.setCell (p:=⟨b,o,none⟩) ax v)
end
end Go.cf
namespace Go.cf
noncomputable section
open Go.RowKit
theorem dH.dt.get{D:dH}{P:Program}(h:D.dt P){t:TypeId}{d:q6}(aE:D t=some d) :
 ∃i u,P.info? t=some i∧P.underlying t=some u∧d.kind=gW u∧d.size=i.size∧d.bytes=i.bytes∧d.zero=i.zero.map q5:=by
 have:=h t d aE;unfold zW at this;split at this
 ·rename_i i u aq hu;simp at this;subst this;exact⟨i,u,aq,hu,rfl,rfl,rfl,rfl⟩
 ·cases this
theorem lx{u:TypeDesc}{e:TypeId}(h:gW u=.slice e):u=.slice e:=by cases u<;>simp [gW]at h⊢; exact h
theorem uw{u:TypeDesc}{n:Nat}{e:TypeId}(h:gW u=.array n e):u=.array n e:=by cases u<;>simp [gW]at h⊢; exact h
theorem rh{u:TypeDesc}(h:gW u=.string):u=.string:=by cases u<;>simp [gW]at h⊢
theorem Kz{u:TypeDesc}(h:gW u=.bool):u=.bool:=by cases u<;>simp [gW]at h⊢
theorem wH{u:TypeDesc}{k:IntKind}(h:gW u=.int k):u=.int k:=by cases u<;>simp [gW]at h⊢; exact h
theorem Ad{u:TypeDesc}{e:TypeId}(h:gW u=.ptr e):u=.pointer e:=by cases u<;>simp [gW]at h⊢; exact h
theorem DW{u:TypeDesc}(h:gW u=.func):∃a b c,u=.func a b c:=by cases u<;>simp [gW]at h⊢
theorem DX{u:TypeDesc}{o:Bool}(h:gW u=.iface o):∃zV,u=.interface zV∧o= !zV.isEmpty:=by cases u<;>simp [gW]at h⊢; rw [h];simp
theorem Ae{u:TypeDesc}{l:List (Nat×TypeId)}(h:gW u=.struct l):∃fs,u=.struct fs∧l=fs.toList.map fun f=>(f.offset,f.type):=by cases u<;>simp [gW]at h⊢; exact h.symm
theorem sO{P:Program}{t:TypeId}{u:TypeDesc}(h:P.underlying t=some u)(w:World):(isAgg t).run P w=.ok (gW u).isAgg w:=by unfold isAgg;rw [Sem.run_bind,run_underlying h];cases u<;>rfl
theorem ly{P:Program}{t:TypeId}{i:TypeInfo}(h:P.info? t=some i)(w:World):(sizeOf t).run P w=.ok i.size w:=by simp [sizeOf,typeInfo,h]
theorem Sy{P:Program}{t:TypeId}{i:TypeInfo}(h:P.info? t=some i)(w:World):(typeInfo t).run P w=.ok i w:=by simp [typeInfo,h]
theorem wI{P:Program}{t:TypeId}{i:TypeInfo}{z:Value}(h:P.info? t=some i)(eK:i.zero=some z)(w:World):(zeroValue t).run P w=.ok z w:=by simp [zeroValue,typeInfo,h,eK]
section
variable {P:Program}{φ:Map}
theorem Sz{op:BinOp}{k:IntKind}{x y:Int}{v:aa}(t:TypeId)(h:kn op k x y=some v)(w:World) :
 ∃br,(binOp op t (.int k x) (.int k y)).run P w=.ok br w∧aL φ v br:=by
 cases op<;>simp only [kn]at h <;>
  first
   |(cases h;done)
   |(split at h<;>first|(cases h;done)|(rename_i bV;simp at h;subst h;exact⟨_,by simp [binOp,Op.intDiv,bV];rfl,by simp only [aL]⟩))
   |(simp at h;subst h;exact⟨_,by simp [binOp,Op.intArith,Op.intBits,Op.intCmp];rfl,by simp only [aL]⟩)
theorem KA{op:BinOp}{k e6:IntKind}{x y:Int}{v:aa}(t:TypeId)(gZ:op=.shl∨op=.shr)(h:wv op k x y=some v)(w:World) :
 ∃br,(binOp op t (.int k x) (.int e6 y)).run P w=.ok br w∧aL φ v br:=by
 unfold wv at h;split at h
 ·cases h
 ·rename_i bV;rcases gZ with rfl|rfl
  ·simp at h;subst h;exact⟨_,by simp [binOp,Op.shift,bV];rfl,by simp only [aL]⟩
  ·simp at h;subst h;exact⟨_,by simp [binOp,Op.shift,bV];rfl,by simp only [aL]⟩
theorem SA:IntKind.i64.max=9223372036854775807:=rfl
theorem SB{op:BinOp}{a b:ByteArray}{v:aa}(t:TypeId)(h:ww op a.data.toList b.data.toList=some v)(w:World) :
 ∃br,(binOp op t (.string a) (.string b)).run P w=.ok br w∧aL φ v br:=by
 cases op <;> simp only [ww]at h <;>
  first
   |(cases h;done)
   |(split at h<;>first
    |(cases h;done)
    |(rename_i cG
      simp at h;subst h;refine⟨.string (a++b),?_,?_⟩
      ·simp only [binOp,Op.stringOp];rw [if_neg]
       ·rfl
       ·simp only [Array.length_toList]at cG;rw [SA];simp only [ByteArray.size];omega
      ·simp [aL]))
   |(simp at h;subst h;exact⟨_,by simp [binOp,Op.stringOp,ByteArray.toList_eq];rfl,by simp only [aL]⟩)
def DY(P:Program)(t:TypeId):Bool :=
 !P.eqGuardType P.depth t&&!P.stoodInHeld t &&
 (match P.underlying t with
 |some (.struct fs)=>fs.toList.zipIdx.all fun(f,i)=>f.name != "_" && f.offset == i
 |some (.array _ _)=>true
 |_=>false)
def ri(P:Program)(t:TypeId):Prop:=DY P t=true
theorem ri.spec{t:TypeId}(h:ri P t):P.eqGuardType P.depth t=false∧P.stoodInHeld t=false∧∀fs,P.underlying t=some (.struct fs)→ ∀(i:Nat)(f:Field),fs.toList[i]? =some f→f.name≠ "_" ∧f.offset=i:=by unfold ri DY at h;simp only [Bool.and_eq_true,Bool.not_eq_true']at h;obtain⟨⟨ac,ai⟩,a8⟩:=h;refine⟨ac,ai,fun fs Af i f aZ=> ?_⟩;rw [Af]at a8;simp only [List.all_eq_true]at a8;have:=a8 (f,i) (by rw [List.mem_zipIdx_iff_getElem?];exact aZ);simpa using this
theorem KB{k:kR}{a b:aa}{x y:Value}(aT:aL φ a x)(ax:aL φ b y){r:Bool}(h:zX k a b=some r){t:TypeId}{u:TypeDesc}(hu:P.underlying t=some u)(au:k=gW u)(d:Nat)(w:World) :
 (Op.equalIn (d+1) t x y).run P w=.ok r w∧(gW u).isAgg=false:=by
 unfold zX at h;split at h
 ·rename_i bx aK a aP b;have:=wH au.symm;subst this;split at h
  ·rename_i e;subst e;simp at h;subst h;simp only [aL]at aT ax;subst aT ax;refine⟨?_,rfl⟩;simp only [Op.equalIn,Sem.run_bind,run_underlying hu,Result.andThen_ok,if_true,Sem.run_pure]
  ·cases h
 ·have:=Kz au.symm;subst this;simp at h;subst h;simp only [aL]at aT ax;subst aT ax;refine⟨?_,rfl⟩;simp only [Op.equalIn,Sem.run_bind,run_underlying hu,Result.andThen_ok,Sem.run_pure]
 ·have:=rh au.symm;subst this;simp at h;subst h;simp only [aL]at aT ax;obtain⟨s,rfl,rfl⟩:=aT;obtain⟨bG,rfl,rfl⟩:=ax;refine⟨?_,rfl⟩;rw [run_equalIn_string w d t s bG hu,ByteArray.toList_eq,ByteArray.toList_eq]
 ·cases h
theorem KC{D:dH}(bZ:D.dt P){xs ys:Array Value}(d:Nat)(w:World):∀{fs:List Field}{i:Nat}{x y:List aa}{b:Bool},(∀(j:Nat)(f:Field),fs[j]? =some f→f.name≠ "_" ∧f.offset=i+j) →
 bz φ x (xs.toList.drop i)→bz φ y (ys.toList.drop i)→sF D (fs.map fun f=>(f.offset,f.type)) x y=some b→(Op.eqFields (d+1) xs ys fs).run P w=.ok b w
 |[],i,x,y,b,_,_,_,h=>by simp only [List.map_nil]at h;cases x<;>cases y<;>simp [sF]at h;subst h;rfl
 |f ::fs,i,x,y,b,aZ,aj,bV,h=>by
  simp only [List.map_cons]at h;cases x with
  |nil=>cases y<;>simp [sF]at h
  |cons a x =>
   cases y with
   |nil=>simp [sF]at h
   |cons c y =>
    simp only [sF]at h;split at h
    ·rename_i ahe SC;obtain⟨jd,u,h4,hu,au, -⟩:=bZ.get SC;split at h
     ·rename_i p q ah aB;simp at h;subst h;obtain⟨aR,ao⟩:=aZ 0 f aM;simp only [bz]at aj bV;obtain⟨nU,tx,ex,DZ,aj⟩:=aj;obtain⟨wJ,ty,je,D0,bV⟩:=bV;obtain⟨g1,g2⟩:=KB (P:=P) DZ D0 ah hu au d w
      have D1:xs[f.offset]? =some nU:=by have:=congrArg (fun l=>l[0]?) ex;simpa [ao]using this
      have D2:ys[f.offset]? =some wJ:=by have:=congrArg (fun l=>l[0]?) je;simpa [ao]using this
      have D3:xs.toList.drop (i+1)=tx:=by rw [←List.drop_drop,ex];rfl
      have D4:ys.toList.drop (i+1)=ty:=by rw [←List.drop_drop,je];rfl
      have D5:(part f.type xs f.offset).run P w=.ok nU w:=by simp only [part,Sem.run_bind,sO hu,Result.andThen_ok,g2];simp [D1]
      have D6:(part f.type ys f.offset).run P w=.ok wJ w:=by simp only [part,Sem.run_bind,sO hu,Result.andThen_ok,g2];simp [D2]
      have ih:=KC bZ (xs:=xs) (ys:=ys) d w (fs:=fs) (i:=i+1) (fun j g ak=>by
       have:=aZ (j+1) g (by simpa using ak)
       exact⟨this.1,ab⟩) (by rw [D3];exact aj) (by rw [D4];exact bV) aB
      simp only [Op.eqFields];rw [if_pos aR];simp only [Sem.run_bind,D5,D6,Result.andThen_ok,g1];cases p
      ·rfl
      ·simp only [Bool.not_true,Bool.false_eq_true,if_false,Bool.true_and];exact ih
     ·cases h
    ·cases h
theorem KD{D:dH}{e:TypeId}{u:TypeDesc}(hu:P.underlying e=some u){xs ys:Array Value}(d:Nat)(w:World):∀{n i:Nat}{x y:List aa}{b:Bool},x.length=n →
 bz φ x (xs.toList.drop i)→bz φ y (ys.toList.drop i)→uj (gW u) x y=some b→(Op.eqItems (d+1) e 1 xs ys (List.range' i n)).run P w=.ok b w
 |n,i,[],y,b,aR,_,_,h=>by simp at aR;subst aR;cases y<;>simp [uj]at h;subst h;rfl
 |n,i,a::x,[],b,aR,_,_,h=>by simp [uj]at h
 |n,i,a::x,c::y,b,aR,aj,bV,h=>by
  obtain⟨m,rfl⟩:∃m,n=m+1:=⟨x.length,by simpa using aR.symm⟩
  simp only [uj]at h;split at h
  ·rename_i p q ah aB;simp at h;subst h;simp only [bz]at aj bV;obtain⟨nU,tx,ex,DZ,aj⟩:=aj;obtain⟨wJ,ty,je,D0,bV⟩:=bV;obtain⟨g1,g2⟩:=KB (P:=P) DZ D0 ah hu rfl d w
   have D1:xs[i]? =some nU:=by have:=congrArg (fun l=>l[0]?) ex;simpa using this
   have D2:ys[i]? =some wJ:=by have:=congrArg (fun l=>l[0]?) je;simpa using this
   have D3:xs.toList.drop (i+1)=tx:=by rw [←List.drop_drop,ex];rfl
   have D4:ys.toList.drop (i+1)=ty:=by rw [←List.drop_drop,je];rfl
   have D5:(part e xs (i*1)).run P w=.ok nU w:=by simp only [part,Sem.run_bind,sO hu,Result.andThen_ok,g2];simp [D1]
   have D6:(part e ys (i*1)).run P w=.ok wJ w:=by simp only [part,Sem.run_bind,sO hu,Result.andThen_ok,g2];simp [D2]
   have ih:=KD (D:=D) hu (xs:=xs) (ys:=ys) d w (n:=m) (i:=i+1) (by simpa using aR) (by rw [D3];exact aj) (by rw [D4];exact bV) aB;rw [List.range'_succ];simp only [Op.eqItems];simp only [Sem.run_bind,D5,D6,Result.andThen_ok,g1];cases p
   ·rfl
   ·simp only [Bool.not_true,Bool.false_eq_true,if_false,Bool.true_and];exact ih
  ·cases h
theorem md:Op.maxDepth=9999+1:=rfl
theorem KE{D:dH}(bZ:D.dt P){ik:TypeId→Bool}(cw:∀t,ik t=true→ri P t){lit:Bool}{t:TypeId}{x y:aa}{bT gG:Value}{b:Bool}
 (aj:aL φ x bT) (bV:aL φ y gG) (h:q7 D ik lit t x y=some b) (w:World):(Op.equalIn Op.maxDepth t bT gG).run P w=.ok b w:=by
 unfold q7 at h;split at h
 ·cases h
 ·rename_i d aE;obtain⟨i,u,aq,hu,au, -⟩:=bZ.get aE;rw [au]at h;split at h
  ·rename_i e;have:=Kz e;subst this;simp only [aL]at aj bV;subst aj bV;simp at h;subst h;rw [md];generalize 9999=gq;simp only [Op.equalIn,Sem.run_bind,run_underlying hu,Result.andThen_ok,Sem.run_pure,Option.isNone_some,Option.isNone_none]
  ·rename_i e;have:=Ad e;subst this;simp only [aL]at aj bV;subst aj bV;simp at h;subst h;rw [md];generalize 9999=gq;simp only [Op.equalIn,Sem.run_bind,run_underlying hu,Result.andThen_ok,Sem.run_pure,Option.isNone_some,Option.isNone_none]
  ·rename_i e;have:=Ad e;subst this;simp only [aL]at aj bV;obtain⟨z,rfl,_⟩:=bV;subst aj;simp at h;subst h;rw [md];generalize 9999=gq;simp only [Op.equalIn,Sem.run_bind,run_underlying hu,Result.andThen_ok,Sem.run_pure,Option.isNone_some,Option.isNone_none]
  ·rename_i e;have:=Ad e;subst this;simp only [aL]at aj bV;obtain⟨z,rfl,_⟩:=aj;subst bV;simp at h;subst h;rw [md];generalize 9999=gq;simp only [Op.equalIn,Sem.run_bind,run_underlying hu,Result.andThen_ok,Sem.run_pure,Option.isNone_some,Option.isNone_none]
  ·rename_i e;have:=lx e;subst this;simp only [aL]at aj bV;obtain⟨rfl,_⟩:=aj;obtain⟨rfl,_⟩:=bV;simp at h;subst h;rw [md];generalize 9999=gq;simp only [Op.equalIn,Sem.run_bind,run_underlying hu,Result.andThen_ok,Sem.run_pure,Option.isNone_some,Option.isNone_none]
  ·rename_i e;have:=lx e;subst this;simp only [aL]at aj bV;obtain⟨rfl,_⟩:=aj;obtain⟨z,c,rfl,_⟩:=bV;simp at h;subst h;rw [md];generalize 9999=gq;simp only [Op.equalIn,Sem.run_bind,run_underlying hu,Result.andThen_ok,Sem.run_pure,Option.isNone_some,Option.isNone_none]
  ·rename_i e;have:=lx e;subst this;simp only [aL]at aj bV;obtain⟨rfl,_⟩:=bV;obtain⟨z,c,rfl,_⟩:=aj;simp at h;subst h;rw [md];generalize 9999=gq;simp only [Op.equalIn,Sem.run_bind,run_underlying hu,Result.andThen_ok,Sem.run_pure,Option.isNone_some,Option.isNone_none]
  ·rename_i e;obtain⟨_,_,_,rfl⟩:=DW e;simp only [aL]at aj bV;subst aj bV;simp at h;subst h;rw [md];generalize 9999=gq;simp only [Op.equalIn,Sem.run_bind,run_underlying hu,Result.andThen_ok,Sem.run_pure,Option.isNone_some,Option.isNone_none]
  ·rename_i e;obtain⟨_,_,_,rfl⟩:=DW e;simp only [aL]at aj bV;obtain⟨_,_,rfl,_⟩:=bV;subst aj;simp at h;subst h;rw [md];generalize 9999=gq;simp only [Op.equalIn,Sem.run_bind,run_underlying hu,Result.andThen_ok,Sem.run_pure,Option.isNone_some,Option.isNone_none]
  ·rename_i e;obtain⟨_,_,_,rfl⟩:=DW e;simp only [aL]at aj bV;obtain⟨_,_,rfl,_⟩:=aj;subst bV;simp at h;subst h;rw [md];generalize 9999=gq;simp only [Op.equalIn,Sem.run_bind,run_underlying hu,Result.andThen_ok,Sem.run_pure,Option.isNone_some,Option.isNone_none]
  ·rename_i e;obtain⟨_,rfl,_⟩:=DX e;simp only [aL]at aj bV;subst aj bV;split at h<;>simp at h;subst h;rw [md];generalize 9999=gq;simp only [Op.equalIn,Sem.run_bind,run_underlying hu,Result.andThen_ok,Sem.run_pure,Option.isNone_some,Option.isNone_none]
  ·rename_i e;obtain⟨_,rfl,_⟩:=DX e;simp only [aL]at aj bV;obtain⟨_,rfl,_⟩:=bV;subst aj;simp at h;subst h;rw [md];generalize 9999=gq;simp only [Op.equalIn,Sem.run_bind,run_underlying hu,Result.andThen_ok,Sem.run_pure,Option.isNone_some,Option.isNone_none]
  ·rename_i e;obtain⟨_,rfl,_⟩:=DX e;simp only [aL]at aj bV;obtain⟨_,rfl,_⟩:=aj;subst bV;simp at h;subst h;rw [md];generalize 9999=gq;simp only [Op.equalIn,Sem.run_bind,run_underlying hu,Result.andThen_ok,Sem.run_pure,Option.isNone_some,Option.isNone_none]
  ·rename_i fs x y e;obtain⟨aG,rfl,nV⟩:=Ae e;simp only [aL]at aj bV;obtain⟨xs,rfl,rx⟩:=aj;obtain⟨ys,rfl,Ag⟩:=bV;split at h
   ·rename_i he;obtain⟨ac,ai,a8⟩:=(cw t he).spec;have KF:P.fieldsOf t=aG:=by simp [Program.fieldsOf,hu]
    rw [md,run_equalIn_struct w 9999 t xs ys (by rw [KF];exact hu) ai,KF];rw [nV]at h;exact KC bZ 9998 w (i:=0) (fun j f aZ=>by have:=a8 aG hu j f aZ;exact⟨this.1,ab⟩) (by simpa using rx) (by simpa using Ag) h
   ·cases h
  ·rename_i n e x y l8;have:=uw l8;subst this;simp only [aL]at aj bV;obtain⟨xs,rfl,rx⟩:=aj;obtain⟨ys,rfl,Ag⟩:=bV;split at h
   ·split at h
    ·rename_i gX pZ;obtain⟨Ah,rj,oX,p0,lz,ck, -⟩:=bZ.get pZ;split at h
     ·rename_i aw
      have ux:P.cellsOf e=1:=by unfold Program.cellsOf;rw [oX];simp;omega
      rw [md,run_equalIn_array w 9999 xs ys hu oX,ux,List.range_eq_range'];rw [lz]at h;exact KD (D:=D) p0 9998 w aw.2 (by simpa using rx) (by simpa using Ag) h
     ·cases h
    ·cases h
   ·cases h
  ·cases h
theorem KG{D:dH}{ik:TypeId→Bool}(cw:∀t,ik t=true→ri P t){op:BinOp}{t:TypeId}{ku oY:Operand}{x y:aa}{bT gG:Value}{b:Bool}
 (aj:aL φ x bT) (bV:aL φ y gG) (h:q7 D ik (oN ku || oN oY) t x y=some b) (w:World):(eqGuard op t ku oY bT gG).run P w=.ok () w:=by
 have key :op=.eql∨op=.neq→(eqGuard op t ku oY bT gG).run P w=.ok () w:=by
  intro gZ;unfold q7 at h;split at h
  ·cases h
  ·split at h
   all_goals first
    |(cases h;done)
    |(simp only [aL]at aj bV;subst aj bV;rcases gZ with rfl|rfl<;>rfl)
    |(simp only [aL]at aj bV;obtain⟨rfl,_⟩:=aj;obtain⟨rfl,_⟩:=bV;rcases gZ with rfl|rfl<;>rfl)
    |(simp only [aL]at aj bV;subst aj;obtain⟨_,rfl,_⟩:=bV;rcases gZ with rfl|rfl<;>rfl)
    |(simp only [aL]at aj bV;subst bV;obtain⟨_,rfl,_⟩:=aj;rcases gZ with rfl|rfl<;>rfl)
    |(simp only [aL]at aj bV;obtain⟨rfl,_⟩:=aj;obtain⟨_,_,rfl,_⟩:=bV;rcases gZ with rfl|rfl<;>rfl)
    |(simp only [aL]at aj bV;obtain⟨rfl,_⟩:=bV;obtain⟨_,_,rfl,_⟩:=aj;rcases gZ with rfl|rfl<;>rfl)
    |(simp only [aL]at aj bV;subst aj;obtain⟨_,_,rfl,_⟩:=bV;rcases gZ with rfl|rfl<;>rfl)
    |(simp only [aL]at aj bV;subst bV;obtain⟨_,_,rfl,_⟩:=aj;rcases gZ with rfl|rfl<;>rfl)
    |(simp only [aL]at aj bV;subst aj bV;split at h<;>first|(cases h;done)|skip
      rename_i aC;simp only [Bool.or_eq_true]at aC;rcases aC with aC|aC
      ·cases ku<;>first|(simp [oN]at aC;done)|(rcases gZ with rfl|rfl<;>rfl)
      ·cases oY<;>first|(simp [oN]at aC;done)|(rcases gZ with rfl|rfl<;>simp [eqGuard]))
    |(simp only [aL]at aj bV;obtain⟨_,rfl,rx⟩:=aj;obtain⟨_,rfl,Ag⟩:=bV;split at h<;>first|(cases h;done)|skip
      rename_i he
      exact run_eqGuard_agg w op t ku oY _ _ (cw t he).spec.1)
 cases op<;>first|exact key (.inl rfl)|exact key (.inr rfl)|rfl
def wK:Value→Bool
 |.bool _|.pointer _|.slice _ _ _|.func _ _ _|.nilFunc|.nilIface|.iface _ _|.agg _=>true
 |_=>false
theorem SD(t:TypeId)(x y:Value)(h:wK x=true):binOp .eql t x y=(do pure (.bool (←Op.equal t x y))):=by cases x<;>first|(simp [wK]at h;done)|(cases y<;>rfl)
theorem SE(t:TypeId)(x y:Value)(h:wK x=true):binOp .neq t x y=(do pure (.bool (!(←Op.equal t x y)))):=by cases x<;>first|(simp [wK]at h;done)|(cases y<;>rfl)
theorem KH{D:dH}{ik:TypeId→Bool}{lit:Bool}{t:TypeId}{x y:aa}{bT:Value}{b:Bool}(aj:aL φ x bT)(h:q7 D ik lit t x y=some b):wK bT=true:=by
 unfold q7 at h;split at h
 ·cases h
 ·split at h
  all_goals first
   |(cases h;done)
   |(simp only [aL]at aj;subst aj;rfl)
   |(simp only [aL]at aj;obtain⟨rfl,_⟩:=aj;rfl)
   |(simp only [aL]at aj;obtain⟨_,rfl,_⟩:=aj;rfl)
   |(simp only [aL]at aj;obtain⟨_,_,rfl,_⟩:=aj;rfl)
theorem SF{D:dH}(bZ:D.dt P){ik:TypeId→Bool}(cw:∀t,ik t=true→ri P t){op:BinOp}{t:TypeId}{ku oY:Operand}{x y v:aa}{bT gG:Value}
 (aj:aL φ x bT) (bV:aL φ y gG) (h:oK D ik (oN ku || oN oY) op t x y=some v) (w:World) :
 ∃br,(eqGuard op t ku oY bT gG).run P w=.ok () w∧(binOp op t bT gG).run P w=.ok br w∧aL φ v br:=by
 unfold oK at h;split at h
 ·rename_i k a e6 b;simp only [aL]at aj bV;subst aj bV
  have ak:(eqGuard op t ku oY (.int k a) (.int e6 b)).run P w=.ok () w:=by unfold eqGuard;split<;>rfl
  split at h
  ·obtain⟨br,ac,ai⟩:=KA (P:=P) (φ:=φ) (e6:=e6) t (.inl rfl) h w;exact⟨br,ak,ac,ai⟩
  ·obtain⟨br,ac,ai⟩:=KA (P:=P) (φ:=φ) (e6:=e6) t (.inr rfl) h w;exact⟨br,ak,ac,ai⟩
  ·split at h
   ·rename_i au;subst au;obtain⟨br,ac,ai⟩:=Sz (P:=P) (φ:=φ) t h w;exact⟨br,ak,ac,ai⟩
   ·cases h
 ·rename_i a b;simp only [aL]at aj bV;obtain⟨s,rfl,rfl⟩:=aj;obtain⟨u,rfl,rfl⟩:=bV
  have ak:(eqGuard op t ku oY (.string s) (.string u)).run P w=.ok () w:=by unfold eqGuard;split<;>rfl
  obtain⟨br,ac,ai⟩:=SB (P:=P) (φ:=φ) t h w;exact⟨br,ak,ac,ai⟩
 ·rename_i a6 n2;split at h
  ·simp only [Option.map_eq_some_iff]at h;obtain⟨b,ax,rfl⟩:=h;refine⟨.bool b,KG (D:=D) cw aj bV ax w,?_,by simp [aL]⟩;have he:=KE bZ cw aj bV ax w;rw [SD t bT gG (KH aj ax)];simp [Op.equal,he]
  ·simp only [Option.map_eq_some_iff]at h;obtain⟨b,ax,rfl⟩:=h;refine⟨.bool (!b),KG (D:=D) cw aj bV ax w,?_,by simp [aL]⟩;have he:=KE bZ cw aj bV ax w;rw [SE t bT gG (KH aj ax)];simp [Op.equal,he]
  ·cases h
end
end
end Go.cf
namespace Go.cf
noncomputable section
open Go.RowKit
section
variable {P:Program}{φ:Map}
theorem SG{op:UnOp}{x v:aa}{bT:Value}(aj:aL φ x bT)(h:wx op x=some v)(w:World):∃br,(Op.unary op bT).run P w=.ok br w∧aL φ v br:=by
 unfold wx at h;split at h
 ·simp only [aL]at aj;subst aj;simp at h;subst h;exact⟨_,by simp [Op.unary,Op.intArith];rfl,by simp only [aL]⟩
 ·simp only [aL]at aj;subst aj;simp at h;subst h;exact⟨_,by simp [Op.unary];rfl,by simp only [aL]⟩
 ·simp only [aL]at aj;subst aj;simp [kn]at h;subst h;exact⟨_,by simp [Op.unary,Op.intBits];rfl,by simp only [aL]⟩
 ·cases h
theorem SH{D:dH}(bZ:D.dt P){s t:TypeId}{x v:aa}{bT:Value}(aj:aL φ x bT)(h:wA D s t x=some v)(w:World) :
 ∃br,(convert s t bT).run P w=.ok br w∧aL φ v br:=by
 unfold wA at h;split at h
 ·rename_i uh SI k n hs bW;simp only [aL]at aj;subst aj;obtain⟨_,iD,_,Ai,_⟩:=bZ.get hs;obtain⟨_,ut,_,Aj,au,_⟩:=bZ.get bW;rw [au]at h;split at h
  ·rename_i l9 e;have:=wH e;subst this;simp at h;subst h;refine⟨.int l9 (l9.wrap n),?_,by simp only [aL]⟩;simp only [convert,Sem.run_bind,run_underlying Ai,run_underlying Aj,Result.andThen_ok];cases iD<;>simp [Conv.intToInt]
  ·rename_i e;have:=rh e;subst this;simp at h;subst h;exact⟨.string (Utf8.encode n),run_convert_int_string w s t k n (by rw [Ai];rfl) Aj,by simp only [aL];exact⟨_,rfl,rfl⟩⟩
  ·cases h
 ·rename_i uh SI l hs bW;simp only [aL]at aj;obtain⟨bG,rfl,rfl⟩:=aj;obtain⟨_,iD,_,Ai,_⟩:=bZ.get hs;obtain⟨_,ut,_,Aj,au,_⟩:=bZ.get bW;rw [au]at h;split at h
  ·rename_i e;have:=rh e;subst this;simp at h;subst h;refine⟨.string bG,?_,by simp [aL]⟩;simp only [convert,Sem.run_bind,run_underlying Ai,run_underlying Aj,Result.andThen_ok];cases iD<;>rfl
  ·cases h
 ·cases h
theorem SJ{x y v:aa}{bT gG:Value}(aj:aL φ x bT)(bV:aL φ y gG)(h:zY x y=some v)(w:World):∃br,(Builtin.max2 bT gG).run P w=.ok br w∧aL φ v br:=by
 unfold zY at h;split at h
 ·simp only [aL]at aj bV;subst aj bV;split at h
  ·rename_i au;subst au;simp at h;subst h;exact⟨_,by simp only [Builtin.max2];rfl,by simp only [aL]⟩
  ·cases h
 ·cases h
theorem SK{x y v:aa}{bT gG:Value}(aj:aL φ x bT)(bV:aL φ y gG)(h:zZ x y=some v)(w:World):∃br,(Builtin.min2 bT gG).run P w=.ok br w∧aL φ v br:=by
 unfold zZ at h;split at h
 ·simp only [aL]at aj bV;subst aj bV;split at h
  ·rename_i au;subst au;simp at h;subst h;exact⟨_,by simp only [Builtin.min2];rfl,by simp only [aL]⟩
  ·cases h
 ·cases h
theorem D7{f:aa→aa→Option aa}{g:Value→Value→Sem Value}(w:World)
 (aZ:∀x y v bT gG,aL φ x bT→aL φ y gG→f x y=some v→ ∃br,(g bT gG).run P w=.ok br w∧aL φ v br) :
 ∀{l:List aa}{t:List Value}{x v:aa}{bT:Value},aL φ x bT→bz φ l t→q8 f x l=some v→ ∃br,(t.foldlM g bT).run P w=.ok br w∧aL φ v br
 |[],t,x,v,bT,aj,aC,h=>by simp only [bz]at aC;subst aC;simp [q8]at h;subst h;exact⟨bT,rfl,aj⟩
 |a ::r,t,x,v,bT,aj,aC,h=>by
  simp only [bz]at aC;obtain⟨u,eQ,rfl,ac,ai⟩:=aC;simp only [q8]at h;split at h
  ·rename_i z eK;obtain⟨fI,bi,bu⟩:=aZ _ _ _ _ _ aj ac eK;obtain⟨br,b7,cc⟩:=D7 w aZ bu ai h;exact⟨br,by rw [List.foldlM_cons,Sem.run_bind,bi];exact b7,cc⟩
  ·cases h
theorem SL{x v:aa}{l:List aa}{xs:Array Value}(ts:Array TypeId)(ty:TypeId)(aj:bz φ (x::l) xs.toList)(h:q8 zY x l=some v)(w:World) :
 ∃br,(Builtin.max_ ts ty xs).run P w=.ok br w∧aL φ v br:=by
 simp only [bz]at aj;obtain⟨bT,t,e,ac,ai⟩:=aj;unfold Builtin.max_;rw [e];exact D7 w (fun _ _ _ _ _ a b c=>SJ a b c w) ac ai h
theorem SM{x v:aa}{l:List aa}{xs:Array Value}(ts:Array TypeId)(ty:TypeId)(aj:bz φ (x::l) xs.toList)(h:q8 zZ x l=some v)(w:World) :
 ∃br,(Builtin.min_ ts ty xs).run P w=.ok br w∧aL φ v br:=by
 simp only [bz]at aj;obtain⟨bT,t,e,ac,ai⟩:=aj;unfold Builtin.min_;rw [e];exact D7 w (fun _ _ _ _ _ a b c=>SK a b c w) ac ai h
theorem KI{D:dH}(bZ:D.dt P){t:TypeId}{bm:List aa}{xs:Array Value}{off:Nat}{v:aa}(aj:bz φ bm xs.toList)(h:apart D t bm off=some v)(w:World) :
 ∃br,(part t xs off).run P w=.ok br w∧aL φ v br:=by
 unfold apart at h;split at h
 ·rename_i d aE;obtain⟨i,u,aq,hu,au,hs, -⟩:=bZ.get aE;rw [au]at h;split at h
  ·rename_i aT;split at h
   ·rename_i hle;simp at h;subst h;refine⟨.agg (xs.extract off (off+i.size)),?_,?_⟩
    ·simp only [part,Sem.run_bind,sO hu,Result.andThen_ok,aT,if_true,ly aq,Sem.run_pure]
    ·simp only [aL];refine⟨_,rfl,?_⟩
     have e:(xs.extract off (off+i.size)).toList=(xs.toList.drop off).take i.size:=by simp [List.extract]
     rw [e,hs];exact(aj.drop off).take i.size
   ·cases h
  ·rename_i aT;obtain⟨br,ac,ai⟩:=aj.get h;refine⟨br,?_,ai⟩;have l':xs[off]? =some br:=by simpa using ac
   simp only [part,Sem.run_bind,sO hu,Result.andThen_ok];simp only [aT];simp [l']
 ·cases h
theorem SN{D:dH}(bZ:D.dt P){t:TypeId}{x:aa}{bT:Value}{f:Nat}{v:aa}(aj:aL φ x bT)(h:DH D t x f=some v)(w:World) :
 ∃br,(Instr.field t bT f).run P w=.ok br w∧aL φ v br:=by
 unfold DH at h;split at h
 ·rename_i d bm aE;obtain⟨i,u,aq,hu,au,hs, -⟩:=bZ.get aE;rw [au]at h;split at h
  ·rename_i fs e;obtain⟨aG,rfl,nV⟩:=Ae e;split at h
   ·rename_i off q9 aZ;simp only [aL]at aj;obtain⟨xs,rfl,e9⟩:=aj;rw [nV]at aZ;simp only [List.getElem?_map,Option.map_eq_some_iff]at aZ;obtain⟨mT,rk,he⟩:=aZ;simp at he;obtain⟨rfl,rfl⟩:=he;obtain⟨br,ac,ai⟩:=KI bZ e9 h w;refine⟨br,?_,ai⟩;have wL:aG[f]? =some mT:=by simpa using rk
    simp [Instr.field,run_underlying hu,wL,asAgg,ac]
   ·cases h
  ·cases h
 ·cases h
theorem SO{D:dH}(bZ:D.dt P){t:TypeId}{x i:aa}{bT fh:Value}{v:aa}(aj:aL φ x bT)(aq:aL φ i fh)(h:oM D t x i=some v)(w:World) :
 ∃br,(Instr.index t bT fh).run P w=.ok br w∧aL φ v br:=by
 unfold oM at h;split at h
 ·rename_i d bm k n aE;obtain⟨jd,u,h4,hu,au,hs, -⟩:=bZ.get aE;rw [au]at h;split at h
  ·rename_i len e he;have:=uw he;subst this;split at h
   ·rename_i cJ fN;obtain⟨dY,oZ,fV,Ak,Al,e9, -⟩:=bZ.get fN;split at h
    ·rename_i ax;simp only [aL]at aj aq;obtain⟨xs,rfl,SP⟩:=aj;subst aq;obtain⟨br,ac,ai⟩:=KI bZ SP h w;refine⟨br,?_,ai⟩;rw [e9]at ac;simp [Instr.index,asIntOf,run_underlying hu,ax,ly fV,ac]
    ·cases h
   ·cases h
  ·cases h
 ·rename_i d s k n aE;obtain⟨jd,u,h4,hu,au,hs, -⟩:=bZ.get aE;rw [au]at h;split at h
  ·rename_i e;have:=rh e;subst this;split at h
   ·rename_i aR;simp only [aL]at aj aq;obtain⟨bG,rfl,rfl⟩:=aj;subst aq;simp only [Option.map_eq_some_iff]at h;obtain⟨b,ax,rfl⟩:=h;refine⟨.int .u8 b.toNat,?_,by simp only [aL]⟩
    have fy:bG[n.toNat]? =some b:=by
     have cG:=(List.getElem?_eq_some_iff.1 ax).1;have he:=(List.getElem?_eq_some_iff.1 ax).2;have pY:n.toNat<bG.size:=by rw [Array.length_toList]at cG;exact cG
     rw [getElem?_pos bG n.toNat pY];rw [←he];rfl
    simp [Instr.index,asIntOf,run_underlying hu,aR,fy]
   ·cases h
  ·cases h
 ·cases h
theorem SQ{vs:List aa}{bT:Value}{i:Nat}{v:aa}(aj:aL φ (.tuple vs) bT)(h:vs[i]? =some v)(w:World) :
 ∃br,(Instr.extract bT i).run P w=.ok br w∧aL φ v br:=by
 simp only [aL]at aj;obtain⟨xs,rfl,e9⟩:=aj;obtain⟨br,ac,ai⟩:=e9.get h;have l':xs[i]? =some br:=by simpa using ac
 exact⟨br,by simp [Instr.extract,l'],ai⟩
theorem Place.rl(p:Place)(i f n:Nat):(p.at i f).add n=p.at i (f+n):=by unfold Place.at;rw [Addr.add_mid];rw [Nat.add_assoc]
theorem SR{D:dH}(bZ:D.dt P){t:TypeId}{x:aa}{bT:Value}{f:Nat}{v:aa}(aj:aL φ x bT)(h:DG D t x f=some v)(w:World) :
 ∃br,(Instr.fieldAt t bT f).run P w=.ok br w∧aL φ v br:=by
 unfold DG at h;split at h
 ·rename_i d a aE;obtain⟨i,u,aq,hu,au,hs, -⟩:=bZ.get aE;rw [au]at h;split at h
  ·rename_i fs e;obtain⟨aG,rfl,nV⟩:=Ae e;split at h
   ·rename_i off q9 aZ;split at h
    ·rename_i fd p1;obtain⟨SS,ahf,SU,ahg,ahh,Af, -⟩:=bZ.get p1;split at h
     ·rename_i iE;simp at h;subst h;rw [nV]at aZ;simp only [List.getElem?_map,Option.map_eq_some_iff]at aZ;obtain⟨mT,rk,he⟩:=aZ;simp at he;obtain⟨rfl,rfl⟩:=he;simp only [aL]at aj;obtain⟨fJ,rfl,p,ah,ck,eI,rfl⟩:=aj;have wL:aG[f]? =some mT:=by simpa using rk
      refine⟨.pointer (some (p.at a.idx (a.fld+mT.offset))),?_,?_⟩
      ·have bX:¬SS.size=0:= ab;simp [Instr.fieldAt,run_underlying hu,wL,Instr.sureAddr,fieldPlace,ly SU,bX,Place.rl]
      ·simp only [aL];exact⟨_,rfl,p,ah,ck,eI,rfl⟩
     ·cases h
    ·cases h
   ·cases h
  ·cases h
 ·cases h
theorem SV{D:dH}(bZ:D.dt P){t:TypeId}{x i:aa}{bT fh:Value}{v:aa}(aj:aL φ x bT)(aq:aL φ i fh)(h:sG D t x i=some v)(w:World) :
 ∃br,(Instr.indexAt t bT fh).run P w=.ok br w∧aL φ v br:=by
 unfold sG at h;split at h
 ·rename_i d a len cap k n aE;obtain⟨jd,u,h4,hu,au,hs, -⟩:=bZ.get aE;rw [au]at h;split at h
  ·rename_i e he;have:=lx he;subst this;split at h
   ·rename_i cJ fN;obtain⟨dY,oZ,fV,Ak,Al,e9, -⟩:=bZ.get fN;split at h
    ·rename_i ax;simp at h;subst h;simp only [aL]at aj aq;obtain⟨fJ,di,rfl,et,l2,iF⟩:=aj;have aZ:=ax.2.2.2;obtain⟨p,ah,ck,kc,hex⟩:=iF.plain aZ;subst aq;rcases kc with bf|⟨eI,rfl,oV⟩
     ·omega
     ·refine⟨.pointer (some (p.at (a.idx+n.toNat) 0)),?_,?_⟩
      ·have bi:(p.at a.idx 0).add (n.toNat*dY.size)=p.at (a.idx+n.toNat) 0:=by
        rw [Place.rl];unfold Place.at;have:a.idx+n.toNat-p.bb=(a.idx-p.bb)+n.toNat:= ab;rw [this,Nat.add_mul,←e9,←ax.2.2.1,ck]
        congr 1;omega
       have hE:=ax.1;have kV:=ax.2.1;simp [Instr.indexAt,asIntOf,run_underlying hu,hE,kV,ly fV,bi]
      ·simp only [aL];exact⟨_,rfl,p,ah,ck,by show p.bb≤a.idx+n.toNat;omega,by simp only [aZ]⟩
    ·split at h
     ·rename_i ax;simp at h;subst h;simp only [aL]at aj aq;obtain⟨fJ,di,rfl,et,l2,iF⟩:=aj;subst aq;rcases iF with ⟨aZ,_⟩|⟨f,aZ,p,ah,ck,eI,rfl⟩
      ·omega
      ·simp only at ah ck eI;have dT:dY.size=1:= ab;have hE:=ax.1;have kV:=ax.2.1;refine⟨.pointer (some (p.at a.idx (f+n.toNat))),?_,?_⟩
       ·have bi:(p.at a.idx f).add (n.toNat*dY.size)=p.at a.idx (f+n.toNat):=by rw [Place.rl,dT,Nat.mul_one]
        simp [Instr.indexAt,asIntOf,run_underlying hu,hE,kV,ly fV,bi]
       ·simp only [aL];exact⟨_,rfl,p,ah,ck,eI,by show p.at a.idx (f+n.toNat)=p.at a.idx (a.fld-1+n.toNat);rw [aZ];rfl⟩
     ·cases h
   ·cases h
  ·cases h
 ·rename_i d a k n aE;obtain⟨jd,u,h4,hu,au,hs, -⟩:=bZ.get aE;rw [au]at h;split at h
  ·rename_i len e he;have:=uw he;subst this;split at h
   ·rename_i cJ fN;obtain⟨dY,oZ,fV,Ak,Al,e9, -⟩:=bZ.get fN;split at h
    ·rename_i ax;simp at h;subst h;simp only [aL]at aj aq;obtain⟨fJ,rfl,p,ah,ck,eI,rfl⟩:=aj;subst aq;refine⟨.pointer (some (p.at a.idx (a.fld+n.toNat*dY.size))),?_,?_⟩
     ·have hE:=ax.1;have kV:=ax.2;simp [Instr.indexAt,asIntOf,run_underlying hu,hE,kV,ly fV,Instr.sureAddr,Place.rl]
     ·simp only [aL];exact⟨_,rfl,p,ah,ck,eI,by simp only [e9]⟩
    ·cases h
   ·cases h
  ·cases h
 ·cases h
end
end
end Go.cf
namespace Go.cf
noncomputable section
open Go.RowKit
section
variable {P:Program}{φ:Map}
def ma(φ:Map):Option aa→Option Value→Prop
 |none,none=>True
 |some a,some b=>aL φ a b
 |_,_=>False
theorem wM{v:Option aa}{br:Option Value}(bh:ma φ v br){DF wz r:Nat}(h:gY v DF wz=some r)(hs:v.isSome=true)
 {D8:Nat} (hm:wz≤D8) (w:World) (code:BoundsCode):∃x,br=some x∧(Instr.sliceBound x D8 code).run P w=.ok r w∧r≤wz:=by
 cases v with
 |none=>cases hs
 |some a =>
  cases br with
  |none=>exact bh.elim
  |some x =>
   refine⟨x,rfl,?_⟩;unfold gY at h;split at h
   ·rename_i e;cases e
   ·rename_i k i e;simp at e;subst e;split at h
    ·rename_i ax;simp at h;subst h;simp only [ma,aL]at bh;subst bh;have hle:i≤(D8:Int):= ab;exact⟨by simp [Instr.sliceBound,asIntOf,ax.1,hle],ab⟩
    ·cases h
   ·cases h
theorem Am{bb aq mx:Option aa}{h5 gF mU:Option Value}(eI:ma φ bb h5)(kW:ma φ aq gF)(sP:ma φ mx mU){len cap di m bU l:Nat}(sQ:len≤cap)(dE:cap≤di)
 (hm:gY mx cap cap=some m) (uy:gY aq len m=some bU) (aC:gY bb 0 bU=some l) (jf:¬(mx.isSome=true∧aq.isNone=true)) (isSlice:Bool) (w:World) :
 ∃gH,(Instr.sliceBounds isSlice len di h5 gF mU).run P w=.ok (l,bU,gH) w∧m≤gH∧gH≤di∧(di=cap→gH=m)∧bU≤m∧l≤bU:=by
 have a8:∀code,(match h5 with|some v=>Instr.sliceBound v bU code|none=>pure 0:Sem Nat).run P w=.ok l w∧l≤bU:=by
  intro code;cases bb with
  |none=>cases h5 with
   |none=>simp [gY]at aC;subst aC;exact⟨rfl,Nat.zero_le _⟩
   |some _=>exact eI.elim
  |some a =>
   obtain⟨x,rfl,ac,ai⟩:=wM (P:=P) eI aC rfl (Nat.le_refl _) w code;exact⟨ac,ai⟩
 cases mx with
 |none =>
  cases mU with
  |some _=>exact sP.elim
  |none =>
   simp [gY]at hm;subst hm;refine⟨di,?_,dE,Nat.le_refl _,fun h=>h,?_⟩
   ·cases aq with
    |none=>cases gF with
     |some _=>exact kW.elim
     |none =>
      simp [gY]at uy;subst uy;have:=(a8 .sliceB).1;cases h5<;>simp_all [Instr.sliceBounds]
    |some b =>
     obtain⟨x,rfl,ac,ai⟩:=wM (P:=P) kW uy rfl dE w (if isSlice then .sliceAcap else .sliceAlen);have:=(a8 .sliceB).1;cases h5<;>simp_all [Instr.sliceBounds]
   ·refine⟨?_,(a8 .sliceB).2⟩;cases aq with
    |none=>simp [gY]at uy;omega
    |some b=>obtain⟨x,rfl,ac,ai⟩:=wM (P:=P) kW uy rfl dE w .sliceB;exact ai
 |some a =>
  obtain⟨y,rfl,g1,g2⟩:=wM (P:=P) sP hm rfl dE w (if isSlice then .slice3Acap else .slice3Alen);cases aq with
  |none=>simp at jf
  |some b =>
   obtain⟨x,rfl,ac,ai⟩:=wM (P:=P) kW uy rfl (Nat.le_refl _) w .slice3B;refine⟨m,?_,Nat.le_refl _,ab,fun _=>rfl,ai,(a8 .sliceB).2⟩;have:=(a8 .slice3C).1;cases h5<;>simp_all [Instr.sliceBounds]
theorem SW(s:ByteArray)(l h:Nat):(s.extract l h).data.toList=(s.data.toList.take h).drop l:=by have:(s.extract l h).data=s.data.extract l h:= aM;rw [this];simp [List.extract,List.drop_take]
theorem SX{D:dH}(bZ:D.dt P){t:TypeId}{x v:aa}{bT:Value}{bb aq mx:Option aa}{h5 gF mU:Option Value}(aj:aL φ x bT)
 (eI:ma φ bb h5) (kW:ma φ aq gF) (sP:ma φ mx mU) (h:ko D t x bb aq mx=some v) (w:World) :
 ∃br,(Instr.sliceAt t bT h5 gF mU).run P w=.ok br w∧aL φ v br:=by
 unfold ko at h;split at h
 ·rename_i d a len cap aE;obtain⟨jd,u,h4,hu,au,hs, -⟩:=bZ.get aE;rw [au]at h;split at h
  ·rename_i e he;have:=lx he;subst this;split at h
   ·rename_i cJ m fN hm;obtain⟨dY,oZ,fV,Ak,Al,e9, -⟩:=bZ.get fN;split at h
    ·rename_i bU sR;split at h
     ·rename_i l aC;split at h
      ·cases h
      ·rename_i jf;split at h
       ·simp at h;subst h;simp only [aL]at aj;obtain⟨rfl,rfl,rfl⟩:=aj;obtain⟨gH,aK,aP,bt,g',h6,mV⟩:=Am (P:=P) eI kW sP (Nat.le_refl _) (Nat.le_refl 0) hm sR aC jf true w;have bi:gH=0:= ab;have bu:m=0:= ab;have b7:bU=0:= ab;have cc:l=0:= ab;subst bi bu b7 cc;refine⟨.slice none 0 0,?_,by simp [aL]⟩;simp [Instr.sliceAt,run_underlying hu,Instr.slice,aK,ly fV]
       ·rename_i a;split at h
        ·rename_i SY;obtain⟨ck,aZ⟩:=SY;simp at h;subst h;simp only [aL]at aj;obtain⟨fJ,di,rfl,et,l2,iF⟩:=aj;obtain⟨p,ah,jQ,kc,hex⟩:=iF.plain aZ;obtain⟨gH,aK,aP,bt,g',h6,mV⟩:=Am (P:=P) eI kW sP et l2 hm sR aC jf true w;refine⟨.slice (if gH=l then some fJ else some (fJ.add (l*dY.size))) (bU-l) (gH-l),?_,?_⟩
         ·simp [Instr.sliceAt,run_underlying hu,Instr.slice,aK,ly fV]
         ·simp only [aL];by_cases An:gH=l
          ·rw [if_pos An];exact⟨fJ,gH-l,rfl,ab,ab,.inl ⟨aZ,p,ah,jQ,.inl ab,fun bU=>by have:=g' (hex bU);omega⟩⟩
          ·rw [if_neg An];refine⟨_,gH-l,rfl,ab,ab,.inl ⟨aZ,p,ah,jQ,?_,fun bU=>by have:=g' (hex bU);omega⟩⟩;rcases kc with bf|⟨g1,rfl,g3⟩
           ·left;omega
           ·right;refine⟨by show p.bb≤a.idx+l;omega,?_,by show a.idx+l-p.bb+(gH-l)≤p.tot;omega⟩;rw [Place.rl];unfold Place.at;have:a.idx+l-p.bb=(a.idx-p.bb)+l:= ab;simp only [this,Nat.add_mul,←e9,←ck,jQ]
            congr 1;omega
        ·cases h
     ·cases h
    ·cases h
   ·cases h
  ·cases h
 ·rename_i d a aE;obtain⟨jd,u,h4,hu,au,hs, -⟩:=bZ.get aE;rw [au]at h;split at h
  ·rename_i n el p2;have:=uw p2;subst this;split at h
   ·rename_i cJ fN;obtain⟨dY,oZ,fV,Ak,Al,e9, -⟩:=bZ.get fN;split at h
    ·cases h
    ·rename_i jf;split at h
     ·rename_i bU sR;split at h
      ·rename_i l aC;split at h
       ·rename_i aw;obtain⟨mb,kX⟩:=aw;simp at h;subst h;simp only [aL]at aj;obtain⟨fJ,rfl,p,ah,jQ,SZ,rfl⟩:=aj;have D9:mx=none:=by cases mx<;>simp_all
        subst D9;have D':mU=none:=by cases mU with|none=>rfl|some _=>exact sP.elim
        subst D';obtain⟨gH,aK,aP,bt,g',h6,mV⟩:=Am (P:=P) (mx:=none) (mU:=none) eI kW trivial (Nat.le_refl n) (Nat.le_refl n) (m:=n) (by simp [gY]) sR aC aM false w;have mc:=g' rfl;subst mc;have dT:dY.size=1:= ab;refine⟨.slice (some ((p.at a.idx a.fld).add (l*dY.size))) (bU-l) (gH-l),?_,?_⟩
        ·have bX:¬gH=l:= ab;simp [Instr.sliceAt,run_underlying hu,aK,ly fV,Instr.sureAddr,bX]
        ·simp only [aL];refine⟨_,gH-l,rfl,ab,Nat.le_refl _,.inr ⟨a.fld+l,rfl,p,ah,jQ,SZ,?_⟩⟩;rw [Place.rl,dT,Nat.mul_one]
       ·cases h
      ·cases h
     ·cases h
   ·cases h
  ·cases h
 ·rename_i d s aE;obtain⟨jd,u,h4,hu,au,hs, -⟩:=bZ.get aE;rw [au]at h;split at h
  ·rename_i e;have:=rh e;subst this;split at h
   ·cases h
   ·rename_i jf;split at h
    ·rename_i bU sR;split at h
     ·rename_i l aC;simp at h;subst h;simp only [aL]at aj;obtain⟨bG,rfl,rfl⟩:=aj;rw [Array.length_toList]at sR;have D9:mx=none:=by cases mx<;>simp_all
      subst D9;have D':mU=none:=by cases mU with|none=>rfl|some _=>exact sP.elim
      subst D';obtain⟨gH,aK,aP,bt,g',h6,mV⟩:=Am (P:=P) (mx:=none) (mU:=none) eI kW trivial (Nat.le_refl bG.size) (Nat.le_refl bG.size) (m:=bG.size) (by simp [gY]) sR aC aM false w;refine⟨.string (bG.extract l bU),?_,by simp only [aL];exact⟨_,rfl,SW _ _ _⟩⟩;simp [Instr.sliceAt,run_underlying hu,Instr.slice,aK]
     ·cases h
    ·cases h
  ·cases h
 ·cases h
theorem Ao{w:World}{b o:Nat} :∀{l:List aa},(∀j bT,l[j]? =some bT→ ∃x,w.cell? ⟨b,o+j,none⟩=some x∧aL φ bT x∧x.oneCell'=true) →
 ∃vs,bz φ l vs∧w.rangeAt b o vs∧∀x∈vs,x.oneCell'=true
 |[],_=>⟨[],by simp [bz],by intro j v bh;simp at bh,aM⟩
 |a ::r,h=>by
  obtain⟨x,dT,fD⟩:=h 0 a aM
  have ih:=Ao (w:=w) (b:=b) (o:=o+1) (l:=r) (fun j bT a1=>by
   obtain⟨x,g1,g2⟩:=h (j+1) bT (by simpa using a1)
   exact⟨x,by rw [show o+1+j=o+(j+1)by omega];exact g1,g2⟩)
  obtain⟨vs,i1,i2,i3⟩:=ih;refine⟨x::vs,by simp only [bz];exact⟨_,_,rfl,fD.1,i1⟩,?_,?_⟩
  ·intro j v bh;cases j with
   |zero=>simp at bh;subst bh;exact dT
   |succ j=>simp at bh;have:=i2 j v bh;rw [show o+(j+1)=o+1+j by omega];exact this
  ·intro y bV;rcases List.mem_cons.1 bV with rfl|bV
   ·exact fD.2
   ·exact i3 y bV
theorem cS.S0{be:Nat→Prop}{h:J}{w:World}(r:cS φ be h w){a:bA}{fJ:Addr}(aT:uo φ a fJ){b:af}(ax:h.get a.id=some b){e:aa}(he:b.elem? a.ad a.idx=some e) :
 ∃p,φ a.id a.ad=some p∧fJ=p.at a.idx a.fld∧p.bb≤a.idx∧e.cells.length=p.es∧∀j bT,e.cells[j]? =some bT→ ∃x,w.cell? (p.at a.idx j)=some x∧aL φ bT x∧x.oneCell'=true:=by
 obtain⟨p,ah,ck,eI,rfl⟩:=aT;obtain⟨ac,c,ai,a8,bQ,bF,dv,cE,cj⟩:=r.dD _ _ _ ah;rw [ax]at ai;simp at ai;subst ai;unfold af.elem? at he;split at he
 ·rename_i aC;obtain⟨dI,c2,c3⟩:=cj.cont _ _ eI aC he;exact⟨p,ah,rfl,eI,dI,c3⟩
 ·cases he
theorem KJ{D:dH}(bZ:D.dt P){be:Nat→Prop}{h:J}{w:World}(r:cS φ be h w){t:TypeId}{a:bA}{bT:Value}{v:aa}(aj:aL φ (.ptr (some a)) bT)(ao:bM D t a h=some v) :
 ∃br,(Instr.loadAt t bT).run P w=.ok br w∧aL φ v br:=by
 unfold bM at ao;split at ao
 ·rename_i d b aE ax;obtain⟨jd,u,h4,hu,au,hs, -⟩:=bZ.get aE;split at ao
  ·rename_i e he;simp only [aL]at aj;obtain⟨fJ,rfl,me⟩:=aj;obtain⟨p,ah,rfl,eI,hlen,ux⟩:=r.S0 me ax he;rw [au,hs]at ao;cases Ap:(gW u).isAgg with
   |true =>
    rw [Ap]at ao;simp only [hZ,if_true]at ao;split at ao
    ·rename_i bm
     have key:∀(l:List aa),(∀(j:Nat)(bT:aa),l[j]? =some bT→bm[a.fld+j]? =some bT)→l.length=jd.size→ ∃br,(Instr.loadAt t (.pointer (some (p.at a.idx a.fld)))).run P w=.ok br w∧aL φ (.agg l) br:=by
      intro l aC mf
      obtain⟨vs,Aq,uz, -⟩:=Ao (φ:=φ) (w:=w) (b:=p.cd) (o:=p.off+(a.idx-p.bb)*p.es+a.fld) (l:=l) (fun j bT a1=>by
       obtain⟨x,g1,g2⟩:=ux (a.fld+j) bT (aC j bT a1)
       exact⟨x,by rw [Place.at,←Nat.add_assoc]at g1;exact g1,g2⟩)
      refine⟨.agg vs.toArray,?_,by simp only [aL];exact⟨_,rfl,by simpa using Aq⟩⟩;exact run_loadAt_mid w p.cd _ t vs u uz hu (by cases u<;>simp [gW,kR.isAgg]at Ap⊢) (by rw [h4];simp [Aq.length,mf])
     split at ao
     ·rename_i aw;simp at ao;subst ao;exact key bm (fun j bT a1=>by rw [aw.1,Nat.zero_add];exact a1) aw.2.symm
     ·split at ao
      ·rename_i aw;simp at ao;subst ao;refine key _ (fun j bT a1=> ?_) (by simp;omega);rw [List.getElem?_take]at a1;split at a1
       ·rw [List.getElem?_drop]at a1;exact a1
       ·simp at a1
      ·cases ao
    ·cases ao
   |false =>
    rw [Ap]at ao
    have key:∀(j:Nat)(y:aa),e.cells[j]? =some y→a.fld=j→ ∃br,(Instr.loadAt t (.pointer (some (p.at a.idx a.fld)))).run P w=.ok br w∧aL φ y br:=by intro j y bV a1;subst a1;obtain⟨x,g1,g2⟩:=ux a.fld y bV;refine⟨x,?_,g2.1⟩;simp only [Instr.loadAt,Instr.sureAddr,Sem.run_bind,Sem.run_pure,Result.andThen_ok,loadVar,sO hu,Ap];simp [g1]
    simp only [hZ]at ao;cases e with
    |agg bm=>exact key a.fld v ao rfl
    |_ =>
     simp at ao;obtain⟨aZ,rfl⟩:=ao;exact key 0 _ (by simp [aa.cells]) aZ
  ·cases ao
 ·cases ao
theorem aL.S1{a:aa}{v:Value}(h:aL φ a v)(hs:a.ka=true):v.oneCell'=true:=by
 cases a with
 |undef=>cases hs
 |agg bm=>cases hs
 |tuple bm=>cases hs
 |bool b=>simp only [aL]at h;subst h;rfl
 |int k n=>simp only [aL]at h;subst h;rfl
 |str s=>simp only [aL]at h;obtain⟨_,rfl,_⟩:=h;rfl
 |ptr o=>cases o with
  |none=>simp only [aL]at h;subst h;rfl
  |some x=>simp only [aL]at h;obtain⟨_,rfl,_⟩:=h;rfl
 |slice o l c=>cases o with
  |none=>simp only [aL]at h;obtain⟨rfl,_⟩:=h;rfl
  |some x=>simp only [aL]at h;obtain⟨_,_,rfl,_⟩:=h;rfl
 |func fn f c=>simp only [aL]at h;obtain⟨_,_,rfl,_⟩:=h;rfl
 |nilFunc=>simp only [aL]at h;subst h;rfl
 |iface t x=>simp only [aL]at h;obtain⟨_,rfl,_⟩:=h;rfl
 |nilIface=>simp only [aL]at h;subst h;rfl
end
end
end Go.cf
namespace Go.cf
noncomputable section
open Go.RowKit
section
variable {P:Program}{φ:Map}
theorem Ea{v:aa}(h:v.ka=true):v.cells=[v]:=by cases v<;>first|rfl|(simp [aa.ka]at h)
theorem sS{v:aa}{oJ:Bool}{size:Nat}(h:v.fits oJ size=true):v.cells.length=size∧v≠ .undef∧∀c∈v.cells,c.ka=true:=by cases v<;>simp [aa.fits,aa.cells,aa.ka]at h⊢ <;>first|exact h.2.symm|exact⟨h.1.2,h.2⟩|skip
theorem bz.one{l:List aa}{t:List Value}(h:bz φ l t)(hs:∀c∈l,c.ka=true):∀x∈t,x.oneCell'=true:=by
 intro x aj;obtain⟨i,aq,rfl⟩:=List.mem_iff_getElem.1 aj;have gF:i<l.length:=by rw [←h.length];exact aq
 obtain⟨v,bh,pW⟩:=h.get (List.getElem?_eq_getElem gF);rw [List.getElem?_eq_getElem aq]at bh;simp at bh;subst bh;exact pW.S1 (hs _ (List.getElem_mem _))
theorem S2{D:dH}(bZ:D.dt P){be:Nat→Prop}{h ag:J}{bo w:World}(r:cS φ be h w)(dq:Safe be bo w){t:TypeId}{a:bA}{v:aa}{bT br:Value}
 (aj:aL φ (.ptr (some a)) bT) (bh:aL φ v br) (ao:hL D t a v h=some ag) :
 ∃bq,(Instr.storeAt t bT br).run P w=.ok () bq∧cS φ be ag bq∧Safe be bo bq∧ag.U=h.U:=by
 unfold hL at ao;split at ao
 ·rename_i d b aE ax;obtain⟨jd,u,h4,hu,au,hs, -⟩:=bZ.get aE;split at ao
  ·rename_i aw;simp only [Bool.and_eq_true,Bool.not_eq_true',beq_iff_eq]at aw;obtain⟨⟨Eb,eu⟩,o0⟩:=aw;split at ao
   ·rename_i e he;split at ao
    ·rename_i dS hF;simp at ao;subst ao;simp only [aL]at aj;obtain⟨fJ,rfl,p,ah,ck,eI,rfl⟩:=aj;rw [o0]at ah;obtain⟨f1,f2,f3⟩:=sS Eb;have fo:=bh.cells f2;have kr:=fo.one f3;obtain⟨ac,c,ai,a8,bQ,bF,dv,cE,cj⟩:=r.dD _ _ _ ah;rw [ax]at ai;simp at ai;subst ai;have sM:a.idx<b.bk.length:=(List.getElem?_eq_some_iff.1 he).1;obtain⟨dI,c2,c3⟩:=cj.cont a.idx e eI (by simp [af.cC];exact sM) he
     have KK:a.fld+v.cells.length≤p.es∧dS.cells=iZ e.cells a.fld v.cells:=by
      unfold sE at hF;split at hF
      ·rename_i bm;split at hF
       ·rename_i hle;simp at hF;subst hF;simp only [aa.cells]at dI;exact⟨ab,rfl⟩
       ·cases hF
      ·rename_i bX;split at hF
       ·rename_i aw;simp at hF;subst hF;have bi:e.cells=[e]:=by cases e<;>first|rfl|exact absurd rfl (bX _)
        rw [bi]at dI⊢;have bu:=Ea aw.2;rw [aw.1,bu];simp at dI;exact⟨by simp;omega,rfl⟩
       ·cases hF
     obtain⟨aK,aP⟩:=r.store ah ax eu eI he fo kr KK.1 KK.2;refine⟨_,?_,aK,?_,rfl⟩
     ·have fq:br.cells.size=jd.size:=by have:=fo.length;rw [Array.length_toList]at this;omega
      have kw:=run_storeCells_cells (P:=P) p.cd (p.off+(a.idx-p.bb)*p.es+a.fld) br.cells.toList 0 w (fun j a1=>by simpa using (aP j a1).1) (fun j a1=>by simpa using (aP j a1).2) kr;simp only [Nat.add_zero]at kw;simp only [Instr.storeAt,Instr.sureAddr,Sem.run_bind,Sem.run_pure,Result.andThen_ok,storeVar,ly h4,fq,Place.at];simp only [ne_eq,not_true_eq_false,if_false];exact kw
     ·exact wG _ (cj.base (dv eu)) _ _ dq
    ·cases ao
   ·cases ao
  ·cases ao
 ·cases ao
theorem S3(v:aa):flat [v]=v.cells:=by simp [flat]
theorem KL{D:dH}{be:Nat→Prop}{h:J}{bo w:World}(r:cS φ be h w)(dq:Safe be bo w)(db:fu be bo.heap.size){nid:Nat}(hid:∀v,φ nid v=none)(aR:nid<h.U)(t:TypeId){v:aa}{br:Value}{oJ:Bool}{size:Nat}
 (bh:aL φ v br) (Eb:v.fits oJ size=true) (iE:0<size) :
 ∃bq bE,(newVar t br).run P w=.ok ⟨w.heap.size,0,none⟩ bq∧hl φ bE h.U nid∧aL bE (.ptr (some ⟨nid,0,0,0,size⟩)) (.pointer (some ⟨w.heap.size,0,none⟩))
  ∧cS bE be (h.set nid (.an [v] size true (some (t,size)))) bq∧Safe be bo bq:=by
 obtain⟨f1,f2,f3⟩:=sS Eb;have fo:=bh.cells f2;have kr:=fo.one f3;have hlen:br.cells.toList.length=size:=by rw [fo.length,f1]
 have iG:fu be w.heap.size:=db.le dq.size;refine⟨w.alloc (.cells br.cells t),φ.add nid 0 ⟨w.heap.size,0,0,size,1,true,false⟩,rfl,hl.add φ _ (hid 0) _,?_,?_,dq.alloc iG _⟩
 ·simp only [aL];refine⟨_,rfl,_,Map.z8 _ _ _ _,rfl,Nat.le_refl _,?_⟩;simp [Place.at]
 ·refine r.an hid aR iG iE (by intro e he;simp at he;subst he;exact f1) ?_ ?_ aM ?_ (fun q h=>by cases h;exact⟨rfl,fun _=>by rw [←Array.length_toList,hlen]⟩)
  ·rw [S3,List.take_of_length_le (by simp [hlen])];exact fo
  ·rw [←Array.length_toList,hlen];omega
  ·intro x aj;exact kr x (List.mem_of_mem_take aj)
def wN(l:List Value)(i:Nat):List Value→List Value
 |[]=>l
 |v::vs=>wN (l.set i v) (i+1) vs
theorem bz.put{l m:List aa}{t u:List Value}(h:bz φ l t)(k:bz φ m u)(i:Nat):bz φ (cf.iZ l i m) (wN t i u):=by
 induction m generalizing l t u i with
 |nil=>simp only [bz]at k;subst k;exact h
 |cons a r ih =>
  simp only [bz]at k;obtain⟨v,uA,rfl,ac,ai⟩:=k;exact ih (h.set i ac) ai (i+1)
theorem KM:∀(vs:List Value)(off k:Nat)(cells:Array Value),((vs.zipIdx k).foldl (fun bm (x:Value×Nat)=>bm.setIfInBounds (off+x.2) x.1) cells).toList=wN cells.toList (off+k) vs
 |[],off,k,cells=>rfl
 |v::vs,off,k,cells=>by simp only [List.zipIdx_cons,List.foldl_cons,wN];rw [KM vs off (k+1),Array.toList_setIfInBounds,Nat.add_assoc]
theorem KN(vs:Array Value)(off:Nat)(cells:Array Value):(vs.zipIdx.foldl (fun bm (x:Value×Nat)=>bm.setIfInBounds (off+x.2) x.1) cells).toList=wN cells.toList off vs.toList:=by rw [←Array.foldl_toList,Array.toList_zipIdx];exact KM vs.toList off 0 cells
theorem Ec{place Ar:Nat→Option (Nat×Nat)}(ah:∀i x,place i=some x→Ar i=some x):∀{parts:List (Nat×aa)} {sT:List (Nat×Value)} {l cQ:List aa} {cells:Array Value},
 (parts.map (·.1)=sT.map (·.1))→bz φ (parts.map (·.2)) (sT.map (·.2))→bz φ l cells.toList→uk place l parts=some cQ →
 ∃kx,Instr.fill Ar cells sT=some kx∧bz φ cQ kx.toList
 |[],[],l,cQ,cells,_,_,aC,h=>by simp [uk]at h;subst h;exact⟨cells,rfl,aC⟩
 |[],_::_,_,_,_,h,_,_,_=>by simp at h
 |_::_,[],_,_,_,h,_,_,_=>by simp at h
 |(i, v)::rest,(fh,br)::S4,l,cQ,cells,ac,ai,aC,h=>by
  simp at ac;obtain⟨rfl,ac⟩:=ac;simp only [List.map_cons,bz]at ai;obtain⟨u,t,e,bh,ai⟩:=ai;simp at e;obtain⟨rfl,rfl⟩:=e;simp only [uk]at h;split at h
  ·cases h
  ·rename_i off size p3;split at h
   ·rename_i aw;have fo:=bh.cells (by rintro rfl;simp [aa.known]at aw);have fq:br.cells.size=size:=by have:=fo.length;rw [Array.length_toList]at this;omega
    have gI:cells.size=l.length:=by have:=aC.length;rw [Array.length_toList]at this;omega
    have key:=Ec ah ac ai (l:=iZ l off v.cells) (cells:=br.cells.zipIdx.foldl (fun bm (x:Value×Nat)=>bm.setIfInBounds (off+x.2) x.1) cells)
     (by rw [KN];exact aC.put fo off) h
    obtain⟨kx,aK,aP⟩:=key;refine⟨kx,?_,aP⟩;simp only [Instr.fill,ah _ _ p3];split
    ·rename_i dr;exfalso;simp only [ne_eq,Bool.or_eq_true,decide_eq_true_eq]at dr;omega
    ·exact aK
   ·cases h
theorem Ed(parts:Array (Nat×Operand))(ρ:Operand→aa)(dU:Operand→Value) :
 (parts.toList.map fun p=>(p.1,ρ p.2)).map (·.1)=((parts.map fun(i,x)=>(i,dU x)).toList).map (·.1):=by
 simp only [Array.toList_map,List.map_map];rfl
theorem Ee{ρ:Operand→aa}{dU:Operand→Value}(cN:∀x,aL φ (ρ x) (dU x))(parts:Array (Nat×Operand)) :
 bz φ ((parts.toList.map fun p=>(p.1,ρ p.2)).map (·.2)) (((parts.map fun(i,x)=>(i,dU x)).toList).map (·.2)):=by
 simp only [Array.toList_map,List.map_map];exact bz.map _ _ _ fun x _=>cN x.2
theorem uB{D:dH}(bZ:D.dt P){t:TypeId}{d:q6}{i:TypeInfo}{z:aa}(h:d.zero=i.zero.map q5)(eK:d.zero=some z):∃fI,i.zero=some fI∧aL φ z fI:=by
 rw [eK]at h;cases aq:i.zero with
 |none=>rw [aq]at h;cases h
 |some fI=>rw [aq]at h;simp at h;subst h;exact⟨fI,rfl,Km φ fI⟩
theorem S5{fs:Array Field}{w:World}{g:Field→Nat}(ak:∀f∈fs.toList,(sizeOf f.type).run P w=.ok (g f) w) :
 ((fs.mapM fun f=>(do pure (f.offset,←sizeOf f.type):Sem (Nat×Nat)))).run P w=.ok (fs.map fun f=>(f.offset,g f)) w:=by
 have key:∀(l:List Field),(∀f∈l,(sizeOf f.type).run P w=.ok (g f) w)→(l.mapM fun f=>(do pure (f.offset,←sizeOf f.type):Sem (Nat×Nat))).run P w=.ok (l.map fun f=>(f.offset,g f)) w:=by
  intro l;induction l with
  |nil=>intro _;rfl
  |cons f r ih =>
   intro h;simp only [List.mapM_cons,Sem.run_bind,h f aM,Result.andThen_ok,Sem.run_pure,ih (fun f aZ=>h f (by simp [aZ])),List.map_cons]
 have:=key fs.toList ak;rw [←Array.toArray_toList (xs:=fs)];simp only [List.mapM_toArray,Sem.run_map,this,Result.andThen_ok,List.map_toArray]
theorem S6{D:dH}(bZ:D.dt P){t:TypeId}{parts:Array (Nat×Operand)}{ρ:Operand→aa}{dU:Operand→Value}(cN:∀x,aL φ (ρ x) (dU x)){v:aa}
 (h:DE D t (parts.toList.map fun p=>(p.1,ρ p.2))=some v) (w:World) :
 ∃br,(Instr.build t (parts.map fun(i,x)=>(i,dU x))).run P w=.ok br w∧aL φ v br:=by
 unfold DE at h;split at h
 ·rename_i d aE;obtain⟨jd,u,h4,hu,au,hs, -,eK⟩:=bZ.get aE;split at h
  ·rename_i fs z eg Ef;split at h
   ·rename_i ky;rw [au]at eg;obtain⟨aG,rfl,nV⟩:=Ae eg;obtain⟨fI,mg,nW⟩:=uB (P:=P) (φ:=φ) (t:=t) bZ eK Ef;simp only [Option.map_eq_some_iff]at h;obtain⟨cells,aw,rfl⟩:=h
    have fq:∀f∈aG.toList,∃x,D f.type=some x:=by intro f aZ;have Eg:=ky.2;unfold Kk at Eg;rw [nV,List.all_eq_true]at Eg;have:=Eg (f.offset,f.type) (List.mem_map.2 ⟨f,aZ,rfl⟩);exact Option.isSome_iff_exists.1 this
    have kw:=S5 (P:=P) (w:=w) (fs:=aG) (g:=fun f=>((D f.type).map (·.size)).getD 0) (fun f aZ=>by
     obtain⟨x,aj⟩:=fq f aZ;obtain⟨dY,oZ,fV, -, -,e9, -⟩:=bZ.get aj
     rw [ly fV,aj];simp [e9])
    have Eh:z≠ .undef:=by rintro rfl;simp [aa.known]at ky
    obtain⟨kx,aK,aP⟩:=Ec (φ:=φ) (Ar:=fun i=>(aG.map fun f=>(f.offset,((D f.type).map (·.size)).getD 0))[i]?) (fun i x aj=>by
     split at aj
     ·rename_i off q9 aZ;simp only [Option.map_eq_some_iff]at aj;obtain⟨y,bV,rfl⟩:=aj;rw [nV]at aZ;simp only [List.getElem?_map,Option.map_eq_some_iff]at aZ;obtain⟨mT,rk,he⟩:=aZ;simp at he;obtain⟨rfl,rfl⟩:=he;have wL:aG[i]? =some mT:=by simpa using rk
      simp [wL,bV]
     ·cases aj) (Ed parts ρ dU) (Ee cN parts) (nW.cells Eh) aw
    refine⟨.agg kx,?_,by simp only [aL];exact⟨_,rfl,aP⟩⟩;simp only [Instr.build,Sem.run_bind,wI h4 mg,Result.andThen_ok,run_underlying hu,kw,aK,Sem.run_pure]
   ·cases h
  ·rename_i n e z eg Ef;split at h
   ·rename_i cJ fN;split at h
    ·rename_i ky;rw [au]at eg;have:=uw eg;subst this;obtain⟨fI,mg,nW⟩:=uB (P:=P) (φ:=φ) (t:=t) bZ eK Ef;obtain⟨dY,oZ,fV, -, -,e9, -⟩:=bZ.get fN;simp only [Option.map_eq_some_iff]at h;obtain⟨cells,aw,rfl⟩:=h;have Eh:z≠ .undef:=by rintro rfl;simp [aa.known]at ky
     obtain⟨kx,aK,aP⟩:=Ec (φ:=φ) (Ar:=fun i=>some (i*dY.size,dY.size)) (fun i x aj=>by rw [←e9];exact aj) (Ed parts ρ dU) (Ee cN parts) (nW.cells Eh) aw;refine⟨.agg kx,?_,by simp only [aL];exact⟨_,rfl,aP⟩⟩;simp only [Instr.build,Sem.run_bind,wI h4 mg,Result.andThen_ok,run_underlying hu,ly fV,aK,Sem.run_pure]
    ·cases h
   ·cases h
  ·cases h
 ·cases h
end
end
end Go.cf
namespace Go.cf
noncomputable section
open Go.RowKit
section
variable {P:Program}{φ:Map}
def p4(P:Program)(φ:Map)(be:Nat→Prop)(bo:World)(h:J)(nid:Nat)(v:aa)(ag:J)(s:Sem Value)(w:World):Prop :=
 ∃br bq bE,s.run P w=.ok br bq∧hl φ bE h.U nid∧aL bE v br∧cS bE be ag bq∧Safe be bo bq∧ag.U=h.U
theorem p4.pure{be:Nat→Prop}{bo:World}{h:J}{nid:Nat}{v:aa}{s:Sem Value}{w:World}(r:cS φ be h w)(ax:Safe be bo w)(k:∃br,s.run P w=.ok br w∧aL φ v br):p4 P φ be bo h nid v h s w :=
 let ⟨br,ac,ai⟩:=k;⟨br,w,φ,ac,hl.refl _ _ _,ai,r,ax,rfl⟩
theorem S7(zs:Array Value)(i:Nat)(h:i<zs.size):zs[i]! =zs[i]:=by simp [getElem!_pos,h]
theorem KO{z:aa}{fI:Value}{es:Nat}(eK:aL φ z fI)(au:z≠ .undef)(hlen:z.cells.length=es)(ck:0<es)(n:Nat) :
 bz φ (flat (List.replicate n z)) ((Array.range (n*es)).map (fun i=>fI.cells[i%fI.cells.size]!)).toList:=by
 have aw:=eK.cells au;have fq:fI.cells.size=es:=by have:=aw.length;rw [Array.length_toList]at this;omega
 have h3:∀e∈List.replicate n z,e.cells.length=es:=by intro e he;rw [List.eq_of_mem_replicate he];exact hlen
 refine bz.eV (by rw [lq h3];simp) fun i a v aT bh=> ?_
 have aq:i<(flat (List.replicate n z)).length:=(List.getElem?_eq_some_iff.1 aT).1;obtain⟨q,j,e,rfl,he,a1⟩:=Ab h3 i aq;have S8:e=z:=List.eq_of_mem_replicate (List.mem_of_getElem? he);subst S8;have wO:e.cells[j]? =some (e.cells[j]' ab):=List.getElem?_eq_getElem _;have aZ:=oU h3 he wO;rw [aZ]at aT;simp at aT;subst aT;have nX:(q*es+j)%es=j:=by rw [Nat.add_comm,Nat.add_mul_mod_self_right];exact Nat.mod_eq_of_lt a1
 have cG:q*es+j<n*es:=by rw [lq h3]at aq;simpa using aq
 obtain⟨u,hu,DP⟩:=aw.get wO
 have S9:fI.cells[j]' ab =u:=by have:=(List.getElem?_eq_some_iff.1 hu).2;simpa using this
 simp only [Array.toList_map,Array.toList_range,List.getElem?_map,List.getElem?_range cG,Option.map_some,Option.some.injEq]at bh;rw [fq,nX,S7 _ _ ab,S9]at bh;subst bh;exact DP
theorem KP:∀{parts:List (Nat×aa)} {l cQ:List aa},nQ l parts=some cQ→cQ.length=l.length
 |[],l,cQ,h=>by simp [nQ]at h;subst h;rfl
 |(i,v)::r,l,cQ,h=>by
  simp only [nQ]at h;split at h
  ·rw [KP h];simp
  ·cases h
theorem S'{es:Nat} :∀{l:List aa}(aC:∀e∈l,e.cells.length=es){i:Nat}{v:aa},i<l.length→v.cells.length=es→flat (l.set i v)=iZ (flat l) (i*es) v.cells:=by
 intro l aC i v aq bh
 have o1:∀e∈l.set i v,e.cells.length=es:=by
  intro e he;rcases List.mem_or_eq_of_mem_set he with h|h
  ·exact aC e h
  ·rw [h];exact bh
 apply List.ext_getElem?;intro k;rw [z'];by_cases au:k<(flat (l.set i v)).length
 ·obtain⟨q,j,e,rfl,he,a1⟩:=Ab o1 k au;have Ta:e.cells.length=es:=o1 e (List.mem_of_getElem? he);rw [oU o1 he (List.getElem?_eq_getElem (by omega:j<e.cells.length))];have lv:q*es+j<(flat l).length:=by rw [lq aC];rw [lq o1,List.length_set]at au;exact au
  by_cases KQ:i=q
  ·subst KQ;rw [List.getElem?_set_self aq]at he;simp at he;subst he;rw [if_pos ⟨ab,by rw [bh];omega,lv⟩,show i*es+j-i*es=j by omega,List.getElem?_eq_getElem ab]
  ·rw [List.getElem?_set_ne KQ]at he;rw [if_neg]
   ·rw [oU aC he (List.getElem?_eq_getElem (by omega:j<e.cells.length))]
   ·intro aw;rcases Nat.lt_or_ge q i with cG|gi
    ·have:=uu (i:=q) (k:=i) (j:=j) (es:=es) cG a1;omega
    ·have:=uu (i:=i) (k:=q) (j:=es-1) (es:=es) ab ab ;omega
 ·rw [List.getElem?_eq_none ab,if_neg (by rw [lq o1,List.length_set]at au;rw [lq aC];omega),List.getElem?_eq_none (by rw [lq aC];rw [lq o1,List.length_set]at au;omega)]
theorem KR{es:Nat} :∀{parts:List (Nat×aa)} {sT:List (Nat×Value)} {l cQ:List aa} {cells:Array Value},
 (parts.map (·.1)=sT.map (·.1))→bz φ (parts.map (·.2)) (sT.map (·.2))→(∀p∈parts,p.2≠ .undef∧p.2.cells.length=es)→(∀e∈l,e.cells.length=es)→bz φ (flat l) cells.toList→nQ l parts=some cQ →
 ∃kx,Instr.fill (fun i=>some (i*es,es)) cells sT=some kx∧bz φ (flat cQ) kx.toList∧(∀e∈cQ,e.cells.length=es)
 |[],[],l,cQ,cells,_,_,_,jO,aC,h=>by simp [nQ]at h;subst h;exact⟨cells,rfl,aC,jO⟩
 |[],_::_,_,_,_,h,_,_,_,_,_=>by simp at h
 |_::_,[],_,_,_,h,_,_,_,_,_=>by simp at h
 |(i, v)::rest,(fh,br)::S4,l,cQ,cells,ac,ai,a8,jO,aC,h=>by
  simp at ac;obtain⟨rfl,ac⟩:=ac;simp only [List.map_cons,bz]at ai;obtain⟨u,t,e,bh,ai⟩:=ai;simp at e;obtain⟨rfl,rfl⟩:=e;simp only [nQ]at h;split at h
  ·rename_i aq;obtain⟨Tb,lu⟩:v≠ .undef∧v.cells.length=es:=a8 (i,v) aM;have fo:=bh.cells Tb;have fq:br.cells.size=es:=by have:=fo.length;rw [Array.length_toList]at this;omega
   have gI:cells.size=l.length*es:=by have:=aC.length;rw [Array.length_toList,lq jO]at this;omega
   have hle:i*es+es≤l.length*es:=by have:=Nat.mul_le_mul_right es (show i+1≤l.length by omega);rw [Nat.succ_mul]at this;exact this
   have key:=KR ac ai (fun p en=>a8 p (by simp [en])) (l:=l.set i v) (cells:=br.cells.zipIdx.foldl (fun bm (x:Value×Nat)=>bm.setIfInBounds (i*es+x.2) x.1) cells)
    (by
     intro e he;rcases List.mem_or_eq_of_mem_set he with h|h
     ·exact jO e h
     ·rw [h];exact lu)
    (by rw [KN,S' jO aq lu];exact aC.put fo _) h
   obtain⟨kx,aK,aP,bt⟩:=key;refine⟨kx,?_,aP,bt⟩;simp only [Instr.fill];split
   ·rename_i dr;exfalso;simp only [ne_eq,Bool.or_eq_true,decide_eq_true_eq]at dr;omega
   ·exact aK
  ·cases h
theorem KS{l:List aa}{oJ:Bool}{es:Nat}(h:∀e∈l,e.fits oJ es=true):∀c∈flat l,c.ka=true:=by intro c aw;obtain⟨e,he,Tc⟩:=List.mem_flatMap.1 aw;exact(sS (h e he)).2.2 c Tc
theorem KT(t:TypeId)(c:Array Value)(w:World):(newRow t c).run P w=.ok ⟨w.heap.size,0,none⟩ (w.alloc (.cells c t)):=rfl
theorem aL.kb{φ:Map}{nid b es len cap tot:Nat}{ex:Bool}{di:Nat}(sQ:len≤cap)(dE:cap≤di)(bW:di≤tot)(hex:ex=true→di=cap) :
 aL (φ.add nid 0 ⟨b,0,0,es,tot,ex,false⟩) (kb nid es len cap) (.slice (some ⟨b,0,none⟩) len di):=by
 simp only [cf.kb,aL];refine⟨_,_,rfl,sQ,dE,.inl ⟨rfl,_,Map.z8 _ _ _ _,rfl,.inr ⟨Nat.le_refl _,?_,by simpa using bW⟩,hex⟩⟩;simp [Place.at]
theorem Td{D:dH}(bZ:D.dt P){be:Nat→Prop}{h ag:J}{bo w:World}(r:cS φ be h w)(dq:Safe be bo w)(db:fu be bo.heap.size){nid:Nat}(hid:∀v,φ nid v=none)(aR:nid<h.U)
 {t:TypeId} {n:Nat} {parts:Array (Nat×Operand)} {ρ:Operand→aa} {dU:Operand→Value} (cN:∀x,aL φ (ρ x) (dU x)) {v:aa}
 (ao:oL D t n (parts.toList.map fun p=>(p.1,ρ p.2)) nid h=some (v,ag)) :
 p4 P φ be bo h nid v ag (Instr.buildSlice t n (parts.map fun(i,x)=>(i,dU x))) w:=by
 unfold oL at ao;split at ao
 ·rename_i d aE;obtain⟨jd,u,h4,hu,au,hs, -, -⟩:=bZ.get aE;split at ao
  ·rename_i e eg;rw [au]at eg;have:=lx eg;subst this;split at ao
   ·rename_i cJ fN;obtain⟨dY,oZ,fV, -, -,e9, -,wP⟩:=bZ.get fN;split at ao
    ·rename_i z eK;obtain⟨fI,mg,nW⟩:=uB (P:=P) (φ:=φ) (t:=e) bZ wP eK;split at ao
     ·rename_i aw;obtain⟨mb,kX,sU,rm⟩:=aw;split at ao
      ·rename_i l aC;simp at ao;obtain⟨rfl,rfl⟩:=ao;obtain⟨f1,f2,f3⟩:=sS sU;have iE:0<dY.size:= ab;have Ei:∀e∈List.replicate n z,e.fits cJ.kind.isAgg cJ.size=true:=by intro e he;rw [List.eq_of_mem_replicate he];exact sU
       have Te:∀e∈l,e.fits cJ.kind.isAgg cJ.size=true:=by
        have key:∀(parts:List (Nat×aa)) (m gH:List aa),(∀p∈parts,p.2.fits cJ.kind.isAgg cJ.size=true)→(∀e∈m,e.fits cJ.kind.isAgg cJ.size=true)→nQ m parts=some gH→ ∀e∈gH,e.fits cJ.kind.isAgg cJ.size=true:=by
         intro parts;induction parts with
         |nil=>intro m gH _ hm hs;simp [nQ]at hs;subst hs;exact hm
         |cons p r ih =>
          obtain⟨i,v⟩:=p;intro m gH ah hm hs;simp only [nQ]at hs;split at hs
          ·refine ih (m.set i v) gH (fun p en=>ah p (by simp [en])) ?_ hs;intro e he;rcases List.mem_or_eq_of_mem_set he with h|h
           ·exact hm e h
           ·rw [h];exact ah (i,v) aM
          ·cases hs
        exact key _ _ _ (fun p ah=>List.all_eq_true.1 rm p ah) Ei aC
       obtain⟨kx,aK,aP,bt⟩:=KR (φ:=φ) (es:=dY.size) (Ed parts ρ dU) (Ee cN parts)
        (fun p ah=>by have:=sS (List.all_eq_true.1 rm p ah);exact⟨this.2.1,ab⟩)
        (by intro e he;rw [List.eq_of_mem_replicate he];omega)
        (KO nW f2 (by omega:z.cells.length=dY.size) iE n) aC
       have mf:l.length=n:=by rw [KP aC];simp
       have iG:fu be w.heap.size:=db.le dq.size;have nV:(flat l).length=n*dY.size:=by rw [lq bt,mf]
       have gI:kx.size=n*dY.size:=by have:=aP.length;rw [Array.length_toList]at this;omega
       refine⟨.slice (some ⟨w.heap.size,0,none⟩) n n,w.alloc (.cells kx e),φ.add nid 0 ⟨w.heap.size,0,0,cJ.size,n,true,false⟩,?_,hl.add φ _ (hid 0) _,aL.kb (Nat.le_refl _) (Nat.le_refl _) (Nat.le_refl _) (fun _=>rfl),?_,dq.alloc iG _,rfl⟩
       ·have hle:¬n*dY.size>2^24:=by rw [←e9];omega
        simp only [Instr.buildSlice,Sem.run_bind,run_underlying hu,Result.andThen_ok,ly fV];rw [if_neg hle];by_cases mW:n*dY.size=0
        ·have Tf:n=0:=by rcases Nat.mul_eq_zero.1 mW with h|h<;>omega
         subst Tf;simp only [Nat.zero_mul,if_true,Sem.run_bind,Sem.run_pure,Result.andThen_ok]at aK⊢;have e0:(Array.range 0).map (fun i=>(#[]:Array Value)[i%(#[]:Array Value).size]!)=(Array.range 0).map (fun i=>fI.cells[i%fI.cells.size]!):= aM;rw [e0,aK];rfl
        ·rw [if_neg mW];simp only [Sem.run_bind,wI fV mg,Result.andThen_ok,Sem.run_pure,aK];rfl
       ·refine r.an hid aR iG kX (by intro e he;rw [bt e he,e9]) ?_ (by rw [gI,e9];exact Nat.le_refl _) ab ?_ nofun
        ·rw [List.take_of_length_le (by rw [Array.length_toList,gI,mf,e9];exact Nat.le_refl _)];exact aP
        ·intro x aj;exact aP.one (KS Te) x (List.mem_of_mem_take aj)
      ·cases ao
     ·cases ao
    ·cases ao
   ·cases ao
  ·cases ao
 ·cases ao
theorem Ej{k:IntKind}{n:Int}(h:0≤n)(ai:n<2^62)(au:k=.i64):k.wrap n=n:=by subst au;have e:(2:Int)^62=4611686018427387904:= aS;exact IntWalk.i64_in _ ab
theorem Tg{D:dH}(bZ:D.dt P){be:Nat→Prop}{h ag:J}{bo w:World}(r:cS φ be h w)(dq:Safe be bo w)(db:fu be bo.heap.size){nid:Nat}(hid:∀v,φ nid v=none)(aR:nid<h.U)
 {t:TypeId} {x y v:aa} {bT gG:Value} (aj:aL φ x bT) (bV:aL φ y gG) (ao:wy D t x y nid h=some (v,ag)) :
 p4 P φ be bo h nid v ag (Instr.makeSlice t bT gG) w:=by
 unfold wy at ao;split at ao
 ·rename_i d aK l aP c aE;simp only [aL]at aj bV;subst aj bV;obtain⟨jd,u,h4,hu,au,hs, -, -⟩:=bZ.get aE;split at ao
  ·rename_i e eg;rw [au]at eg;have:=lx eg;subst this;split at ao
   ·rename_i cJ fN;obtain⟨dY,oZ,fV, -, -,e9,Ek,wP⟩:=bZ.get fN;split at ao
    ·rename_i z eK;obtain⟨fI,mg,nW⟩:=uB (P:=P) (φ:=φ) (t:=e) bZ wP eK;split at ao
     ·rename_i aw;obtain⟨mb,kX,sU,rm,Th,KU⟩:=aw;simp at ao;obtain⟨rfl,rfl⟩:=ao;obtain⟨f1,f2,f3⟩:=sS KU;have iE:0<dY.size:= ab;have iG:fu be w.heap.size:=db.le dq.size;have Ti:IntKind.i64.wrap l=l:=Ej mb ab rfl;have Tj:IntKind.i64.wrap c=c:=Ej ab sU rfl;have KV:=KO nW f2 (by omega:z.cells.length=dY.size) iE c.toNat;have Ei:∀e∈List.replicate c.toNat z,e.fits cJ.kind.isAgg cJ.size=true:=by intro e he;rw [List.eq_of_mem_replicate he];exact KU
      have h3:∀e∈List.replicate c.toNat z,e.cells.length=dY.size:=by intro e he;rw [List.eq_of_mem_replicate he];omega
      refine⟨.slice (some ⟨w.heap.size,0,none⟩) l.toNat c.toNat,w.alloc (.cells ((Array.range (c.toNat*dY.size)).map (fun i=>fI.cells[i%fI.cells.size]!)) e),
       φ.add nid 0 ⟨w.heap.size,0,0,cJ.size,c.toNat,true,false⟩,?_,hl.add φ _ (hid 0) _,aL.kb ab (Nat.le_refl _) (Nat.le_refl _) (fun _=>rfl),?_,dq.alloc iG _,rfl⟩
      ·have dE:¬c<0:= ab;have mf:¬l<0:= ab;have uC:¬l>c:= ab;have wQ:¬((dY.bytes:Int)*c>2^48):=by rw [←Ek];omega
       simp only [Instr.makeSlice,Sem.run_bind,run_underlying hu,Result.andThen_ok,asInt,asIntOf,Sem.run_pure,Sy fV,Ti,Tj];rw [if_neg (by simp only [Bool.or_eq_true,decide_eq_true_eq];omega)];simp only [Sem.run_bind,Sem.run_pure,run_askRoom,Result.andThen_ok,ly fV];by_cases mW:c.toNat*dY.size=0
       ·have e0:c.toNat*dY.size=0:=mW;rw [if_pos mW];have bi:Array.range 0= #[]:=rfl;simp only [Sem.run_bind,Sem.run_pure,Result.andThen_ok,e0,KT,bi];simp
       ·rw [if_neg mW];simp only [Sem.run_bind,wI fV mg,Result.andThen_ok,Sem.run_pure,KT]
      ·refine r.an hid aR iG Th (by intro e he;rw [h3 e he,e9]) ?_ (by rw [e9];simp) aM ?_ nofun
       ·rw [List.take_of_length_le (by simp [e9])];exact KV
       ·intro x aj;exact KV.one (KS Ei) x (List.mem_of_mem_take aj)
     ·cases ao
    ·cases ao
   ·cases ao
  ·cases ao
 ·cases ao
theorem Tk{D:dH}(bZ:D.dt P){t:TypeId}{x v:aa}{xs:Array Value}{ts:Array TypeId}(ty:TypeId)(aj:bz φ [x] xs.toList)(bW:ts[0]? =some t)(h:DI D t x=some v)(w:World) :
 ∃br,(Builtin.len_ ts ty xs).run P w=.ok br w∧aL φ v br:=by
 simp only [bz]at aj;obtain⟨bT,l,e,aj,aC⟩:=aj;have wR:xs[0]? =some bT:=by rw [←Array.getElem?_toList,e];rfl
 unfold DI at h;split at h
 ·rename_i d a n c aE;obtain⟨jd,u,h4,hu,au, -⟩:=bZ.get aE;split at h
  ·rename_i e eg;rw [au]at eg;have:=lx eg;subst this;simp at h;subst h;refine⟨.int .i64 n,?_,by simp only [aL]⟩
   have:∃cv ft,bT=.slice cv n ft:=by
    cases a with
    |none=>simp only [aL]at aj;obtain⟨rfl,rfl,rfl⟩:=aj;exact⟨_,_,rfl⟩
    |some a=>simp only [aL]at aj;obtain⟨_,_,rfl,_⟩:=aj;exact⟨_,_,rfl⟩
   obtain⟨cv,ft,rfl⟩:=this;simp [Builtin.len_,bW,wR,run_underlying hu,goInt]
  ·cases h
 ·rename_i d s aE;obtain⟨jd,u,h4,hu,au, -⟩:=bZ.get aE;split at h
  ·rename_i eg;rw [au]at eg;have:=rh eg;subst this;simp at h;subst h;simp only [aL]at aj;obtain⟨bG,rfl,rfl⟩:=aj;refine⟨.int .i64 bG.size,?_,by simp only [aL];rfl⟩;simp [Builtin.len_,bW,wR,run_underlying hu,goInt]
  ·cases h
 ·rename_i d aE _ _;obtain⟨jd,u,h4,hu,au, -⟩:=bZ.get aE;split at h
  ·rename_i n e eg;rw [au]at eg;have:=uw eg;subst this;simp at h;subst h;refine⟨.int .i64 n,?_,by simp only [aL]⟩;simp [Builtin.len_,bW,wR,run_underlying hu,goInt]
  ·cases h
 ·cases h
end
end
end Go.cf
namespace Go.cf
noncomputable section
open Go.RowKit
section
variable {P:Program}{φ:Map}
theorem cS.El{be:Nat→Prop}{h:J}{w:World}(r:cS φ be h w){id ad:Nat}{p:Place}(ah:φ id ad=some p){b:af}(ax:h.get id=some b){idx len:Nat}
 (eI:p.bb≤idx) (aC:idx+len≤b.cC ad) (hle:idx+len≤b.bk.length) :
 ∃news,bz φ (flat ((b.bk.drop idx).take len)) news∧w.rangeAt p.cd (p.off+(idx-p.bb)*p.es) news∧(∀x∈news,x.oneCell'=true)∧(∀e∈(b.bk.drop idx).take len,e.cells.length=p.es)∧news.length=len*p.es:=by
 obtain⟨ac,c,ai,a8,bQ,bF,dv,cE,cj⟩:=r.dD _ _ _ ah;rw [ax]at ai;simp at ai;subst ai
 have eX:∀(i:Nat)(e:aa),((b.bk.drop idx).take len)[i]? =some e→i<len∧b.bk[idx+i]? =some e:=by
  intro i e he;rw [List.getElem?_take]at he;split at he
  ·rw [List.getElem?_drop]at he;exact⟨by assumption,he⟩
  ·simp at he
 have h3:∀e∈(b.bk.drop idx).take len,e.cells.length=p.es:=by intro e he;obtain⟨i,aq⟩:=List.getElem?_of_mem he;obtain⟨g1,g2⟩:=eX i e aq;exact(cj.cont (idx+i) e ab ab g2).1
 obtain⟨news,a6,n2,eY⟩:=Ao (φ:=φ) (w:=w) (b:=p.cd) (o:=p.off+(idx-p.bb)*p.es) (l:=flat ((b.bk.drop idx).take len)) (fun k bT au=>by
  have lv:=(List.getElem?_eq_some_iff.1 au).1;obtain⟨i,j,e,rfl,he,a1⟩:=Ab h3 k lv;obtain⟨g1,g2⟩:=eX i e he;have Ta:e.cells.length=p.es:=h3 e (List.mem_of_getElem? he);obtain⟨dI,c2,c3⟩:=cj.cont (idx+i) e ab ab g2;have wO:e.cells[j]? =some (e.cells[j]' ab):=List.getElem?_eq_getElem _;rw [oU h3 he wO]at au;simp at au;subst au;obtain⟨x,kY,wS⟩:=c3 j _ wO;refine⟨x,?_,wS⟩;have bu:(idx+i-p.bb)*p.es=(idx-p.bb)*p.es+i*p.es:=by rw [←Nat.add_mul];congr 1;omega
  rw [show p.off+(idx-p.bb)*p.es+(i*p.es+j)=p.off+(idx+i-p.bb)*p.es+j by omega]
  exact kY)
 exact⟨news,a6,n2,eY,h3,by rw [a6.length,lq h3];congr 1;simp;omega⟩
theorem As{be:Nat→Prop}{h:J}{w:World}(r:cS φ be h w){es:Nat}{x:aa}{bT:Value}(aj:aL φ x bT){l:List aa}(he:fU es x h=some l)(ck:0<es){tx:TypeId}
 (au:(∃dS,P.underlying tx=some (.slice dS))∨P.underlying tx=some .string) :
 ∃news,Src P es tx bT l.length news w∧bz φ (flat l) news∧(∀e∈l,e.cells.length=es):=by
 unfold fU at he;split at he
 ·rename_i c;simp at he;subst he;simp only [aL]at aj;obtain⟨rfl,_,_⟩:=aj;refine⟨[],⟨au,fun _=>rfl,run_firstCells_none w es 0 0 0,run_firstCells_none w.drew es 0 0 0,aM,aM⟩,by simp [flat,bz],aM⟩
 ·rename_i a len cap;simp only [aL]at aj;obtain⟨fJ,di,rfl,et,l2,iF⟩:=aj
  have uD:len=0→l=[]→ ∃news,Src P es tx (.slice (some fJ) len di) l.length news w∧bz φ (flat l) news∧(∀e∈l,e.cells.length=es):=by rintro rfl rfl;exact⟨[],⟨au,fun _=>rfl,run_firstCells_some w es 0 fJ 0 di [] aM aM,run_firstCells_some w.drew es 0 fJ 0 di [] aM aM,aM,aM⟩,by simp [flat,bz],aM⟩
  split at he
  ·rename_i aZ;obtain⟨p,ah,jQ,kc,hex⟩:=iF.plain aZ;split at he
   ·rename_i p2;split at he
    ·rename_i b ax;split at he
     ·rename_i bf;simp at he;subst he;exact uD bf rfl
     ·rename_i bf;split at he
      ·rename_i aC;simp at he;subst he;rcases kc with eK|⟨eI,rfl,oV⟩
       ·omega
       ·obtain⟨_,c,ai,_⟩:=r.dD _ _ _ ah;have hle:a.idx+len≤b.bk.length:=aC.2;obtain⟨news,a6,n2,eY,hN,ha⟩:=r.El ah ax eI aC.1 hle;have hlen:((b.bk.drop a.idx).take len).length=len:=by simp;omega
        have mh:p.es=es:= ab;refine⟨news,?_,a6,by rw [←mh];exact hN⟩;rw [hlen]
        have aw:∀j v,news[j]? =some v→w.cell? ((p.at a.idx 0).add j)=some v:=by intro j v bh;rw [Place.rl,Nat.zero_add];exact n2 j v bh
        exact⟨au,fun _=>rfl,run_firstCells_some w es len _ len di news (by rw [ha,mh]) aw,run_firstCells_some w.drew es len _ len di news (by rw [ha,mh]) (by simpa using aw),by rw [ha,mh],eY⟩
      ·cases he
    ·split at he
     ·rename_i bf;simp at he;subst he;exact uD bf rfl
     ·cases he
   ·cases he
  ·rename_i aZ;split at he
   ·rename_i bf;simp at he;subst he;exact uD bf rfl
   ·rename_i bf;split at he
    ·rename_i ac;subst ac;split at he
     ·rename_i b ax;split at he
      ·rename_i bm fo;split at he
       ·rename_i aw;simp only [Option.some.injEq]at he;subst he;rcases iF with ⟨Tl,_⟩|⟨f,rk,p,ah,jQ,eI,rfl⟩
        ·exact absurd Tl aZ
        ·simp only at ah jQ eI;obtain⟨g1,jc,g2,g3,g4,g5,g6,g7,g8⟩:=r.dD _ _ _ ah;rw [ax]at g2;simp at g2;subst g2;have Tm:a.fld-1=f:= ab;rw [Tm]at aw⊢;unfold af.elem? at fo;split at fo
         ·rename_i ls;obtain⟨dh,du,fE⟩:=g8.cont a.idx _ eI ls fo;have sV:((bm.drop f).take len).length=len:=by simp;omega
          obtain⟨vs,v1,v2,v3⟩:=Ao (φ:=φ) (w:=w) (b:=p.cd) (o:=p.off+(a.idx-p.bb)*p.es+f) (l:=(bm.drop f).take len) (fun j bT aj=>by
           rw [List.getElem?_take]at aj;split at aj
           ·rw [List.getElem?_drop]at aj;obtain⟨x,o2,sW⟩:=fE (f+j) bT aj;refine⟨x,?_,sW⟩;rw [←o2];unfold Place.at;congr 2;omega
           ·cases aj)
          have lu:vs.length=len:=by have:=v1.length;omega
          have nV:flat ((bm.drop f).take len)=(bm.drop f).take len:=by
           have hs:=aw.2;generalize (bm.drop f).take len=l at hs;induction l with
           |nil=>rfl
           |cons x r ih =>
            simp only [List.all_cons,Bool.and_eq_true]at hs;have ih:=ih hs.2;simp only [flat,List.flatMap_cons]at ih⊢;rw [Ea hs.1,ih];rfl
          refine⟨vs,?_,by rw [nV];exact v1,fun e he=>by rw [Ea (List.all_eq_true.1 aw.2 e he)];rfl⟩;rw [sV]
          have nT:∀j v,vs[j]? =some v→w.cell? ((p.at a.idx f).add j)=some v:=by intro j v bh;rw [Place.rl];have:=v2 j v bh;rw [←this];unfold Place.at;congr 2;omega
          exact⟨au,fun _=>rfl,run_firstCells_some w 1 len _ len di vs ab nT,run_firstCells_some w.drew 1 len _ len di vs ab (by simpa using nT),ab,v3⟩
         ·cases fo
       ·cases he
      ·cases he
     ·cases he
    ·cases he
 ·rename_i s;split at he
  ·rename_i ac;subst ac;simp at he;subst he;simp only [aL]at aj;obtain⟨bG,rfl,rfl⟩:=aj;have hlen:(bG.data.toList.map fun b=>aa.int .u8 b.toNat).length=bG.size:=by rw [List.length_map,Array.length_toList];rfl
   refine⟨byteCells bG,?_,?_,?_⟩
   ·rw [hlen]
    exact⟨au,fun _=>rfl,firstCells_string bG w,firstCells_string bG w.drew,by rw [byteCells_length,Nat.mul_one],fun u hu=>by
     obtain⟨_,_,rfl⟩:=List.mem_map.1 hu
     rfl⟩
   ·have:flat (bG.data.toList.map fun b=>aa.int .u8 b.toNat)=bG.data.toList.map fun b=>aa.int .u8 b.toNat:=by
     generalize bG.data.toList=l;induction l with
     |nil=>rfl
     |cons a r ih=>simp only [List.map_cons,flat,List.flatMap_cons,aa.cells]at ih⊢; rw [ih];rfl
    rw [this];exact bz.map _ _ _ fun b _=>by simp only [aL]
   ·intro e he;obtain⟨b,_,rfl⟩:=List.mem_map.1 he;rfl
  ·cases he
 ·cases he
theorem KW(n:Nat):∀(r c:Nat),c≤n+n/4+512→Builtin.growBy n r c≤n+n/4+512
 |0,c,h=>h
 |r+1,c,h=>by
  simp only [Builtin.growBy];split
  ·exact h
  ·exact KW n r _ ab
theorem nextslicecap_le{ju cap:Nat}(h:cap<ju):Builtin.nextslicecap ju cap≤ju+ju/4+512:=by
 unfold Builtin.nextslicecap;split
 ·omega
 ·split
  ·omega
  ·exact KW _ _ _ ab
theorem Tn(zs:Array Value)(n:Nat):(Builtin.zeroCells zs n).size=n*zs.size:=by simp [Builtin.zeroCells]
theorem Alike.wT(w:World):Alike w w.drew:=Alike.drew w _
theorem Em{vs:List Value}{zs:Array Value}{n c es:Nat}(aC:vs.length=n*es)(eK:zs.size=es)(aR:n≤c) :
 (vs.toArray++Builtin.zeroCells zs (c-n)).size=c*es∧(vs.toArray++Builtin.zeroCells zs (c-n)).toList.take (n*es)=vs:=by
 constructor
 ·simp only [Array.size_append,List.size_toArray,Tn,aC,eK];rw [←Nat.add_mul];congr 1;omega
 ·simp only [Array.toList_append];rw [List.take_left' (by simpa using aC)]
theorem KX(l m:List aa):flat (l++m)=flat l++flat m:=by simp [flat]
theorem To{D:dH}(bZ:D.dt P){be:Nat→Prop}{h ag:J}{bo w:World}(r:cS φ be h w)(dq:Safe be bo w)(db:fu be bo.heap.size){nid:Nat}(hid:∀v,φ nid v=none)(aR:nid<h.U)
 {t tx:TypeId} (ty:TypeId) {s x v:aa} {bG bT:Value} (hs:aL φ s bG) (aj:aL φ x bT)
 (au:(∃dS,P.underlying tx=some (.slice dS))∨P.underlying tx=some .string) (ao:hB D t s x nid h=some (v,ag)) :
 p4 P φ be bo h nid v ag (Builtin.append_ #[t,tx] ty #[bG,bT]) w:=by
 unfold hB at ao;split at ao
 ·rename_i d base len cap aE;obtain⟨jd,u,h4,hu,En,_, -, -⟩:=bZ.get aE;split at ao
  ·rename_i e eg;rw [En]at eg;have:=lx eg;subst this;split at ao
   ·rename_i cJ fN;obtain⟨dY,oZ,fV, -, -,e9,Ek,wP⟩:=bZ.get fN;split at ao
    ·rename_i new fS;simp only at ao;split at ao
     ·rename_i aw;obtain⟨mb,kX,sU,rm⟩:=aw;obtain⟨news,src,nY,fO⟩:=As (P:=P) (tx:=tx) r aj fS mb au;rw [e9]at src;have iG:fu be w.heap.size:=db.le dq.size
      have Tp:∃fI,dY.zero=some fI∧fI.cells.size=dY.size:=by
       unfold q6.ul at rm;cases wU:cJ.zero with
       |none=>simp [wU]at rm
       |some z =>
        rw [wU]at rm;obtain⟨fI,mg,nW⟩:=uB (P:=P) (φ:=φ) (t:=e) bZ wP wU;obtain⟨f1,f2,f3⟩:=sS rm;have:=(nW.cells f2).length;rw [Array.length_toList]at this;exact⟨fI,mg,ab⟩
      obtain⟨fI,mg,Eo⟩:=Tp;have ahi:(2:Nat)^62=4611686018427387904:= aS;have ahj:(2:Nat)^48=281474976710656:= aS
      have grow:∀(At:Option Addr)(di:Nat)(olds:List Value),(Builtin.firstCells dY.size len (.slice At len di)).run P w.drew=.ok olds.toArray w.drew→di<len+new.length →
       (Builtin.append_ #[t,tx] ty #[.slice At len di,bT]).run P w =
        .ok (.slice (some ⟨w.heap.size,0,none⟩) (len+new.length) (grownCap w (len+new.length) di e))
         (w.drew.alloc (.cells ((olds++news).toArray++Builtin.zeroCells fI.cells (grownCap w (len+new.length) di e- (len+new.length))) e)):=by
       intro At di olds aF cG;refine run_append_grow_src w t tx ty e dY fI hu fV mg At len di olds aF bT new.length news src cG ab ?_;have ac:=nextslicecap_le cG;have ai:=Nat.mul_le_mul_right dY.bytes ac;rw [Ek]at kX;omega
      have Ep:Safe be bo w.drew:=dq.drew;split at ao
      ·
        simp only [aL]at hs;obtain⟨rfl,rfl,rfl⟩:=hs;split at ao
        ·rename_i bf;simp only [Option.some.injEq,Prod.mk.injEq]at ao;obtain⟨rfl,rfl⟩:=ao;have mW:new=[]:=List.length_eq_zero_iff.1 ab;subst mW;have wu:news=[]:=by have:=nY.length;simp [flat]at this;exact this
         subst wu;refine⟨.slice none 0 0,w,φ,?_,hl.refl _ _ _,by simp [aL],r,dq,rfl⟩;exact run_append_nothing w t tx ty e dY hu fV none 0 0 (Nat.le_refl _) bT src
        ·rename_i bf;split at ao
         ·simp only [Option.some.injEq,Prod.mk.injEq]at ao;obtain⟨rfl,rfl⟩:=ao;have ak:=grow none 0 [] (run_firstCells_none _ _ _ _ _) ab;have gi:=grownCap_ge w (0+new.length) 0 e;have lu:news.length=new.length*dY.size:=by rw [src.newsLen]
          obtain⟨g1,g2⟩:=Em (vs:=news) (zs:=fI.cells) (n:=0+new.length) (c:=grownCap w (0+new.length) 0 e) (es:=dY.size) (by rw [lu,Nat.zero_add]) Eo gi
          refine⟨_,_,φ.add nid 0 ⟨w.heap.size,0,0,cJ.size,grownCap w (0+new.length) 0 e,false,false⟩,ak,hl.add φ _ (hid 0) _,
           aL.kb (ex:=false) (Nat.le_refl _) gi (Nat.le_refl _) aM,?_,Ep.alloc (by simpa using iG) _,rfl⟩
          refine(r.alike (Alike.wT w)).an hid aR (by simpa using iG) mb fO ?_ ?_ ab ?_ (fun q h=>by cases h;exact⟨rfl,fun h=>absurd rfl h⟩)
          ·simp only [List.nil_append];rw [show new.length*cJ.size=(0+new.length)*dY.size by rw [e9,Nat.zero_add],g2];exact nY
          ·simp only [List.nil_append];rw [g1,e9];exact Nat.le_refl _
          ·simp only [List.nil_append];rw [show new.length*cJ.size=(0+new.length)*dY.size by rw [e9,Nat.zero_add],g2];exact src.one
         ·cases ao
      ·rename_i a;split at ao
       ·rename_i Tq;obtain⟨p2,aZ⟩:=Tq;split at ao
        ·rename_i b ax;simp only [aL]at hs;obtain⟨fJ,di,rfl,et,l2,iF⟩:=hs;obtain⟨p,ah,jQ,kc,hex⟩:=iF.plain aZ;obtain⟨g1,jc,g2,g3,g4,g5,g6,g7,g8⟩:=r.dD _ _ _ ah;rw [ax]at g2;simp at g2;subst g2;have mh:p.es=dY.size:= ab;split at ao
         ·rename_i oW;split at ao
          ·rename_i bf;subst bf;simp only [Option.some.injEq,Prod.mk.injEq]at ao;obtain⟨rfl,rfl⟩:=ao;have wu:news=[]:=by have:=nY.length;simp [flat]at this;exact this
           subst wu;refine⟨.slice (some fJ) len di,w,φ,?_,hl.refl _ _ _,?_,r,dq,rfl⟩
           ·exact run_append_nothing w t tx ty e dY hu fV (some fJ) len di ab bT src
           ·simp only [aL,List.length_nil,Nat.add_zero];exact⟨fJ,di,rfl,et,l2,.inl ⟨aZ,p,ah,jQ,kc,hex⟩⟩
          ·rename_i bX;split at ao
           ·rename_i dE;obtain⟨eu,o0,ls⟩:=dE;simp only [Option.some.injEq,Prod.mk.injEq]at ao;obtain⟨rfl,rfl⟩:=ao;have Er:0<new.length:=List.length_pos_iff.2 bX;rcases kc with eK|⟨eI,rfl,oV⟩
            ·omega
            ·rw [o0]at ah;obtain⟨aK,aP⟩:=r.Ss ah ax eu (idx:=a.idx+len) (l:=new) ab ab bX (by rw [mh,←e9];exact fO) nY src.one
             have iH:p.off+(a.idx+len-p.bb)*p.es=p.off+(a.idx-p.bb)*p.es+0+len*dY.size:=by have:a.idx+len-p.bb=(a.idx-p.bb)+len:= ab;rw [this,Nat.add_mul,←mh];omega
             rw [iH]at aK aP;have kw:=run_append_room_src (P:=P) w t tx ty e dY hu fV p.cd (p.off+(a.idx-p.bb)*p.es+0) len di bT new.length news src ab (fun j a1=>(aP j a1).1) (fun j a1=>(aP j a1).2);refine⟨_,_,φ,kw,hl.refl _ _ _,?_,aK,?_,rfl⟩
             ·simp only [aL];exact⟨_,di,rfl,oW,l2,.inl ⟨aZ,p,by rw [o0];exact ah,jQ,.inr ⟨eI,rfl,oV⟩,hex⟩⟩
             ·exact wG _ (g8.base (g6 eu)) _ _ dq
           ·cases ao
         ·rename_i oW;split at ao
          ·rename_i Es;split at ao
           ·rename_i old aF;simp only [Option.some.injEq,Prod.mk.injEq]at ao;obtain⟨rfl,rfl⟩:=ao;have rn:di=cap:=hex (by rw [g5,Es])
            have ev:aL φ (.slice (some a) len cap) (.slice (some fJ) len di):=by simp only [aL];exact⟨fJ,di,rfl,et,l2,.inl ⟨aZ,p,ah,jQ,kc,hex⟩⟩
            obtain⟨olds,nZ,Au,Av⟩:=As (P:=P) (tx:=t) r ev aF mb (.inl ⟨e,hu⟩)
            have sX:old.length=len:=by have bi:=nZ.len w;simp [Builtin.lenOf]at bi;exact bi.symm
            rw [sX,e9]at nZ;have ak:=grow (some fJ) di olds nZ.cellsD ab;have gi:=grownCap_ge w (len+new.length) di e;have lu:(olds++news).length=(len+new.length)*dY.size:=by rw [List.length_append,src.newsLen,nZ.newsLen,Nat.add_mul]
            obtain⟨dh,du⟩:=Em (vs:=olds++news) (zs:=fI.cells) (n:=len+new.length) (c:=grownCap w (len+new.length) di e) (es:=dY.size) lu Eo gi;have sV:(old++new).length*cJ.size=(len+new.length)*dY.size:=by rw [List.length_append,sX,e9]
            refine⟨_,_,φ.add nid 0 ⟨w.heap.size,0,0,cJ.size,grownCap w (len+new.length) di e,false,false⟩,ak,hl.add φ _ (hid 0) _,
             aL.kb (ex:=false) (Nat.le_refl _) gi (Nat.le_refl _) aM,?_,Ep.alloc (by simpa using iG) _,rfl⟩
            refine(r.alike (Alike.wT w)).an hid aR (by simpa using iG) mb (fun e he=> ?_) ?_ ?_ (by rw [List.length_append,sX];exact gi) ?_ (fun q h=>by cases h;exact⟨rfl,fun h=>absurd rfl h⟩)
            ·rcases List.mem_append.1 he with he|he
             ·exact Av e he
             ·exact fO e he
            ·rw [sV,du,KX];exact Au.append nY
            ·rw [dh,e9];exact Nat.le_refl _
            ·rw [sV,du];intro y bV;rcases List.mem_append.1 bV with bV|bV
             ·exact nZ.one y bV
             ·exact src.one y bV
           ·cases ao
          ·rename_i Es;split at ao
           ·rename_i dE;obtain⟨eu,o0,wV,uE,kT⟩:=dE;simp only [Option.some.injEq,Prod.mk.injEq]at ao;obtain⟨rfl,rfl⟩:=ao;have KY:b.exact=false:=by simpa using Es
            rw [o0]at ah;by_cases Ac:len+new.length≤di
            ·
              rcases kc with eK|⟨eI,rfl,oV⟩
              ·exfalso;have mW:new.length=0:= ab;omega
              ·obtain⟨aK,aP⟩:=r.Su ah ax eu (new:=new) ab ab (by rw [mh,←e9];exact fO) nY src.one
               have iH:p.off+(b.bk.length-p.bb)*p.es=p.off+(a.idx-p.bb)*p.es+0+len*dY.size:=by have:b.bk.length-p.bb=(a.idx-p.bb)+len:= ab;rw [this,Nat.add_mul,←mh];omega
               rw [iH]at aK aP;have kw:=run_append_room_src (P:=P) w t tx ty e dY hu fV p.cd (p.off+(a.idx-p.bb)*p.es+0) len di bT new.length news src Ac (fun j a1=>(aP j a1).1) (fun j a1=>(aP j a1).2)
               have im:φ a.id (b.ad+1)=none:=by
                cases aB:φ a.id (b.ad+1)with
                |none=>rfl
                |some q=>obtain⟨_,jc,ai,a8,_⟩:=r.dD _ _ _ aB;rw [ax]at ai;simp at ai;subst ai;omega
               refine⟨_,_,φ.add a.id (b.ad+1) p,kw,⟨φ.rc p im,fun i aq bX mi u=> ?_,φ.DQ p (g6 eu)⟩,?_,aK,?_,rfl⟩
               ·have:i≠a.id:=by rintro rfl;rw [mi]at ah;cases ah
                simp [Map.add,this,mi u]
               ·simp only [aL];refine⟨_,di,rfl,Nat.le_refl _,Ac,.inl ⟨aZ,p,by rw [o0];exact Map.z8 _ _ _ _,jQ,.inr ⟨eI,rfl,oV⟩,fun h=> ?_⟩⟩;rw [g5,KY]at h;cases h
               ·exact wG _ (g8.base (g6 eu)) _ _ dq
            ·
              have ev:aL φ (.slice (some a) len cap) (.slice (some fJ) len di):=by simp only [aL];exact⟨fJ,di,rfl,et,l2,.inl ⟨aZ,p,by rw [o0];exact ah,jQ,kc,hex⟩⟩
              have aF:fU cJ.size (.slice (some a) len cap) h=some ((b.bk.drop a.idx).take len):=by
               simp only [fU,aZ,p2,if_true,ax];split
               ·rename_i bf;simp [bf]
               ·rw [if_pos];rw [o0];simp [af.cC];omega
              obtain⟨olds,nZ,Au,Av⟩:=As (P:=P) (tx:=t) r ev aF mb (.inl ⟨e,hu⟩);have Tr:(b.bk.drop a.idx).take len=b.bk.drop a.idx:=List.take_of_length_le (by simp;omega);rw [Tr]at Au Av nZ;have sX:(b.bk.drop a.idx).length=len:=by simp;omega
              rw [sX,e9]at nZ;have ak:=grow (some fJ) di olds nZ.cellsD ab;have gi:=grownCap_ge w (len+new.length) di e;have lu:(olds++news).length=(len+new.length)*dY.size:=by rw [List.length_append,src.newsLen,nZ.newsLen,Nat.add_mul]
              obtain⟨dh,du⟩:=Em (vs:=olds++news) (zs:=fI.cells) (n:=len+new.length) (c:=grownCap w (len+new.length) di e) (es:=dY.size) lu Eo gi;have KZ:b.es=dY.size:= ab;have sV:(b.bk.drop a.idx++new).length*b.es=(len+new.length)*dY.size:=by rw [List.length_append,sX,KZ]
              have im:φ a.id (b.ad+1)=none:=by
               cases aB:φ a.id (b.ad+1)with
               |none=>rfl
               |some q=>obtain⟨_,jc,ai,a8,_⟩:=r.dD _ _ _ aB;rw [ax]at ai;simp at ai;subst ai;omega
              refine⟨_,_,φ.add a.id (b.ad+1) ⟨w.heap.size,0,a.idx,b.es,grownCap w (len+new.length) di e,false,false⟩,ak,⟨φ.rc _ im,fun i aq bX mi u=> ?_,φ.DQ _ rfl⟩,?_,?_,Ep.alloc (by simpa using iG) _,rfl⟩
              ·have:i≠a.id:=by rintro rfl;rw [mi]at ah;cases ah
               simp [Map.add,this,mi u]
              ·simp only [aL];refine⟨_,_,rfl,Nat.le_refl _,gi,.inl ⟨aZ,_,by rw [o0];exact Map.z8 _ _ _ _,by rw [←g4,jQ],.inr ⟨Nat.le_refl _,by simp [Place.at],aM⟩,aM⟩⟩
              ·refine(r.alike (Alike.wT w)).St ah ax eu KY (by simpa using iG) ab (fun e he=>by rw [Av e he];omega) (fun e he=>by rw [fO e he];omega) ?_ (by rw [dh,KZ];exact Nat.le_refl _) (by rw [List.length_append,sX];exact gi) ?_ (fun q h=>by rcases kT with kT|kT<;>rw [kT]at h<;>cases h;exact⟨rfl,fun h=>absurd rfl h⟩)
               ·rw [sV,du,KX];exact Au.append nY
               ·rw [sV,du];intro y bV;rcases List.mem_append.1 bV with bV|bV
                ·exact nZ.one y bV
                ·exact src.one y bV
           ·cases ao
        ·cases ao
       ·cases ao
     ·cases ao
    ·cases ao
   ·cases ao
  ·cases ao
 ·cases ao
end
end
end Go.cf
namespace Go.cf
noncomputable section
open Go.RowKit
section
variable {P:Program}{φ:Map}
theorem K0:∀{l:List aa}{s:List UInt8}{news:List Value},bytesOf l=some s→bz φ (flat l) news→ ∃bH:List Int,news=bH.map (Value.int .u8)∧s=bH.map (fun n=>UInt8.ofNat n.toNat)
 |[],s,news,h,k=>by simp only [bytesOf,Option.some.injEq]at h;subst h;simp only [flat,List.flatMap_nil,bz]at k;subst k;exact⟨[],rfl,rfl⟩
 |a ::r,s,news,h,k=>by
  unfold bytesOf at h;split at h
  ·rename_i bf;cases bf
  ·rename_i n fH e;simp only [List.cons.injEq]at e;obtain⟨rfl,rfl⟩:=e;cases ax:bytesOf r with
   |none=>rw [ax]at h;cases h
   |some q =>
    rw [ax]at h;simp only [Option.map_some,Option.some.injEq]at h;subst h;simp only [flat,List.flatMap_cons,aa.cells,List.cons_append,List.nil_append,bz]at k;obtain⟨v,t,rfl,aK,aP⟩:=k;simp only [aL]at aK;subst aK;obtain⟨bH,bi,bu⟩:=K0 ax aP;exact⟨n::bH,by rw [bi];rfl,by rw [bu];rfl⟩
  ·cases h
theorem K1:∀{l:List aa}{s:List UInt8}{news:List Value},bytesOf l=some s→sH l=true→bz φ (flat l) news→news=s.map fun x=>Value.int .u8 x.toNat
 |[],s,news,h,ax,k=>by simp only [bytesOf,Option.some.injEq]at h;subst h;simp only [flat,List.flatMap_nil,bz]at k;subst k;rfl
 |a ::r,s,news,h,ax,k=>by
  unfold bytesOf at h;split at h
  ·rename_i bf;cases bf
  ·rename_i n fH e;simp only [List.cons.injEq]at e;obtain⟨rfl,rfl⟩:=e;cases aB:bytesOf r with
   |none=>rw [aB]at h;cases h
   |some q =>
    rw [aB]at h;simp only [Option.map_some,Option.some.injEq]at h;subst h;simp only [sH,Bool.and_eq_true,decide_eq_true_eq]at ax;simp only [flat,List.flatMap_cons,aa.cells,List.cons_append,List.nil_append,bz]at k;obtain⟨v,t,rfl,aK,aP⟩:=k;simp only [aL]at aK;subst aK;rw [K1 aB ax.2 aP,List.map_cons]
    have:((UInt8.ofNat n.toNat).toNat:Int)=n:=by rw [UInt8.toNat_ofNat',Nat.mod_eq_of_lt ab];omega
    rw [this]
  ·cases h
theorem Aw(w:World)(a:Addr){n:Nat}(aR:n≠0)(k:Nat):(w.freeze a n).heap[k]? =if a.block=k then(w.heap[k]?).map fun o=>match o with
 |.cells c elem (bb,aq)=> .cells c elem (if bb == aq then(a.off,a.off+n)else(min bb a.off,max aq (a.off+n)))
 |o=>o else w.heap[k]? :=by
 unfold World.freeze;rw [if_neg aR];simp only [Array.getElem?_modify];rfl
theorem Ax(w:World)(a x:Addr){n:Nat}(aR:n≠0):(w.freeze a n).cell? x=w.cell? x:=by
 unfold World.cell?;rw [Aw w a aR];by_cases h:a.block=x.block
 ·rw [if_pos h];cases bU:w.heap[x.block]? with
  |none=>rfl
  |some o =>
   cases o;case cells c t f=>obtain⟨bb,aq⟩:=f;rfl
   all_goals rfl
 ·rw [if_neg h]
theorem Ts{w:World}{a:Addr}{m:Nat}(hm:m≠0){k:Nat}{t:TypeId}{n bb aq:Nat}(h:fC w k=some (t,n,bb,aq)):∃bb aq,fC (w.freeze a m) k=some (t,n,bb,aq):=by
 unfold fC at h⊢;rw [Aw w a hm];by_cases e:a.block=k
 ·rw [if_pos e];cases bU:w.heap[k]? with
  |none=>rw [bU]at h;cases h
  |some o =>
   rw [bU]at h;cases o
   case cells c eQ f =>
    obtain⟨h5,gF⟩:=f;simp only [Option.some.injEq,Prod.mk.injEq]at h;obtain⟨rfl,rfl,rfl,rfl⟩:=h;simp only [Option.map_some];by_cases aC:h5=gF
    ·exact⟨a.off,a.off+m,by simp [aC]⟩
    ·exact⟨min h5 a.off,max gF (a.off+m),by simp [aC]⟩
   all_goals cases h
 ·rw [if_neg e];exact⟨bb,aq,h⟩
theorem Et(w:World)(a:Addr)(n:Nat):(w.freeze a n).heap.size=w.heap.size:=by unfold World.freeze;split<;>simp
theorem cS.Tt{be:Nat→Prop}{h:J}{w:World}(r:cS φ be h w){id v:Nat}{p:Place}{b:af}(ah:φ id v=some p)(ax:h.get id=some b)(eu:b.ro=false){a:Addr}(aT:a.block=p.cd){n:Nat}(aR:n≠0) :
 cS φ be (h.set id {b with ro:=true}) (w.freeze a n) where
 dD i u q aB:=by
  obtain⟨ac,c,ai,a8,bQ,bF,dv,cE,cj⟩:=r.dD i u q aB;by_cases e:id=i
  ·subst e;rw [ax]at ai;simp at ai;subst ai;refine⟨ac,_,J.gE _ _ _,a8,bQ,bF,nofun,cE,⟨by rw [Et];exact cj.cd,cj.base,fun o ao=>by rw [Ax w a _ aR];exact cj.cells o ao,nofun,nofun,fun t9 fv=> ?_,fun i e g1 g2 g3=> ?_⟩⟩
   ·obtain⟨Eu,Tu,i9,Ev,wW,Ew⟩:=cj.jy t9 fv;obtain⟨o3,i8,wX⟩:=Ts (a:=a) aR Ev;exact⟨Eu,o3,i8,wX,wW,Ew⟩
   ·obtain⟨dh,du,fE⟩:=cj.cont i e g1 g2 g3
    exact⟨dh,du,fun j bT aj=>by
     obtain⟨x,o2,sW⟩:=fE j bT aj
     exact⟨x,by rw [Ax w a _ aR];exact o2,sW⟩⟩
  ·obtain⟨_,jc,g2,_,_,_,g6,_,_⟩:=r.dD id v p ah;rw [ax]at g2;simp at g2;subst g2
   have bX:p.cd≠q.cd:=fun k=>by have:=(r.apart id v p i u q ah aB k e).1;rw [g6 eu]at this;cases this
   have Ex:(w.freeze a n).heap[q.cd]? =w.heap[q.cd]? :=by rw [Aw w a aR,if_neg (by rw [aT];exact bX)]
   refine⟨ac,c,by rw [J.fg _ _ e];exact ai,a8,bQ,bF,dv,cE,⟨by rw [Et];exact cj.cd,cj.base,fun o ao=>by rw [Ax w a _ aR];exact cj.cells o ao,fun bc o ao=> ?_,fun bc=>(cj.mark bc).of_eq (sL Ex),fun t9 fv=>by rw [sL Ex];exact cj.jy t9 fv,fun i e g1 g2 g3=> ?_⟩⟩
   ·have:=cj.free bc o ao;unfold World.frozen? at this⊢;rw [Ex];exact this
   ·obtain⟨dh,du,fE⟩:=cj.cont i e g1 g2 g3
    exact⟨dh,du,fun j bT aj=>by
     obtain⟨x,o2,sW⟩:=fE j bT aj
     exact⟨x,by rw [Ax w a _ aR];exact o2,sW⟩⟩
 apart:=r.apart
 same:=r.same
theorem Safe.Tv{S:Nat→Prop}{a w:World}(h:Safe S a w){p:Addr}(ah:¬S p.block){n:Nat}(aR:n≠0):Safe S a (w.freeze p n) :=
 h.trans ⟨by unfold World.freeze;rw [if_neg aR],by unfold World.freeze;rw [if_neg aR],by unfold World.freeze;rw [if_neg aR],by rw [Et];exact Nat.le_refl _,fun k au=>by
  have bX:¬p.block=k:=fun e=>ah (by rw [e];exact au)
  rw [Aw w p aR,if_neg bX]⟩
theorem Tw{w:World}{k:Nat}{t:TypeId}{n bb aq:Nat}(h:fC w k=some (t,n,bb,aq)):w.shape? k=some (t,n):=by
 unfold fC at h;unfold World.shape?;cases bU:w.heap[k]? with
 |none=>rw [bU]at h;cases h
 |some o =>
  rw [bU]at h;cases o
  case cells c eQ f =>
   obtain⟨h5,gF⟩:=f;simp only [Option.some.injEq,Prod.mk.injEq]at h;obtain⟨rfl,rfl,rfl,rfl⟩:=h;rfl
  all_goals cases h
theorem Tx{w:World}{k:Nat}{t:TypeId}{n bb aq o:Nat}(h:fC w k=some (t,n,bb,aq))(aw:(w.cell? ⟨k,o,none⟩).isSome=true):o<n:=by
 unfold fC at h;unfold World.cell? at aw;cases bU:w.heap[k]? with
 |none=>rw [bU]at h;cases h
 |some Ey =>
  simp only at aw;rw [bU]at h aw;cases Ey
  case cells c eQ f =>
   obtain⟨h5,gF⟩:=f;simp only [Option.some.injEq,Prod.mk.injEq]at h;obtain⟨rfl,rfl,rfl,rfl⟩:=h;simp only [Option.isSome_none,Bool.false_eq_true,if_false]at aw;rcases Nat.lt_or_ge o c.size with h|h
   ·exact h
   ·rw [Array.getElem?_eq_none h]at aw;cases aw
  all_goals cases h
theorem Ty{ts:Array TypeId}{ty:TypeId}{x v:aa}{bT:Value}(aj:aL φ x bT)(h:DL x=some v)(w:World) :
 ∃br,(Builtin.unsafeSliceData_ ts ty #[bT]).run P w=.ok br w∧aL φ v br:=by
 unfold DL at h;split at h
 ·simp only [Option.some.injEq]at h;subst h;simp only [aL]at aj;obtain⟨rfl,_,_⟩:=aj;exact⟨.pointer none,rfl,by simp only [aL]⟩
 ·rename_i a n c;split at h
  ·rename_i aw;simp only [Option.some.injEq]at h;subst h;simp only [aL]at aj;obtain⟨fJ,di,rfl,et,l2,iF⟩:=aj;obtain⟨p,ah,jQ,kc,hex⟩:=iF.plain aw.1;rcases kc with eK|⟨eI,rfl,oV⟩
   ·omega
   ·have rn:di≠0:= ab;refine⟨.pointer (some (p.at a.idx 0)),?_,?_⟩
    ·have sY:Builtin.unsafeSliceData_ ts ty #[.slice (some (p.at a.idx 0)) n di] =
      (do
       if di≠0 then pure (.pointer (some (p.at a.idx 0)))
       else if(←viewAt (p.at a.idx 0).block).isSome then pure (.pointer (some (p.at a.idx 0)))
       else pure (.pointer (some ⟨←newObj (.view (p.at a.idx 0) (←elemOf ty)),0,none⟩))):=rfl
     rw [sY,if_pos rn];rfl
    ·simp only [aL];exact⟨_,rfl,p,ah,jQ,eI,by rw [aw.1]⟩
  ·cases h
 ·cases h
theorem Tz{D:dH}(bZ:D.dt P){be:Nat→Prop}{h ag:J}{bo w:World}(r:cS φ be h w)(dq:Safe be bo w){ts:Array TypeId}{t ty:TypeId}(bW:ts[0]? =some t){p:Option bA}{n:Int}{bT:Value}(aj:aL φ (.ptr p) bT){v:aa}
 (ao:DJ D t p n h=some (v,ag)) :
 ∃br bq,(Builtin.unsafeString_ ts ty #[bT,.int .i64 n]).run P w=.ok br bq∧aL φ v br∧cS φ be ag bq∧Safe be bo bq∧ag.U=h.U:=by
 have sY:∀(ts:Array TypeId) q,Builtin.unsafeString_ ts ty #[.pointer q,.int .i64 n]=(do
  let n ←asInt (.int .i64 n)
  let some DK:=ts[0]? | stuck "unsafe.String: no argument types"
  if n<0 then runtimePanic (.error "unsafe.String: len out of range")
  if n>IntKind.i64.max then unsupported (.unsafePointer "String: a length above the largest int")
  match q with
  |none =>
   if n=0 then pure (.string .empty)
   else runtimePanic (.error "unsafe.String: ptr is nil and len is not zero")
  |some a =>
   if n=0 then pure (.string .empty)
   else if ←variablesAt a (←elemOf DK) n.toNat then do
    let s ←loadBytes a .empty n.toNat
    freeze a n.toNat
    pure (.string s)
   else unsupported (.unsafePointer "String: not so many bytes at ptr")):=fun _ _=>rfl
 have K2:∀q,(Builtin.unsafeString_ ts ty #[.pointer q,.int .i64 n]).run P w=(Builtin.unsafeString_ #[t,t] ty #[.pointer q,.int .i64 n]).run P w:=fun q=>by
  have e:ts[0]? =(#[t,t]:Array TypeId)[0]? :=by rw [bW];rfl
  rw [sY,sY,e]
 unfold DJ at ao;split at ao
 ·rename_i bf;subst bf;simp only [Option.some.injEq,Prod.mk.injEq]at ao;obtain⟨rfl,rfl⟩:=ao
  obtain⟨q,rfl⟩:∃q,bT=.pointer q:=by
   cases p with
   |none=>simp only [aL]at aj;exact⟨_,aj⟩
   |some a=>simp only [aL]at aj;obtain⟨x,rfl,_⟩:=aj;exact⟨_,rfl⟩
  refine⟨_,w,by rw [K2];exact Go.Lib.run_unsafeString_none w _ _ _ q,?_,r,dq,rfl⟩;simp only [aL];exact⟨_,rfl,rfl⟩
 ·rename_i bf;split at ao
  ·rename_i d a aE;obtain⟨Ez,EA,EB,rp,rq, -⟩:=bZ.get aE;split at ao
   ·rename_i e b au ax;rw [rq]at au;have:=Ad au;subst this;split at ao
    ·rename_i gX pZ;obtain⟨Ah,rj,oX,p0,lz,ck, -⟩:=bZ.get pZ;split at ao
     ·rename_i aw;obtain⟨dI,c2,c3,c4,c5,kZ,p5,o4,c9,K3,K4⟩:=aw;cases EC:bytesOf (b.bk.take n.toNat)with
      |none=>rw [EC]at ao;cases ao
      |some s =>
       rw [EC]at ao;simp only [Option.map_some,Option.some.injEq,Prod.mk.injEq]at ao;obtain⟨rfl,rfl⟩:=ao;simp only [aL]at aj;obtain⟨x,rfl,pl,ah,mh,eI,rfl⟩:=aj;obtain⟨g1,jc,g2,g3,g4,g5,g6,g7,g8⟩:=r.dD _ _ _ ah;rw [ax]at g2;simp at g2;subst g2;obtain⟨m,bb,aq,aK,aP,bt⟩:=g8.jy _ p5;obtain⟨news,a6,n2,eY,hN,ha⟩:=r.El ah ax (idx:=0) (len:=n.toNat) ab ab ab;rw [List.drop_zero]at a6;have K5:=K1 EC K4 a6;have TA:pl.es=1:= ab
       have Ay:s.length=n.toNat:=by have:=ha;rw [K5,List.length_map,TA,Nat.mul_one]at this;exact this
       have TB:pl.at a.idx a.fld=⟨pl.cd,0,none⟩:=by simp [Place.at,c3,c4,bt]
       have nT:∀j x,s[j]? =some x→w.cell? ((⟨pl.cd,0,none⟩:Addr).add j)=some (.int .u8 x.toNat):=by intro j x a1;have aR:=n2 j (.int .u8 x.toNat) (by rw [K5,List.getElem?_map,a1];rfl);rw [Addr.add_mid,Nat.zero_add];simpa [bt]using aR
       have ED:s≠[]:=by rintro rfl;simp at Ay;omega
       have hle:s.length≤m:=by
        have cG:s.length-1<s.length:=by have:=List.length_pos_iff.2 ED;omega
        have K6:=nT (s.length-1) _ (List.getElem?_eq_getElem cG);rw [Addr.add_mid,Nat.zero_add]at K6;have:=Tx aK (o:=s.length-1) (by rw [K6];rfl);omega
       have ux:P.cellsOf e=1:=by unfold Program.cellsOf;rw [oX];simp;omega
       have kw:=Go.Lib.run_unsafeString_row (P:=P) w t t ty e rp ux pl.cd m (Tw aK) s ED hle ab nT;have mi:(n:Int)=s.length:=by rw [Ay];omega
       have p6:s.length≠0:=by simp only [ne_eq,List.length_eq_zero_iff];exact ED
       have dh:cS φ be (h.set a.id {b with ro:=true}) (w.freeze ⟨pl.cd,0,none⟩ s.length):=r.Tt (a:=⟨pl.cd,0,none⟩) ah ax kZ rfl p6;have du:Safe be bo (w.freeze ⟨pl.cd,0,none⟩ s.length):=Safe.Tv dq (p:=⟨pl.cd,0,none⟩) (g8.base (g6 kZ)) p6;refine⟨.string ⟨s.toArray⟩,w.freeze ⟨pl.cd,0,none⟩ s.length,?_,?_,dh,du,rfl⟩
       ·rw [K2,TB,mi];exact kw
       ·simp only [aL];exact⟨_,rfl,aM⟩
     ·cases ao
    ·cases ao
   ·cases ao
  ·cases ao
end
end
end Go.cf
