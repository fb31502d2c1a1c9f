/-
  Parts of the proof, one behind the other:
  A MAP FROM NUMBERS as a tree: key 0 at the root, 2 m + 1 in the left branch at m, 2 m + 2 in the right one at m. By recursors, so that the kernel runs it fast.
  THE LIFT, PART A: an abstract machine for the code of a translated program: values without addresses of their own, a heap of numbered rows, no draws. Definitions alone.
  THE LIFT, PART B: how the abstract machine's values and rows stand to the model's values and memory.
  THE LIFT, PART C: writing into a row.
  THE LIFT, PART D: the plain operations: what the abstract machine computes the model computes.
  THE LIFT, PART E: reading memory; parts of values; addresses.
  THE LIFT, PART F: slices; loads and stores; new rows.
  THE LIFT, PART G: stores; new variables; composite values.
  THE LIFT, PART H: slices that are made; append; copy; len.
  THE LIFT, PART I: append and copy.
  THE LIFT, BETWEEN I AND J: unsafe.String and unsafe.SliceData over rows of bytes; a row that must not be written any more.
-/
import Derived.Calls
import Derived.Orders
import Derived.Lib.Bytealg
import Derived.Below
import Derived.Deep.MidRow
import Derived.WalkKit
import Derived.ChangeKeysEq
import Derived.WalkLawsBesides
import Derived.Deep.AppendSrc
import Derived.Deep.Upon
import Derived.Lib.UnsafeStr
set_option linter.unusedVariables false
set_option linter.unusedSimpArgs false
set_option linter.unusedSectionVars false
namespace Go.Lift
inductive Trie(α:Type) where
  | nil
  | node (v:Option α) (l r:Trie α)
section
variable {α:Type}
noncomputable def Trie.get(t:Trie α):Nat→Option α :=
  Trie.rec (motive:=fun _=>Nat→Option α) (fun _=>none)
    (fun v _ _ gl gr k=>cond (Nat.beq k 0) v (cond (Nat.beq (k % 2) 1) (gl (k / 2)) (gr (k / 2-1)))) t
noncomputable def Trie.sing(f:Nat):Nat→α→Trie α :=
  Nat.rec (motive:=fun _=>Nat→α→Trie α) (fun _ v=> .node (some v) .nil .nil)
    (fun _ ih k v=>cond (Nat.beq k 0) (.node (some v) .nil .nil) (cond (Nat.beq (k % 2) 1) (.node none (ih (k / 2) v) .nil) (.node none .nil (ih (k / 2-1) v)))) f
noncomputable def Trie.set(t:Trie α):Nat→α→Trie α :=
  Trie.rec (motive:=fun _=>Nat→α→Trie α) (fun k v=>Trie.sing k k v)
    (fun o l r sl sr k v=>cond (Nat.beq k 0) (.node (some v) l r) (cond (Nat.beq (k % 2) 1) (.node o (sl (k / 2) v) r) (.node o l (sr (k / 2-1) v)))) t
theorem beq_true {a b:Nat}(h:a=b):Nat.beq a b=true:=by subst h;exact Nat.beq_refl a
theorem beq_false {a b:Nat}(h:a≠b):Nat.beq a b=false:=by
  cases hb:Nat.beq a b with
  | false=>rfl
  | true=>exact absurd (Nat.eq_of_beq_eq_true hb) h
theorem Trie.get_nil(k:Nat):(Trie.nil:Trie α).get k=none:=rfl
theorem Trie.get_zero(v:Option α)(l r:Trie α):(Trie.node v l r).get 0=v:=rfl
theorem Trie.get_odd(v:Option α)(l r:Trie α)(m:Nat):(Trie.node v l r).get (2*m+1)=l.get m:=by
  show cond (Nat.beq (2*m+1) 0) v (cond (Nat.beq ((2*m+1) % 2) 1) (l.get ((2*m+1) / 2)) (r.get ((2*m+1) / 2-1)))=_
  rw [beq_false (by omega),beq_true (by omega),show(2*m+1) / 2=m by omega];rfl
theorem Trie.get_even(v:Option α)(l r:Trie α)(m:Nat):(Trie.node v l r).get (2*m+2)=r.get m:=by
  show cond (Nat.beq (2*m+2) 0) v (cond (Nat.beq ((2*m+2) % 2) 1) (l.get ((2*m+2) / 2)) (r.get ((2*m+2) / 2-1)))=_
  rw [beq_false (by omega),beq_false (by omega),show(2*m+2) / 2-1=m by omega];rfl
theorem Trie.sing_zero(f:Nat)(v:α):Trie.sing f 0 v= .node (some v) .nil .nil:=by cases f<;>rfl
theorem Trie.sing_odd(f m:Nat)(v:α):Trie.sing (f+1) (2*m+1) v= .node none (Trie.sing f m v) .nil:=by
  show cond (Nat.beq (2*m+1) 0) (Trie.node (some v) .nil .nil) (cond (Nat.beq ((2*m+1) % 2) 1) (Trie.node none (Trie.sing f ((2*m+1) / 2) v) .nil) (Trie.node none .nil (Trie.sing f ((2*m+1) / 2-1) v)))=_
  rw [beq_false (by omega),beq_true (by omega),show(2*m+1) / 2=m by omega];rfl
theorem Trie.sing_even(f m:Nat)(v:α):Trie.sing (f+1) (2*m+2) v= .node none .nil (Trie.sing f m v):=by
  show cond (Nat.beq (2*m+2) 0) (Trie.node (some v) .nil .nil) (cond (Nat.beq ((2*m+2) % 2) 1) (Trie.node none (Trie.sing f ((2*m+2) / 2) v) .nil) (Trie.node none .nil (Trie.sing f ((2*m+2) / 2-1) v)))=_
  rw [beq_false (by omega),beq_false (by omega),show(2*m+2) / 2-1=m by omega];rfl
theorem Trie.set_nil(k:Nat)(v:α):(Trie.nil:Trie α).set k v=Trie.sing k k v:=rfl
theorem Trie.set_zero(o:Option α)(l r:Trie α)(v:α):(Trie.node o l r).set 0 v= .node (some v) l r:=rfl
theorem Trie.set_odd(o:Option α)(l r:Trie α)(m:Nat)(v:α):(Trie.node o l r).set (2*m+1) v= .node o (l.set m v) r:=by
  show cond (Nat.beq (2*m+1) 0) (Trie.node (some v) l r) (cond (Nat.beq ((2*m+1) % 2) 1) (Trie.node o (l.set ((2*m+1) / 2) v) r) (Trie.node o l (r.set ((2*m+1) / 2-1) v)))=_
  rw [beq_false (by omega),beq_true (by omega),show(2*m+1) / 2=m by omega];rfl
theorem Trie.set_even(o:Option α)(l r:Trie α)(m:Nat)(v:α):(Trie.node o l r).set (2*m+2) v= .node o l (r.set m v):=by
  show cond (Nat.beq (2*m+2) 0) (Trie.node (some v) l r) (cond (Nat.beq ((2*m+2) % 2) 1) (Trie.node o (l.set ((2*m+2) / 2) v) r) (Trie.node o l (r.set ((2*m+2) / 2-1) v)))=_
  rw [beq_false (by omega),beq_false (by omega),show(2*m+2) / 2-1=m by omega];rfl
theorem three(k:Nat):k=0∨(∃ m,k=2*m+1)∨ ∃ m,k=2*m+2:=by
  rcases Nat.eq_zero_or_pos k with h | h
  · exact .inl h
  · rcases Nat.mod_two_eq_zero_or_one k with h2 | h2
    · exact .inr (.inr ⟨k / 2-1,by omega⟩)
    · exact .inr (.inl ⟨k / 2,by omega⟩)
theorem Trie.sing_fuel(v:α): ∀ (k f g:Nat),k≤f→k≤g→Trie.sing f k v=Trie.sing g k v:=by
  intro k
  induction k using Nat.strongRecOn with
  | _ k ih =>
    intro f g hf hg
    rcases three k with rfl | ⟨m,rfl⟩ | ⟨m,rfl⟩
    · rw [Trie.sing_zero,Trie.sing_zero]
    · obtain⟨f,rfl⟩: ∃ f',f=f'+1:=⟨f-1,by omega⟩
      obtain⟨g,rfl⟩: ∃ g',g=g'+1:=⟨g-1,by omega⟩
      rw [Trie.sing_odd,Trie.sing_odd,ih m (by omega) f g (by omega) (by omega)]
    · obtain⟨f,rfl⟩: ∃ f',f=f'+1:=⟨f-1,by omega⟩
      obtain⟨g,rfl⟩: ∃ g',g=g'+1:=⟨g-1,by omega⟩
      rw [Trie.sing_even,Trie.sing_even,ih m (by omega) f g (by omega) (by omega)]
theorem Trie.get_sing (v:α): ∀ (k f j:Nat),k≤f→(Trie.sing f k v).get j=if k=j then some v else none:=by
  intro k
  induction k using Nat.strongRecOn with
  | _ k ih =>
    intro f j hf
    rcases three k with rfl | ⟨m,rfl⟩ | ⟨m,rfl⟩
    · rw [Trie.sing_zero]
      rcases three j with rfl | ⟨i,rfl⟩ | ⟨i,rfl⟩
      · rw [Trie.get_zero,if_pos rfl]
      · rw [Trie.get_odd,Trie.get_nil,if_neg (by omega)]
      · rw [Trie.get_even,Trie.get_nil,if_neg (by omega)]
    · obtain⟨f,rfl⟩: ∃ f',f=f'+1:=⟨f-1,by omega⟩
      rw [Trie.sing_odd]
      rcases three j with rfl | ⟨i,rfl⟩ | ⟨i,rfl⟩
      · rw [Trie.get_zero,if_neg (by omega)]
      · rw [Trie.get_odd,ih m (by omega) f i (by omega)]
        by_cases h:m=i
        · rw [if_pos h,if_pos (by omega)]
        · rw [if_neg h,if_neg (by omega)]
      · rw [Trie.get_even,Trie.get_nil,if_neg (by omega)]
    · obtain⟨f,rfl⟩: ∃ f',f=f'+1:=⟨f-1,by omega⟩
      rw [Trie.sing_even]
      rcases three j with rfl | ⟨i,rfl⟩ | ⟨i,rfl⟩
      · rw [Trie.get_zero,if_neg (by omega)]
      · rw [Trie.get_odd,Trie.get_nil,if_neg (by omega)]
      · rw [Trie.get_even,ih m (by omega) f i (by omega)]
        by_cases h:m=i
        · rw [if_pos h,if_pos (by omega)]
        · rw [if_neg h,if_neg (by omega)]
theorem Trie.get_set (v:α): ∀ (t:Trie α) (k j:Nat),(t.set k v).get j=if k=j then some v else t.get j
  | .nil,k,j=>by rw [Trie.set_nil,Trie.get_sing v k k j (Nat.le_refl _),Trie.get_nil]
  | .node o l r,k,j=>by
    rcases three k with rfl | ⟨m,rfl⟩ | ⟨m,rfl⟩
    · rw [Trie.set_zero]
      rcases three j with rfl | ⟨i,rfl⟩ | ⟨i,rfl⟩
      · rw [Trie.get_zero,if_pos rfl]
      · rw [Trie.get_odd,Trie.get_odd,if_neg (by omega)]
      · rw [Trie.get_even,Trie.get_even,if_neg (by omega)]
    · rw [Trie.set_odd]
      rcases three j with rfl | ⟨i,rfl⟩ | ⟨i,rfl⟩
      · rw [Trie.get_zero,Trie.get_zero,if_neg (by omega)]
      · rw [Trie.get_odd,Trie.get_odd,Trie.get_set v l m i]
        by_cases h:m=i
        · rw [if_pos h,if_pos (by omega)]
        · rw [if_neg h,if_neg (by omega)]
      · rw [Trie.get_even,Trie.get_even,if_neg (by omega)]
    · rw [Trie.set_even]
      rcases three j with rfl | ⟨i,rfl⟩ | ⟨i,rfl⟩
      · rw [Trie.get_zero,Trie.get_zero,if_neg (by omega)]
      · rw [Trie.get_odd,Trie.get_odd,if_neg (by omega)]
      · rw [Trie.get_even,Trie.get_even,Trie.get_set v r m i]
        by_cases h:m=i
        · rw [if_pos h,if_pos (by omega)]
        · rw [if_neg h,if_neg (by omega)]
theorem Trie.sing_comm(x y:α): ∀ (a b:Nat),a≠b→(Trie.sing a a x).set b y=(Trie.sing b b y).set a x:=by
  intro a
  induction a using Nat.strongRecOn with
  | _ a ih =>
    intro b hab
    have odd: ∀ (m:Nat) (v:α),Trie.sing (2*m+1) (2*m+1) v= .node none (Trie.sing m m v) .nil:=fun m v=>by
      rw [Trie.sing_odd,Trie.sing_fuel v m (2*m) m (by omega) (Nat.le_refl _)]
    have even: ∀ (m:Nat) (v:α),Trie.sing (2*m+2) (2*m+2) v= .node none .nil (Trie.sing m m v):=fun m v=>by
      rw [Trie.sing_even,Trie.sing_fuel v m (2*m+1) m (by omega) (Nat.le_refl _)]
    rcases three a with rfl | ⟨m,rfl⟩ | ⟨m,rfl⟩<;>rcases three b with rfl | ⟨i,rfl⟩ | ⟨i,rfl⟩
    · exact absurd rfl hab
    · rw [Trie.sing_zero,odd,Trie.set_odd,Trie.set_zero,Trie.set_nil]
    · rw [Trie.sing_zero,even,Trie.set_even,Trie.set_zero,Trie.set_nil]
    · rw [Trie.sing_zero,odd,Trie.set_odd,Trie.set_zero,Trie.set_nil]
    · rw [odd,odd,Trie.set_odd,Trie.set_odd,ih m (by omega) i (by omega)]
    · rw [odd,even,Trie.set_odd,Trie.set_even,Trie.set_nil,Trie.set_nil]
    · rw [Trie.sing_zero,even,Trie.set_even,Trie.set_zero,Trie.set_nil]
    · rw [odd,even,Trie.set_odd,Trie.set_even,Trie.set_nil,Trie.set_nil]
    · rw [even,even,Trie.set_even,Trie.set_even,ih m (by omega) i (by omega)]
theorem Trie.set_comm(x y:α): ∀ (t:Trie α) (a b:Nat),a≠b→(t.set a x).set b y=(t.set b y).set a x
  | .nil,a,b,h=>by rw [Trie.set_nil,Trie.set_nil,Trie.sing_comm x y a b h]
  | .node o l r,a,b,h=>by
    rcases three a with rfl | ⟨m,rfl⟩ | ⟨m,rfl⟩<;>rcases three b with rfl | ⟨i,rfl⟩ | ⟨i,rfl⟩
    · exact absurd rfl h
    · rw [Trie.set_zero,Trie.set_odd,Trie.set_odd,Trie.set_zero]
    · rw [Trie.set_zero,Trie.set_even,Trie.set_even,Trie.set_zero]
    · rw [Trie.set_zero,Trie.set_odd,Trie.set_odd,Trie.set_zero]
    · rw [Trie.set_odd,Trie.set_odd,Trie.set_odd,Trie.set_odd,Trie.set_comm x y l m i (by omega)]
    · rw [Trie.set_odd,Trie.set_even,Trie.set_even,Trie.set_odd]
    · rw [Trie.set_even,Trie.set_zero,Trie.set_zero,Trie.set_even]
    · rw [Trie.set_even,Trie.set_odd,Trie.set_odd,Trie.set_even]
    · rw [Trie.set_even,Trie.set_even,Trie.set_even,Trie.set_even,Trie.set_comm x y r m i (by omega)]
def optSame(f:α→α→Bool):Option α→Option α→Bool
  | none,none=>true
  | some a,some b=>f a b
  | _,_=>false
def Trie.emptyBelow(lim:Nat):Trie α→Nat→Nat→Bool
  | .nil,_,_=>true
  | .node v l r,p,s=>(!decide (p<lim) || v.isNone) && l.emptyBelow lim (p+s) (2*s) && r.emptyBelow lim (p+2*s) (2*s)
def Trie.sameBelow(f:α→α→Bool)(lim:Nat):Trie α→Trie α→Nat→Nat→Bool
  | .nil,u,p,s=>u.emptyBelow lim p s
  | .node v l r,.nil,p,s=>(Trie.node v l r).emptyBelow lim p s
  | .node v l r,.node v' l' r',p,s=>(!decide (p<lim) || optSame f v v') && Trie.sameBelow f lim l l' (p+s) (2*s) && Trie.sameBelow f lim r r' (p+2*s) (2*s)
theorem arith_odd(p s m:Nat):p+s* (2*m+1)=p+s+2*s*m:=by
  rw [Nat.mul_add,Nat.mul_one,← Nat.mul_assoc,Nat.mul_comm s 2];omega
theorem arith_even(p s m:Nat):p+s* (2*m+2)=p+2*s+2*s*m:=by
  rw [Nat.mul_add,← Nat.mul_assoc,Nat.mul_comm s 2];omega
theorem Trie.emptyBelow_spec(lim:Nat): ∀ (t:Trie α) (p s:Nat),t.emptyBelow lim p s=true→ ∀ k,p+s*k<lim→t.get k=none
  | .nil,p,s,_,k,_=>rfl
  | .node v l r,p,s,h,k,hk=>by
    simp only [Trie.emptyBelow,Bool.and_eq_true,Bool.or_eq_true,Bool.not_eq_true',decide_eq_false_iff_not]at h
    obtain⟨⟨h1,h2⟩,h3⟩:=h
    rcases three k with rfl | ⟨m,rfl⟩ | ⟨m,rfl⟩
    · rw [Trie.get_zero]
      rcases h1 with h1 | h1
      · simp at hk;omega
      · simpa using h1
    · rw [Trie.get_odd];rw [arith_odd]at hk;exact Trie.emptyBelow_spec lim l _ _ h2 m hk
    · rw [Trie.get_even];rw [arith_even]at hk;exact Trie.emptyBelow_spec lim r _ _ h3 m hk
theorem Trie.emptyBelow_of(lim:Nat): ∀ (t:Trie α) (p s:Nat),(∀ k,p+s*k<lim→t.get k=none)→t.emptyBelow lim p s=true
  | .nil,p,s,_=>rfl
  | .node v l r,p,s,h=>by
    simp only [Trie.emptyBelow,Bool.and_eq_true,Bool.or_eq_true,Bool.not_eq_true',decide_eq_false_iff_not]
    refine⟨⟨?_,?_⟩,?_⟩
    · by_cases hp:p<lim
      · right;have:=h 0 (by simpa using hp);rw [Trie.get_zero]at this;simp [this]
      · exact .inl hp
    · exact Trie.emptyBelow_of lim l _ _ fun m hm=>by have:=h (2*m+1) (by rw [arith_odd];exact hm);rwa [Trie.get_odd]at this
    · exact Trie.emptyBelow_of lim r _ _ fun m hm=>by have:=h (2*m+2) (by rw [arith_even];exact hm);rwa [Trie.get_even]at this
theorem Trie.sameBelow_spec {f:α→α→Bool}(hf: ∀ a b,f a b=true→a=b)(lim:Nat): ∀ (t u:Trie α) (p s:Nat),Trie.sameBelow f lim t u p s=true→ ∀ k,p+s*k<lim→t.get k=u.get k
  | .nil,u,p,s,h,k,hk=>by rw [Trie.get_nil,Trie.emptyBelow_spec lim u p s (by simpa [Trie.sameBelow]using h) k hk]
  | .node v l r,.nil,p,s,h,k,hk=>by rw [Trie.get_nil,Trie.emptyBelow_spec lim _ p s (by simpa [Trie.sameBelow]using h) k hk]
  | .node v l r,.node v' l' r',p,s,h,k,hk=>by
    simp only [Trie.sameBelow,Bool.and_eq_true,Bool.or_eq_true,Bool.not_eq_true',decide_eq_false_iff_not]at h
    obtain⟨⟨h1,h2⟩,h3⟩:=h
    rcases three k with rfl | ⟨m,rfl⟩ | ⟨m,rfl⟩
    · rw [Trie.get_zero,Trie.get_zero]
      rcases h1 with h1 | h1
      · simp at hk;omega
      · cases v<;>cases v'<;>simp [optSame]at h1<;>first | rfl | (rw [hf _ _ h1])
    · rw [Trie.get_odd,Trie.get_odd];rw [arith_odd]at hk;exact Trie.sameBelow_spec hf lim l l' _ _ h2 m hk
    · rw [Trie.get_even,Trie.get_even];rw [arith_even]at hk;exact Trie.sameBelow_spec hf lim r r' _ _ h3 m hk
theorem Trie.sameBelow_of {f:α→α→Bool} (hf: ∀ a,f a a=true) (lim:Nat): ∀ (t u:Trie α) (p s:Nat),(∀ k,p+s*k<lim→t.get k=u.get k)→Trie.sameBelow f lim t u p s=true
  | .nil,u,p,s,h=>by
    simp only [Trie.sameBelow];exact Trie.emptyBelow_of lim u p s fun k hk=>by rw [← h k hk,Trie.get_nil]
  | .node v l r,.nil,p,s,h=>by
    simp only [Trie.sameBelow];exact Trie.emptyBelow_of lim _ p s fun k hk=>by rw [h k hk,Trie.get_nil]
  | .node v l r,.node v' l' r',p,s,h=>by
    simp only [Trie.sameBelow,Bool.and_eq_true,Bool.or_eq_true,Bool.not_eq_true',decide_eq_false_iff_not]
    refine⟨⟨?_,?_⟩,?_⟩
    · by_cases hp:p<lim
      · right
        have:=h 0 (by simpa using hp)
        rw [Trie.get_zero,Trie.get_zero]at this;subst this
        cases v<;>simp [optSame,hf]
      · exact .inl hp
    · exact Trie.sameBelow_of hf lim l l' _ _ fun m hm=>by have:=h (2*m+1) (by rw [arith_odd];exact hm);rwa [Trie.get_odd,Trie.get_odd]at this
    · exact Trie.sameBelow_of hf lim r r' _ _ fun m hm=>by have:=h (2*m+2) (by rw [arith_even];exact hm);rwa [Trie.get_even,Trie.get_even]at this
end
end Go.Lift
namespace Go.Lift
noncomputable section
structure AAddr where
  id:Nat
  ver:Nat
  idx:Nat
  fld:Nat
  es:Nat
  deriving DecidableEq
inductive AVal where
  | undef
  | bool (b:Bool)
  | int (k:IntKind) (n:Int)
  | str (s:List UInt8)
  | ptr (a:Option AAddr)
  | slice (a:Option AAddr) (len cap:Nat)
  | func (fn:Fn) (first captured:List AVal)
  | nilFunc
  | iface (t:TypeId) (v:AVal)
  | nilIface
  | agg (cs:List AVal)
  | tuple (vs:List AVal)
  deriving Inhabited
abbrev skipped:AVal:= .tuple []
def AVal.cells:AVal→List AVal
  | .agg cs=>cs
  | v=> [v]
def ofScalar:Value→AVal
  | .bool b=> .bool b
  | .int k n=> .int k n
  | .string s=> .str s.data.toList
  | .pointer none=> .ptr none
  | .slice none 0 0=> .slice none 0 0
  | .nilFunc=> .nilFunc
  | .nilIface=> .nilIface
  | _=> .undef
def ofConst:Value→AVal
  | .agg cs=> .agg (cs.toList.map ofScalar)
  | .iface t v=> .iface t (ofScalar v)
  | v=>ofScalar v
inductive TK where
  | int (k:IntKind) | bool | string | ptr (e:TypeId) | slice (e:TypeId) | array (n:Nat) (e:TypeId)
  | struct (fs:List (Nat×TypeId)) | func | iface (own:Bool) | other
  deriving Inhabited
structure TyD where
  kind:TK
  size:Nat
  bytes:Nat
  zero:Option AVal
  deriving Inhabited
def TK.isAgg:TK→Bool
  | .struct _ | .array _ _=>true
  | _=>false
def tkOf:TypeDesc→TK
  | .int k=> .int k
  | .bool=> .bool
  | .string=> .string
  | .pointer e=> .ptr e
  | .slice e=> .slice e
  | .array n e=> .array n e
  | .struct fs=> .struct (fs.toList.map fun f=>(f.offset,f.type))
  | .func _ _ _=> .func
  | .interface ms=> .iface (!ms.isEmpty)
  | _=> .other
def tyD(P:Program)(t:TypeId):Option TyD :=
  match P.info? t,P.underlying t with
  | some i,some d=>some {kind:=tkOf d,size:=i.size,bytes:=i.bytes,zero:=i.zero.map ofConst}
  | _,_=>none
abbrev Tys:=TypeId→Option TyD
def Tys.Ok(D:Tys)(P:Program):Prop:= ∀ t d,D t=some d→tyD P t=some d
structure ABlk where
  elems:List AVal
  es:Nat
  exact:Bool
  ro:Bool
  ver:Nat
  minVer:Nat
  forkLen:Nat
  ty:Option (TypeId×Nat)
  deriving Inhabited
structure AHeap where
  next:Nat
  blks:Trie ABlk
def AHeap.get(h:AHeap)(id:Nat):Option ABlk:=h.blks.get id
def AHeap.set(h:AHeap)(id:Nat)(b:ABlk):AHeap:= {h with blks:=h.blks.set id b}
def ABlk.lim(b:ABlk)(ver:Nat):Nat :=
  if ver=b.ver then b.elems.length else if b.minVer≤ver∧ver<b.ver then b.forkLen else 0
def ABlk.elem? (b:ABlk)(ver idx:Nat):Option AVal :=
  if idx<b.lim ver then b.elems[idx]? else none
def ABlk.made(elems:List AVal)(es:Nat)(exact:Bool)(ty:Option (TypeId×Nat):=none):ABlk :=
  {elems,es,exact,ro:=false,ver:=0,minVer:=0,forkLen:=0,ty}
def ABlk.grow(b:ABlk)(new:List AVal):ABlk :=
  {b with elems:=b.elems++new,ver:=b.ver+1,forkLen:=if b.minVer=b.ver then b.elems.length else min b.forkLen b.elems.length}
def putAll(l:List AVal)(i:Nat):List AVal→List AVal
  | []=>l
  | v::vs=>putAll (l.set i v) (i+1) vs
def ABlk.put(b:ABlk)(idx:Nat)(vs:List AVal):ABlk :=
  {b with elems:=putAll b.elems idx vs,minVer:=b.ver}
def loadElem (isA:Bool) (size fld:Nat) (e:AVal):Option AVal :=
  if isA then
    match e with
    | .agg cs=>if fld=0∧size=cs.length then some (.agg cs)else if fld+size≤cs.length then some (.agg ((cs.drop fld).take size))else none
    | _=>none
  else
    match e with
    | .agg cs=>cs[fld]?
    | _=>if fld=0 then some e else none
def aload (D:Tys) (t:TypeId) (a:AAddr) (h:AHeap):Option AVal :=
  match D t,h.get a.id with
  | some d,some b =>
    match b.elem? a.ver a.idx with
    | some e=>loadElem d.kind.isAgg d.size a.fld e
    | none=>none
  | _,_=>none
def AVal.simple:AVal→Bool
  | .agg _ | .tuple _ | .undef=>false
  | _=>true
def storeElem(fld:Nat)(v:AVal)(e:AVal):Option AVal :=
  match e with
  | .agg cs=>if fld+v.cells.length≤cs.length then some (.agg (putAll cs fld v.cells))else none
  | _=>if fld=0∧v.simple then some v else none
def AVal.fits(v:AVal)(isA:Bool)(size:Nat):Bool :=
  match v with
  | .agg cs=>isA && cs.length == size && cs.all (·.simple)
  | .tuple _=>false
  | .undef=>false
  | _=> !isA && size == 1
def astore (D:Tys) (t:TypeId) (a:AAddr) (v:AVal) (h:AHeap):Option AHeap :=
  match D t,h.get a.id with
  | some d,some b =>
    if v.fits d.kind.isAgg d.size && !b.ro && a.ver == b.ver then
      match b.elems[a.idx]? with
      | some e =>
        match storeElem a.fld v e with
        | some e'=>some (h.set a.id {b with elems:=b.elems.set a.idx e',minVer:=b.ver})
        | none=>none
      | none=>none
    else none
  | _,_=>none
def aint(op:BinOp)(k:IntKind)(x y:Int):Option AVal :=
  match op with
  | .add=>some (.int k (k.wrap (x+y)))
  | .sub=>some (.int k (k.wrap (x-y)))
  | .mul=>some (.int k (k.wrap (x*y)))
  | .quo=>if y=0 then none else some (.int k (k.wrap (x.tdiv y)))
  | .rem=>if y=0 then none else some (.int k (x.tmod y))
  | .and=>some (.int k (k.wrap (BitVec.ofInt k.bits x &&& BitVec.ofInt k.bits y).toNat))
  | .or=>some (.int k (k.wrap (BitVec.ofInt k.bits x ||| BitVec.ofInt k.bits y).toNat))
  | .xor=>some (.int k (k.wrap (BitVec.ofInt k.bits x ^^^ BitVec.ofInt k.bits y).toNat))
  | .andNot=>some (.int k (k.wrap (BitVec.ofInt k.bits x &&& ~~~(BitVec.ofInt k.bits y)).toNat))
  | .eql=>some (.bool (x == y))
  | .neq=>some (.bool (x != y))
  | .lss=>some (.bool (decide (x<y)))
  | .leq=>some (.bool (decide (x≤y)))
  | .gtr=>some (.bool (decide (x>y)))
  | .geq=>some (.bool (decide (x≥y)))
  | _=>none
def ashift(op:BinOp)(k:IntKind)(x y:Int):Option AVal :=
  if y<0 then none else
  match op with
  | .shl=>some (.int k (k.wrap (x*2^(min y.toNat k.bits))))
  | .shr=>some (.int k (x.fdiv (2^(min y.toNat k.bits))))
  | _=>none
def astr(op:BinOp)(x y:List UInt8):Option AVal :=
  match op with
  | .add=>if x.length+y.length<2^62 then some (.str (x++y))else none
  | .eql=>some (.bool (x == y))
  | .neq=>some (.bool (!(x == y)))
  | .lss=>some (.bool (Op.bytesLess x y))
  | .leq=>some (.bool (Op.bytesLess x y || x == y))
  | .gtr=>some (.bool (!(Op.bytesLess x y || x == y)))
  | .geq=>some (.bool (!Op.bytesLess x y))
  | _=>none
def cellEq(k:TK)(a b:AVal):Option Bool :=
  match k,a,b with
  | .int _,.int k a,.int k' b=>if k=k' then some (a == b)else none
  | .bool,.bool a,.bool b=>some (a == b)
  | .string,.str a,.str b=>some (a == b)
  | _,_,_=>none
def structEq (D:Tys):List (Nat×TypeId)→List AVal→List AVal→Option Bool
  | [],[],[]=>some true
  | (_,t)::fs,a::x,b::y =>
    match D t with
    | some d =>
      match cellEq d.kind a b,structEq D fs x y with
      | some p,some q=>some (p && q)
      | _,_=>none
    | none=>none
  | _,_,_=>none
def arrayEq (k:TK):List AVal→List AVal→Option Bool
  | [],[]=>some true
  | a::x,b::y =>
    match cellEq k a b,arrayEq k x y with
    | some p,some q=>some (p && q)
    | _,_=>none
  | _,_=>none
def aequal (D:Tys) (eqT:TypeId→Bool) (lit:Bool) (t:TypeId) (x y:AVal):Option Bool :=
  match D t with
  | none=>none
  | some d =>
    match d.kind,x,y with
    | .bool,.bool a,.bool b=>some (a == b)
    | .ptr _,.ptr none,.ptr none=>some true
    | .ptr _,.ptr none,.ptr (some _)=>some false
    | .ptr _,.ptr (some _),.ptr none=>some false
    | .slice _,.slice none _ _,.slice none _ _=>some true
    | .slice _,.slice none _ _,.slice (some _) _ _=>some false
    | .slice _,.slice (some _) _ _,.slice none _ _=>some false
    | .func,.nilFunc,.nilFunc=>some true
    | .func,.nilFunc,.func _ _ _=>some false
    | .func,.func _ _ _,.nilFunc=>some false
    | .iface _,.nilIface,.nilIface=>if lit then some true else none
    | .iface _,.nilIface,.iface _ _=>some false
    | .iface _,.iface _ _,.nilIface=>some false
    | .struct fs,.agg x,.agg y=>if eqT t then structEq D fs x y else none
    | .array n e,.agg x,.agg y =>
      if eqT t then
        match D e with
        | some ed=>if ed.size=1∧x.length=n then arrayEq ed.kind x y else none
        | none=>none
      else none
    | _,_,_=>none
def abin (D:Tys) (eqT:TypeId→Bool) (lit:Bool) (op:BinOp) (t:TypeId) (x y:AVal):Option AVal :=
  match x,y with
  | .int k a,.int k' b =>
    match op with
    | .shl | .shr=>ashift op k a b
    | _=>if k=k' then aint op k a b else none
  | .str a,.str b=>astr op a b
  | _,_ =>
    match op with
    | .eql=>(aequal D eqT lit t x y).map fun b=> .bool b
    | .neq=>(aequal D eqT lit t x y).map fun b=> .bool (!b)
    | _=>none
def aunary(op:UnOp)(x:AVal):Option AVal :=
  match op,x with
  | .neg,.int k n=>some (.int k (k.wrap (0-n)))
  | .not,.bool b=>some (.bool (!b))
  | .xor,.int k n=>aint .xor k (if k.signed then-1 else k.max) n
  | _,_=>none
def amax2:AVal→AVal→Option AVal
  | .int k x,.int k' y=>if k=k' then some (.int k (if y>x then y else x))else none
  | _,_=>none
def amin2:AVal→AVal→Option AVal
  | .int k x,.int k' y=>if k=k' then some (.int k (if y<x then y else x))else none
  | _,_=>none
def afold (f:AVal→AVal→Option AVal):AVal→List AVal→Option AVal
  | x,[]=>some x
  | x,y::r =>
    match f x y with
    | some z=>afold f z r
    | none=>none
def AVal.known:AVal→Bool
  | .undef=>false
  | _=>true
def afill (place:Nat→Option (Nat×Nat)) (cells:List AVal):List (Nat×AVal)→Option (List AVal)
  | []=>some cells
  | (i,v)::rest =>
    match place i with
    | none=>none
    | some (off,size) =>
      if v.cells.length=size∧off+size≤cells.length∧v.known=true then afill place (putAll cells off v.cells) rest else none
def fieldsKnown(D:Tys)(fs:List (Nat×TypeId)):Bool:=fs.all fun f=>(D f.2).isSome
def abuild (D:Tys) (t:TypeId) (parts:List (Nat×AVal)):Option AVal :=
  match D t with
  | some d =>
    match d.kind,d.zero with
    | .struct fs,some z =>
      if z.known=true∧fieldsKnown D fs=true then
        (afill (fun i=>match fs[i]? with | some (off,ft)=>(D ft).map fun x=>(off,x.size) | none=>none) z.cells parts).map .agg
      else none
    | .array _ e,some z =>
      match D e with
      | some x=>if z.known=true then(afill (fun i=>some (i*x.size,x.size)) z.cells parts).map .agg else none
      | none=>none
    | _,_=>none
  | none=>none
def setParts(l:List AVal):List (Nat×AVal)→Option (List AVal)
  | []=>some l
  | (i,v)::rest=>if i<l.length then setParts (l.set i v) rest else none
def newSlice(nid es len cap:Nat):AVal:= .slice (some ⟨nid,0,0,0,es⟩) len cap
def abuildSlice (D:Tys) (t:TypeId) (len:Nat) (parts:List (Nat×AVal)) (nid:Nat) (h:AHeap):Option (AVal×AHeap) :=
  match D t with
  | some d =>
    match d.kind with
    | .slice e =>
      match D e with
      | some x =>
        match x.zero with
        | some z =>
          if len*x.size≤2^24∧0<x.size∧z.fits x.kind.isAgg x.size∧(parts.all fun p=>p.2.fits x.kind.isAgg x.size)then
            match setParts (List.replicate len z) parts with
            | some l=>some (newSlice nid x.size len len,h.set nid (.made l x.size true))
            | none=>none
          else none
        | none=>none
      | none=>none
    | _=>none
  | none=>none
def amakeSlice (D:Tys) (t:TypeId) (len cap:AVal) (nid:Nat) (h:AHeap):Option (AVal×AHeap) :=
  match D t,len,cap with
  | some d, .int _ l,.int _ c =>
    match d.kind with
    | .slice e =>
      match D e with
      | some x =>
        match x.zero with
        | some z =>
          if 0≤l∧l≤c∧c<2^62∧x.bytes*c≤2^48∧0<x.size∧z.fits x.kind.isAgg x.size then
            some (newSlice nid x.size l.toNat c.toNat,h.set nid (.made (List.replicate c.toNat z) x.size true))
          else none
        | none=>none
      | none=>none
    | _=>none
  | _,_,_=>none
def abound(v:Option AVal)(dflt most:Nat):Option Nat :=
  match v with
  | none=>some dflt
  | some (.int _ i)=>if 0≤i∧i≤most then some i.toNat else none
  | _=>none
def aslice (D:Tys) (t:TypeId) (x:AVal) (lo hi mx:Option AVal):Option AVal :=
  match D t,x with
  | some d, .slice a len cap =>
    match d.kind with
    | .slice e =>
      match D e,abound mx cap cap with
      | some xd,some m =>
        match abound hi len m with
        | some hh =>
          match abound lo 0 hh with
          | some l =>
            if mx.isSome∧hi.isNone then none else
            match a with
            | none=>some (.slice none (hh-l) (m-l))
            | some a=>if a.es=xd.size∧a.fld=0 then some (.slice (some {a with idx:=a.idx+l}) (hh-l) (m-l))else none
          | none=>none
        | none=>none
      | _,_=>none
    | _=>none
  | some d,.ptr (some a) =>
    match d.kind with
    | .array n e =>
      match D e with
      | some xd =>
        if mx.isSome then none else
        match abound hi n n with
        | some hh =>
          match abound lo 0 hh with
          | some l=>if l<n∧xd.size=1 then some (.slice (some {a with fld:=a.fld+l+1}) (hh-l) (n-l))else none
          | none=>none
        | none=>none
      | none=>none
    | _=>none
  | some d,.str s =>
    match d.kind with
    | .string =>
      if mx.isSome then none else
      match abound hi s.length s.length with
      | some hh =>
        match abound lo 0 hh with
        | some l=>some (.str ((s.take hh).drop l))
        | none=>none
      | none=>none
    | _=>none
  | _,_=>none
def aindexAddr (D:Tys) (t:TypeId) (x i:AVal):Option AVal :=
  match D t,x,i with
  | some d,.slice (some a) len _,.int _ i =>
    match d.kind with
    | .slice e =>
      match D e with
      | some xd =>
        if 0≤i∧i<len∧a.es=xd.size∧a.fld=0 then some (.ptr (some {a with idx:=a.idx+i.toNat}))
        else if 0≤i∧i<len∧0<a.fld∧xd.size=1 then some (.ptr (some {a with fld:=a.fld-1+i.toNat}))
        else none
      | none=>none
    | _=>none
  | some d,.ptr (some a),.int _ i =>
    match d.kind with
    | .array n e =>
      match D e with
      | some xd=>if 0≤i∧i<n then some (.ptr (some {a with fld:=a.fld+i.toNat*xd.size}))else none
      | none=>none
    | _=>none
  | _,_,_=>none
def apart(D:Tys)(t:TypeId)(cs:List AVal)(off:Nat):Option AVal :=
  match D t with
  | some d=>if d.kind.isAgg then(if off+d.size≤cs.length then some (.agg ((cs.drop off).take d.size))else none)else cs[off]?
  | none=>none
def aindex (D:Tys) (t:TypeId) (x i:AVal):Option AVal :=
  match D t,x,i with
  | some d,.agg cs,.int _ i =>
    match d.kind with
    | .array n e =>
      match D e with
      | some xd=>if 0≤i∧i<n then apart D e cs (i.toNat*xd.size)else none
      | none=>none
    | _=>none
  | some d,.str s,.int _ i =>
    match d.kind with
    | .string=>if 0≤i then(s[i.toNat]?).map fun b=> .int .u8 b.toNat else none
    | _=>none
  | _,_,_=>none
def afieldAddr (D:Tys) (t:TypeId) (x:AVal) (f:Nat):Option AVal :=
  match D t,x with
  | some d,.ptr (some a) =>
    match d.kind with
    | .struct fs =>
      match fs[f]? with
      | some (off,ft) =>
        match D ft with
        | some fd=>if 0<fd.size then some (.ptr (some {a with fld:=a.fld+off}))else none
        | none=>none
      | none=>none
    | _=>none
  | _,_=>none
def afield (D:Tys) (t:TypeId) (x:AVal) (f:Nat):Option AVal :=
  match D t,x with
  | some d,.agg cs =>
    match d.kind with
    | .struct fs =>
      match fs[f]? with
      | some (off,ft)=>apart D ft cs off
      | none=>none
    | _=>none
  | _,_=>none
def elemsOf (es:Nat) (x:AVal) (h:AHeap):Option (List AVal) :=
  match x with
  | .slice none 0 _=>some []
  | .slice (some a) len _ =>
    if a.fld=0 then
      if a.es=es then
        match h.get a.id with
        | some b=>if len=0 then some []else if a.idx+len≤b.lim a.ver∧a.idx+len≤b.elems.length then some ((b.elems.drop a.idx).take len)else none
        | none=>if len=0 then some []else none
      else none
    else if len=0 then some []
    else if es=1 then
      match h.get a.id with
      | some b =>
        match b.elem? a.ver a.idx with
        | some (.agg cs)=>if a.fld-1+len≤cs.length∧((cs.drop (a.fld-1)).take len).all (·.simple)=true then some ((cs.drop (a.fld-1)).take len)else none
        | _=>none
      | none=>none
    else none
  | .str s=>if es=1 then some (s.map fun b=> .int .u8 b.toNat)else none
  | _=>none
def TyD.zeroFits(d:TyD):Bool :=
  match d.zero with
  | some z=>z.fits d.kind.isAgg d.size
  | none=>false
def aappend (D : Tys) (t:TypeId) (s x:AVal) (nid:Nat) (h:AHeap):Option (AVal×AHeap) :=
  match D t,s with
  | some d, .slice base len cap =>
    match d.kind with
    | .slice e =>
      match D e with
      | some xd =>
        match elemsOf xd.size x h with
        | some new =>
          let need:=len+new.length
          if 0 < xd.size∧(need+need / 4+512)*xd.bytes≤2^48∧need<2^62∧xd.zeroFits=true then
            match base with
            | none=>if need=0 then some (.slice none 0 cap,h)else if cap=0∧len=0 then some (newSlice nid xd.size need need,h.set nid (.made new xd.size false (some (e,0))))else none
            | some a =>
              if a.es =xd.size∧a.fld=0 then
                match h.get a.id with
                | some b =>
                  if need≤cap then
                    if new= []then some (.slice base need cap,h)else
                    if b.ro=false∧a.ver=b.ver∧a.idx+need≤b.elems.length then some (.slice base need cap,h.set a.id (b.put (a.idx+len) new))else none
                  else if b.exact then
                    match elemsOf xd.size s h with
                    | some old=>some (newSlice nid xd.size need need,h.set nid (.made (old++new) xd.size false (some (e,0))))
                    | none=>none
                  else if b.ro=false∧a.ver=b.ver∧a.idx+len=b.elems.length∧new≠ []∧(b.ty=none∨b.ty=some (e,0))then
                    some (.slice (some {a with ver:=a.ver+1}) need need,
                      h.set a.id (b.grow new))
                  else none
                | none=>none
              else none
          else none
        | none=>none
      | none=>none
    | _=>none
  | _,_=>none
def alen(D:Tys)(t:TypeId)(x:AVal):Option AVal :=
  match D t,x with
  | some d,.slice _ n _=>match d.kind with | .slice _=>some (.int .i64 n) | _=>none
  | some d,.str s=>match d.kind with | .string=>some (.int .i64 s.length) | _=>none
  | some d,_=>match d.kind with | .array n _=>some (.int .i64 n) | _=>none
  | _,_=>none
def aconvert(D:Tys)(src dst:TypeId)(x:AVal):Option AVal :=
  match D src,D dst,x with
  | some _,some d,.int _ n=>match d.kind with | .int k=>some (.int k (k.wrap n)) | .string=>some (.str (Utf8.encode n).data.toList) | _=>none
  | some _,some d,.str s=>match d.kind with | .string=>some (.str s) | _=>none
  | _,_,_=>none
abbrev ACall:=FuncId→List AVal→AHeap→Option (AVal×AHeap)
abbrev APrim:=List AVal→AHeap→Option (AVal×AHeap)
structure AEnv where
  D:Tys
  eqs:List TypeId
  prim:FuncId→Option APrim:=fun _=>none
  ext:FuncId→Option Nat:=fun _=>none
  cond:(Nat→Prop)→World→Prop:=fun _ _=>True
def AEnv.eqT(E:AEnv)(t:TypeId):Bool:=E.eqs.contains t
def agetOp(s:List AVal):Operand→AVal
  | .tmp t=>s.getD t .undef
  | .const v=>ofConst v
  | .global _=> .undef
  | .func f=> .func (.func f) [] []
def isLit:Operand→Bool
  | .const _=>true
  | _=>false
def acallVal(call:ACall)(f:AVal)(args:List AVal)(h:AHeap):Option (AVal×AHeap) :=
  match f with
  | .func (.func g) first captured=>call g (first++args++captured) h
  | _=>none
def bytesOf:List AVal→Option (List UInt8)
  | []=>some []
  | .int .u8 n::r=>(bytesOf r).map fun l=>UInt8.ofNat n.toNat::l
  | _=>none
def bytesIn:List AVal→Bool
  | []=>true
  | .int .u8 n::r=>decide (0≤n) && decide (n<256) && bytesIn r
  | _=>false
def aunsafeString (D:Tys) (pt:TypeId) (p:Option AAddr) (n:Int) (h:AHeap):Option (AVal×AHeap) :=
  if n=0 then some (.str [],h)else
  match D pt,p with
  | some d,some a =>
    match d.kind,h.get a.id with
    | .ptr e,some b =>
      match D e with
      | some ed =>
        if 0<n∧n≤1048576∧a.idx=0∧a.fld=0∧a.es=1∧b.ro=false∧b.ty=some (e,0)∧ed.size=1∧n.toNat≤b.lim a.ver∧n.toNat≤b.elems.length∧bytesIn (b.elems.take n.toNat)=true then
          (bytesOf (b.elems.take n.toNat)).map fun s=>(.str s,h.set a.id {b with ro:=true})
        else none
      | none=>none
    | _,_=>none
  | _,_=>none
def asliceData:AVal→Option AVal
  | .slice none _ _=>some (.ptr none)
  | .slice (some a) _ c=>if a.fld=0∧0<c then some (.ptr (some a))else none
  | _=>none
def acopyIn (D:Tys) (t:TypeId) (s x:AVal) (h:AHeap):Option (AVal×AHeap) :=
  match D t,s,x with
  | some d, .slice (some a) len _,.slice (some ax) n _ =>
    match d.kind with
    | .slice e =>
      match D e,h.get ax.id,h.get a.id with
      | some xd,some bx,some b =>
        if xd.size=1∧0<a.fld∧ax.fld=0∧ax.es=1∧0<n∧n≤len∧ax.idx+n≤bx.lim ax.ver∧ax.idx+n≤bx.elems.length∧b.ro=false∧a.ver=b.ver then
          match b.elems[a.idx]? with
          | some (.agg cs) =>
            if a.fld-1+n≤cs.length∧((bx.elems.drop ax.idx).take n).all (·.simple)=true then
              some (.int .i64 n,h.set a.id {b with elems:=b.elems.set a.idx (.agg (putAll cs (a.fld-1) ((bx.elems.drop ax.idx).take n))),minVer:=b.ver})
            else none
          | _=>none
        else none
      | _,_,_=>none
    | _=>none
  | _,_,_=>none
def abuiltin (E:AEnv) (b:Builtin) (ts:Array TypeId) (args:List AVal) (nid:Nat) (h:AHeap):Option (AVal×AHeap) :=
  match b with
  | .len =>
    match args,ts[0]? with
    | [x],some t=>(alen E.D t x).map fun v=>(v,h)
    | _,_=>none
  | .append =>
    match args,ts[0]?,ts[1]? with
    | [s,x],some t,some u=>match E.D u with | some ud=>(match ud.kind with | .slice _=>aappend E.D t s x nid h | .string=>aappend E.D t s x nid h | _=>none) | none=>none
    | _,_,_=>none
  | .max =>
    match args with
    | x::r=>(afold amax2 x r).map fun v=>(v,h)
    | _=>none
  | .min =>
    match args with
    | x::r=>(afold amin2 x r).map fun v=>(v,h)
    | _=>none
  | .copy =>
    match args,ts[0]?,ts[1]? with
    | [s,x],some t,some u=>acopyIn E.D t s x h
    | _,_,_=>none
  | .unsafeSliceData =>
    match args with
    | [x]=>(asliceData x).map fun v=>(v,h)
    | _=>none
  | .unsafeString =>
    match args,ts[0]? with
    | [.ptr p,.int .i64 n],some t=>aunsafeString E.D t p n h
    | _,_=>none
  | _=>none
def aop (E:AEnv) (call:ACall) (nid:Nat) (ρ:Operand→AVal) (h:AHeap) (o:Op):Option (AVal×AHeap) :=
  match o with
  | .move x | .assign x=>some (ρ x,h)
  | .pick c a b=>match ρ c with | .bool t=>some (if t then ρ a else ρ b,h) | _=>none
  | .alloc t =>
    match E.D t with
    | some d=>match d.zero with | some z=>if z.fits d.kind.isAgg d.size && decide (0<d.size)then some (.ptr (some ⟨nid,0,0,0,d.size⟩),h.set nid (.made [z] d.size true (some (t,d.size))))else none | none=>none
    | none=>none
  | .box t x =>
    match E.D t with
    | some d=>if(ρ x).fits d.kind.isAgg d.size && decide (0<d.size)then some (.ptr (some ⟨nid,0,0,0,d.size⟩),h.set nid (.made [ρ x] d.size true (some (t,d.size))))else none
    | none=>none
  | .build t parts=>(abuild E.D t (parts.toList.map fun p=>(p.1,ρ p.2))).map fun v=>(v,h)
  | .buildSlice t n parts=>abuildSlice E.D t n (parts.toList.map fun p=>(p.1,ρ p.2)) nid h
  | .load t a=>match ρ a with | .ptr (some a)=>(aload E.D t a h).map fun v=>(v,h) | _=>none
  | .store t a x=>match ρ a with | .ptr (some a)=>(astore E.D t a (ρ x) h).map fun h'=>(skipped,h') | _=>none
  | .nilCheck x=>match ρ x with | .ptr (some a)=>some (.ptr (some a),h) | .func (.func g) fs cs=>some (.func (.func g) fs cs,h) | _=>none
  | .binOp op t x y _=>(abin E.D E.eqT (isLit x || isLit y) op t (ρ x) (ρ y)).map fun v=>(v,h)
  | .unOp op _ x=>(aunary op (ρ x)).map fun v=>(v,h)
  | .convert s d x=>(aconvert E.D s d (ρ x)).map fun v=>(v,h)
  | .makeFunc (.func g) fs cs=>some (.func (.func g) (fs.toList.map ρ) (cs.toList.map ρ),h)
  | .makeInterface t x=>match E.D t with | some d=>(match d.kind with | .iface _=>none | _=>some (.iface t (ρ x),h)) | none=>none
  | .makeSlice t l c=>amakeSlice E.D t (ρ l) (ρ c) nid h
  | .slice t x lo hi mx=>(aslice E.D t (ρ x) (lo.map ρ) (hi.map ρ) (mx.map ρ)).map fun v=>(v,h)
  | .fieldAddr t x f=>(afieldAddr E.D t (ρ x) f).map fun v=>(v,h)
  | .field t x f=>(afield E.D t (ρ x) f).map fun v=>(v,h)
  | .indexAddr t x i=>(aindexAddr E.D t (ρ x) (ρ i)).map fun v=>(v,h)
  | .index t x i=>(aindex E.D t (ρ x) (ρ i)).map fun v=>(v,h)
  | .extract x i=>match ρ x with | .tuple vs=>(vs[i]?).map fun v=>(v,h) | _=>none
  | .call c =>
    match c.callee with
    | .value f=>acallVal call (ρ f) (c.args.toList.map ρ) h
    | .builtin b=>abuiltin E b c.argTypes (c.args.toList.map ρ) nid h
    | _=>none
  | _=>none
def aconvX (D:Tys) (src dst:TypeId) (x:AVal) (nid:Nat) (h:AHeap):Option (AVal×AHeap) :=
  match D src,D dst,x with
  | some sd,some dd,.str s =>
    match sd.kind,dd.kind with
    | .string,.slice e =>
      match D e with
      | some ed =>
        match ed.kind with
        | .int .u8=>some (newSlice nid 1 s.length s.length,h.set nid (.made (s.map fun b=> .int .u8 b.toNat) 1 false))
        | _=>none
      | none=>none
    | _,_=>none
  | some sd,some dd,.slice a n c =>
    match sd.kind,dd.kind with
    | .slice e,.slice _ =>
      match D e,a with
      | some ed,some aa =>
        match ed.kind,h.get aa.id with
        | .int .u8,some b=>if src=dst∧b.ro=false∧aa.fld=0∧0<c then some (.slice (some aa) n c,h)else none
        | _,_=>none
      | _,_=>none
    | .slice e,.string =>
      match D e with
      | some ed =>
        match ed.kind with
        | .int .u8 =>
          match elemsOf 1 (.slice a n c) h with
          | some l=>(bytesOf l).map fun s=>(.str s,h)
          | none=>none
        | _=>none
      | none=>none
    | _,_=>none
  | _,_,_=>none
def extVal (k:Nat) (args:List AVal):Option AVal :=
  match args with
  | [.str s,.int .u8 c] =>
    match k with
    | 0=>some (.int .i64 (Go.Lib.countByte s c.toNat.toUInt8))
    | 1=>some (.int .i64 (Go.Lib.indexByte s c.toNat.toUInt8))
    | _=>none
  | [.str s,.str t]=>if k=2 then some (.int .i64 (Go.Lib.compareBytes s t))else none
  | _=>none
def xop (E:AEnv) (nid:Nat) (ρ:Operand→AVal) (h:AHeap) (o:Op):Option (AVal×AHeap) :=
  match o with
  | .convert s d x=>aconvX E.D s d (ρ x) nid h
  | .call c =>
    match c.callee with
    | .value f =>
      match ρ f with
      | .func (.func g) [] [] =>
        match E.ext g with
        | some k=>(extVal k (c.args.toList.map ρ)).map fun v=>(v,h)
        | none=>none
      | _=>none
    | _=>none
  | _=>none
def aopX(E:AEnv)(call:ACall)(nid:Nat)(ρ:Operand→AVal)(h:AHeap)(o:Op):Option (AVal×AHeap) :=
  match aop E call nid ρ h o with
  | some r=>some r
  | none=>xop E nid ρ h o
structure ASt where
  slots:List AVal
  heap:AHeap
def aput(s:List AVal)(dst:Option Tmp)(v:AVal):List AVal :=
  match dst with
  | some d=>s.set d v
  | none=>s
def awanted (ops:Array Oper) (s:List AVal) (o:Oper):Option Bool :=
  match o.guard with
  | none=>some true
  | some (j,want) =>
    match (ops[j]?).bind (·.dst)with
    | some d =>
      match s[d]? with
      | some (.bool b)=>some (b == want)
      | some (.tuple [])=>some false
      | _=>none
    | none=>none
def astep (E:AEnv) (call:ACall) (ops:Array Oper) (n0:Nat) (i:Nat) (s:ASt):Option ASt :=
  match ops[i]? with
  | none=>some s
  | some o =>
    match awanted ops s.slots o with
    | some true =>
      match aopX E call (n0+i) (agetOp s.slots) s.heap o.op with
      | some (v,h)=>some ⟨aput s.slots o.dst v,h⟩
      | none=>none
    | some false=>some ⟨aput s.slots o.dst skipped,s.heap⟩
    | none=>none
def arun (E:AEnv) (call:ACall) (ops:Array Oper) (n0:Nat):List Nat→ASt→Option ASt
  | [],s=>some s
  | i::r,s =>
    match astep E call ops n0 i s with
    | some s'=>arun E call ops n0 r s'
    | none=>none
inductive AExit where
  | normal | exit (id:Nat) | goto (l:Nat) | ret
  deriving DecidableEq
inductive Cls where
  | pure | load | alloc | store | call | app | other
  deriving DecidableEq
def cls:Op→Cls
  | .move _ | .assign _ | .pick _ _ _ | .build _ _ | .nilCheck _ | .binOp _ _ _ _ _ | .unOp _ _ _ | .convert _ _ _ | .makeFunc _ _ _ | .slice _ _ _ _ _
  | .fieldAddr _ _ _ | .field _ _ _ | .indexAddr _ _ _ | .index _ _ _ | .extract _ _ | .makeInterface _ _=> .pure
  | .load _ _=> .load
  | .store _ _ _=> .store
  | .alloc _ | .box _ _ | .buildSlice _ _ _ | .makeSlice _ _ _=> .alloc
  | .call c =>
    match c.callee with
    | .value _=> .call
    | .builtin .len | .builtin .max | .builtin .min | .builtin .unsafeSliceData=> .pure
    | .builtin .append=> .app
    | _=> .other
  | _=> .other
def binding(e:Edge):Bool:=Region.binds .any e
def aheads(ops:Array Oper):Array Nat :=
  ops.toList.foldl (fun acc o=>acc.push (o.after.toList.foldl (fun s e=>if binding e then s ||| 2^e.on ||| acc.getD e.on 0 else s) 0)) #[]
def ordered(bf:Array Nat)(i j:Nat):Bool:=(bf.getD j 0).testBit i
def tmpsOf(xs:List Operand):List Tmp:=xs.filterMap fun | .tmp t=>some t | _=>none
def readsOf(ops:Array Oper)(o:Oper):List Tmp :=
  tmpsOf o.op.operands.toList++(match o.guard with | some (g,_)=>((ops[g]?).bind (·.dst)).toList | none=> [])
def apartOps(ops:Array Oper)(x y:Oper):Bool :=
  (match x.dst with | some d=> !(readsOf ops y).contains d && !(y.dst == some d) | none=>true) &&
  (match y.dst with | some d=> !(readsOf ops x).contains d | none=>true)
def pairOk:Cls→Cls→Bool
  | .pure,_ | _,.pure=>true
  | .load,.load | .load,.alloc | .alloc,.load | .alloc,.alloc | .call,.load | .load,.call | .load,.store | .store,.load | .app,.alloc | .alloc,.app=>true
  | _,_=>false
def drawOk (ops:Array Oper):Bool :=
  let bf:=aheads ops
  (List.range ops.size).all fun j =>
    match ops[j]? with
    | none=>true
    | some y =>
      (y.after.toList.all fun e=> !binding e || decide (e.on<j)) &&
      (List.range j).all fun i =>
        ordered bf i j ||
        match ops[i]? with
        | none=>true
        | some x=>pairOk (cls x.op) (cls y.op) && apartOps ops x y
mutual
def AVal.same:AVal→AVal→Bool
  | .undef,.undef=>true
  | .bool a,.bool b=>a == b
  | .int k a,.int l b=>decide (k=l) && a == b
  | .str a,.str b=>a == b
  | .ptr a,.ptr b=>decide (a=b)
  | .slice a n c,.slice b m d=>decide (a=b) && n == m && c == d
  | .func f a b,.func g c d=>decide (f=g) && AVal.sames a c && AVal.sames b d
  | .nilFunc,.nilFunc=>true
  | .iface t a,.iface u b=>t == u && AVal.same a b
  | .nilIface,.nilIface=>true
  | .agg a,.agg b=>AVal.sames a b
  | .tuple a,.tuple b=>AVal.sames a b
  | _,_=>false
def AVal.sames:List AVal→List AVal→Bool
  | [],[]=>true
  | a::x,b::y=>AVal.same a b && AVal.sames x y
  | _,_=>false
end
def ABlk.same(a b:ABlk):Bool :=
  AVal.sames a.elems b.elems && a.es == b.es && a.exact == b.exact && a.ro == b.ro && a.ver == b.ver && a.minVer == b.minVer && a.forkLen == b.forkLen && a.ty == b.ty
def sameOld(lim:Nat)(h h':AHeap):Bool:=Trie.sameBelow ABlk.same lim h'.blks h.blks 0 1
def looseCall (ops:Array Oper) (bf:Array Nat) (j:Nat):Bool :=
  (List.range ops.size).any fun i =>
    match ops[i]? with
    | some x=>decide (cls x.op= .load) && !ordered bf i j && !ordered bf j i
    | none=>false
def looseStore (ops:Array Oper) (bf:Array Nat) (j:Nat):Bool :=
  (List.range ops.size).any fun i =>
    match ops[i]? with
    | some x=>decide (cls x.op= .store) && !ordered bf i j && !ordered bf j i
    | none=>false
def storeId(ρ:Operand→AVal):Op→Option Nat
  | .store _ x _=>match ρ x with | .ptr (some a)=>some a.id | _=>none
  | _=>none
def loadId(ρ:Operand→AVal):Op→Option Nat
  | .load _ x=>match ρ x with | .ptr (some a)=>some a.id | _=>none
  | _=>none
def idOf:AVal→List Nat
  | .slice (some a) _ _=> [a.id]
  | _=> []
def appIds(ρ:Operand→AVal):Op→List Nat
  | .call c=>(c.args.toList.map ρ).flatMap idOf
  | _=> []
def isConv:Op→Bool
  | .convert _ _ _=>true
  | _=>false
def soloOk (ops:Array Oper) (j:Nat):Bool :=
  let bf:=aheads ops
  (List.range ops.size).all fun i =>
    (i == j) || ordered bf i j || ordered bf j i ||
      match ops[i]? with
      | some x=>decide (cls x.op= .pure) && !(isConv x.op)
      | none=>true
def convSrc(ρ:Operand→AVal):Op→Option AVal
  | .convert _ _ x=>match ρ x with | .slice a n c=>some (.slice a n c) | _=>none
  | _=>none
def readOk (ops:Array Oper) (n0 j:Nat) (ρ:Operand→AVal) (o:Op):Bool :=
  match convSrc ρ o with
  | some x =>
    ((idOf x).all fun b=>decide (b<n0) || (decide (b<n0+ops.size) && ordered (aheads ops) (b-n0) j)) &&
    ((List.range ops.size).all fun i=>(i == j) || ordered (aheads ops) i j || ordered (aheads ops) j i ||
      match ops[i]? with
      | some y=>decide (cls y.op= .pure) || decide (cls y.op= .load) || decide (cls y.op= .alloc)
      | none=>true)
  | none=>false
def appOk(ops:Array Oper)(n0 j:Nat)(ids:List Nat):Bool :=
  ids.all fun b=>decide (b<n0) || (decide (b<n0+ops.size) && ordered (aheads ops) (b-n0) j) || decide (n0+ops.size≤b)
def loadSolo (ops:Array Oper) (j:Nat):Bool :=
  (List.range ops.size).all fun i=>(i == j) || ordered (aheads ops) i j || ordered (aheads ops) j i ||
    match ops[i]? with
    | some y=>decide (cls y.op= .pure) || decide (cls y.op= .load)
    | none=>true
def dop (E:AEnv) (call:ACall) (ops:Array Oper) (n0 j:Nat) (ρ:Operand→AVal) (h:AHeap) (o:Op):Option (AVal×AHeap) :=
  match cls o with
  | .load =>
    match loadId ρ o with
    | some b=>if loadSolo ops j=true∨b<n0∨(b<n0+ops.size∧ordered (aheads ops) (b-n0) j=true∧looseStore ops (aheads ops) j=false)then aop E call (n0+j) ρ h o else none
    | none=>none
  | .store =>
    match storeId ρ o with
    | some b=>if looseCall ops (aheads ops) j=true∧b<n0 then none else aop E call (n0+j) ρ h o
    | none=>none
  | .call =>
    match aop E call (n0+j) ρ h o with
    | some (v,h')=>if looseCall ops (aheads ops) j then(if sameOld (n0+ops.size) h h' then some (v,h')else none)else some (v,h')
    | none=>none
  | .app=>if appOk ops n0 j (appIds ρ o)=true then aop E call (n0+j) ρ h o else none
  | .pure =>
    match aop E call (n0+j) ρ h o with
    | some r=>some r
    | none=>if isConv o=true∧(soloOk ops j=true∨readOk ops n0 j ρ o=true)then xop E (n0+j) ρ h o else none
  | _=>aop E call (n0+j) ρ h o
def dstep (E:AEnv) (call:ACall) (ops:Array Oper) (n0:Nat) (i:Nat) (s:ASt):Option ASt :=
  match ops[i]? with
  | none=>some s
  | some o =>
    match awanted ops s.slots o with
    | some true =>
      match dop E call ops n0 i (agetOp s.slots) s.heap o.op with
      | some (v,h)=>some ⟨aput s.slots o.dst v,h⟩
      | none=>none
    | some false=>some ⟨aput s.slots o.dst skipped,s.heap⟩
    | none=>none
def drun (E:AEnv) (call:ACall) (ops:Array Oper) (n0:Nat):List Nat→ASt→Option ASt
  | [],s=>some s
  | i::r,s =>
    match dstep E call ops n0 i s with
    | some s'=>drun E call ops n0 r s'
    | none=>none
def aregion (E:AEnv) (call:ACall) (ops:Array Oper) (draw:Bool) (s:ASt):Option ASt :=
  if draw then
    (if drawOk ops then drun E call ops s.heap.next (List.range ops.size) ⟨s.slots,{s.heap with next:=s.heap.next+ops.size}⟩else none)
  else arun E call ops s.heap.next (List.range ops.size) ⟨s.slots,{s.heap with next:=s.heap.next+ops.size}⟩
def aexec (E:AEnv) (call:ACall):Nat→Option Code→Code→ASt→Option (AExit×ASt)
  | 0,_,_,_=>none
  | n +1,some body,c,s =>
    match aexec E call n none c s with
    | some (.goto l,s') =>
      match findLabel body l with
      | some rest=>aexec E call n (some body) rest s'
      | none=>some (.goto l,s')
    | r=>r
  | n +1,none,c,s =>
    match c with
    | .skip=>some (.normal,s)
    | .label _=>some (.normal,s)
    | .region _ ops draw=>(aregion E call ops draw s).map fun s'=>(.normal,s')
    | .seq a b =>
      match aexec E call n none a s with
      | some (.normal,s')=>aexec E call n none b s'
      | r=>r
    | .cond x a b =>
      match agetOp s.slots x with
      | .bool true=>aexec E call n none a s
      | .bool false=>aexec E call n none b s
      | _=>none
    | .block id c =>
      match aexec E call n none c s with
      | some (.exit j,s')=>some (if j=id then .normal else .exit j,s')
      | r=>r
    | .loop c =>
      match aexec E call n none c s with
      | some (.normal,s')=>aexec E call n none (.loop c) s'
      | r=>r
    | .scope c=>aexec E call n (some c) c s
    | .goto l=>some (.goto l,s)
    | .exit id=>some (.exit id,s)
    | .ret=>some (.ret,s)
    | _=>none
def aresults (D:Tys) (rs:List ResultVar) (s:ASt):Option (List AVal) :=
  match rs with
  | []=>some []
  | .tmp t::r=>(aresults D r s).map fun l=>s.slots.getD t .undef::l
  | .cell a t::r =>
    match s.slots.getD a .undef with
    | .ptr (some p) =>
      match aload D t p s.heap,aresults D r s with
      | some v,some l=>some (v::l)
      | _,_=>none
    | _=>none
def aresult:List AVal→AVal
  | [v]=>v
  | l=> .tuple l
def acall (P:Program) (E:AEnv):Nat→ACall
  | 0,_,_,_=>none
  | n + 1,f,args,h =>
    match E.prim f with
    | some g=>g args h
    | none =>
    match P.funcs[f]? with
    | some fn =>
      match fn.body with
      | some c =>
        match aexec E (acall P E n) n none c ⟨args++List.replicate (fn.ntmps-args.length) skipped,h⟩with
        | some (.exit _,_)=>none
        | some (.goto _,_)=>none
        | some (_,s)=>(aresults E.D fn.results.toList s).map fun l=>(aresult l,s.heap)
        | none=>none
      | none=>none
    | none=>none
end
end Go.Lift
namespace Go.Lift
noncomputable section
structure Place where
  blk:Nat
  off:Nat
  lo:Nat
  es:Nat
  tot:Nat
  exact:Bool
  ro:Bool
abbrev Map:=Nat→Nat→Option Place
def Map.le(φ ψ:Map):Prop:= ∀ i v p,φ i v=some p→ψ i v=some p
theorem Map.le_refl(φ:Map):φ.le φ:=fun _ _ _ h=>h
theorem Map.le_trans {φ ψ χ:Map}(h:φ.le ψ)(k:ψ.le χ):φ.le χ:=fun i v p e=>k i v p (h i v p e)
def Place.at(p:Place)(idx fld:Nat):Addr:=⟨p.blk,p.off+(idx-p.lo)*p.es+fld,none⟩
def AtAddr(φ:Map)(a:AAddr)(x:Addr):Prop :=
  ∃ p,φ a.id a.ver=some p∧a.es=p.es∧p.lo≤a.idx∧x=p.at a.idx a.fld
def SliceAt(φ:Map)(a:AAddr)(x:Addr)(cap cap':Nat):Prop :=
  ∃ p,φ a.id a.ver=some p∧a.es=p.es∧(cap'=0∨(p.lo≤a.idx∧x=p.at a.idx 0∧(a.idx-p.lo)+cap'≤p.tot))∧(p.exact=true→cap'=cap)
def SliceOf(φ:Map)(a:AAddr)(x:Addr)(cap cap':Nat):Prop :=
  (a.fld=0∧SliceAt φ a x cap cap')∨(∃ f,a.fld=f+1∧AtAddr φ {a with fld:=f} x)
theorem SliceOf.plain {φ:Map}{a:AAddr}{x:Addr}{cap cap':Nat}(h:SliceOf φ a x cap cap')(hf:a.fld=0):SliceAt φ a x cap cap':=by
  rcases h with h | ⟨f,h,_⟩
  · exact h.2
  · omega
mutual
def VRel(φ:Map):AVal→Value→Prop
  | .undef,_=>True
  | .bool b,v=>v= .bool b
  | .int k n,v=>v= .int k n
  | .str s,v=> ∃ t:ByteArray,v= .string t∧t.data.toList=s
  | .ptr none,v=>v= .pointer none
  | .ptr (some a),v=> ∃ x,v= .pointer (some x)∧AtAddr φ a x
  | .slice none len cap,v=>v= .slice none 0 0∧len=0∧cap=0
  | .slice (some a) len cap,v=> ∃ x cap',v= .slice (some x) len cap'∧len≤cap∧cap≤cap'∧SliceOf φ a x cap cap'
  | .func fn f c,v=> ∃ f' c',v= .func fn f' c'∧VRels φ f f'.toList∧VRels φ c c'.toList
  | .nilFunc,v=>v= .nilFunc
  | .iface t a,v=> ∃ x,v= .iface t x∧VRel φ a x
  | .nilIface,v=>v= .nilIface
  | .agg cs,v=> ∃ xs,v= .agg xs∧VRels φ cs xs.toList
  | .tuple vs,v=> ∃ xs,v= .tuple xs∧VRels φ vs xs.toList
def VRels(φ:Map):List AVal→List Value→Prop
  | [],l=>l= []
  | a::r,l=> ∃ v t,l=v::t∧VRel φ a v∧VRels φ r t
end
theorem AtAddr.mono {φ ψ:Map}(h:φ.le ψ){a:AAddr}{x:Addr}(k:AtAddr φ a x):AtAddr ψ a x :=
  let ⟨p,e,r⟩:=k;⟨p,h _ _ _ e,r⟩
theorem SliceAt.mono {φ ψ:Map}(h:φ.le ψ){a:AAddr}{x:Addr}{c c':Nat}(k:SliceAt φ a x c c'):SliceAt ψ a x c c':=by
  obtain⟨p,e,r⟩:=k
  exact⟨p,h _ _ _ e,r⟩
theorem SliceOf.mono {φ ψ:Map}(h:φ.le ψ){a:AAddr}{x:Addr}{c c':Nat}(k:SliceOf φ a x c c'):SliceOf ψ a x c c':=by
  rcases k with ⟨h1,h2⟩ | ⟨f,h1,h2⟩
  · exact .inl ⟨h1,h2.mono h⟩
  · exact .inr ⟨f,h1,h2.mono h⟩
mutual
theorem VRel.mono {φ ψ:Map}(h:φ.le ψ): ∀ {a:AVal} {v:Value},VRel φ a v→VRel ψ a v
  | .undef,_,_=>by simp [VRel]
  | .bool b,v,k=>by simpa [VRel]using k
  | .int _ n,v,k=>by simpa [VRel]using k
  | .str s,v,k=>by simpa [VRel]using k
  | .ptr none,v,k=>by simpa [VRel]using k
  | .ptr (some a),v,k=>by
    simp only [VRel]at k ⊢
    obtain⟨x,e,r⟩:=k
    exact⟨x,e,r.mono h⟩
  | .slice none len cap,v,k=>by simpa [VRel]using k
  | .slice (some a) len cap,v,k=>by
    simp only [VRel]at k ⊢
    obtain⟨x,c,e,l1,l2,r⟩:=k
    exact⟨x,c,e,l1,l2,r.mono h⟩
  | .func fn f c,v,k=>by
    simp only [VRel]at k ⊢
    obtain⟨f',c',e,r1,r2⟩:=k
    exact⟨f',c',e,VRels.mono h r1,VRels.mono h r2⟩
  | .nilFunc,v,k=>by simpa [VRel]using k
  | .iface t a,v,k=>by
    simp only [VRel]at k ⊢
    obtain⟨x,e,r⟩:=k
    exact⟨x,e,VRel.mono h r⟩
  | .nilIface,v,k=>by simpa [VRel]using k
  | .agg cs,v,k=>by
    simp only [VRel]at k ⊢
    obtain⟨x,e,r⟩:=k
    exact⟨x,e,VRels.mono h r⟩
  | .tuple cs,v,k=>by
    simp only [VRel]at k ⊢
    obtain⟨x,e,r⟩:=k
    exact⟨x,e,VRels.mono h r⟩
theorem VRels.mono {φ ψ:Map}(h:φ.le ψ): ∀ {l:List AVal} {t:List Value},VRels φ l t→VRels ψ l t
  | [],t,k=>by simpa [VRels]using k
  | a::r,t,k=>by
    simp only [VRels]at k ⊢
    obtain⟨v,t',e,k1,k2⟩:=k
    exact⟨v,t',e,VRel.mono h k1,VRels.mono h k2⟩
end
theorem VRels.length {φ:Map} : ∀ {l:List AVal} {t:List Value},VRels φ l t→t.length=l.length
  | [],t,k=>by simp only [VRels]at k;simp [k]
  | a::r,t,k=>by
    simp only [VRels]at k
    obtain⟨v,t',e,k1,k2⟩:=k
    simp [e,VRels.length k2]
theorem VRels.get {φ:Map} : ∀ {l:List AVal} {t:List Value} {i:Nat} {a:AVal},VRels φ l t→l[i]? =some a→ ∃ v,t[i]? =some v∧VRel φ a v
  | [],t,i,a,k,h=>by simp at h
  | b::r,t,i,a,k,h=>by
    simp only [VRels]at k
    obtain⟨v,t',e,k1,k2⟩:=k
    subst e
    cases i with
    | zero=>simp at h;subst h;exact⟨v,by simp,k1⟩
    | succ i=>simp at h;obtain⟨u,hu,ru⟩:=VRels.get k2 h;exact⟨u,by simpa using hu,ru⟩
theorem VRels.of_get {φ:Map} : ∀ {l:List AVal} {t:List Value},t.length=l.length→(∀ (i:Nat) (a:AVal) (v:Value),l[i]? =some a→t[i]? =some v→VRel φ a v)→VRels φ l t
  | [],t,hl,h=>by simp at hl;simp [VRels,hl]
  | a::r,[],hl,h=>by simp at hl
  | a::r,v::t,hl,h=>by
    simp only [VRels]
    refine⟨v,t,rfl,h 0 a v (by simp) (by simp),VRels.of_get (by simpa using hl) fun i a' v' ha hv=>h (i+1) a' v' (by simpa using ha) (by simpa using hv)⟩
theorem VRels.append {φ:Map}{l m:List AVal}{t u:List Value}(h:VRels φ l t)(k:VRels φ m u):VRels φ (l++m) (t++u):=by
  induction l generalizing t with
  | nil=>simp only [VRels]at h;simpa [h]using k
  | cons a r ih =>
    simp only [VRels]at h
    obtain⟨v,t',e,k1,k2⟩:=h
    simp only [List.cons_append,VRels]
    exact⟨v,t'++u,by simp [e],k1,ih k2⟩
theorem VRels.set {φ:Map}{l:List AVal}{t:List Value}(h:VRels φ l t)(i:Nat){a:AVal}{v:Value}(k:VRel φ a v):VRels φ (l.set i a) (t.set i v):=by
  refine VRels.of_get (by simp [h.length]) fun j b u hb hu=> ?_
  by_cases e:i=j
  · subst e
    have hi:i<l.length:=by
      have:=(List.getElem?_eq_some_iff.1 hb).1;simpa using this
    rw [List.getElem?_set_self (by simpa using hi)]at hb
    rw [List.getElem?_set_self (by rw [h.length];exact hi)]at hu
    simp at hb hu;subst hb hu;exact k
  · rw [List.getElem?_set_ne e]at hb hu
    obtain⟨x,hx,rx⟩:=h.get hb
    rw [hu]at hx;simp at hx;subst hx;exact rx
theorem VRels.drop {φ:Map}{l:List AVal}{t:List Value}(h:VRels φ l t)(n:Nat):VRels φ (l.drop n) (t.drop n):=by
  refine VRels.of_get (by simp [h.length]) fun j b u hb hu=> ?_
  rw [List.getElem?_drop]at hb hu
  obtain⟨x,hx,rx⟩:=h.get hb
  rw [hu]at hx;simp at hx;subst hx;exact rx
theorem VRels.take {φ:Map}{l:List AVal}{t:List Value}(h:VRels φ l t)(n:Nat):VRels φ (l.take n) (t.take n):=by
  refine VRels.of_get (by simp [h.length]) fun j b u hb hu=> ?_
  rw [List.getElem?_take]at hb hu
  split at hb
  · rename_i hj
    rw [if_pos hj]at hu
    obtain⟨x,hx,rx⟩:=h.get hb
    rw [hu]at hx;simp at hx;subst hx;exact rx
  · simp at hb
theorem VRels.map {φ:Map}{α:Type}(l:List α)(f:α→AVal)(g:α→Value)(h: ∀ x∈l,VRel φ (f x) (g x)):VRels φ (l.map f) (l.map g):=by
  induction l with
  | nil=>simp [VRels]
  | cons x r ih =>
    simp only [List.map_cons,VRels]
    exact⟨_,_,rfl,h x (by simp),ih fun y hy=>h y (by simp [hy])⟩
theorem VRels.getD {φ:Map}{l:List AVal}{t:List Value}(h:VRels φ l t)(i:Nat):VRel φ (l.getD i .undef) (t.getD i undef):=by
  by_cases hi:i<l.length
  · obtain⟨v,hv,rv⟩:=h.get (i:=i) (a:=l[i]) (List.getElem?_eq_getElem hi)
    rw [List.getD_eq_getElem?_getD,List.getD_eq_getElem?_getD,List.getElem?_eq_getElem hi,hv]
    simpa using rv
  · rw [List.getD_eq_getElem?_getD,List.getElem?_eq_none (by omega)];simp [VRel]
theorem VRel.skipped(φ:Map):VRel φ skipped undef:=by
  simp only [VRel];exact⟨#[],rfl,by simp [VRels]⟩
theorem VRels.replicate {φ:Map}{a:AVal}{v:Value}(h:VRel φ a v)(n:Nat):VRels φ (List.replicate n a) (List.replicate n v):=by
  induction n with
  | zero=>simp [VRels]
  | succ n ih=>simp only [List.replicate_succ,VRels];exact⟨_,_,rfl,h,ih⟩
theorem ofScalar_rel(φ:Map)(v:Value):VRel φ (ofScalar v) v:=by
  unfold ofScalar
  split<;>simp [VRel]
theorem ofConst_rel(φ:Map)(v:Value):VRel φ (ofConst v) v:=by
  unfold ofConst
  split
  · rename_i cs
    simp only [VRel]
    refine⟨cs,rfl,?_⟩
    have:=VRels.map (φ:=φ) cs.toList ofScalar id (fun x _=>ofScalar_rel φ x)
    simpa using this
  · simp only [VRel];exact⟨_,rfl,ofScalar_rel φ _⟩
  · exact ofScalar_rel φ v
theorem VRel.cells {φ:Map}{a:AVal}{v:Value}(h:VRel φ a v)(hu:a≠ .undef):VRels φ a.cells v.cells.toList:=by
  cases a with
  | undef=>exact absurd rfl hu
  | agg cs=>simp only [VRel]at h;obtain⟨xs,rfl,r⟩:=h;simpa [AVal.cells,Value.cells]using r
  | bool b=>have h':=h;simp only [VRel]at h;subst h;simp only [AVal.cells,Value.cells,VRels];exact⟨_,_,rfl,h',rfl⟩
  | int k n=>have h':=h;simp only [VRel]at h;subst h;simp only [AVal.cells,Value.cells,VRels];exact⟨_,_,rfl,h',rfl⟩
  | str s=>have h':=h;simp only [VRel]at h;obtain⟨t,rfl,e⟩:=h;simp only [AVal.cells,Value.cells,VRels];exact⟨_,_,rfl,h',rfl⟩
  | ptr o =>
    have h':=h
    cases o with
    | none=>simp only [VRel]at h;subst h;simp only [AVal.cells,Value.cells,VRels];exact⟨_,_,rfl,h',rfl⟩
    | some x=>simp only [VRel]at h;obtain⟨t,rfl,e⟩:=h;simp only [AVal.cells,Value.cells,VRels];exact⟨_,_,rfl,h',rfl⟩
  | slice o l c =>
    have h':=h
    cases o with
    | none=>simp only [VRel]at h;obtain⟨rfl,_⟩:=h;simp only [AVal.cells,Value.cells,VRels];exact⟨_,_,rfl,h',rfl⟩
    | some x=>simp only [VRel]at h;obtain⟨t,c',rfl,e⟩:=h;simp only [AVal.cells,Value.cells,VRels];exact⟨_,_,rfl,h',rfl⟩
  | func fn f c=>have h':=h;simp only [VRel]at h;obtain⟨t,c',rfl,e⟩:=h;simp only [AVal.cells,Value.cells,VRels];exact⟨_,_,rfl,h',rfl⟩
  | nilFunc=>have h':=h;simp only [VRel]at h;subst h;simp only [AVal.cells,Value.cells,VRels];exact⟨_,_,rfl,h',rfl⟩
  | iface t x=>have h':=h;simp only [VRel]at h;obtain⟨t,rfl,e⟩:=h;simp only [AVal.cells,Value.cells,VRels];exact⟨_,_,rfl,h',rfl⟩
  | nilIface=>have h':=h;simp only [VRel]at h;subst h;simp only [AVal.cells,Value.cells,VRels];exact⟨_,_,rfl,h',rfl⟩
  | tuple vs=>have h':=h;simp only [VRel]at h;obtain⟨t,rfl,e⟩:=h;simp only [AVal.cells,Value.cells,VRels];exact⟨_,_,rfl,h',rfl⟩
structure Safe(S:Nat→Prop)(w w':World):Prop where
  os:w'.os=w.os
  tape:w'.tape=w.tape
  output:w'.output=w.output
  size:w.heap.size≤w'.heap.size
  block: ∀ k,S k→w'.heap[k]? =w.heap[k]?
def Low(S:Nat→Prop)(n:Nat):Prop:= ∀ k,S k→k<n
theorem Low.le {S:Nat→Prop}{n m:Nat}(h:Low S n)(k:n≤m):Low S m:=fun i hi=>Nat.lt_of_lt_of_le (h i hi) k
theorem Low.no {S:Nat→Prop}{n:Nat}(h:Low S n): ¬ S n:=fun k=>Nat.lt_irrefl _ (h n k)
theorem Safe.refl(S:Nat→Prop)(w:World):Safe S w w:=⟨rfl,rfl,rfl,Nat.le_refl _,fun _ _=>rfl⟩
theorem Safe.trans {S:Nat→Prop}{a b c:World}(h:Safe S a b)(k:Safe S b c):Safe S a c :=
  ⟨k.os.trans h.os,k.tape.trans h.tape,k.output.trans h.output,Nat.le_trans h.size k.size,fun i hi=>(k.block i hi).trans (h.block i hi)⟩
theorem Safe.less {S T:Nat→Prop}{w w':World}(h:Safe S w w')(k: ∀ i,T i→S i):Safe T w w':=⟨h.os,h.tape,h.output,h.size,fun i hi=>h.block i (k i hi)⟩
theorem Safe.drew {S:Nat→Prop}{a w:World}(h:Safe S a w):Safe S a w.drew:=⟨h.os,h.tape,h.output,h.size,h.block⟩
theorem Safe.alloc {S:Nat→Prop}{a w:World}(h:Safe S a w)(hS:Low S w.heap.size)(o:Obj):Safe S a (w.alloc o) :=
  h.trans ⟨rfl,rfl,rfl,by simp,fun k hk=>Go.RowKit.Below.heap_alloc _ _ _ (hS k hk)⟩
theorem Safe.setCell {S:Nat→Prop}{a w:World}(h:Safe S a w){p:Addr}(hp: ¬ S p.block)(u:Value):Safe S a (w.setCell p u) :=
  h.trans ⟨rfl,rfl,rfl,by simp [World.setCell],fun k hk=>Go.RowKit.Below.heap_setCell _ _ _ _ (fun e=>hp (e▸hk))⟩
theorem Safe.below {n:Nat}{w w':World}(h:Safe (fun k=>k<n) w w'):Go.RowKit.Below n w w':=⟨h.os,h.tape,h.output,h.size,h.block⟩
def markOf(w:World)(b:Nat):Option (TypeId×Nat×Nat×Nat) :=
  match w.heap[b]? with
  | some (.cells c t (lo,hi))=>some (t,c.size,lo,hi)
  | _=>none
def Unmarked(w:World)(b:Nat):Prop:= ∃ t n lo hi,markOf w b=some (t,n,lo,hi)∧(lo=hi∨n≤lo)
theorem Unmarked.of_eq {w w':World}{b:Nat}(h:Unmarked w b)(e:markOf w' b=markOf w b):Unmarked w' b:=by
  unfold Unmarked;rw [e];exact h
theorem markOf_of {w w':World}{b:Nat}(e:w'.heap[b]? =w.heap[b]?):markOf w' b=markOf w b:=by unfold markOf;rw [e]
structure Row(φ:Map)(N0:Nat→Prop)(b:ABlk)(v:Nat)(p:Place)(w:World):Prop where
  blk:p.blk<w.heap.size
  base:p.ro=false→ ¬ N0 p.blk
  cells: ∀ o,o<p.tot*p.es→(w.cell? ⟨p.blk,p.off+o,none⟩).isSome=true
  free:b.ro=false→ ∀ o,o<p.tot*p.es→w.frozen? ⟨p.blk,p.off+o,none⟩=false
  mark:b.ro=false→Unmarked w p.blk
  shp: ∀ q,b.ty=some q→ ∃ n lo hi,markOf w p.blk=some (q.1,n,lo,hi)∧(q.2≠0→n=q.2)∧p.off=0
  cont: ∀ i e,p.lo≤i→i<b.lim v→b.elems[i]? =some e →
    e.cells.length=p.es∧i-p.lo<p.tot∧ ∀ j x',e.cells[j]? =some x'→ ∃ x,w.cell? (p.at i j)=some x∧VRel φ x' x∧x.oneCell'=true
structure HRel(φ:Map)(N0:Nat→Prop)(h:AHeap)(w:World):Prop where
  dom: ∀ i v p,φ i v=some p→i<h.next∧ ∃ b,h.get i=some b∧v≤b.ver∧p.es=b.es∧p.exact=b.exact∧(b.ro=false→p.ro=false)∧0<p.es∧Row φ N0 b v p w
  apart: ∀ i v p j u q,φ i v=some p→φ j u=some q→p.blk=q.blk→i≠j→p.ro=true∧q.ro=true
  same: ∀ i v p u q,φ i v=some p→φ i u=some q→p.blk=q.blk→p.off=q.off∧p.lo=q.lo
structure Ext(φ ψ:Map)(n nid:Nat):Prop where
  le:φ.le ψ
  new: ∀ i,i<n→i≠nid→(∀ v,φ i v=none)→ ∀ v,ψ i v=none
  ro: ∀ i v p,ψ i v=some p→p.ro=true→φ i v=some p
theorem Ext.refl(φ:Map)(n nid:Nat):Ext φ φ n nid:=⟨φ.le_refl,fun _ _ _ h=>h,fun _ _ _ h _=>h⟩
structure Keep(φ ψ:Map)(n:Nat):Prop where
  le:φ.le ψ
  new: ∀ i,i<n→(∀ u,φ i u=none)→ ∀ u,ψ i u=none
  ro: ∀ i v p,ψ i v=some p→p.ro=true→φ i v=some p
theorem Keep.refl(φ:Map)(n:Nat):Keep φ φ n:=⟨φ.le_refl,fun _ _ h=>h,fun _ _ _ h _=>h⟩
theorem Keep.trans {φ ψ χ:Map}{n:Nat}(h:Keep φ ψ n)(k:Keep ψ χ n):Keep φ χ n:=⟨Map.le_trans h.le k.le,fun i hi hn=>k.new i hi (h.new i hi hn),fun i v p hp hr=>h.ro i v p (k.ro i v p hp hr) hr⟩
theorem Keep.mono {φ ψ:Map}{n m:Nat}(h:Keep φ ψ n)(hm:m≤n):Keep φ ψ m:=⟨h.le,fun i hi hn=>h.new i (by omega) hn,h.ro⟩
theorem AHeap.get_set(h:AHeap)(id:Nat)(b:ABlk)(j:Nat):(h.set id b).get j=if id=j then some b else h.get j:=Trie.get_set b h.blks id j
@[simp] theorem AHeap.next_set (h : AHeap) (id : Nat) (b : ABlk) : (h.set id b).next = h.next := rfl
theorem AHeap.get_set_self(h:AHeap)(id:Nat)(b:ABlk):(h.set id b).get id=some b:=by simp [AHeap.get_set]
theorem AHeap.get_set_ne(h:AHeap){id j:Nat}(b:ABlk)(e:id≠j):(h.set id b).get j=h.get j:=by simp [AHeap.get_set,e]
@[simp] theorem AHeap.get_next (h : AHeap) (n j : Nat) : ({ h with next := n } : AHeap).get j = h.get j := rfl
theorem ABlk.lim_made(l:List AVal)(es:Nat)(e:Bool)(ty:Option (TypeId×Nat))(v:Nat):(ABlk.made l es e ty).lim v=if v=0 then l.length else 0:=by
  by_cases hv:v=0
  · subst hv;simp [ABlk.lim,ABlk.made]
  · simp [ABlk.lim,ABlk.made,hv]
structure Alike(w w':World):Prop where
  size:w.heap.size≤w'.heap.size
  cell: ∀ a,a.block<w.heap.size→w'.cell? a=w.cell? a
  frozen: ∀ a,a.block<w.heap.size→w'.frozen? a=w.frozen? a
  mark: ∀ b,b<w.heap.size→markOf w' b=markOf w b
theorem Row.alike {φ:Map}{N0:Nat→Prop}{b:ABlk}{v:Nat}{p:Place}{w w':World}(r:Row φ N0 b v p w)(k:Alike w w'):Row φ N0 b v p w' where
  blk:=Nat.lt_of_lt_of_le r.blk k.size
  base:=r.base
  cells o ho:=by rw [k.cell _ r.blk];exact r.cells o ho
  free hr o ho:=by rw [k.frozen _ r.blk];exact r.free hr o ho
  mark hr:=(r.mark hr).of_eq (k.mark _ r.blk)
  shp t ht:=by rw [k.mark _ r.blk];exact r.shp t ht
  cont i e h1 h2 h3:=by
    obtain⟨h4,h5,h6⟩:=r.cont i e h1 h2 h3
    refine⟨h4,h5,fun j x' hx=> ?_⟩
    obtain⟨x,hx1,hx2⟩:=h6 j x' hx
    exact⟨x,by rw [k.cell _ (by exact r.blk)];exact hx1,hx2⟩
theorem Row.mono {φ ψ:Map}(h:φ.le ψ){N0:Nat→Prop}{b:ABlk}{v:Nat}{p:Place}{w:World}(r:Row φ N0 b v p w):Row ψ N0 b v p w :=
  ⟨r.blk,r.base,r.cells,r.free,r.mark,r.shp,fun i e h1 h2 h3=>by
      obtain⟨h4,h5,h6⟩:=r.cont i e h1 h2 h3
      refine⟨h4,h5,fun j x' hx=> ?_⟩
      obtain⟨x,hx1,hx2⟩:=h6 j x' hx
      exact⟨x,hx1,hx2.1.mono h,hx2.2⟩⟩
theorem HRel.alike {φ:Map}{N0:Nat→Prop}{h:AHeap}{w w':World}(r:HRel φ N0 h w)(k:Alike w w'):HRel φ N0 h w' where
  dom i v p hp:=by
    obtain⟨h1,b,h2,h3,h4,h5,h6,h7,h8⟩:=r.dom i v p hp
    exact⟨h1,b,h2,h3,h4,h5,h6,h7,h8.alike k⟩
  apart:=r.apart
  same:=r.same
theorem HRel.next {φ:Map}{N0:Nat→Prop}{h:AHeap}{w:World}(r:HRel φ N0 h w){n:Nat}(hn:h.next≤n):HRel φ N0 {h with next:=n} w where
  dom i v p hp:=by
    obtain⟨h1,b,h2,h3,h4,h5,h6,h7,h8⟩:=r.dom i v p hp
    exact⟨Nat.lt_of_lt_of_le h1 hn,b,h2,h3,h4,h5,h6,h7,h8⟩
  apart:=r.apart
  same:=r.same
theorem Alike.drew(w:World)(n:Nat):Alike w {w with drawn:=n} :=⟨Nat.le_refl _,fun _ _=>rfl,fun _ _=>rfl,fun _ _=>rfl⟩
theorem heap_alloc(w:World)(o:Obj):(w.alloc o).heap=w.heap.push o:=rfl
theorem size_alloc(w:World)(o:Obj):(w.alloc o).heap.size=w.heap.size+1:=by rw [heap_alloc];simp
theorem Alike.alloc(w:World)(o:Obj):Alike w (w.alloc o) where
  size:=by rw [size_alloc];omega
  cell a ha:=by
    have:(w.heap.push o)[a.block]? =w.heap[a.block]? :=by rw [Array.getElem?_push];simp;omega
    simp only [World.cell?,heap_alloc,this]
  frozen a ha:=by
    have:(w.heap.push o)[a.block]? =w.heap[a.block]? :=by rw [Array.getElem?_push];simp;omega
    simp only [World.frozen?,heap_alloc,this]
  mark b hb:=markOf_of (by rw [heap_alloc,Array.getElem?_push];simp;omega)
def Map.add(φ:Map)(id:Nat)(v:Nat)(p:Place):Map:=fun i u=>if i=id∧u=v then some p else φ i u
theorem Map.add_self(φ:Map)(id v:Nat)(p:Place):φ.add id v p id v=some p:=by simp [Map.add]
theorem Map.le_add(φ:Map){id v:Nat}(p:Place)(h:φ id v=none):φ.le (φ.add id v p):=by
  intro i u q hq
  simp only [Map.add]
  split
  · rename_i e;obtain⟨rfl,rfl⟩:=e;rw [h]at hq;cases hq
  · exact hq
theorem Map.add_ro(φ:Map){id v:Nat}(p:Place)(hr:p.ro=false): ∀ i u q,(φ.add id v p) i u=some q→q.ro=true→φ i u=some q:=by
  intro i u q hq hqr
  unfold Map.add at hq
  split at hq
  · simp only [Option.some.injEq]at hq;subst hq;rw [hr]at hqr;cases hqr
  · exact hq
theorem Ext.add(φ:Map){id v:Nat}(p:Place)(h:φ id v=none)(n:Nat)(hr:p.ro=false:=by rfl):Ext φ (φ.add id v p) n id where
  le:=φ.le_add p h
  new i hi hne hn u:=by simp [Map.add,hne,hn u]
  ro:=φ.add_ro p hr
def flat(l:List AVal):List AVal:=l.flatMap AVal.cells
theorem flat_get {es:Nat} : ∀ {l:List AVal} (hl: ∀ e∈l,e.cells.length=es) {i j:Nat} {e x:AVal},l[i]? =some e→e.cells[j]? =some x→(flat l)[i*es+j]? =some x
  | [],hl,i,j,e,x,h,k=>by simp at h
  | a ::r,hl,i,j,e,x,h,k=>by
    have ha:a.cells.length=es:=hl a (by simp)
    cases i with
    | zero =>
      simp at h;subst h
      simp only [flat,List.flatMap_cons,Nat.zero_mul,Nat.zero_add]
      rw [List.getElem?_append_left (List.getElem?_eq_some_iff.1 k).1];exact k
    | succ i =>
      simp at h
      have ih:=flat_get (l:=r) (fun e he=>hl e (by simp [he])) h k
      simp only [flat,List.flatMap_cons]at ih ⊢
      rw [List.getElem?_append_right (by rw [ha,Nat.succ_mul];omega),ha,show(i+1)*es+j-es=i*es+j by rw [Nat.succ_mul];omega]
      exact ih
theorem flat_length {es:Nat} : ∀ {l:List AVal} (hl: ∀ e∈l,e.cells.length=es),(flat l).length=l.length*es
  | [],_=>by simp [flat]
  | a::r,hl=>by
    have ha:a.cells.length=es:=hl a (by simp)
    have ih:=flat_length (l:=r) (fun e he=>hl e (by simp [he]))
    simp only [flat,List.flatMap_cons,List.length_append,List.length_cons]at ih ⊢
    rw [ih,ha,Nat.succ_mul];omega
theorem cell?_alloc_last(w:World)(c:Array Value)(t:TypeId)(f:Nat×Nat)(o:Nat):(w.alloc (.cells c t f)).cell? ⟨w.heap.size,o,none⟩=c[o]? :=by
  simp [World.cell?,heap_alloc]
theorem frozen?_alloc_last(w:World)(c:Array Value)(t:TypeId)(o:Nat):(w.alloc (.cells c t)).frozen? ⟨w.heap.size,o,none⟩=false:=by
  simp [World.frozen?,heap_alloc]
theorem HRel.made {φ:Map} {N0:Nat→Prop} {h:AHeap} {w:World} (r:HRel φ N0 h w) {nid:Nat} (hid: ∀ v,φ nid v=none) (hn:nid<h.next) (hN:Low N0 w.heap.size)
    {l:List AVal} {es:Nat} (hes:0<es) (hl: ∀ e∈l,e.cells.length=es) {c:Array Value} {t:TypeId} {tot:Nat} {ex:Bool}
    (hc:VRels φ (flat l) (c.toList.take (l.length*es))) (hsz:tot*es≤c.size) (htot:l.length≤tot) (hone: ∀ x∈c.toList.take (l.length*es),x.oneCell'=true) {ty:Option (TypeId×Nat)} (hty: ∀ q,ty=some q→q.1=t∧(q.2≠0→c.size=q.2)) :
    HRel (φ.add nid 0 ⟨w.heap.size,0,0,es,tot,ex,false⟩) N0 (h.set nid (.made l es ex ty)) (w.alloc (.cells c t)):=by
  have hle:=φ.le_add (id:=nid) (v:=0) ⟨w.heap.size,0,0,es,tot,ex,false⟩ (hid 0)
  constructor
  · intro i v p hp
    simp only [Map.add]at hp
    split at hp
    · rename_i e;obtain⟨rfl,rfl⟩:=e
      simp at hp;subst hp
      refine⟨hn,.made l es ex ty,AHeap.get_set_self _ _ _,Nat.le_refl _,rfl,rfl,fun _=>rfl,hes,?_⟩
      constructor
      · rw [size_alloc];simp
      · intro _;exact hN.no
      · intro o ho
        simp only at ho ⊢
        rw [cell?_alloc_last,Nat.zero_add,Array.getElem?_eq_getElem (by omega)];rfl
      · intro _ o ho;exact frozen?_alloc_last _ _ _ _
      · intro _;exact⟨t,c.size,0,0,by simp [markOf,heap_alloc],.inl rfl⟩
      · intro t' ht;exact⟨c.size,0,0,by rw [(hty t' ht).1];simp [markOf,heap_alloc],(hty t' ht).2,rfl⟩
      · intro i e _ hi he
        rw [ABlk.lim_made]at hi
        simp at hi
        have he':l[i]? =some e:=he
        have hm:e∈l:=List.mem_of_getElem? he'
        refine⟨hl e hm,by simp only;omega,fun j x' hx=> ?_⟩
        have hf:=flat_get hl he' hx
        obtain⟨x,hx1,hx2⟩:=hc.get hf
        refine⟨x,?_,hx2.mono hle,hone x (List.mem_of_getElem? hx1)⟩
        simp only [Place.at,Nat.sub_zero,Nat.zero_add]
        rw [cell?_alloc_last]
        rw [List.getElem?_take]at hx1
        split at hx1
        · simpa using hx1
        · simp at hx1
    · obtain⟨h1,b,h2,h3,h4,h5,h6,h7,h8⟩:=r.dom i v p hp
      have hne:nid≠i:=by intro e;subst e;rw [hid v]at hp;cases hp
      exact⟨h1,b,by rw [AHeap.get_set_ne _ _ hne];exact h2,h3,h4,h5,h6,h7,(h8.alike (Alike.alloc _ _)).mono hle⟩
  · intro i v p j u q hp hq hb hij
    simp only [Map.add]at hp hq
    split at hp<;>split at hq
    · rename_i e1 e2;exact absurd (e1.1.trans e2.1.symm) hij
    · simp at hp;subst hp
      obtain⟨_,b,_,_,_,_,_,_,h8⟩:=r.dom j u q hq
      have:=h8.blk
      simp only at hb;omega
    · simp at hq;subst hq
      obtain⟨_,b,_,_,_,_,_,_,h8⟩:=r.dom i v p hp
      have:=h8.blk
      simp only at hb;omega
    · exact r.apart i v p j u q hp hq hb hij
  · intro i v p u q hp hq hb
    simp only [Map.add]at hp hq
    split at hp<;>split at hq
    · simp at hp hq;subst hp hq;exact⟨rfl,rfl⟩
    · simp at hp;subst hp
      obtain⟨_,b,_,_,_,_,_,_,h8⟩:=r.dom i u q hq
      have:=h8.blk
      simp only at hb;omega
    · simp at hq;subst hq
      obtain⟨_,b,_,_,_,_,_,_,h8⟩:=r.dom i v p hp
      have:=h8.blk
      simp only at hb;omega
    · exact r.same i v p u q hp hq hb
theorem HRel.madeF {φ:Map} {N0:Nat→Prop} {h:AHeap} {w:World} (r:HRel φ N0 h w) {nid:Nat} (hid: ∀ v,φ nid v=none) (hn:nid<h.next) (hN:Low N0 w.heap.size)
    {l:List AVal} {es:Nat} (hes:0<es) (hl: ∀ e∈l,e.cells.length=es) {c:Array Value} {t:TypeId} {fr:Nat×Nat} {tot:Nat} {ex:Bool}
    (hc:VRels φ (flat l) (c.toList.take (l.length*es))) (hsz:tot*es≤c.size) (htot:l.length≤tot) (hone: ∀ x∈c.toList.take (l.length*es),x.oneCell'=true) (hmk:fr.1=fr.2∨c.size≤fr.1) {ty:Option (TypeId×Nat)} (hty: ∀ q,ty=some q→q.1=t∧(q.2≠0→c.size=q.2)) :
    HRel (φ.add nid 0 ⟨w.heap.size,0,0,es,tot,ex,false⟩) N0 (h.set nid (.made l es ex ty)) (w.alloc (.cells c t fr)):=by
  have hle:=φ.le_add (id:=nid) (v:=0) ⟨w.heap.size,0,0,es,tot,ex,false⟩ (hid 0)
  constructor
  · intro i v p hp
    simp only [Map.add]at hp
    split at hp
    · rename_i e;obtain⟨rfl,rfl⟩:=e
      simp at hp;subst hp
      refine⟨hn,.made l es ex ty,AHeap.get_set_self _ _ _,Nat.le_refl _,rfl,rfl,fun _=>rfl,hes,?_⟩
      constructor
      · rw [size_alloc];simp
      · intro _;exact hN.no
      · intro o ho
        simp only at ho ⊢
        rw [cell?_alloc_last,Nat.zero_add,Array.getElem?_eq_getElem (by omega)];rfl
      · intro _ o ho
        simp only at ho ⊢
        rw [Nat.zero_add]
        simp only [World.frozen?,heap_alloc,Array.getElem?_push_size]
        obtain⟨f1,f2⟩:=fr
        simp only at hmk ⊢
        simp;omega
      · intro _;exact⟨t,c.size,fr.1,fr.2,by simp [markOf,heap_alloc],hmk⟩
      · intro t' ht;exact⟨c.size,fr.1,fr.2,by rw [(hty t' ht).1];simp [markOf,heap_alloc],(hty t' ht).2,rfl⟩
      · intro i e _ hi he
        rw [ABlk.lim_made]at hi
        simp at hi
        have he':l[i]? =some e:=he
        have hm:e∈l:=List.mem_of_getElem? he'
        refine⟨hl e hm,by simp only;omega,fun j x' hx=> ?_⟩
        have hf:=flat_get hl he' hx
        obtain⟨x,hx1,hx2⟩:=hc.get hf
        refine⟨x,?_,hx2.mono hle,hone x (List.mem_of_getElem? hx1)⟩
        simp only [Place.at,Nat.sub_zero,Nat.zero_add]
        rw [cell?_alloc_last]
        rw [List.getElem?_take]at hx1
        split at hx1
        · simpa using hx1
        · simp at hx1
    · obtain⟨h1,b,h2,h3,h4,h5,h6,h7,h8⟩:=r.dom i v p hp
      have hne:nid≠i:=by intro e;subst e;rw [hid v]at hp;cases hp
      exact⟨h1,b,by rw [AHeap.get_set_ne _ _ hne];exact h2,h3,h4,h5,h6,h7,(h8.alike (Alike.alloc _ _)).mono hle⟩
  · intro i v p j u q hp hq hb hij
    simp only [Map.add]at hp hq
    split at hp<;>split at hq
    · rename_i e1 e2;exact absurd (e1.1.trans e2.1.symm) hij
    · simp at hp;subst hp
      obtain⟨_,b,_,_,_,_,_,_,h8⟩:=r.dom j u q hq
      have:=h8.blk
      simp only at hb;omega
    · simp at hq;subst hq
      obtain⟨_,b,_,_,_,_,_,_,h8⟩:=r.dom i v p hp
      have:=h8.blk
      simp only at hb;omega
    · exact r.apart i v p j u q hp hq hb hij
  · intro i v p u q hp hq hb
    simp only [Map.add]at hp hq
    split at hp<;>split at hq
    · simp at hp hq;subst hp hq;exact⟨rfl,rfl⟩
    · simp at hp;subst hp
      obtain⟨_,b,_,_,_,_,_,_,h8⟩:=r.dom i u q hq
      have:=h8.blk
      simp only at hb;omega
    · simp at hq;subst hq
      obtain⟨_,b,_,_,_,_,_,_,h8⟩:=r.dom i v p hp
      have:=h8.blk
      simp only at hb;omega
    · exact r.same i v p u q hp hq hb
end
end Go.Lift
namespace Go.Lift
noncomputable section
theorem putAll_length: ∀ (vs l:List AVal) (i:Nat),(putAll l i vs).length=l.length
  | [],l,i=>rfl
  | v::vs,l,i=>by simp [putAll,putAll_length vs]
theorem putAll_get: ∀ (vs l:List AVal) (i k:Nat),(putAll l i vs)[k]? =if i≤k∧k<i+vs.length∧k<l.length then vs[k-i]? else l[k]?
  | [],l,i,k=>by
    simp only [putAll,List.length_nil,Nat.add_zero]
    rw [if_neg (by omega)]
  | v ::vs,l,i,k=>by
    simp only [putAll,List.length_cons]
    rw [putAll_get vs (l.set i v) (i+1) k,List.length_set]
    by_cases hk:i=k
    · subst hk
      rw [if_neg (by omega)]
      by_cases hl:i<l.length
      · rw [if_pos (by omega),List.getElem?_set_self hl];simp
      · rw [if_neg (by omega),List.getElem?_eq_none (by simpa using hl),List.getElem?_eq_none (by omega)]
    · rw [List.getElem?_set_ne hk]
      by_cases h:i+1≤k∧k<i+1+vs.length∧k<l.length
      · rw [if_pos h,if_pos (by omega),show k-i=k- (i+1)+1 by omega];simp
      · rw [if_neg h,if_neg (by omega)]
theorem World.size_setCells(b:Nat): ∀ (vs:List Value) (o:Nat) (w:World),(w.setCells b o vs).heap.size=w.heap.size
  | [],_,_=>rfl
  | v::r,o,w=>by rw [World.setCells,World.size_setCells b r];exact World.size_setCell _ _ _
theorem markOf_setCell (w:World) (a:Addr) (v:Value) (k:Nat):markOf (w.setCell a v) k=markOf w k:=by
  unfold markOf World.setCell
  simp only [Array.getElem?_modify]
  by_cases h:a.block=k
  · subst h
    simp only [if_true]
    cases hh:w.heap[a.block]? with
    | none=>rfl
    | some o =>
      cases o
      case cells c t f =>
        obtain⟨lo,hi⟩:=f
        simp only [Option.map_some]
        split<;>simp
      all_goals rfl
  · rw [if_neg h]
theorem Unmarked.setCells {w:World}{k:Nat}(h:Unmarked w k)(b o:Nat): ∀ (vs:List Value),Unmarked (w.setCells b o vs) k:=by
  intro vs
  induction vs generalizing w o with
  | nil=>exact h
  | cons v r ih=>exact ih (h.of_eq (markOf_setCell _ _ _ _)) _
theorem markOf_setCells {w:World}(k b o:Nat): ∀ (vs:List Value),markOf (w.setCells b o vs) k=markOf w k:=by
  intro vs
  induction vs generalizing w o with
  | nil=>rfl
  | cons v r ih=>exact(ih _).trans (markOf_setCell _ _ _ _)
theorem cell_lt {i j es tot:Nat}(hi:i<tot)(hj:j<es):i*es+j<tot*es:=by
  have h:(i+1)*es≤tot*es:=Nat.mul_le_mul_right es hi
  rw [Nat.succ_mul]at h;omega
theorem row_lt {i k j es:Nat}(hi:i<k)(hj:j<es):i*es+j<k*es:=cell_lt hi hj
theorem HRel.wrote {φ:Map} {N0:Nat→Prop} {h:AHeap} {w:World} (r:HRel φ N0 h w) {id:Nat} {b:ABlk} {p:Place} (hp:φ id b.ver=some p) (hb:h.get id=some b)
    (hro:b.ro=false) {l:List AVal} (hl:l.length=b.elems.length) {o:Nat} {vs:List Value}
    (hc: ∀ i e,p.lo≤i→l[i]? =some e→e.cells.length=p.es∧ ∀ j x',e.cells[j]? =some x'→ ∃ x,(w.setCells p.blk o vs).cell? (p.at i j)=some x∧VRel φ x' x∧x.oneCell'=true) :
    HRel φ N0 (h.set id {b with elems:=l,minVer:=b.ver}) (w.setCells p.blk o vs):=by
  constructor
  · intro i v q hq
    obtain⟨h1,c,h2,h3,h4,h5,h6,h7,h8⟩:=r.dom i v q hq
    have hsz:=World.size_setCells p.blk vs o w
    by_cases hi:i=id
    · subst hi
      rw [hb]at h2;simp at h2;subst h2
      refine⟨h1,_,AHeap.get_set_self _ _ _,h3,h4,h5,h6,h7,⟨by rw [hsz];exact h8.blk,h8.base,fun o' ho'=>World.isSome_setCells _ _ _ _ _ (h8.cells o' ho'),fun h9 o' ho'=>by rw [World.frozen?_setCells];exact h8.free h9 o' ho',fun h9=>(h8.mark h9).setCells _ _ _,fun t9 h9=>by rw [markOf_setCells];exact h8.shp t9 h9,?_⟩⟩
      intro k e hk1 hk2 hk3
      simp only [ABlk.lim]at hk2
      by_cases hv:v=b.ver
      · subst hv
        rw [hp]at hq;simp at hq;subst hq
        rw [if_pos rfl]at hk2
        obtain⟨e',he'⟩: ∃ e',b.elems[k]? =some e':=⟨_,List.getElem?_eq_getElem (by simpa [hl]using hk2)⟩
        have:=h8.cont k e' hk1 (by simpa [ABlk.lim,hl]using hk2) he'
        exact⟨(hc k e hk1 hk3).1,this.2.1,(hc k e hk1 hk3).2⟩
      · exfalso
        rw [if_neg hv]at hk2
        rw [if_neg (by omega)]at hk2
        omega
    · have hne:p.blk≠q.blk:=by
        intro e
        have:=r.apart id b.ver p i v q hp hq e (fun e=>hi e.symm)
        obtain⟨_,b',h2',_,_,_,h6',_,_⟩:=r.dom id b.ver p hp
        rw [hb]at h2';simp at h2';subst h2'
        rw [h6' hro]at this;simp at this
      refine⟨h1,c,by rw [AHeap.get_set_ne _ _ (fun e=>hi e.symm)];exact h2,h3,h4,h5,h6,h7,?_⟩
      have hcell: ∀ a:Addr,a.block=q.blk→(w.setCells p.blk o vs).cell? a=w.cell? a:=fun a ha=>World.cell?_setCells_out _ _ _ _ _ (fun hh _=>absurd (hh.symm.trans ha) hne)
      refine⟨by rw [hsz];exact h8.blk,h8.base,fun o' ho'=>by rw [hcell _ rfl];exact h8.cells o' ho',fun h9 o' ho'=>by rw [World.frozen?_setCells];exact h8.free h9 o' ho',fun h9=>(h8.mark h9).setCells _ _ _,fun t9 h9=>by rw [markOf_setCells];exact h8.shp t9 h9,?_⟩
      intro k e hk1 hk2 hk3
      obtain⟨h10,h11,h12⟩:=h8.cont k e hk1 hk2 hk3
      refine⟨h10,h11,fun j x' hx=> ?_⟩
      obtain⟨x,hx1,hx2⟩:=h12 j x' hx
      exact⟨x,by rw [hcell _ rfl];exact hx1,hx2⟩
  · exact r.apart
  · exact r.same
theorem HRel.store {φ:Map} {N0:Nat→Prop} {h:AHeap} {w:World} (r:HRel φ N0 h w) {id:Nat} {b:ABlk} {p:Place} (hp:φ id b.ver=some p) (hb:h.get id=some b)
    (hro:b.ro=false) {idx fld:Nat} {e e':AVal} {cs:List AVal} {vs:List Value} (hlo:p.lo≤idx) (he:b.elems[idx]? =some e)
    (hcs:VRels φ cs vs) (hone: ∀ x∈vs,x.oneCell'=true) (hfit:fld+cs.length≤p.es) (hlen:e'.cells=putAll e.cells fld cs) :
    HRel φ N0 (h.set id {b with elems:=b.elems.set idx e',minVer:=b.ver}) (w.setCells p.blk (p.off+(idx-p.lo)*p.es+fld) vs)
    ∧w.there p.blk (p.off+(idx-p.lo)*p.es+fld) vs.length:=by
  obtain⟨h1,c,h2,h3,h4,h5,h6,h7,h8⟩:=r.dom id b.ver p hp
  rw [hb]at h2;simp at h2;subst h2
  have hidx:idx<b.elems.length:=(List.getElem?_eq_some_iff.1 he).1
  have hlim:b.lim b.ver=b.elems.length:=by simp [ABlk.lim]
  obtain⟨c1,c2,c3⟩:=h8.cont idx e hlo (by rw [hlim];exact hidx) he
  have hvl:vs.length=cs.length:=hcs.length
  have hthere:w.there p.blk (p.off+(idx-p.lo)*p.es+fld) vs.length:=by
    intro j hj
    have hb:(idx-p.lo)*p.es+(fld+j)<p.tot*p.es:=cell_lt c2 (by omega)
    have k1:=h8.cells _ hb
    have k2:=h8.free hro _ hb
    have e1:p.off+(idx-p.lo)*p.es+fld+j=p.off+((idx-p.lo)*p.es+(fld+j)):=by omega
    rw [e1];exact⟨k1,k2⟩
  refine⟨?_,hthere⟩
  refine r.wrote hp hb hro (by simp) fun i f hi hf=> ?_
  by_cases hii:idx=i
  · subst hii
    rw [List.getElem?_set_self hidx]at hf
    simp at hf;subst hf
    refine⟨by rw [hlen,putAll_length];exact c1,fun j x' hx=> ?_⟩
    rw [hlen,putAll_get]at hx
    split at hx
    · rename_i hc
      obtain⟨x,hx1,hx2⟩:=hcs.get hx
      have hjj:j-fld<vs.length:=by omega
      have:=World.cell?_setCells_in p.blk vs (p.off+(idx-p.lo)*p.es+fld) w (fun k hk=>(hthere k hk).1) (j-fld) hjj
      refine⟨x,?_,hx2,hone x (List.mem_of_getElem? hx1)⟩
      rw [List.getElem?_eq_getElem hjj]at hx1
      simp at hx1
      rw [Place.at,show p.off+(idx-p.lo)*p.es+j=p.off+(idx-p.lo)*p.es+fld+(j-fld)by omega,this,hx1]
    · rename_i hc
      obtain⟨x,hx1,hx2⟩:=c3 j x' hx
      refine⟨x,?_,hx2⟩
      have hj:j<e.cells.length:=(List.getElem?_eq_some_iff.1 hx).1
      rw [World.cell?_setCells_out _ _ _ _ _ (fun _ _=> ?_)]
      · exact hx1
      · simp only [Place.at];omega
  · rw [List.getElem?_set_ne hii]at hf
    have hi':i<b.elems.length:=(List.getElem?_eq_some_iff.1 hf).1
    obtain⟨d1,d2,d3⟩:=h8.cont i f hi (by rw [hlim];exact hi') hf
    refine⟨d1,fun j x' hx=> ?_⟩
    obtain⟨x,hx1,hx2⟩:=d3 j x' hx
    refine⟨x,?_,hx2⟩
    have hj:j<f.cells.length:=(List.getElem?_eq_some_iff.1 hx).1
    rw [World.cell?_setCells_out _ _ _ _ _ (fun _ _=> ?_)]
    · exact hx1
    · simp only [Place.at]
      rcases Nat.lt_or_ge i idx with hlt | hge
      · left
        have:=row_lt (i:=i-p.lo) (k:=idx-p.lo) (j:=j) (es:=p.es) (by omega) (by omega)
        omega
      · right
        have:=row_lt (i:=idx-p.lo) (k:=i-p.lo) (j:=fld+vs.length-1) (es:=p.es) (by omega) (by omega)
        omega
theorem flat_split {es:Nat} : ∀ {l:List AVal} (hl: ∀ e∈l,e.cells.length=es) (k:Nat),k<(flat l).length→ ∃ i j e,k=i*es+j∧l[i]? =some e∧j<es
  | [],hl,k,h=>by simp [flat]at h
  | a ::r,hl,k,h=>by
    have ha:a.cells.length=es:=hl a (by simp)
    by_cases hk:k<es
    · exact⟨0,k,a,by simp,by simp,hk⟩
    · obtain⟨i,j,e,h1,h2,h3⟩:=flat_split (l:=r) (fun e he=>hl e (by simp [he])) (k-es) (by simp only [flat,List.flatMap_cons,List.length_append]at h ⊢; omega)
      exact⟨i+1,j,e,by rw [Nat.succ_mul];omega,by simpa using h2,h3⟩
theorem HRel.putMany {φ:Map} {N0:Nat→Prop} {h:AHeap} {w:World} (r:HRel φ N0 h w) {id:Nat} {b:ABlk} {p:Place} (hp:φ id b.ver=some p) (hb:h.get id=some b)
    (hro:b.ro=false) {idx:Nat} {l:List AVal} {vs:List Value} (hlo:p.lo≤idx) (hlt:idx+l.length≤b.elems.length) (hne:l≠ [])
    (hl: ∀ e∈l,e.cells.length=p.es) (hvs:VRels φ (flat l) vs) (hone: ∀ x∈vs,x.oneCell'=true) :
    HRel φ N0 (h.set id (b.put idx l)) (w.setCells p.blk (p.off+(idx-p.lo)*p.es) vs)
    ∧w.there p.blk (p.off+(idx-p.lo)*p.es) vs.length:=by
  obtain⟨h1,c,h2,h3,h4,h5,h6,h7,h8⟩:=r.dom id b.ver p hp
  rw [hb]at h2;simp at h2;subst h2
  have hlim:b.lim b.ver=b.elems.length:=by simp [ABlk.lim]
  have hvl:vs.length=l.length*p.es:=by rw [hvs.length,flat_length hl]
  have hl0:0<l.length:=List.length_pos_iff.2 hne
  have hlast:idx+l.length-1-p.lo<p.tot:=by
    have hlt':idx+l.length-1<b.elems.length:=by omega
    exact(h8.cont (idx+l.length-1) _ (by omega) (by rw [hlim];exact hlt') (List.getElem?_eq_getElem hlt')).2.1
  have hmul:(idx-p.lo+l.length)*p.es≤p.tot*p.es:=Nat.mul_le_mul_right _ (by omega)
  rw [Nat.add_mul]at hmul
  have hthere:w.there p.blk (p.off+(idx-p.lo)*p.es) vs.length:=by
    intro j hj
    have hb:(idx-p.lo)*p.es+j<p.tot*p.es:=by omega
    have e1:p.off+(idx-p.lo)*p.es+j=p.off+((idx-p.lo)*p.es+j):=by omega
    rw [e1];exact⟨h8.cells _ hb,h8.free hro _ hb⟩
  refine⟨?_,hthere⟩
  refine r.wrote hp hb hro (by simp [putAll_length]) fun i f hi hf=> ?_
  rw [putAll_get]at hf
  split at hf
  · rename_i hc
    have hm:f∈l:=List.mem_of_getElem? hf
    refine⟨hl f hm,fun j x' hx=> ?_⟩
    have hj:j<p.es:=by rw [← hl f hm];exact(List.getElem?_eq_some_iff.1 hx).1
    have hg:=flat_get hl hf hx
    obtain⟨x,hx1,hx2⟩:=hvs.get hg
    refine⟨x,?_,hx2,hone x (List.mem_of_getElem? hx1)⟩
    have hjj:(i-idx)*p.es+j<vs.length:=by rw [hvl];exact cell_lt (by omega) hj
    have:=World.cell?_setCells_in p.blk vs (p.off+(idx-p.lo)*p.es) w (fun k hk=>(hthere k hk).1) _ hjj
    rw [List.getElem?_eq_getElem hjj]at hx1
    simp at hx1
    have e2:(i-p.lo)*p.es=(idx-p.lo)*p.es+(i-idx)*p.es:=by rw [← Nat.add_mul];congr 1;omega
    rw [Place.at,show p.off+(i-p.lo)*p.es+j=p.off+(idx-p.lo)*p.es+((i-idx)*p.es+j)by omega,this,hx1]
  · rename_i hc
    have hi':i<b.elems.length:=(List.getElem?_eq_some_iff.1 hf).1
    obtain⟨d1,d2,d3⟩:=h8.cont i f hi (by rw [hlim];exact hi') hf
    refine⟨d1,fun j x' hx=> ?_⟩
    obtain⟨x,hx1,hx2⟩:=d3 j x' hx
    refine⟨x,?_,hx2⟩
    have hj:j<f.cells.length:=(List.getElem?_eq_some_iff.1 hx).1
    rw [World.cell?_setCells_out _ _ _ _ _ (fun _ _=> ?_)]
    · exact hx1
    · simp only [Place.at]
      rcases Nat.lt_or_ge i idx with hlt | hge
      · left
        have:=row_lt (i:=i-p.lo) (k:=idx-p.lo) (j:=j) (es:=p.es) (by omega) (by omega)
        omega
      · right
        have:=Nat.mul_le_mul_right p.es (show idx-p.lo+l.length≤i-p.lo by omega)
        rw [Nat.add_mul]at this
        omega
theorem ABlk.lim_grow_eq(b:ABlk)(new:List AVal)(v:Nat):(b.grow new).lim v =
    if v=b.ver+1 then b.elems.length+new.length else if b.minVer≤v∧v<b.ver+1 then(if b.minVer=b.ver then b.elems.length else min b.forkLen b.elems.length)else 0:=by
  rw [← List.length_append];rfl
theorem ABlk.lim_grow(b:ABlk)(new:List AVal)(v:Nat)(h:v≤b.ver):(b.grow new).lim v≤b.lim v∧(b.grow new).lim v≤b.elems.length:=by
  rw [ABlk.lim_grow_eq]
  unfold ABlk.lim
  rw [if_neg (by omega)]
  constructor<;>(repeat' split)<;>omega
theorem ABlk.lim_grow_self(b:ABlk)(new:List AVal):(b.grow new).lim (b.ver+1)=b.elems.length+new.length:=by
  rw [ABlk.lim_grow_eq,if_pos rfl]
theorem HRel.growNew {φ:Map} {N0:Nat→Prop} {h:AHeap} {w:World} (r:HRel φ N0 h w) {id:Nat} {b:ABlk} {p:Place} (hp:φ id b.ver=some p) (hb:h.get id=some b)
    (hro:b.ro=false) (hex:b.exact=false) (hN:Low N0 w.heap.size) {idx:Nat} {new:List AVal} (hidx:idx≤b.elems.length)
    (hold: ∀ e∈b.elems.drop idx,e.cells.length=b.es) (hnew: ∀ e∈new,e.cells.length=b.es)
    {c:Array Value} {t:TypeId} {tot:Nat} (hc:VRels φ (flat (b.elems.drop idx++new)) (c.toList.take ((b.elems.drop idx++new).length*b.es)))
    (hsz:tot*b.es≤c.size) (htot:(b.elems.drop idx++new).length≤tot)
    (hone: ∀ x∈c.toList.take ((b.elems.drop idx++new).length*b.es),x.oneCell'=true) (hty: ∀ q,b.ty=some q→q.1=t∧(q.2≠0→c.size=q.2)) :
    HRel (φ.add id (b.ver+1) ⟨w.heap.size,0,idx,b.es,tot,false,false⟩) N0 (h.set id (b.grow new)) (w.alloc (.cells c t)):=by
  have hnone:φ id (b.ver+1)=none:=by
    cases hq:φ id (b.ver+1)with
    | none=>rfl
    | some q=>obtain⟨_,b',h2,h3,_⟩:=r.dom _ _ _ hq;rw [hb]at h2;simp at h2;subst h2;omega
  have hle:=φ.le_add (id:=id) (v:=b.ver+1) ⟨w.heap.size,0,idx,b.es,tot,false,false⟩ hnone
  obtain⟨g1,b',g2,g3,g4,g5,g6,g7,g8⟩:=r.dom id b.ver p hp
  rw [hb]at g2;simp at g2;subst g2
  constructor
  · intro i v q hq
    simp only [Map.add]at hq
    split at hq
    · rename_i e;obtain⟨rfl,rfl⟩:=e
      simp at hq;subst hq
      refine⟨g1,b.grow new,AHeap.get_set_self _ _ _,Nat.le_refl _,rfl,hex.symm,fun _=>rfl,by rw [← g4];exact g7,?_⟩
      constructor
      · rw [size_alloc];simp
      · intro _;exact hN.no
      · intro o ho
        simp only at ho ⊢
        rw [cell?_alloc_last,Nat.zero_add,Array.getElem?_eq_getElem (by omega)];rfl
      · intro _ o ho;exact frozen?_alloc_last _ _ _ _
      · intro _;exact⟨t,c.size,0,0,by simp [markOf,heap_alloc],.inl rfl⟩
      · intro t' ht;exact⟨c.size,0,0,by rw [(hty t' ht).1];simp [markOf,heap_alloc],(hty t' ht).2,rfl⟩
      · intro k e hk1 hk2 hk3
        rw [ABlk.lim_grow_self]at hk2
        have hlen:(b.elems.drop idx++new).length=b.elems.length-idx+new.length:=by simp
        have hall: ∀ e∈b.elems.drop idx++new,e.cells.length=b.es:=fun e he=>by
          rcases List.mem_append.1 he with he | he
          · exact hold e he
          · exact hnew e he
        have hk3':(b.elems++new)[k]? =some e:=hk3
        have hk4:(b.elems.drop idx++new)[k-idx]? =some e:=by
          simp only at hk1
          by_cases hkl:k<b.elems.length
          · rw [List.getElem?_append_left hkl]at hk3'
            rw [List.getElem?_append_left (by simp;omega),List.getElem?_drop,show idx+(k-idx)=k by omega];exact hk3'
          · rw [List.getElem?_append_right (by omega)]at hk3'
            rw [List.getElem?_append_right (by simp;omega),List.length_drop,show k-idx- (b.elems.length-idx)=k-b.elems.length by omega];exact hk3'
        have hm:=List.mem_of_getElem? hk4
        refine⟨hall e hm,by simp only at hk1 ⊢; omega,fun j x' hx=> ?_⟩
        have hf:=flat_get hall hk4 hx
        obtain⟨x,hx1,hx2⟩:=hc.get hf
        refine⟨x,?_,hx2.mono hle,hone x (List.mem_of_getElem? hx1)⟩
        simp only [Place.at,Nat.zero_add]
        rw [cell?_alloc_last]
        rw [List.getElem?_take]at hx1
        split at hx1
        · simpa using hx1
        · simp at hx1
    · obtain⟨h1,c',h2,h3,h4,h5,h6,h7,h8⟩:=r.dom i v q hq
      by_cases hi:i=id
      · subst hi
        rw [hb]at h2;simp at h2;subst h2
        have h8':=(h8.alike (Alike.alloc w (.cells c t))).mono hle
        have hlim:=ABlk.lim_grow b new v h3
        refine⟨h1,b.grow new,AHeap.get_set_self _ _ _,by simp only [ABlk.grow];omega,h4,h5,h6,h7,⟨h8'.blk,h8'.base,h8'.cells,h8'.free,h8'.mark,h8'.shp,fun k e hk1 hk2 hk3=>h8'.cont k e hk1 (by omega) ?_⟩⟩
        have hk3':(b.elems++new)[k]? =some e:=hk3
        rwa [List.getElem?_append_left (by omega)]at hk3'
      · exact⟨h1,c',by rw [AHeap.get_set_ne _ _ (fun e=>hi e.symm)];exact h2,h3,h4,h5,h6,h7,(h8.alike (Alike.alloc _ _)).mono hle⟩
  · intro i v q j u q' hq hq' hbq hij
    simp only [Map.add]at hq hq'
    split at hq<;>split at hq'
    · rename_i e1 e2;exact absurd (e1.1.trans e2.1.symm) hij
    · simp at hq;subst hq
      obtain⟨_,_,_,_,_,_,_,_,h8⟩:=r.dom j u q' hq'
      have:=h8.blk
      simp only at hbq;omega
    · simp at hq';subst hq'
      obtain⟨_,_,_,_,_,_,_,_,h8⟩:=r.dom i v q hq
      have:=h8.blk
      simp only at hbq;omega
    · exact r.apart i v q j u q' hq hq' hbq hij
  · intro i v q u q' hq hq' hbq
    simp only [Map.add]at hq hq'
    split at hq<;>split at hq'
    · simp at hq hq';subst hq hq';exact⟨rfl,rfl⟩
    · simp at hq;subst hq
      obtain⟨_,_,_,_,_,_,_,_,h8⟩:=r.dom i u q' hq'
      have:=h8.blk
      simp only at hbq;omega
    · simp at hq';subst hq'
      obtain⟨_,_,_,_,_,_,_,_,h8⟩:=r.dom i v q hq
      have:=h8.blk
      simp only at hbq;omega
    · exact r.same i v q u q' hq hq' hbq
theorem HRel.growHere {φ:Map} {N0:Nat→Prop} {h:AHeap} {w:World} (r:HRel φ N0 h w) {id:Nat} {b:ABlk} {p:Place} (hp:φ id b.ver=some p) (hb:h.get id=some b)
    (hro:b.ro=false) {new:List AVal} {vs:List Value} (hlo:p.lo≤b.elems.length) (hroom:b.elems.length-p.lo+new.length≤p.tot)
    (hnew: ∀ e∈new,e.cells.length=p.es) (hvs:VRels φ (flat new) vs) (hone: ∀ x∈vs,x.oneCell'=true) :
    HRel (φ.add id (b.ver+1) p) N0 (h.set id (b.grow new)) (w.setCells p.blk (p.off+(b.elems.length-p.lo)*p.es) vs)
    ∧w.there p.blk (p.off+(b.elems.length-p.lo)*p.es) vs.length:=by
  have hnone:φ id (b.ver+1)=none:=by
    cases hq:φ id (b.ver+1)with
    | none=>rfl
    | some q=>obtain⟨_,b',h2,h3,_⟩:=r.dom _ _ _ hq;rw [hb]at h2;simp at h2;subst h2;omega
  have hle:=φ.le_add (id:=id) (v:=b.ver+1) p hnone
  obtain⟨g1,b',g2,g3,g4,g5,g6,g7,g8⟩:=r.dom id b.ver p hp
  rw [hb]at g2;simp at g2;subst g2
  have hvl:vs.length=new.length*p.es:=by rw [hvs.length,flat_length hnew]
  have hmul:(b.elems.length-p.lo+new.length)*p.es≤p.tot*p.es:=Nat.mul_le_mul_right _ hroom
  rw [Nat.add_mul]at hmul
  have hthere:w.there p.blk (p.off+(b.elems.length-p.lo)*p.es) vs.length:=by
    intro j hj
    have hb:(b.elems.length-p.lo)*p.es+j<p.tot*p.es:=by omega
    have e1:p.off+(b.elems.length-p.lo)*p.es+j=p.off+((b.elems.length-p.lo)*p.es+j):=by omega
    rw [e1];exact⟨g8.cells _ hb,g8.free hro _ hb⟩
  refine⟨?_,hthere⟩
  have hsz:=World.size_setCells p.blk vs (p.off+(b.elems.length-p.lo)*p.es) w
  have hkeep: ∀ (q:Place) (k j:Nat),q.blk=p.blk→q.off=p.off→q.lo=p.lo→q.es=p.es→k<b.elems.length→q.lo≤k→j<q.es →
      (w.setCells p.blk (p.off+(b.elems.length-p.lo)*p.es) vs).cell? (q.at k j)=w.cell? (q.at k j):=by
    intro q k j hq1 hq2 hq3 hq4 hk1 hk2 hj
    refine World.cell?_setCells_out _ _ _ _ _ (fun _ _=> .inl ?_)
    simp only [Place.at,hq2,hq3,hq4]
    have:=row_lt (i:=k-p.lo) (k:=b.elems.length-p.lo) (j:=j) (es:=p.es) (by omega) (by omega)
    omega
  have hlimv:b.lim b.ver=b.elems.length:=by simp [ABlk.lim]
  constructor
  · intro i v q hq
    simp only [Map.add]at hq
    split at hq
    · rename_i e;obtain⟨rfl,rfl⟩:=e
      simp at hq;subst hq
      refine⟨g1,b.grow new,AHeap.get_set_self _ _ _,Nat.le_refl _,g4,g5,g6,g7,⟨by rw [hsz];exact g8.blk,g8.base,fun o' ho'=>World.isSome_setCells _ _ _ _ _ (g8.cells o' ho'),fun h9 o' ho'=>by rw [World.frozen?_setCells];exact g8.free h9 o' ho',fun h9=>(g8.mark h9).setCells _ _ _,fun t9 h9=>by rw [markOf_setCells];exact g8.shp t9 h9,?_⟩⟩
      intro k e hk1 hk2 hk3
      rw [ABlk.lim_grow_self]at hk2
      have hk3':(b.elems++new)[k]? =some e:=hk3
      by_cases hkl:k<b.elems.length
      · rw [List.getElem?_append_left hkl]at hk3'
        obtain⟨d1,d2,d3⟩:=g8.cont k e hk1 (by rw [hlimv];exact hkl) hk3'
        refine⟨d1,d2,fun j x' hx=> ?_⟩
        obtain⟨x,hx1,hx2⟩:=d3 j x' hx
        have hj:j<e.cells.length:=(List.getElem?_eq_some_iff.1 hx).1
        exact⟨x,by rw [hkeep p k j rfl rfl rfl rfl hkl hk1 (by omega)];exact hx1,hx2.1.mono hle,hx2.2⟩
      · rw [List.getElem?_append_right (by omega)]at hk3'
        have hm:=List.mem_of_getElem? hk3'
        refine⟨hnew e hm,by omega,fun j x' hx=> ?_⟩
        have hj:j<p.es:=by rw [← hnew e hm];exact(List.getElem?_eq_some_iff.1 hx).1
        have hg:=flat_get hnew hk3' hx
        obtain⟨x,hx1,hx2⟩:=hvs.get hg
        refine⟨x,?_,hx2.mono hle,hone x (List.mem_of_getElem? hx1)⟩
        have hjj:(k-b.elems.length)*p.es+j<vs.length:=by rw [hvl];exact cell_lt (by have:=(List.getElem?_eq_some_iff.1 hk3').1;omega) hj
        have:=World.cell?_setCells_in p.blk vs (p.off+(b.elems.length-p.lo)*p.es) w (fun k hk=>(hthere k hk).1) _ hjj
        rw [List.getElem?_eq_getElem hjj]at hx1
        simp at hx1
        have e2:(k-p.lo)*p.es=(b.elems.length-p.lo)*p.es+(k-b.elems.length)*p.es:=by rw [← Nat.add_mul];congr 1;omega
        rw [Place.at,show p.off+(k-p.lo)*p.es+j=p.off+(b.elems.length-p.lo)*p.es+((k-b.elems.length)*p.es+j)by omega,this,hx1]
    · obtain⟨h1,c',h2,h3,h4,h5,h6,h7,h8⟩:=r.dom i v q hq
      by_cases hi:i=id
      · subst hi
        rw [hb]at h2;simp at h2;subst h2
        have hlim:=ABlk.lim_grow b new v h3
        refine⟨h1,b.grow new,AHeap.get_set_self _ _ _,by simp only [ABlk.grow];omega,h4,h5,h6,h7,⟨by rw [hsz];exact h8.blk,h8.base,fun o' ho'=>World.isSome_setCells _ _ _ _ _ (h8.cells o' ho'),fun h9 o' ho'=>by rw [World.frozen?_setCells];exact h8.free h9 o' ho',fun h9=>(h8.mark h9).setCells _ _ _,fun t9 h9=>by rw [markOf_setCells];exact h8.shp t9 h9,fun k e hk1 hk2 hk3=> ?_⟩⟩
        have hk3':(b.elems++new)[k]? =some e:=hk3
        rw [List.getElem?_append_left (by omega)]at hk3'
        obtain⟨d1,d2,d3⟩:=h8.cont k e hk1 (by omega) hk3'
        refine⟨d1,d2,fun j x' hx=> ?_⟩
        obtain⟨x,hx1,hx2⟩:=d3 j x' hx
        have hj:j<e.cells.length:=(List.getElem?_eq_some_iff.1 hx).1
        refine⟨x,?_,hx2.1.mono hle,hx2.2⟩
        by_cases hbk:q.blk=p.blk
        · obtain⟨s1,s2⟩:=r.same i v q b.ver p hq hp hbk
          rw [hkeep q k j hbk s1 s2 (by rw [h4,g4]) (by omega) hk1 (by omega)];exact hx1
        · rw [World.cell?_setCells_out _ _ _ _ _ (fun hh _=>absurd hh (by simp only [Place.at];exact hbk))];exact hx1
      · have hne:p.blk≠q.blk:=by
          intro e
          have:=r.apart id b.ver p i v q hp hq e (fun e=>hi e.symm)
          rw [g6 hro]at this;simp at this
        have hcell: ∀ a:Addr,a.block=q.blk→(w.setCells p.blk (p.off+(b.elems.length-p.lo)*p.es) vs).cell? a=w.cell? a:=fun a ha=>World.cell?_setCells_out _ _ _ _ _ (fun hh _=>absurd (hh.symm.trans ha) hne)
        refine⟨h1,c',by rw [AHeap.get_set_ne _ _ (fun e=>hi e.symm)];exact h2,h3,h4,h5,h6,h7,?_⟩
        refine⟨by rw [hsz];exact h8.blk,h8.base,fun o' ho'=>by rw [hcell _ rfl];exact h8.cells o' ho',fun h9 o' ho'=>by rw [World.frozen?_setCells];exact h8.free h9 o' ho',fun h9=>(h8.mark h9).setCells _ _ _,fun t9 h9=>by rw [markOf_setCells];exact h8.shp t9 h9,?_⟩
        intro k e hk1 hk2 hk3
        obtain⟨h10,h11,h12⟩:=h8.cont k e hk1 hk2 hk3
        refine⟨h10,h11,fun j x' hx=> ?_⟩
        obtain⟨x,hx1,hx2⟩:=h12 j x' hx
        exact⟨x,by rw [hcell _ rfl];exact hx1,hx2.1.mono hle,hx2.2⟩
  · intro i v q j u q' hq hq' hbq hij
    simp only [Map.add]at hq hq'
    split at hq<;>split at hq'
    · rename_i e1 e2;exact absurd (e1.1.trans e2.1.symm) hij
    · rename_i e1 e2;simp at hq;subst hq;exact r.apart id b.ver p j u q' hp hq' hbq (by rw [← e1.1];exact hij)
    · rename_i e1 e2;simp at hq';subst hq';exact r.apart i v q id b.ver p hq hp hbq (by rw [← e2.1];exact hij)
    · exact r.apart i v q j u q' hq hq' hbq hij
  · intro i v q u q' hq hq' hbq
    simp only [Map.add]at hq hq'
    split at hq<;>split at hq'
    · simp at hq hq';subst hq hq';exact⟨rfl,rfl⟩
    · rename_i e1 e2;simp at hq;subst hq;exact r.same id b.ver p u q' hp (by rw [← e1.1];exact hq') hbq
    · rename_i e1 e2;simp at hq';subst hq';exact r.same id v q b.ver p (by rw [← e2.1];exact hq) hp hbq
    · exact r.same i v q u q' hq hq' hbq
open Go.RowKit in
theorem below_setCells {B:Nat→Prop}{a:World}(b:Nat)(hb: ¬ B b): ∀ (vs:List Value) (o:Nat) {w:World},Safe B a w→Safe B a (w.setCells b o vs)
  | [],_,_,h=>h
  | v::r,o,w,h=>below_setCells b hb r (o+1) (h.setCell (p:=⟨b,o,none⟩) hb v)
end
end Go.Lift
namespace Go.Lift
noncomputable section
open Go.RowKit
theorem Tys.Ok.get {D:Tys}{P:Program}(h:D.Ok P){t:TypeId}{d:TyD}(hd:D t=some d) :
    ∃ i u,P.info? t=some i∧P.underlying t=some u∧d.kind=tkOf u∧d.size=i.size∧d.bytes=i.bytes∧d.zero=i.zero.map ofConst:=by
  have:=h t d hd
  unfold tyD at this
  split at this
  · rename_i i u hi hu
    simp at this;subst this
    exact⟨i,u,hi,hu,rfl,rfl,rfl,rfl⟩
  · cases this
theorem tkOf_slice {u:TypeDesc}{e:TypeId}(h:tkOf u= .slice e):u= .slice e:=by cases u<;>simp [tkOf]at h ⊢; exact h
theorem tkOf_array {u:TypeDesc}{n:Nat}{e:TypeId}(h:tkOf u= .array n e):u= .array n e:=by cases u<;>simp [tkOf]at h ⊢; exact h
theorem tkOf_string {u:TypeDesc}(h:tkOf u= .string):u= .string:=by cases u<;>simp [tkOf]at h ⊢
theorem tkOf_bool {u:TypeDesc}(h:tkOf u= .bool):u= .bool:=by cases u<;>simp [tkOf]at h ⊢
theorem tkOf_int {u:TypeDesc}{k:IntKind}(h:tkOf u= .int k):u= .int k:=by cases u<;>simp [tkOf]at h ⊢; exact h
theorem tkOf_ptr {u:TypeDesc}{e:TypeId}(h:tkOf u= .ptr e):u= .pointer e:=by cases u<;>simp [tkOf]at h ⊢; exact h
theorem tkOf_func {u:TypeDesc}(h:tkOf u= .func): ∃ a b c,u= .func a b c:=by cases u<;>simp [tkOf]at h ⊢
theorem tkOf_iface {u:TypeDesc}{o:Bool}(h:tkOf u= .iface o): ∃ ms,u= .interface ms∧o= !ms.isEmpty:=by cases u<;>simp [tkOf]at h ⊢; rw [h];simp
theorem tkOf_struct {u:TypeDesc}{l:List (Nat×TypeId)}(h:tkOf u= .struct l): ∃ fs,u= .struct fs∧l=fs.toList.map fun f=>(f.offset,f.type):=by
  cases u<;>simp [tkOf]at h ⊢; exact h.symm
theorem isAgg_run {P:Program}{t:TypeId}{u:TypeDesc}(h:P.underlying t=some u)(w:World):(isAgg t).run P w= .ok (tkOf u).isAgg w:=by
  unfold isAgg
  rw [Sem.run_bind,run_underlying h]
  cases u<;>rfl
theorem sizeOf_run {P:Program}{t:TypeId}{i:TypeInfo}(h:P.info? t=some i)(w:World):(sizeOf t).run P w= .ok i.size w:=by
  simp [sizeOf,typeInfo,h]
theorem typeInfo_run {P:Program}{t:TypeId}{i:TypeInfo}(h:P.info? t=some i)(w:World):(typeInfo t).run P w= .ok i w:=by
  simp [typeInfo,h]
theorem zero_run {P:Program}{t:TypeId}{i:TypeInfo}{z:Value}(h:P.info? t=some i)(hz:i.zero=some z)(w:World):(zeroValue t).run P w= .ok z w:=by
  simp [zeroValue,typeInfo,h,hz]
section
variable {P:Program}{φ:Map}
theorem sim_aint {op:BinOp}{k:IntKind}{x y:Int}{v:AVal}(t:TypeId)(h:aint op k x y=some v)(w:World) :
    ∃ v',(binOp op t (.int k x) (.int k y)).run P w= .ok v' w∧VRel φ v v':=by
  cases op<;>simp only [aint]at h <;>
    first
      | (cases h;done)
      | (split at h<;>first | (cases h;done) | (rename_i hy;simp at h;subst h;exact⟨_,by simp [binOp,Op.intDiv,hy];rfl,by simp only [VRel]⟩))
      | (simp at h;subst h;exact⟨_,by simp [binOp,Op.intArith,Op.intBits,Op.intCmp];rfl,by simp only [VRel]⟩)
theorem sim_ashift {op:BinOp}{k k':IntKind}{x y:Int}{v:AVal}(t:TypeId)(hop:op= .shl∨op= .shr)(h:ashift op k x y=some v)(w:World) :
    ∃ v',(binOp op t (.int k x) (.int k' y)).run P w= .ok v' w∧VRel φ v v':=by
  unfold ashift at h
  split at h
  · cases h
  · rename_i hy
    rcases hop with rfl | rfl
    · simp at h;subst h;exact⟨_,by simp [binOp,Op.shift,hy];rfl,by simp only [VRel]⟩
    · simp at h;subst h;exact⟨_,by simp [binOp,Op.shift,hy];rfl,by simp only [VRel]⟩
theorem i64max:IntKind.i64.max=9223372036854775807:=rfl
theorem sim_astr {op:BinOp} {a b:ByteArray} {v:AVal} (t:TypeId) (h:astr op a.data.toList b.data.toList=some v) (w:World) :
    ∃ v',(binOp op t (.string a) (.string b)).run P w= .ok v' w∧VRel φ v v':=by
  cases op <;> simp only [astr]at h <;>
    first
      | (cases h;done)
      | (split at h<;>first
          | (cases h;done)
          | (rename_i hlt
             simp at h;subst h
             refine⟨.string (a++b),?_,?_⟩
             · simp only [binOp,Op.stringOp]
               rw [if_neg]
               · rfl
               · simp only [Array.length_toList]at hlt
                 rw [i64max]
                 simp only [ByteArray.size]
                 omega
             · simp [VRel]))
      | (simp at h;subst h;exact⟨_,by simp [binOp,Op.stringOp,ByteArray.toList_eq];rfl,by simp only [VRel]⟩)
def eqOkB(P:Program)(t:TypeId):Bool :=
  !P.eqGuardType P.depth t && !P.stoodInHeld t &&
  (match P.underlying t with
  | some (.struct fs)=>fs.toList.zipIdx.all fun(f,i)=>f.name != "_" && f.offset == i
  | some (.array _ _)=>true
  | _=>false)
def EqOk(P:Program)(t:TypeId):Prop:=eqOkB P t=true
theorem EqOk.spec {t:TypeId}(h:EqOk P t):P.eqGuardType P.depth t=false∧P.stoodInHeld t=false∧ ∀ fs,P.underlying t=some (.struct fs)→ ∀ (i:Nat) (f:Field),fs.toList[i]? =some f→f.name≠ "_" ∧f.offset=i:=by
  unfold EqOk eqOkB at h
  simp only [Bool.and_eq_true,Bool.not_eq_true']at h
  obtain⟨⟨h1,h2⟩,h3⟩:=h
  refine⟨h1,h2,fun fs hfs i f hf=> ?_⟩
  rw [hfs]at h3
  simp only [List.all_eq_true]at h3
  have:=h3 (f,i) (by rw [List.mem_zipIdx_iff_getElem?];exact hf)
  simpa using this
theorem cellEq_run {k:TK}{a b:AVal}{x y:Value}(ha:VRel φ a x)(hb:VRel φ b y){r:Bool}(h:cellEq k a b=some r){t:TypeId}{u:TypeDesc}(hu:P.underlying t=some u)(hk:k=tkOf u)(d:Nat)(w:World) :
    (Op.equalIn (d+1) t x y).run P w= .ok r w∧(tkOf u).isAgg=false:=by
  unfold cellEq at h
  split at h
  · rename_i k0 k1 a k2 b
    have:=tkOf_int hk.symm;subst this
    split at h
    · rename_i e;subst e
      simp at h;subst h
      simp only [VRel]at ha hb;subst ha hb
      refine⟨?_,rfl⟩
      simp only [Op.equalIn,Sem.run_bind,run_underlying hu,Result.andThen_ok,if_true,Sem.run_pure]
    · cases h
  · have:=tkOf_bool hk.symm;subst this
    simp at h;subst h
    simp only [VRel]at ha hb;subst ha hb
    refine⟨?_,rfl⟩
    simp only [Op.equalIn,Sem.run_bind,run_underlying hu,Result.andThen_ok,Sem.run_pure]
  · have:=tkOf_string hk.symm;subst this
    simp at h;subst h
    simp only [VRel]at ha hb
    obtain⟨s,rfl,rfl⟩:=ha
    obtain⟨s',rfl,rfl⟩:=hb
    refine⟨?_,rfl⟩
    rw [run_equalIn_string w d t s s' hu,ByteArray.toList_eq,ByteArray.toList_eq]
  · cases h
theorem structEq_run {D:Tys} (hD:D.Ok P) {xs ys:Array Value} (d:Nat) (w:World): ∀ {fs:List Field} {i:Nat} {x y:List AVal} {b:Bool},(∀ (j:Nat) (f:Field),fs[j]? =some f→f.name≠ "_" ∧f.offset=i+j) →
    VRels φ x (xs.toList.drop i)→VRels φ y (ys.toList.drop i)→structEq D (fs.map fun f=>(f.offset,f.type)) x y=some b→(Op.eqFields (d+1) xs ys fs).run P w= .ok b w
  | [],i,x,y,b,_,_,_,h=>by
    simp only [List.map_nil]at h
    cases x<;>cases y<;>simp [structEq]at h
    subst h;rfl
  | f ::fs,i,x,y,b,hf,hx,hy,h=>by
    simp only [List.map_cons]at h
    cases x with
    | nil=>cases y<;>simp [structEq]at h
    | cons a x =>
      cases y with
      | nil=>simp [structEq]at h
      | cons c y =>
        simp only [structEq]at h
        split at h
        · rename_i td htd
          obtain⟨ti,u,hti,hu,hk, -⟩:=hD.get htd
          split at h
          · rename_i p q hp hq
            simp at h;subst h
            obtain⟨hn,ho⟩:=hf 0 f (by simp)
            simp only [VRels]at hx hy
            obtain⟨vx,tx,ex,hvx,hx⟩:=hx
            obtain⟨vy,ty,ey,hvy,hy⟩:=hy
            obtain⟨g1,g2⟩:=cellEq_run (P:=P) hvx hvy hp hu hk d w
            have gx:xs[f.offset]? =some vx:=by
              have:=congrArg (fun l=>l[0]?) ex
              simpa [ho]using this
            have gy:ys[f.offset]? =some vy:=by
              have:=congrArg (fun l=>l[0]?) ey
              simpa [ho]using this
            have dx:xs.toList.drop (i+1)=tx:=by rw [← List.drop_drop,ex];rfl
            have dy:ys.toList.drop (i+1)=ty:=by rw [← List.drop_drop,ey];rfl
            have px:(part f.type xs f.offset).run P w= .ok vx w:=by
              simp only [part,Sem.run_bind,isAgg_run hu,Result.andThen_ok,g2]
              simp [gx]
            have py:(part f.type ys f.offset).run P w= .ok vy w:=by
              simp only [part,Sem.run_bind,isAgg_run hu,Result.andThen_ok,g2]
              simp [gy]
            have ih:=structEq_run hD (xs:=xs) (ys:=ys) d w (fs:=fs) (i:=i+1) (fun j g hg=>by
              have:=hf (j+1) g (by simpa using hg)
              exact⟨this.1,by omega⟩) (by rw [dx];exact hx) (by rw [dy];exact hy) hq
            simp only [Op.eqFields]
            rw [if_pos hn]
            simp only [Sem.run_bind,px,py,Result.andThen_ok,g1]
            cases p
            · rfl
            · simp only [Bool.not_true,Bool.false_eq_true,if_false,Bool.true_and];exact ih
          · cases h
        · cases h
theorem arrayEq_run {D:Tys} {e:TypeId} {u:TypeDesc} (hu:P.underlying e=some u) {xs ys:Array Value} (d:Nat) (w:World): ∀ {n i:Nat} {x y:List AVal} {b:Bool},x.length=n →
    VRels φ x (xs.toList.drop i)→VRels φ y (ys.toList.drop i)→arrayEq (tkOf u) x y=some b→(Op.eqItems (d+1) e 1 xs ys (List.range' i n)).run P w= .ok b w
  | n,i,[],y,b,hn,_,_,h=>by
    simp at hn;subst hn
    cases y<;>simp [arrayEq]at h
    subst h;rfl
  | n,i,a::x,[],b,hn,_,_,h=>by simp [arrayEq]at h
  | n,i,a::x,c::y,b,hn,hx,hy,h=>by
    obtain⟨m,rfl⟩: ∃ m,n=m+1:=⟨x.length,by simpa using hn.symm⟩
    simp only [arrayEq]at h
    split at h
    · rename_i p q hp hq
      simp at h;subst h
      simp only [VRels]at hx hy
      obtain⟨vx,tx,ex,hvx,hx⟩:=hx
      obtain⟨vy,ty,ey,hvy,hy⟩:=hy
      obtain⟨g1,g2⟩:=cellEq_run (P:=P) hvx hvy hp hu rfl d w
      have gx:xs[i]? =some vx:=by
        have:=congrArg (fun l=>l[0]?) ex
        simpa using this
      have gy:ys[i]? =some vy:=by
        have:=congrArg (fun l=>l[0]?) ey
        simpa using this
      have dx:xs.toList.drop (i+1)=tx:=by rw [← List.drop_drop,ex];rfl
      have dy:ys.toList.drop (i+1)=ty:=by rw [← List.drop_drop,ey];rfl
      have px:(part e xs (i*1)).run P w= .ok vx w:=by
        simp only [part,Sem.run_bind,isAgg_run hu,Result.andThen_ok,g2]
        simp [gx]
      have py:(part e ys (i*1)).run P w= .ok vy w:=by
        simp only [part,Sem.run_bind,isAgg_run hu,Result.andThen_ok,g2]
        simp [gy]
      have ih:=arrayEq_run (D:=D) hu (xs:=xs) (ys:=ys) d w (n:=m) (i:=i+1) (by simpa using hn) (by rw [dx];exact hx) (by rw [dy];exact hy) hq
      rw [List.range'_succ]
      simp only [Op.eqItems]
      simp only [Sem.run_bind,px,py,Result.andThen_ok,g1]
      cases p
      · rfl
      · simp only [Bool.not_true,Bool.false_eq_true,if_false,Bool.true_and];exact ih
    · cases h
theorem md:Op.maxDepth=9999+1:=rfl
theorem sim_aequal {D:Tys} (hD:D.Ok P) {eqT:TypeId→Bool} (hE: ∀ t,eqT t=true→EqOk P t) {lit:Bool} {t:TypeId} {x y:AVal} {x' y':Value} {b:Bool}
    (hx:VRel φ x x') (hy:VRel φ y y') (h:aequal D eqT lit t x y=some b) (w:World):(Op.equalIn Op.maxDepth t x' y').run P w= .ok b w:=by
  unfold aequal at h
  split at h
  · cases h
  · rename_i d hd
    obtain⟨i,u,hi,hu,hk, -⟩:=hD.get hd
    rw [hk]at h
    split at h
    · rename_i e;have:=tkOf_bool e;subst this;simp only [VRel]at hx hy;subst hx hy;simp at h;subst h;rw [md];generalize 9999=dd;simp only [Op.equalIn,Sem.run_bind,run_underlying hu,Result.andThen_ok,Sem.run_pure,Option.isNone_some,Option.isNone_none]
    · rename_i e;have:=tkOf_ptr e;subst this;simp only [VRel]at hx hy;subst hx hy;simp at h;subst h;rw [md];generalize 9999=dd;simp only [Op.equalIn,Sem.run_bind,run_underlying hu,Result.andThen_ok,Sem.run_pure,Option.isNone_some,Option.isNone_none]
    · rename_i e;have:=tkOf_ptr e;subst this;simp only [VRel]at hx hy;obtain⟨z,rfl,_⟩:=hy;subst hx;simp at h;subst h;rw [md];generalize 9999=dd;simp only [Op.equalIn,Sem.run_bind,run_underlying hu,Result.andThen_ok,Sem.run_pure,Option.isNone_some,Option.isNone_none]
    · rename_i e;have:=tkOf_ptr e;subst this;simp only [VRel]at hx hy;obtain⟨z,rfl,_⟩:=hx;subst hy;simp at h;subst h;rw [md];generalize 9999=dd;simp only [Op.equalIn,Sem.run_bind,run_underlying hu,Result.andThen_ok,Sem.run_pure,Option.isNone_some,Option.isNone_none]
    · rename_i e;have:=tkOf_slice e;subst this;simp only [VRel]at hx hy;obtain⟨rfl,_⟩:=hx;obtain⟨rfl,_⟩:=hy;simp at h;subst h;rw [md];generalize 9999=dd;simp only [Op.equalIn,Sem.run_bind,run_underlying hu,Result.andThen_ok,Sem.run_pure,Option.isNone_some,Option.isNone_none]
    · rename_i e;have:=tkOf_slice e;subst this;simp only [VRel]at hx hy;obtain⟨rfl,_⟩:=hx;obtain⟨z,c,rfl,_⟩:=hy;simp at h;subst h;rw [md];generalize 9999=dd;simp only [Op.equalIn,Sem.run_bind,run_underlying hu,Result.andThen_ok,Sem.run_pure,Option.isNone_some,Option.isNone_none]
    · rename_i e;have:=tkOf_slice e;subst this;simp only [VRel]at hx hy;obtain⟨rfl,_⟩:=hy;obtain⟨z,c,rfl,_⟩:=hx;simp at h;subst h;rw [md];generalize 9999=dd;simp only [Op.equalIn,Sem.run_bind,run_underlying hu,Result.andThen_ok,Sem.run_pure,Option.isNone_some,Option.isNone_none]
    · rename_i e;obtain⟨_,_,_,rfl⟩:=tkOf_func e;simp only [VRel]at hx hy;subst hx hy;simp at h;subst h;rw [md];generalize 9999=dd;simp only [Op.equalIn,Sem.run_bind,run_underlying hu,Result.andThen_ok,Sem.run_pure,Option.isNone_some,Option.isNone_none]
    · rename_i e;obtain⟨_,_,_,rfl⟩:=tkOf_func e;simp only [VRel]at hx hy;obtain⟨_,_,rfl,_⟩:=hy;subst hx;simp at h;subst h;rw [md];generalize 9999=dd;simp only [Op.equalIn,Sem.run_bind,run_underlying hu,Result.andThen_ok,Sem.run_pure,Option.isNone_some,Option.isNone_none]
    · rename_i e;obtain⟨_,_,_,rfl⟩:=tkOf_func e;simp only [VRel]at hx hy;obtain⟨_,_,rfl,_⟩:=hx;subst hy;simp at h;subst h;rw [md];generalize 9999=dd;simp only [Op.equalIn,Sem.run_bind,run_underlying hu,Result.andThen_ok,Sem.run_pure,Option.isNone_some,Option.isNone_none]
    · rename_i e;obtain⟨_,rfl,_⟩:=tkOf_iface e;simp only [VRel]at hx hy;subst hx hy;split at h<;>simp at h;subst h;rw [md];generalize 9999=dd;simp only [Op.equalIn,Sem.run_bind,run_underlying hu,Result.andThen_ok,Sem.run_pure,Option.isNone_some,Option.isNone_none]
    · rename_i e;obtain⟨_,rfl,_⟩:=tkOf_iface e;simp only [VRel]at hx hy;obtain⟨_,rfl,_⟩:=hy;subst hx;simp at h;subst h;rw [md];generalize 9999=dd;simp only [Op.equalIn,Sem.run_bind,run_underlying hu,Result.andThen_ok,Sem.run_pure,Option.isNone_some,Option.isNone_none]
    · rename_i e;obtain⟨_,rfl,_⟩:=tkOf_iface e;simp only [VRel]at hx hy;obtain⟨_,rfl,_⟩:=hx;subst hy;simp at h;subst h;rw [md];generalize 9999=dd;simp only [Op.equalIn,Sem.run_bind,run_underlying hu,Result.andThen_ok,Sem.run_pure,Option.isNone_some,Option.isNone_none]
    · rename_i fs x y e
      obtain⟨fl,rfl,hfl⟩:=tkOf_struct e
      simp only [VRel]at hx hy;obtain⟨xs,rfl,rx⟩:=hx;obtain⟨ys,rfl,ry⟩:=hy
      split at h
      · rename_i he
        obtain⟨h1,h2,h3⟩:=(hE t he).spec
        have hfo:P.fieldsOf t=fl:=by simp [Program.fieldsOf,hu]
        rw [md,run_equalIn_struct w 9999 t xs ys (by rw [hfo];exact hu) h2,hfo]
        rw [hfl]at h
        exact structEq_run hD 9998 w (i:=0) (fun j f hf=>by have:=h3 fl hu j f hf;exact⟨this.1,by omega⟩) (by simpa using rx) (by simpa using ry) h
      · cases h
    · rename_i n e x y ek
      have:=tkOf_array ek;subst this
      simp only [VRel]at hx hy;obtain⟨xs,rfl,rx⟩:=hx;obtain⟨ys,rfl,ry⟩:=hy
      split at h
      · split at h
        · rename_i ed hed
          obtain⟨ei,eu,hei,heu,hek,hes, -⟩:=hD.get hed
          split at h
          · rename_i hc
            have hcells:P.cellsOf e=1:=by
              unfold Program.cellsOf;rw [hei];simp;omega
            rw [md,run_equalIn_array w 9999 xs ys hu hei,hcells,List.range_eq_range']
            rw [hek]at h
            exact arrayEq_run (D:=D) heu 9998 w hc.2 (by simpa using rx) (by simpa using ry) h
          · cases h
        · cases h
      · cases h
    · cases h
theorem sim_eqGuard {D:Tys} {eqT:TypeId→Bool} (hE: ∀ t,eqT t=true→EqOk P t) {op:BinOp} {t:TypeId} {xo yo:Operand} {x y:AVal} {x' y':Value} {b:Bool}
    (hx:VRel φ x x') (hy:VRel φ y y') (h:aequal D eqT (isLit xo || isLit yo) t x y=some b) (w:World):(eqGuard op t xo yo x' y').run P w= .ok () w:=by
  have key :op= .eql∨op= .neq→(eqGuard op t xo yo x' y').run P w= .ok () w:=by
    intro hop
    unfold aequal at h
    split at h
    · cases h
    · split at h
      all_goals first
        | (cases h;done)
        | (simp only [VRel]at hx hy;subst hx hy;rcases hop with rfl | rfl<;>rfl)
        | (simp only [VRel]at hx hy;obtain⟨rfl,_⟩:=hx;obtain⟨rfl,_⟩:=hy;rcases hop with rfl | rfl<;>rfl)
        | (simp only [VRel]at hx hy;subst hx;obtain⟨_,rfl,_⟩:=hy;rcases hop with rfl | rfl<;>rfl)
        | (simp only [VRel]at hx hy;subst hy;obtain⟨_,rfl,_⟩:=hx;rcases hop with rfl | rfl<;>rfl)
        | (simp only [VRel]at hx hy;obtain⟨rfl,_⟩:=hx;obtain⟨_,_,rfl,_⟩:=hy;rcases hop with rfl | rfl<;>rfl)
        | (simp only [VRel]at hx hy;obtain⟨rfl,_⟩:=hy;obtain⟨_,_,rfl,_⟩:=hx;rcases hop with rfl | rfl<;>rfl)
        | (simp only [VRel]at hx hy;subst hx;obtain⟨_,_,rfl,_⟩:=hy;rcases hop with rfl | rfl<;>rfl)
        | (simp only [VRel]at hx hy;subst hy;obtain⟨_,_,rfl,_⟩:=hx;rcases hop with rfl | rfl<;>rfl)
        | (simp only [VRel]at hx hy;subst hx hy;split at h<;>first | (cases h;done) | skip
           rename_i hl
           simp only [Bool.or_eq_true]at hl
           rcases hl with hl | hl
           · cases xo<;>first | (simp [isLit]at hl;done) | (rcases hop with rfl | rfl<;>rfl)
           · cases yo<;>first | (simp [isLit]at hl;done) | (rcases hop with rfl | rfl<;>simp [eqGuard]))
        | (simp only [VRel]at hx hy;obtain⟨_,rfl,rx⟩:=hx;obtain⟨_,rfl,ry⟩:=hy;split at h<;>first | (cases h;done) | skip
           rename_i he
           exact run_eqGuard_agg w op t xo yo _ _ (hE t he).spec.1)
  cases op<;>first | exact key (.inl rfl) | exact key (.inr rfl) | rfl
def eqKind:Value→Bool
  | .bool _ | .pointer _ | .slice _ _ _ | .func _ _ _ | .nilFunc | .nilIface | .iface _ _ | .agg _=>true
  | _=>false
theorem binOp_eql_gen(t:TypeId)(x y:Value)(h:eqKind x=true):binOp .eql t x y=(do pure (.bool (← Op.equal t x y))):=by
  cases x<;>first | (simp [eqKind]at h;done) | (cases y<;>rfl)
theorem binOp_neq_gen(t:TypeId)(x y:Value)(h:eqKind x=true):binOp .neq t x y=(do pure (.bool (!(← Op.equal t x y)))):=by
  cases x<;>first | (simp [eqKind]at h;done) | (cases y<;>rfl)
theorem aequal_kind {D:Tys}{eqT:TypeId→Bool}{lit:Bool}{t:TypeId}{x y:AVal}{x':Value}{b:Bool}(hx:VRel φ x x')(h:aequal D eqT lit t x y=some b):eqKind x'=true:=by
  unfold aequal at h
  split at h
  · cases h
  · split at h
    all_goals first
      | (cases h;done)
      | (simp only [VRel]at hx;subst hx;rfl)
      | (simp only [VRel]at hx;obtain⟨rfl,_⟩:=hx;rfl)
      | (simp only [VRel]at hx;obtain⟨_,rfl,_⟩:=hx;rfl)
      | (simp only [VRel]at hx;obtain⟨_,_,rfl,_⟩:=hx;rfl)
theorem sim_abin {D:Tys} (hD:D.Ok P) {eqT:TypeId→Bool} (hE: ∀ t,eqT t=true→EqOk P t) {op:BinOp} {t:TypeId} {xo yo:Operand} {x y v:AVal} {x' y':Value}
    (hx:VRel φ x x') (hy:VRel φ y y') (h:abin D eqT (isLit xo || isLit yo) op t x y=some v) (w:World) :
    ∃ v',(eqGuard op t xo yo x' y').run P w= .ok () w∧(binOp op t x' y').run P w= .ok v' w∧VRel φ v v':=by
  unfold abin at h
  split at h
  · rename_i k a k' b
    simp only [VRel]at hx hy;subst hx hy
    have hg:(eqGuard op t xo yo (.int k a) (.int k' b)).run P w= .ok () w:=by
      unfold eqGuard;split<;>rfl
    split at h
    · obtain⟨v',h1,h2⟩:=sim_ashift (P:=P) (φ:=φ) (k':=k') t (.inl rfl) h w;exact⟨v',hg,h1,h2⟩
    · obtain⟨v',h1,h2⟩:=sim_ashift (P:=P) (φ:=φ) (k':=k') t (.inr rfl) h w;exact⟨v',hg,h1,h2⟩
    · split at h
      · rename_i hk;subst hk
        obtain⟨v',h1,h2⟩:=sim_aint (P:=P) (φ:=φ) t h w;exact⟨v',hg,h1,h2⟩
      · cases h
  · rename_i a b
    simp only [VRel]at hx hy
    obtain⟨s,rfl,rfl⟩:=hx
    obtain⟨u,rfl,rfl⟩:=hy
    have hg:(eqGuard op t xo yo (.string s) (.string u)).run P w= .ok () w:=by
      unfold eqGuard;split<;>rfl
    obtain⟨v',h1,h2⟩:=sim_astr (P:=P) (φ:=φ) t h w;exact⟨v',hg,h1,h2⟩
  · rename_i n1 n2
    split at h
    · simp only [Option.map_eq_some_iff]at h
      obtain⟨b,hb,rfl⟩:=h
      refine⟨.bool b,sim_eqGuard (D:=D) hE hx hy hb w,?_,by simp [VRel]⟩
      have he:=sim_aequal hD hE hx hy hb w
      rw [binOp_eql_gen t x' y' (aequal_kind hx hb)];simp [Op.equal,he]
    · simp only [Option.map_eq_some_iff]at h
      obtain⟨b,hb,rfl⟩:=h
      refine⟨.bool (!b),sim_eqGuard (D:=D) hE hx hy hb w,?_,by simp [VRel]⟩
      have he:=sim_aequal hD hE hx hy hb w
      rw [binOp_neq_gen t x' y' (aequal_kind hx hb)];simp [Op.equal,he]
    · cases h
end
end
end Go.Lift
namespace Go.Lift
noncomputable section
open Go.RowKit
section
variable {P:Program}{φ:Map}
theorem sim_unary {op:UnOp}{x v:AVal}{x':Value}(hx:VRel φ x x')(h:aunary op x=some v)(w:World): ∃ v',(Op.unary op x').run P w= .ok v' w∧VRel φ v v':=by
  unfold aunary at h
  split at h
  · simp only [VRel]at hx;subst hx;simp at h;subst h;exact⟨_,by simp [Op.unary,Op.intArith];rfl,by simp only [VRel]⟩
  · simp only [VRel]at hx;subst hx;simp at h;subst h;exact⟨_,by simp [Op.unary];rfl,by simp only [VRel]⟩
  · simp only [VRel]at hx;subst hx;simp [aint]at h;subst h;exact⟨_,by simp [Op.unary,Op.intBits];rfl,by simp only [VRel]⟩
  · cases h
theorem sim_convert {D:Tys}(hD:D.Ok P){s t:TypeId}{x v:AVal}{x':Value}(hx:VRel φ x x')(h:aconvert D s t x=some v)(w:World) :
    ∃ v',(convert s t x').run P w= .ok v' w∧VRel φ v v':=by
  unfold aconvert at h
  split at h
  · rename_i ds dt k n hs ht
    simp only [VRel]at hx;subst hx
    obtain⟨_,us,_,hus,_⟩:=hD.get hs
    obtain⟨_,ut,_,hut,hk,_⟩:=hD.get ht
    rw [hk]at h
    split at h
    · rename_i kk e;have:=tkOf_int e;subst this
      simp at h;subst h
      refine⟨.int kk (kk.wrap n),?_,by simp only [VRel]⟩
      simp only [convert,Sem.run_bind,run_underlying hus,run_underlying hut,Result.andThen_ok]
      cases us<;>simp [Conv.intToInt]
    · rename_i e;have:=tkOf_string e;subst this
      simp at h;subst h
      exact⟨.string (Utf8.encode n),run_convert_int_string w s t k n (by rw [hus];rfl) hut,by simp only [VRel];exact⟨_,rfl,rfl⟩⟩
    · cases h
  · rename_i ds dt l hs ht
    simp only [VRel]at hx;obtain⟨s',rfl,rfl⟩:=hx
    obtain⟨_,us,_,hus,_⟩:=hD.get hs
    obtain⟨_,ut,_,hut,hk,_⟩:=hD.get ht
    rw [hk]at h
    split at h
    · rename_i e;have:=tkOf_string e;subst this
      simp at h;subst h
      refine⟨.string s',?_,by simp [VRel]⟩
      simp only [convert,Sem.run_bind,run_underlying hus,run_underlying hut,Result.andThen_ok]
      cases us<;>rfl
    · cases h
  · cases h
theorem sim_max2 {x y v:AVal}{x' y':Value}(hx:VRel φ x x')(hy:VRel φ y y')(h:amax2 x y=some v)(w:World): ∃ v',(Builtin.max2 x' y').run P w= .ok v' w∧VRel φ v v':=by
  unfold amax2 at h
  split at h
  · simp only [VRel]at hx hy;subst hx hy;split at h
    · rename_i hk;subst hk;simp at h;subst h;exact⟨_,by simp only [Builtin.max2];rfl,by simp only [VRel]⟩
    · cases h
  · cases h
theorem sim_min2 {x y v:AVal}{x' y':Value}(hx:VRel φ x x')(hy:VRel φ y y')(h:amin2 x y=some v)(w:World): ∃ v',(Builtin.min2 x' y').run P w= .ok v' w∧VRel φ v v':=by
  unfold amin2 at h
  split at h
  · simp only [VRel]at hx hy;subst hx hy;split at h
    · rename_i hk;subst hk;simp at h;subst h;exact⟨_,by simp only [Builtin.min2];rfl,by simp only [VRel]⟩
    · cases h
  · cases h
theorem sim_fold {f:AVal→AVal→Option AVal}{g:Value→Value→Sem Value}(w:World)
    (hf: ∀ x y v x' y',VRel φ x x'→VRel φ y y'→f x y=some v→ ∃ v',(g x' y').run P w= .ok v' w∧VRel φ v v') :
    ∀ {l:List AVal} {t:List Value} {x v:AVal} {x':Value},VRel φ x x'→VRels φ l t→afold f x l=some v→ ∃ v',(t.foldlM g x').run P w= .ok v' w∧VRel φ v v'
  | [],t,x,v,x',hx,hl,h=>by
    simp only [VRels]at hl;subst hl
    simp [afold]at h;subst h
    exact⟨x',rfl,hx⟩
  | a ::r,t,x,v,x',hx,hl,h=>by
    simp only [VRels]at hl
    obtain⟨u,t',rfl,h1,h2⟩:=hl
    simp only [afold]at h
    split at h
    · rename_i z hz
      obtain⟨z',e1,e2⟩:=hf _ _ _ _ _ hx h1 hz
      obtain⟨v',e3,e4⟩:=sim_fold w hf e2 h2 h
      exact⟨v',by rw [List.foldlM_cons,Sem.run_bind,e1];exact e3,e4⟩
    · cases h
theorem sim_max {x v:AVal}{l:List AVal}{xs:Array Value}(ts:Array TypeId)(ty:TypeId)(hx:VRels φ (x::l) xs.toList)(h:afold amax2 x l=some v)(w:World) :
    ∃ v',(Builtin.max_ ts ty xs).run P w= .ok v' w∧VRel φ v v':=by
  simp only [VRels]at hx
  obtain⟨x',t,e,h1,h2⟩:=hx
  unfold Builtin.max_
  rw [e]
  exact sim_fold w (fun _ _ _ _ _ a b c=>sim_max2 a b c w) h1 h2 h
theorem sim_min {x v:AVal}{l:List AVal}{xs:Array Value}(ts:Array TypeId)(ty:TypeId)(hx:VRels φ (x::l) xs.toList)(h:afold amin2 x l=some v)(w:World) :
    ∃ v',(Builtin.min_ ts ty xs).run P w= .ok v' w∧VRel φ v v':=by
  simp only [VRels]at hx
  obtain⟨x',t,e,h1,h2⟩:=hx
  unfold Builtin.min_
  rw [e]
  exact sim_fold w (fun _ _ _ _ _ a b c=>sim_min2 a b c w) h1 h2 h
theorem sim_part {D:Tys} (hD:D.Ok P) {t:TypeId} {cs:List AVal} {xs:Array Value} {off:Nat} {v:AVal} (hx:VRels φ cs xs.toList) (h:apart D t cs off=some v) (w:World) :
    ∃ v',(part t xs off).run P w= .ok v' w∧VRel φ v v':=by
  unfold apart at h
  split at h
  · rename_i d hd
    obtain⟨i,u,hi,hu,hk,hs, -⟩:=hD.get hd
    rw [hk]at h
    split at h
    · rename_i ha
      split at h
      · rename_i hle
        simp at h;subst h
        refine⟨.agg (xs.extract off (off+i.size)),?_,?_⟩
        · simp only [part,Sem.run_bind,isAgg_run hu,Result.andThen_ok,ha,if_true,sizeOf_run hi,Sem.run_pure]
        · simp only [VRel]
          refine⟨_,rfl,?_⟩
          have e:(xs.extract off (off+i.size)).toList=(xs.toList.drop off).take i.size:=by
            simp [List.extract]
          rw [e,hs];exact(hx.drop off).take i.size
      · cases h
    · rename_i ha
      obtain⟨v',h1,h2⟩:=hx.get h
      refine⟨v',?_,h2⟩
      have h1':xs[off]? =some v':=by simpa using h1
      simp only [part,Sem.run_bind,isAgg_run hu,Result.andThen_ok]
      simp only [ha]
      simp [h1']
  · cases h
theorem sim_field {D:Tys} (hD:D.Ok P) {t:TypeId} {x:AVal} {x':Value} {f:Nat} {v:AVal} (hx:VRel φ x x') (h:afield D t x f=some v) (w:World) :
    ∃ v',(Instr.field t x' f).run P w= .ok v' w∧VRel φ v v':=by
  unfold afield at h
  split at h
  · rename_i d cs hd
    obtain⟨i,u,hi,hu,hk,hs, -⟩:=hD.get hd
    rw [hk]at h
    split at h
    · rename_i fs e
      obtain⟨fl,rfl,hfl⟩:=tkOf_struct e
      split at h
      · rename_i off ft hf
        simp only [VRel]at hx
        obtain⟨xs,rfl,hxs⟩:=hx
        rw [hfl]at hf
        simp only [List.getElem?_map,Option.map_eq_some_iff]at hf
        obtain⟨ff,hff,he⟩:=hf
        simp at he
        obtain⟨rfl,rfl⟩:=he
        obtain⟨v',h1,h2⟩:=sim_part hD hxs h w
        refine⟨v',?_,h2⟩
        have hff':fl[f]? =some ff:=by simpa using hff
        simp [Instr.field,run_underlying hu,hff',asAgg,h1]
      · cases h
    · cases h
  · cases h
theorem sim_index {D:Tys} (hD:D.Ok P) {t:TypeId} {x i:AVal} {x' i':Value} {v:AVal} (hx:VRel φ x x') (hi:VRel φ i i') (h:aindex D t x i=some v) (w:World) :
    ∃ v',(Instr.index t x' i').run P w= .ok v' w∧VRel φ v v':=by
  unfold aindex at h
  split at h
  · rename_i d cs k n hd
    obtain⟨ti,u,hti,hu,hk,hs, -⟩:=hD.get hd
    rw [hk]at h
    split at h
    · rename_i len e he
      have:=tkOf_array he;subst this
      split at h
      · rename_i xd hxd
        obtain⟨xi,xu,hxi,hxu,hxk,hxs, -⟩:=hD.get hxd
        split at h
        · rename_i hb
          simp only [VRel]at hx hi
          obtain⟨xs,rfl,hxs'⟩:=hx
          subst hi
          obtain⟨v',h1,h2⟩:=sim_part hD hxs' h w
          refine⟨v',?_,h2⟩
          rw [hxs]at h1
          simp [Instr.index,asIntOf,run_underlying hu,hb,sizeOf_run hxi,h1]
        · cases h
      · cases h
    · cases h
  · rename_i d s k n hd
    obtain⟨ti,u,hti,hu,hk,hs, -⟩:=hD.get hd
    rw [hk]at h
    split at h
    · rename_i e
      have:=tkOf_string e;subst this
      split at h
      · rename_i hn
        simp only [VRel]at hx hi
        obtain⟨s',rfl,rfl⟩:=hx
        subst hi
        simp only [Option.map_eq_some_iff]at h
        obtain⟨b,hb,rfl⟩:=h
        refine⟨.int .u8 b.toNat,?_,by simp only [VRel]⟩
        have hb':s'[n.toNat]? =some b:=by
          have hlt:=(List.getElem?_eq_some_iff.1 hb).1
          have he:=(List.getElem?_eq_some_iff.1 hb).2
          have hlt':n.toNat<s'.size:=by rw [Array.length_toList]at hlt;exact hlt
          rw [getElem?_pos s' n.toNat hlt']
          rw [← he];rfl
        simp [Instr.index,asIntOf,run_underlying hu,hn,hb']
      · cases h
    · cases h
  · cases h
theorem sim_extract {vs:List AVal}{x':Value}{i:Nat}{v:AVal}(hx:VRel φ (.tuple vs) x')(h:vs[i]? =some v)(w:World) :
    ∃ v',(Instr.extract x' i).run P w= .ok v' w∧VRel φ v v':=by
  simp only [VRel]at hx
  obtain⟨xs,rfl,hxs⟩:=hx
  obtain⟨v',h1,h2⟩:=hxs.get h
  have h1':xs[i]? =some v':=by simpa using h1
  exact⟨v',by simp [Instr.extract,h1'],h2⟩
theorem Place.at_add(p:Place)(i f n:Nat):(p.at i f).add n=p.at i (f+n):=by
  unfold Place.at;rw [Addr.add_mid];rw [Nat.add_assoc]
theorem sim_fieldAddr {D:Tys} (hD:D.Ok P) {t:TypeId} {x:AVal} {x':Value} {f:Nat} {v:AVal} (hx:VRel φ x x') (h:afieldAddr D t x f=some v) (w:World) :
    ∃ v',(Instr.fieldAt t x' f).run P w= .ok v' w∧VRel φ v v':=by
  unfold afieldAddr at h
  split at h
  · rename_i d a hd
    obtain⟨i,u,hi,hu,hk,hs, -⟩:=hD.get hd
    rw [hk]at h
    split at h
    · rename_i fs e
      obtain⟨fl,rfl,hfl⟩:=tkOf_struct e
      split at h
      · rename_i off ft hf
        split at h
        · rename_i fd hfd
          obtain⟨fi,fu,hfi,hfu,hfk,hfs, -⟩:=hD.get hfd
          split at h
          · rename_i hpos
            simp at h;subst h
            rw [hfl]at hf
            simp only [List.getElem?_map,Option.map_eq_some_iff]at hf
            obtain⟨ff,hff,he⟩:=hf
            simp at he
            obtain⟨rfl,rfl⟩:=he
            simp only [VRel]at hx
            obtain⟨xa,rfl,p,hp,hes,hlo,rfl⟩:=hx
            have hff':fl[f]? =some ff:=by simpa using hff
            refine⟨.pointer (some (p.at a.idx (a.fld+ff.offset))),?_,?_⟩
            · have hne: ¬ fi.size=0:=by omega
              simp [Instr.fieldAt,run_underlying hu,hff',Instr.sureAddr,fieldPlace,sizeOf_run hfi,hne,Place.at_add]
            · simp only [VRel];exact⟨_,rfl,p,hp,hes,hlo,rfl⟩
          · cases h
        · cases h
      · cases h
    · cases h
  · cases h
theorem sim_indexAddr {D:Tys} (hD:D.Ok P) {t:TypeId} {x i:AVal} {x' i':Value} {v:AVal} (hx:VRel φ x x') (hi:VRel φ i i') (h:aindexAddr D t x i=some v) (w:World) :
    ∃ v',(Instr.indexAt t x' i').run P w= .ok v' w∧VRel φ v v':=by
  unfold aindexAddr at h
  split at h
  · rename_i d a len cap k n hd
    obtain⟨ti,u,hti,hu,hk,hs, -⟩:=hD.get hd
    rw [hk]at h
    split at h
    · rename_i e he
      have:=tkOf_slice he;subst this
      split at h
      · rename_i xd hxd
        obtain⟨xi,xu,hxi,hxu,hxk,hxs, -⟩:=hD.get hxd
        split at h
        · rename_i hb
          simp at h;subst h
          simp only [VRel]at hx hi
          obtain⟨xa,cap',rfl,l1,l2,hso⟩:=hx
          have hf:=hb.2.2.2
          obtain⟨p,hp,hes,hor,hex⟩:=hso.plain hf
          subst hi
          rcases hor with h0 | ⟨hlo,rfl,htot⟩
          · omega
          · refine⟨.pointer (some (p.at (a.idx+n.toNat) 0)),?_,?_⟩
            · have e1:(p.at a.idx 0).add (n.toNat*xi.size)=p.at (a.idx+n.toNat) 0:=by
                rw [Place.at_add];unfold Place.at
                have:a.idx+n.toNat-p.lo=(a.idx-p.lo)+n.toNat:=by omega
                rw [this,Nat.add_mul,← hxs,← hb.2.2.1,hes]
                congr 1;omega
              have hb1:=hb.1;have hb2:=hb.2.1
              simp [Instr.indexAt,asIntOf,run_underlying hu,hb1,hb2,sizeOf_run hxi,e1]
            · simp only [VRel];exact⟨_,rfl,p,hp,hes,by show p.lo≤a.idx+n.toNat;omega,by simp only [hf]⟩
        · split at h
          · rename_i hb
            simp at h;subst h
            simp only [VRel]at hx hi
            obtain⟨xa,cap',rfl,l1,l2,hso⟩:=hx
            subst hi
            rcases hso with ⟨hf,_⟩ | ⟨f,hf,p,hp,hes,hlo,rfl⟩
            · omega
            · simp only at hp hes hlo
              have hx1:xi.size=1:=by omega
              have hb1:=hb.1;have hb2:=hb.2.1
              refine⟨.pointer (some (p.at a.idx (f+n.toNat))),?_,?_⟩
              · have e1:(p.at a.idx f).add (n.toNat*xi.size)=p.at a.idx (f+n.toNat):=by rw [Place.at_add,hx1,Nat.mul_one]
                simp [Instr.indexAt,asIntOf,run_underlying hu,hb1,hb2,sizeOf_run hxi,e1]
              · simp only [VRel];exact⟨_,rfl,p,hp,hes,hlo,by show p.at a.idx (f+n.toNat)=p.at a.idx (a.fld-1+n.toNat);rw [hf];rfl⟩
          · cases h
      · cases h
    · cases h
  · rename_i d a k n hd
    obtain⟨ti,u,hti,hu,hk,hs, -⟩:=hD.get hd
    rw [hk]at h
    split at h
    · rename_i len e he
      have:=tkOf_array he;subst this
      split at h
      · rename_i xd hxd
        obtain⟨xi,xu,hxi,hxu,hxk,hxs, -⟩:=hD.get hxd
        split at h
        · rename_i hb
          simp at h;subst h
          simp only [VRel]at hx hi
          obtain⟨xa,rfl,p,hp,hes,hlo,rfl⟩:=hx
          subst hi
          refine⟨.pointer (some (p.at a.idx (a.fld+n.toNat*xi.size))),?_,?_⟩
          · have hb1:=hb.1;have hb2:=hb.2
            simp [Instr.indexAt,asIntOf,run_underlying hu,hb1,hb2,sizeOf_run hxi,Instr.sureAddr,Place.at_add]
          · simp only [VRel];exact⟨_,rfl,p,hp,hes,hlo,by simp only [hxs]⟩
        · cases h
      · cases h
    · cases h
  · cases h
end
end
end Go.Lift
namespace Go.Lift
noncomputable section
open Go.RowKit
section
variable {P:Program}{φ:Map}
def ORel(φ:Map):Option AVal→Option Value→Prop
  | none,none=>True
  | some a,some b=>VRel φ a b
  | _,_=>False
theorem run_bound {v:Option AVal} {v':Option Value} (hv:ORel φ v v') {dflt most r:Nat} (h:abound v dflt most=some r) (hs:v.isSome=true)
    {most':Nat} (hm:most≤most') (w:World) (code:BoundsCode): ∃ x,v'=some x∧(Instr.sliceBound x most' code).run P w= .ok r w∧r≤most:=by
  cases v with
  | none=>cases hs
  | some a =>
    cases v' with
    | none=>exact hv.elim
    | some x =>
      refine⟨x,rfl,?_⟩
      unfold abound at h
      split at h
      · rename_i e;cases e
      · rename_i k i e
        simp at e;subst e
        split at h
        · rename_i hb
          simp at h;subst h
          simp only [ORel,VRel]at hv;subst hv
          have hle:i≤(most':Int):=by omega
          exact⟨by simp [Instr.sliceBound,asIntOf,hb.1,hle],by omega⟩
        · cases h
      · cases h
theorem run_sliceBounds {lo hi mx:Option AVal} {lo' hi' mx':Option Value} (hlo:ORel φ lo lo') (hhi:ORel φ hi hi') (hmx:ORel φ mx mx') {len cap cap' m hh l:Nat} (hlc:len≤cap) (hcc:cap≤cap')
    (hm:abound mx cap cap=some m) (hh':abound hi len m=some hh) (hl:abound lo 0 hh=some l) (hno: ¬ (mx.isSome=true∧hi.isNone=true)) (isSlice:Bool) (w:World) :
    ∃ m',(Instr.sliceBounds isSlice len cap' lo' hi' mx').run P w= .ok (l,hh,m') w∧m≤m'∧m'≤cap'∧(cap'=cap→m'=m)∧hh≤m∧l≤hh:=by
  have h3: ∀ code,(match lo' with | some v=>Instr.sliceBound v hh code | none=>pure 0:Sem Nat).run P w= .ok l w∧l≤hh:=by
    intro code
    cases lo with
    | none=>cases lo' with
      | none=>simp [abound]at hl;subst hl;exact⟨rfl,Nat.zero_le _⟩
      | some _=>exact hlo.elim
    | some a =>
      obtain⟨x,rfl,h1,h2⟩:=run_bound (P:=P) hlo hl rfl (Nat.le_refl _) w code
      exact⟨h1,h2⟩
  cases mx with
  | none =>
    cases mx' with
    | some _=>exact hmx.elim
    | none =>
      simp [abound]at hm;subst hm
      refine⟨cap',?_,hcc,Nat.le_refl _,fun h=>h,?_⟩
      · cases hi with
        | none=>cases hi' with
          | some _=>exact hhi.elim
          | none =>
            simp [abound]at hh';subst hh'
            have:=(h3 .sliceB).1
            cases lo'<;>simp_all [Instr.sliceBounds]
        | some b =>
          obtain⟨x,rfl,h1,h2⟩:=run_bound (P:=P) hhi hh' rfl hcc w (if isSlice then .sliceAcap else .sliceAlen)
          have:=(h3 .sliceB).1
          cases lo'<;>simp_all [Instr.sliceBounds]
      · refine⟨?_,(h3 .sliceB).2⟩
        cases hi with
        | none=>simp [abound]at hh';omega
        | some b=>obtain⟨x,rfl,h1,h2⟩:=run_bound (P:=P) hhi hh' rfl hcc w .sliceB;exact h2
  | some a =>
    obtain⟨y,rfl,g1,g2⟩:=run_bound (P:=P) hmx hm rfl hcc w (if isSlice then .slice3Acap else .slice3Alen)
    cases hi with
    | none=>simp at hno
    | some b =>
      obtain⟨x,rfl,h1,h2⟩:=run_bound (P:=P) hhi hh' rfl (Nat.le_refl _) w .slice3B
      refine⟨m,?_,Nat.le_refl _,by omega,fun _=>rfl,h2,(h3 .sliceB).2⟩
      have:=(h3 .slice3C).1
      cases lo'<;>simp_all [Instr.sliceBounds]
theorem extract_list(s:ByteArray)(l h:Nat):(s.extract l h).data.toList=(s.data.toList.take h).drop l:=by
  have:(s.extract l h).data=s.data.extract l h:=by simp
  rw [this];simp [List.extract,List.drop_take]
theorem sim_slice {D:Tys} (hD:D.Ok P) {t:TypeId} {x v:AVal} {x':Value} {lo hi mx:Option AVal} {lo' hi' mx':Option Value} (hx:VRel φ x x')
    (hlo:ORel φ lo lo') (hhi:ORel φ hi hi') (hmx:ORel φ mx mx') (h:aslice D t x lo hi mx=some v) (w:World) :
    ∃ v',(Instr.sliceAt t x' lo' hi' mx').run P w= .ok v' w∧VRel φ v v':=by
  unfold aslice at h
  split at h
  · rename_i d a len cap hd
    obtain⟨ti,u,hti,hu,hk,hs, -⟩:=hD.get hd
    rw [hk]at h
    split at h
    · rename_i e he
      have:=tkOf_slice he;subst this
      split at h
      · rename_i xd m hxd hm
        obtain⟨xi,xu,hxi,hxu,hxk,hxs, -⟩:=hD.get hxd
        split at h
        · rename_i hh hhh
          split at h
          · rename_i l hl
            split at h
            · cases h
            · rename_i hno
              split at h
              · simp at h;subst h
                simp only [VRel]at hx
                obtain⟨rfl,rfl,rfl⟩:=hx
                obtain⟨m',k1,k2,k3,k4,k5,k6⟩:=run_sliceBounds (P:=P) hlo hhi hmx (Nat.le_refl _) (Nat.le_refl 0) hm hhh hl hno true w
                have e1:m'=0:=by omega
                have e2:m=0:=by omega
                have e3:hh=0:=by omega
                have e4:l=0:=by omega
                subst e1 e2 e3 e4
                refine⟨.slice none 0 0,?_,by simp [VRel]⟩
                simp [Instr.sliceAt,run_underlying hu,Instr.slice,k1,sizeOf_run hxi]
              · rename_i a
                split at h
                · rename_i hesf
                  obtain⟨hes,hf⟩:=hesf
                  simp at h;subst h
                  simp only [VRel]at hx
                  obtain⟨xa,cap',rfl,l1,l2,hso⟩:=hx
                  obtain⟨p,hp,hes',hor,hex⟩:=hso.plain hf
                  obtain⟨m',k1,k2,k3,k4,k5,k6⟩:=run_sliceBounds (P:=P) hlo hhi hmx l1 l2 hm hhh hl hno true w
                  refine⟨.slice (if m'=l then some xa else some (xa.add (l*xi.size))) (hh-l) (m'-l),?_,?_⟩
                  · simp [Instr.sliceAt,run_underlying hu,Instr.slice,k1,sizeOf_run hxi]
                  · simp only [VRel]
                    by_cases hml:m'=l
                    · rw [if_pos hml]
                      exact⟨xa,m'-l,rfl,by omega,by omega,.inl ⟨hf,p,hp,hes',.inl (by omega),fun hh=>by have:=k4 (hex hh);omega⟩⟩
                    · rw [if_neg hml]
                      refine⟨_,m'-l,rfl,by omega,by omega,.inl ⟨hf,p,hp,hes',?_,fun hh=>by have:=k4 (hex hh);omega⟩⟩
                      rcases hor with h0 | ⟨g1,rfl,g3⟩
                      · left;omega
                      · right
                        refine⟨by show p.lo≤a.idx+l;omega,?_,by show a.idx+l-p.lo+(m'-l)≤p.tot;omega⟩
                        rw [Place.at_add];unfold Place.at
                        have:a.idx+l-p.lo=(a.idx-p.lo)+l:=by omega
                        simp only [this,Nat.add_mul,← hxs,← hes,hes']
                        congr 1;omega
                · cases h
          · cases h
        · cases h
      · cases h
    · cases h
  · rename_i d a hd
    obtain⟨ti,u,hti,hu,hk,hs, -⟩:=hD.get hd
    rw [hk]at h
    split at h
    · rename_i n el hae
      have:=tkOf_array hae;subst this
      split at h
      · rename_i xd hxd
        obtain⟨xi,xu,hxi,hxu,hxk,hxs, -⟩:=hD.get hxd
        split at h
        · cases h
        · rename_i hno
          split at h
          · rename_i hh hhh
            split at h
            · rename_i l hl
              split at h
              · rename_i hc
                obtain⟨hc1,hc2⟩:=hc
                simp at h;subst h
                simp only [VRel]at hx
                obtain⟨xa,rfl,p,hp,hes',hlo',rfl⟩:=hx
                have hmxn:mx=none:=by cases mx<;>simp_all
                subst hmxn
                have hmxn':mx'=none:=by cases mx' with | none=>rfl | some _=>exact hmx.elim
                subst hmxn'
                obtain⟨m',k1,k2,k3,k4,k5,k6⟩:=run_sliceBounds (P:=P) (mx:=none) (mx':=none) hlo hhi trivial (Nat.le_refl n) (Nat.le_refl n) (m:=n) (by simp [abound]) hhh hl (by simp) false w
                have hm':=k4 rfl
                subst hm'
                have hx1:xi.size=1:=by omega
                refine⟨.slice (some ((p.at a.idx a.fld).add (l*xi.size))) (hh-l) (m'-l),?_,?_⟩
                · have hne: ¬ m'=l:=by omega
                  simp [Instr.sliceAt,run_underlying hu,k1,sizeOf_run hxi,Instr.sureAddr,hne]
                · simp only [VRel]
                  refine⟨_,m'-l,rfl,by omega,Nat.le_refl _,.inr ⟨a.fld+l,rfl,p,hp,hes',hlo',?_⟩⟩
                  rw [Place.at_add,hx1,Nat.mul_one]
              · cases h
            · cases h
          · cases h
      · cases h
    · cases h
  · rename_i d s hd
    obtain⟨ti,u,hti,hu,hk,hs, -⟩:=hD.get hd
    rw [hk]at h
    split at h
    · rename_i e
      have:=tkOf_string e;subst this
      split at h
      · cases h
      · rename_i hno
        split at h
        · rename_i hh hhh
          split at h
          · rename_i l hl
            simp at h;subst h
            simp only [VRel]at hx
            obtain⟨s',rfl,rfl⟩:=hx
            rw [Array.length_toList]at hhh
            have hmxn:mx=none:=by cases mx<;>simp_all
            subst hmxn
            have hmxn':mx'=none:=by cases mx' with | none=>rfl | some _=>exact hmx.elim
            subst hmxn'
            obtain⟨m',k1,k2,k3,k4,k5,k6⟩:=run_sliceBounds (P:=P) (mx:=none) (mx':=none) hlo hhi trivial (Nat.le_refl s'.size) (Nat.le_refl s'.size) (m:=s'.size) (by simp [abound]) hhh hl (by simp) false w
            refine⟨.string (s'.extract l hh),?_,by simp only [VRel];exact⟨_,rfl,extract_list _ _ _⟩⟩
            simp [Instr.sliceAt,run_underlying hu,Instr.slice,k1]
          · cases h
        · cases h
    · cases h
  · cases h
theorem range_of {w:World}{b o:Nat} : ∀ {l:List AVal},(∀ j x',l[j]? =some x'→ ∃ x,w.cell? ⟨b,o+j,none⟩=some x∧VRel φ x' x∧x.oneCell'=true) →
    ∃ vs,VRels φ l vs∧w.rangeAt b o vs∧ ∀ x∈vs,x.oneCell'=true
  | [],_=>⟨[],by simp [VRels],by intro j v hv;simp at hv,by simp⟩
  | a ::r,h=>by
    obtain⟨x,hx1,hx2⟩:=h 0 a (by simp)
    have ih:=range_of (w:=w) (b:=b) (o:=o+1) (l:=r) (fun j x' hj=>by
      obtain⟨x,g1,g2⟩:=h (j+1) x' (by simpa using hj)
      exact⟨x,by rw [show o+1+j=o+(j+1)by omega];exact g1,g2⟩)
    obtain⟨vs,i1,i2,i3⟩:=ih
    refine⟨x::vs,by simp only [VRels];exact⟨_,_,rfl,hx2.1,i1⟩,?_,?_⟩
    · intro j v hv
      cases j with
      | zero=>simp at hv;subst hv;exact hx1
      | succ j=>simp at hv;have:=i2 j v hv;rw [show o+(j+1)=o+1+j by omega];exact this
    · intro y hy
      rcases List.mem_cons.1 hy with rfl | hy
      · exact hx2.2
      · exact i3 y hy
theorem HRel.readCells {N0:Nat→Prop}{h:AHeap}{w:World}(r:HRel φ N0 h w){a:AAddr}{xa:Addr}(ha:AtAddr φ a xa){b:ABlk}(hb:h.get a.id=some b){e:AVal}(he:b.elem? a.ver a.idx=some e) :
    ∃ p,φ a.id a.ver=some p∧xa=p.at a.idx a.fld∧p.lo≤a.idx∧e.cells.length=p.es∧ ∀ j x',e.cells[j]? =some x'→ ∃ x,w.cell? (p.at a.idx j)=some x∧VRel φ x' x∧x.oneCell'=true:=by
  obtain⟨p,hp,hes,hlo,rfl⟩:=ha
  obtain⟨h1,c,h2,h3,h4,h5,h6,h7,h8⟩:=r.dom _ _ _ hp
  rw [hb]at h2;simp at h2;subst h2
  unfold ABlk.elem? at he
  split at he
  · rename_i hl
    obtain⟨c1,c2,c3⟩:=h8.cont _ _ hlo hl he
    exact⟨p,hp,rfl,hlo,c1,c3⟩
  · cases he
theorem sim_load {D:Tys} (hD:D.Ok P) {N0:Nat→Prop} {h:AHeap} {w:World} (r:HRel φ N0 h w) {t:TypeId} {a:AAddr} {x':Value} {v:AVal} (hx:VRel φ (.ptr (some a)) x') (ho:aload D t a h=some v) :
    ∃ v',(Instr.loadAt t x').run P w= .ok v' w∧VRel φ v v':=by
  unfold aload at ho
  split at ho
  · rename_i d b hd hb
    obtain⟨ti,u,hti,hu,hk,hs, -⟩:=hD.get hd
    split at ho
    · rename_i e he
      simp only [VRel]at hx
      obtain⟨xa,rfl,hat⟩:=hx
      obtain⟨p,hp,rfl,hlo,hlen,hcells⟩:=r.readCells hat hb he
      rw [hk,hs]at ho
      cases hagg:(tkOf u).isAgg with
      | true =>
        rw [hagg]at ho
        simp only [loadElem,if_true]at ho
        split at ho
        · rename_i cs
          have key: ∀ (l:List AVal),(∀ (j:Nat) (x':AVal),l[j]? =some x'→cs[a.fld+j]? =some x')→l.length=ti.size→ ∃ v',(Instr.loadAt t (.pointer (some (p.at a.idx a.fld)))).run P w= .ok v' w∧VRel φ (.agg l) v':=by
            intro l hl hll
            obtain⟨vs,hv1,hv2, -⟩:=range_of (φ:=φ) (w:=w) (b:=p.blk) (o:=p.off+(a.idx-p.lo)*p.es+a.fld) (l:=l) (fun j x' hj=>by
              obtain⟨x,g1,g2⟩:=hcells (a.fld+j) x' (hl j x' hj)
              exact⟨x,by rw [Place.at,← Nat.add_assoc]at g1;exact g1,g2⟩)
            refine⟨.agg vs.toArray,?_,by simp only [VRel];exact⟨_,rfl,by simpa using hv1⟩⟩
            exact run_loadAt_mid w p.blk _ t vs u hv2 hu (by cases u<;>simp [tkOf,TK.isAgg]at hagg ⊢) (by rw [hti];simp [hv1.length,hll])
          split at ho
          · rename_i hc
            simp at ho;subst ho
            exact key cs (fun j x' hj=>by rw [hc.1,Nat.zero_add];exact hj) hc.2.symm
          · split at ho
            · rename_i hc
              simp at ho;subst ho
              refine key _ (fun j x' hj=> ?_) (by simp;omega)
              rw [List.getElem?_take]at hj
              split at hj
              · rw [List.getElem?_drop]at hj;exact hj
              · simp at hj
            · cases ho
        · cases ho
      | false =>
        rw [hagg]at ho
        have key: ∀ (j:Nat) (y:AVal),e.cells[j]? =some y→a.fld=j→ ∃ v',(Instr.loadAt t (.pointer (some (p.at a.idx a.fld)))).run P w= .ok v' w∧VRel φ y v':=by
          intro j y hy hj
          subst hj
          obtain⟨x,g1,g2⟩:=hcells a.fld y hy
          refine⟨x,?_,g2.1⟩
          simp only [Instr.loadAt,Instr.sureAddr,Sem.run_bind,Sem.run_pure,Result.andThen_ok,loadVar,isAgg_run hu,hagg]
          simp [g1]
        simp only [loadElem]at ho
        cases e with
        | agg cs=>exact key a.fld v ho rfl
        | _ =>
          simp at ho
          obtain⟨hf,rfl⟩:=ho
          exact key 0 _ (by simp [AVal.cells]) hf
    · cases ho
  · cases ho
theorem VRel.oneCell {a:AVal}{v:Value}(h:VRel φ a v)(hs:a.simple=true):v.oneCell'=true:=by
  cases a with
  | undef=>cases hs
  | agg cs=>cases hs
  | tuple cs=>cases hs
  | bool b=>simp only [VRel]at h;subst h;rfl
  | int k n=>simp only [VRel]at h;subst h;rfl
  | str s=>simp only [VRel]at h;obtain⟨_,rfl,_⟩:=h;rfl
  | ptr o=>cases o with
    | none=>simp only [VRel]at h;subst h;rfl
    | some x=>simp only [VRel]at h;obtain⟨_,rfl,_⟩:=h;rfl
  | slice o l c=>cases o with
    | none=>simp only [VRel]at h;obtain⟨rfl,_⟩:=h;rfl
    | some x=>simp only [VRel]at h;obtain⟨_,_,rfl,_⟩:=h;rfl
  | func fn f c=>simp only [VRel]at h;obtain⟨_,_,rfl,_⟩:=h;rfl
  | nilFunc=>simp only [VRel]at h;subst h;rfl
  | iface t x=>simp only [VRel]at h;obtain⟨_,rfl,_⟩:=h;rfl
  | nilIface=>simp only [VRel]at h;subst h;rfl
end
end
end Go.Lift
namespace Go.Lift
noncomputable section
open Go.RowKit
section
variable {P:Program}{φ:Map}
theorem simple_cells {v:AVal}(h:v.simple=true):v.cells= [v]:=by
  cases v<;>first | rfl | (simp [AVal.simple]at h)
theorem fits_cells {v:AVal}{isA:Bool}{size:Nat}(h:v.fits isA size=true):v.cells.length=size∧v≠ .undef∧ ∀ c∈v.cells,c.simple=true:=by
  cases v<;>simp [AVal.fits,AVal.cells,AVal.simple]at h ⊢ <;>first | exact h.2.symm | exact⟨h.1.2,h.2⟩ | skip
theorem VRels.one {l:List AVal}{t:List Value}(h:VRels φ l t)(hs: ∀ c∈l,c.simple=true): ∀ x∈t,x.oneCell'=true:=by
  intro x hx
  obtain⟨i,hi,rfl⟩:=List.mem_iff_getElem.1 hx
  have hi':i<l.length:=by rw [← h.length];exact hi
  obtain⟨v,hv,rv⟩:=h.get (List.getElem?_eq_getElem hi')
  rw [List.getElem?_eq_getElem hi]at hv
  simp at hv;subst hv
  exact rv.oneCell (hs _ (List.getElem_mem _))
theorem sim_store {D:Tys} (hD:D.Ok P) {N0:Nat→Prop} {h h':AHeap} {w0 w:World} (r:HRel φ N0 h w) (hb0:Safe N0 w0 w) {t:TypeId} {a:AAddr} {v:AVal} {x' v':Value}
    (hx:VRel φ (.ptr (some a)) x') (hv:VRel φ v v') (ho:astore D t a v h=some h') :
    ∃ w',(Instr.storeAt t x' v').run P w= .ok () w'∧HRel φ N0 h' w'∧Safe N0 w0 w'∧h'.next=h.next:=by
  unfold astore at ho
  split at ho
  · rename_i d b hd hb
    obtain⟨ti,u,hti,hu,hk,hs, -⟩:=hD.get hd
    split at ho
    · rename_i hc
      simp only [Bool.and_eq_true,Bool.not_eq_true',beq_iff_eq]at hc
      obtain⟨⟨hfits,hro⟩,hver⟩:=hc
      split at ho
      · rename_i e he
        split at ho
        · rename_i e' hst
          simp at ho;subst ho
          simp only [VRel]at hx
          obtain⟨xa,rfl,p,hp,hes,hlo,rfl⟩:=hx
          rw [hver]at hp
          obtain⟨f1,f2,f3⟩:=fits_cells hfits
          have hcs:=hv.cells f2
          have hone:=hcs.one f3
          obtain⟨h1,c,h2,h3,h4,h5,h6,h7,h8⟩:=r.dom _ _ _ hp
          rw [hb]at h2;simp at h2;subst h2
          have hidx:a.idx<b.elems.length:=(List.getElem?_eq_some_iff.1 he).1
          obtain⟨c1,c2,c3⟩:=h8.cont a.idx e hlo (by simp [ABlk.lim];exact hidx) he
          have hec:a.fld+v.cells.length≤p.es∧e'.cells=putAll e.cells a.fld v.cells:=by
            unfold storeElem at hst
            split at hst
            · rename_i cs
              split at hst
              · rename_i hle
                simp at hst;subst hst
                simp only [AVal.cells]at c1
                exact⟨by omega,rfl⟩
              · cases hst
            · rename_i hne
              split at hst
              · rename_i hc
                simp at hst;subst hst
                have e1:e.cells= [e]:=by cases e<;>first | rfl | exact absurd rfl (hne _)
                rw [e1]at c1 ⊢
                have e2:=simple_cells hc.2
                rw [hc.1,e2]
                simp at c1
                exact⟨by simp;omega,rfl⟩
              · cases hst
          obtain⟨k1,k2⟩:=r.store hp hb hro hlo he hcs hone hec.1 hec.2
          refine⟨_,?_,k1,?_,rfl⟩
          · have hsz:v'.cells.size=ti.size:=by have:=hcs.length;rw [Array.length_toList]at this;omega
            have hrun:=run_storeCells_cells (P:=P) p.blk (p.off+(a.idx-p.lo)*p.es+a.fld) v'.cells.toList 0 w (fun j hj=>by simpa using (k2 j hj).1) (fun j hj=>by simpa using (k2 j hj).2) hone
            simp only [Nat.add_zero]at hrun
            simp only [Instr.storeAt,Instr.sureAddr,Sem.run_bind,Sem.run_pure,Result.andThen_ok,storeVar,sizeOf_run hti,hsz,Place.at]
            simp only [ne_eq,not_true_eq_false,if_false]
            exact hrun
          · exact below_setCells _ (h8.base (h6 hro)) _ _ hb0
        · cases ho
      · cases ho
    · cases ho
  · cases ho
theorem flat_one(v:AVal):flat [v]=v.cells:=by simp [flat]
theorem sim_new {D:Tys}{N0:Nat→Prop}{h:AHeap}{w0 w:World}(r:HRel φ N0 h w)(hb0:Safe N0 w0 w)(hN:Low N0 w0.heap.size){nid:Nat}(hid: ∀ v,φ nid v=none)(hn:nid<h.next)(t:TypeId){v:AVal}{v':Value}{isA:Bool}{size:Nat}
    (hv:VRel φ v v') (hfits:v.fits isA size=true) (hpos:0<size) :
    ∃ w' φ',(newVar t v').run P w= .ok ⟨w.heap.size,0,none⟩ w'∧Ext φ φ' h.next nid∧VRel φ' (.ptr (some ⟨nid,0,0,0,size⟩)) (.pointer (some ⟨w.heap.size,0,none⟩))
      ∧HRel φ' N0 (h.set nid (.made [v] size true (some (t,size)))) w'∧Safe N0 w0 w':=by
  obtain⟨f1,f2,f3⟩:=fits_cells hfits
  have hcs:=hv.cells f2
  have hone:=hcs.one f3
  have hlen:v'.cells.toList.length=size:=by rw [hcs.length,f1]
  have hN':Low N0 w.heap.size:=hN.le hb0.size
  refine⟨w.alloc (.cells v'.cells t),φ.add nid 0 ⟨w.heap.size,0,0,size,1,true,false⟩,rfl,Ext.add φ _ (hid 0) _,?_,?_,hb0.alloc hN' _⟩
  · simp only [VRel]
    refine⟨_,rfl,_,Map.add_self _ _ _ _,rfl,Nat.le_refl _,?_⟩
    simp [Place.at]
  · refine r.made hid hn hN' hpos (by intro e he;simp at he;subst he;exact f1) ?_ ?_ (by simp) ?_ (fun q h=>by cases h;exact⟨rfl,fun _=>by rw [← Array.length_toList,hlen]⟩)
    · rw [flat_one,List.take_of_length_le (by simp [hlen])];exact hcs
    · rw [← Array.length_toList,hlen];omega
    · intro x hx;exact hone x (List.mem_of_mem_take hx)
def putV(l:List Value)(i:Nat):List Value→List Value
  | []=>l
  | v::vs=>putV (l.set i v) (i+1) vs
theorem VRels.put {l m:List AVal}{t u:List Value}(h:VRels φ l t)(k:VRels φ m u)(i:Nat):VRels φ (Lift.putAll l i m) (putV t i u):=by
  induction m generalizing l t u i with
  | nil=>simp only [VRels]at k;subst k;exact h
  | cons a r ih =>
    simp only [VRels]at k
    obtain⟨v,u',rfl,h1,h2⟩:=k
    exact ih (h.set i h1) h2 (i+1)
theorem fold_put: ∀ (vs:List Value) (off k:Nat) (cells:Array Value),((vs.zipIdx k).foldl (fun cs (x:Value×Nat)=>cs.setIfInBounds (off+x.2) x.1) cells).toList=putV cells.toList (off+k) vs
  | [],off,k,cells=>rfl
  | v::vs,off,k,cells=>by
    simp only [List.zipIdx_cons,List.foldl_cons,putV]
    rw [fold_put vs off (k+1),Array.toList_setIfInBounds,Nat.add_assoc]
theorem fold_put'(vs:Array Value)(off:Nat)(cells:Array Value):(vs.zipIdx.foldl (fun cs (x:Value×Nat)=>cs.setIfInBounds (off+x.2) x.1) cells).toList=putV cells.toList off vs.toList:=by
  rw [← Array.foldl_toList,Array.toList_zipIdx]
  exact fold_put vs.toList off 0 cells
theorem sim_fill {place place':Nat→Option (Nat×Nat)} (hp: ∀ i x,place i=some x→place' i=some x): ∀ {parts:List (Nat×AVal)} {parts':List (Nat×Value)} {l l':List AVal} {cells:Array Value},
    (parts.map (·.1)=parts'.map (·.1))→VRels φ (parts.map (·.2)) (parts'.map (·.2))→VRels φ l cells.toList→afill place l parts=some l' →
    ∃ cells',Instr.fill place' cells parts'=some cells'∧VRels φ l' cells'.toList
  | [],[],l,l',cells,_,_,hl,h=>by
    simp [afill]at h;subst h
    exact⟨cells,rfl,hl⟩
  | [],_::_,_,_,_,h,_,_,_=>by simp at h
  | _::_,[],_,_,_,h,_,_,_=>by simp at h
  | (i, v)::rest,(i',v')::rest',l,l',cells,h1,h2,hl,h=>by
    simp at h1
    obtain⟨rfl,h1⟩:=h1
    simp only [List.map_cons,VRels]at h2
    obtain⟨u,t,e,hv,h2⟩:=h2
    simp at e
    obtain⟨rfl,rfl⟩:=e
    simp only [afill]at h
    split at h
    · cases h
    · rename_i off size hpl
      split at h
      · rename_i hc
        have hcs:=hv.cells (by rintro rfl;simp [AVal.known]at hc)
        have hsz:v'.cells.size=size:=by have:=hcs.length;rw [Array.length_toList]at this;omega
        have hcl:cells.size=l.length:=by have:=hl.length;rw [Array.length_toList]at this;omega
        have key:=sim_fill hp h1 h2 (l:=putAll l off v.cells) (cells:=v'.cells.zipIdx.foldl (fun cs (x:Value×Nat)=>cs.setIfInBounds (off+x.2) x.1) cells)
          (by rw [fold_put'];exact hl.put hcs off) h
        obtain⟨cells',k1,k2⟩:=key
        refine⟨cells',?_,k2⟩
        simp only [Instr.fill,hp _ _ hpl]
        split
        · rename_i hbad
          exfalso
          simp only [ne_eq,Bool.or_eq_true,decide_eq_true_eq]at hbad
          omega
        · exact k1
      · cases h
theorem parts_fst(parts:Array (Nat×Operand))(ρ:Operand→AVal)(ρ':Operand→Value) :
    (parts.toList.map fun p=>(p.1,ρ p.2)).map (·.1)=((parts.map fun(i,x)=>(i,ρ' x)).toList).map (·.1):=by
  simp only [Array.toList_map,List.map_map];rfl
theorem parts_snd {ρ:Operand→AVal}{ρ':Operand→Value}(hρ: ∀ x,VRel φ (ρ x) (ρ' x))(parts:Array (Nat×Operand)) :
    VRels φ ((parts.toList.map fun p=>(p.1,ρ p.2)).map (·.2)) (((parts.map fun(i,x)=>(i,ρ' x)).toList).map (·.2)):=by
  simp only [Array.toList_map,List.map_map]
  exact VRels.map _ _ _ fun x _=>hρ x.2
theorem zero_rel {D:Tys}(hD:D.Ok P){t:TypeId}{d:TyD}{i:TypeInfo}{z:AVal}(h:d.zero=i.zero.map ofConst)(hz:d.zero=some z): ∃ z',i.zero=some z'∧VRel φ z z':=by
  rw [hz]at h
  cases hi:i.zero with
  | none=>rw [hi]at h;cases h
  | some z'=>rw [hi]at h;simp at h;subst h;exact⟨z',rfl,ofConst_rel φ z'⟩
theorem mapM_places {fs:Array Field}{w:World}{g:Field→Nat}(hg: ∀ f∈fs.toList,(sizeOf f.type).run P w= .ok (g f) w) :
    ((fs.mapM fun f=>(do pure (f.offset,← sizeOf f.type):Sem (Nat×Nat)))).run P w= .ok (fs.map fun f=>(f.offset,g f)) w:=by
  have key: ∀ (l:List Field),(∀ f∈l,(sizeOf f.type).run P w= .ok (g f) w)→(l.mapM fun f=>(do pure (f.offset,← sizeOf f.type):Sem (Nat×Nat))).run P w= .ok (l.map fun f=>(f.offset,g f)) w:=by
    intro l
    induction l with
    | nil=>intro _;rfl
    | cons f r ih =>
      intro h
      simp only [List.mapM_cons,Sem.run_bind,h f (by simp),Result.andThen_ok,Sem.run_pure,ih (fun f hf=>h f (by simp [hf])),List.map_cons]
  have:=key fs.toList hg
  rw [← Array.toArray_toList (xs:=fs)]
  simp only [List.mapM_toArray,Sem.run_map,this,Result.andThen_ok,List.map_toArray]
theorem sim_build {D:Tys} (hD:D.Ok P) {t:TypeId} {parts:Array (Nat×Operand)} {ρ:Operand→AVal} {ρ':Operand→Value} (hρ: ∀ x,VRel φ (ρ x) (ρ' x)) {v:AVal}
    (h:abuild D t (parts.toList.map fun p=>(p.1,ρ p.2))=some v) (w:World) :
    ∃ v',(Instr.build t (parts.map fun(i,x)=>(i,ρ' x))).run P w= .ok v' w∧VRel φ v v':=by
  unfold abuild at h
  split at h
  · rename_i d hd
    obtain⟨ti,u,hti,hu,hk,hs, -,hz⟩:=hD.get hd
    split at h
    · rename_i fs z hk' hz'
      split at h
      · rename_i hkn
        rw [hk]at hk'
        obtain⟨fl,rfl,hfl⟩:=tkOf_struct hk'
        obtain⟨z',hz1,hz2⟩:=zero_rel (P:=P) (φ:=φ) (t:=t) hD hz hz'
        simp only [Option.map_eq_some_iff]at h
        obtain⟨cells,hc,rfl⟩:=h
        have hsz: ∀ f∈fl.toList,∃ x,D f.type=some x:=by
          intro f hf
          have hkn':=hkn.2
          unfold fieldsKnown at hkn'
          rw [hfl,List.all_eq_true]at hkn'
          have:=hkn' (f.offset,f.type) (List.mem_map.2 ⟨f,hf,rfl⟩)
          exact Option.isSome_iff_exists.1 this
        have hrun:=mapM_places (P:=P) (w:=w) (fs:=fl) (g:=fun f=>((D f.type).map (·.size)).getD 0) (fun f hf=>by
          obtain⟨x,hx⟩:=hsz f hf
          obtain⟨xi,xu,hxi, -, -,hxs, -⟩:=hD.get hx
          rw [sizeOf_run hxi,hx];simp [hxs])
        have hzu:z≠ .undef:=by rintro rfl;simp [AVal.known]at hkn
        obtain⟨cells',k1,k2⟩:=sim_fill (φ:=φ) (place':=fun i=>(fl.map fun f=>(f.offset,((D f.type).map (·.size)).getD 0))[i]?) (fun i x hx=>by
            split at hx
            · rename_i off ft hf
              simp only [Option.map_eq_some_iff]at hx
              obtain⟨y,hy,rfl⟩:=hx
              rw [hfl]at hf
              simp only [List.getElem?_map,Option.map_eq_some_iff]at hf
              obtain⟨ff,hff,he⟩:=hf
              simp at he
              obtain⟨rfl,rfl⟩:=he
              have hff':fl[i]? =some ff:=by simpa using hff
              simp [hff',hy]
            · cases hx) (parts_fst parts ρ ρ') (parts_snd hρ parts) (hz2.cells hzu) hc
        refine⟨.agg cells',?_,by simp only [VRel];exact⟨_,rfl,k2⟩⟩
        simp only [Instr.build,Sem.run_bind,zero_run hti hz1,Result.andThen_ok,run_underlying hu,hrun,k1,Sem.run_pure]
      · cases h
    · rename_i n e z hk' hz'
      split at h
      · rename_i xd hxd
        split at h
        · rename_i hkn
          rw [hk]at hk'
          have:=tkOf_array hk';subst this
          obtain⟨z',hz1,hz2⟩:=zero_rel (P:=P) (φ:=φ) (t:=t) hD hz hz'
          obtain⟨xi,xu,hxi, -, -,hxs, -⟩:=hD.get hxd
          simp only [Option.map_eq_some_iff]at h
          obtain⟨cells,hc,rfl⟩:=h
          have hzu:z≠ .undef:=by rintro rfl;simp [AVal.known]at hkn
          obtain⟨cells',k1,k2⟩:=sim_fill (φ:=φ) (place':=fun i=>some (i*xi.size,xi.size)) (fun i x hx=>by rw [← hxs];exact hx) (parts_fst parts ρ ρ') (parts_snd hρ parts) (hz2.cells hzu) hc
          refine⟨.agg cells',?_,by simp only [VRel];exact⟨_,rfl,k2⟩⟩
          simp only [Instr.build,Sem.run_bind,zero_run hti hz1,Result.andThen_ok,run_underlying hu,sizeOf_run hxi,k1,Sem.run_pure]
        · cases h
      · cases h
    · cases h
  · cases h
end
end
end Go.Lift
namespace Go.Lift
noncomputable section
open Go.RowKit
section
variable {P:Program}{φ:Map}
def Outs(P:Program)(φ:Map)(N0:Nat→Prop)(w0:World)(h:AHeap)(nid:Nat)(v:AVal)(h':AHeap)(s:Sem Value)(w:World):Prop :=
  ∃ v' w' φ',s.run P w= .ok v' w'∧Ext φ φ' h.next nid∧VRel φ' v v'∧HRel φ' N0 h' w'∧Safe N0 w0 w'∧h'.next=h.next
theorem Outs.pure {N0:Nat→Prop}{w0:World}{h:AHeap}{nid:Nat}{v:AVal}{s:Sem Value}{w:World}(r:HRel φ N0 h w)(hb:Safe N0 w0 w)(k: ∃ v',s.run P w= .ok v' w∧VRel φ v v'):Outs P φ N0 w0 h nid v h s w :=
  let ⟨v',h1,h2⟩:=k;⟨v',w,φ,h1,Ext.refl _ _ _,h2,r,hb,rfl⟩
theorem getBang(zs:Array Value)(i:Nat)(h:i<zs.size):zs[i]! =zs[i]:=by simp [getElem!_pos,h]
theorem zeros_rel {z:AVal}{z':Value}{es:Nat}(hz:VRel φ z z')(hk:z≠ .undef)(hlen:z.cells.length=es)(hes:0<es)(n:Nat) :
    VRels φ (flat (List.replicate n z)) ((Array.range (n*es)).map (fun i=>z'.cells[i % z'.cells.size]!)).toList:=by
  have hc:=hz.cells hk
  have hsz:z'.cells.size=es:=by have:=hc.length;rw [Array.length_toList]at this;omega
  have hall: ∀ e∈List.replicate n z,e.cells.length=es:=by intro e he;rw [List.eq_of_mem_replicate he];exact hlen
  refine VRels.of_get (by rw [flat_length hall];simp) fun i a v ha hv=> ?_
  have hi:i<(flat (List.replicate n z)).length:=(List.getElem?_eq_some_iff.1 ha).1
  obtain⟨q,j,e,rfl,he,hj⟩:=flat_split hall i hi
  have hez:e=z:=List.eq_of_mem_replicate (List.mem_of_getElem? he)
  subst hez
  have hcj:e.cells[j]? =some (e.cells[j]'(by omega)):=List.getElem?_eq_getElem _
  have hf:=flat_get hall he hcj
  rw [hf]at ha
  simp at ha;subst ha
  have hmod:(q*es+j) % es=j:=by rw [Nat.add_comm,Nat.add_mul_mod_self_right];exact Nat.mod_eq_of_lt hj
  have hlt:q*es+j<n*es:=by rw [flat_length hall]at hi;simpa using hi
  obtain⟨u,hu,ru⟩:=hc.get hcj
  have huj:z'.cells[j]'(by omega)=u:=by
    have:=(List.getElem?_eq_some_iff.1 hu).2;simpa using this
  simp only [Array.toList_map,Array.toList_range,List.getElem?_map,List.getElem?_range hlt,Option.map_some,Option.some.injEq]at hv
  rw [hsz,hmod,getBang _ _ (by omega),huj]at hv
  subst hv;exact ru
theorem setParts_spec: ∀ {parts:List (Nat×AVal)} {l l':List AVal},setParts l parts=some l'→l'.length=l.length
  | [],l,l',h=>by simp [setParts]at h;subst h;rfl
  | (i,v)::r,l,l',h=>by
    simp only [setParts]at h
    split at h
    · rw [setParts_spec h];simp
    · cases h
theorem flat_set {es:Nat} : ∀ {l:List AVal} (hl: ∀ e∈l,e.cells.length=es) {i:Nat} {v:AVal},i<l.length→v.cells.length=es→flat (l.set i v)=putAll (flat l) (i*es) v.cells:=by
  intro l hl i v hi hv
  have hl': ∀ e∈l.set i v,e.cells.length=es:=by
    intro e he
    rcases List.mem_or_eq_of_mem_set he with h | h
    · exact hl e h
    · rw [h];exact hv
  apply List.ext_getElem?
  intro k
  rw [putAll_get]
  by_cases hk:k<(flat (l.set i v)).length
  · obtain⟨q,j,e,rfl,he,hj⟩:=flat_split hl' k hk
    have hej:e.cells.length=es:=hl' e (List.mem_of_getElem? he)
    rw [flat_get hl' he (List.getElem?_eq_getElem (by omega:j<e.cells.length))]
    have hkl:q*es+j<(flat l).length:=by rw [flat_length hl];rw [flat_length hl',List.length_set]at hk;exact hk
    by_cases hqi:i=q
    · subst hqi
      rw [List.getElem?_set_self hi]at he
      simp at he;subst he
      rw [if_pos ⟨by omega,by rw [hv];omega,hkl⟩,show i*es+j-i*es=j by omega,List.getElem?_eq_getElem (by omega)]
    · rw [List.getElem?_set_ne hqi]at he
      rw [if_neg]
      · rw [flat_get hl he (List.getElem?_eq_getElem (by omega:j<e.cells.length))]
      · intro hc
        rcases Nat.lt_or_ge q i with hlt | hge
        · have:=row_lt (i:=q) (k:=i) (j:=j) (es:=es) hlt hj;omega
        · have:=row_lt (i:=i) (k:=q) (j:=es-1) (es:=es) (by omega) (by omega);omega
  · rw [List.getElem?_eq_none (by omega),if_neg (by rw [flat_length hl',List.length_set]at hk;rw [flat_length hl];omega),List.getElem?_eq_none (by rw [flat_length hl];rw [flat_length hl',List.length_set]at hk;omega)]
theorem sim_setParts {es:Nat} : ∀ {parts:List (Nat×AVal)} {parts':List (Nat×Value)} {l l':List AVal} {cells:Array Value},
    (parts.map (·.1)=parts'.map (·.1))→VRels φ (parts.map (·.2)) (parts'.map (·.2))→(∀ p∈parts,p.2≠ .undef∧p.2.cells.length=es)→(∀ e∈l,e.cells.length=es)→VRels φ (flat l) cells.toList→setParts l parts=some l' →
    ∃ cells',Instr.fill (fun i=>some (i*es,es)) cells parts'=some cells'∧VRels φ (flat l') cells'.toList∧(∀ e∈l',e.cells.length=es)
  | [],[],l,l',cells,_,_,_,hl0,hl,h=>by
    simp [setParts]at h;subst h
    exact⟨cells,rfl,hl,hl0⟩
  | [],_::_,_,_,_,h,_,_,_,_,_=>by simp at h
  | _::_,[],_,_,_,h,_,_,_,_,_=>by simp at h
  | (i, v)::rest,(i',v')::rest',l,l',cells,h1,h2,h3,hl0,hl,h=>by
    simp at h1
    obtain⟨rfl,h1⟩:=h1
    simp only [List.map_cons,VRels]at h2
    obtain⟨u,t,e,hv,h2⟩:=h2
    simp at e
    obtain⟨rfl,rfl⟩:=e
    simp only [setParts]at h
    split at h
    · rename_i hi
      obtain⟨hvu,hvl⟩:v≠ .undef∧v.cells.length=es:=h3 (i,v) (by simp)
      have hcs:=hv.cells hvu
      have hsz:v'.cells.size=es:=by have:=hcs.length;rw [Array.length_toList]at this;omega
      have hcl:cells.size=l.length*es:=by have:=hl.length;rw [Array.length_toList,flat_length hl0]at this;omega
      have hle:i*es+es≤l.length*es:=by have:=Nat.mul_le_mul_right es (show i+1≤l.length by omega);rw [Nat.succ_mul]at this;exact this
      have key:=sim_setParts h1 h2 (fun p hp'=>h3 p (by simp [hp'])) (l:=l.set i v) (cells:=v'.cells.zipIdx.foldl (fun cs (x:Value×Nat)=>cs.setIfInBounds (i*es+x.2) x.1) cells)
        (by
          intro e he
          rcases List.mem_or_eq_of_mem_set he with h | h
          · exact hl0 e h
          · rw [h];exact hvl)
        (by rw [fold_put',flat_set hl0 hi hvl];exact hl.put hcs _) h
      obtain⟨cells',k1,k2,k3⟩:=key
      refine⟨cells',?_,k2,k3⟩
      simp only [Instr.fill]
      split
      · rename_i hbad
        exfalso
        simp only [ne_eq,Bool.or_eq_true,decide_eq_true_eq]at hbad
        omega
      · exact k1
    · cases h
theorem flat_simple {l:List AVal}{isA:Bool}{es:Nat}(h: ∀ e∈l,e.fits isA es=true): ∀ c∈flat l,c.simple=true:=by
  intro c hc
  obtain⟨e,he,hce⟩:=List.mem_flatMap.1 hc
  exact(fits_cells (h e he)).2.2 c hce
theorem newRow_run(t:TypeId)(c:Array Value)(w:World):(newRow t c).run P w= .ok ⟨w.heap.size,0,none⟩ (w.alloc (.cells c t)):=rfl
theorem VRel.newSlice {φ:Map}{nid b es len cap tot:Nat}{ex:Bool}{cap':Nat}(hlc:len≤cap)(hcc:cap≤cap')(ht:cap'≤tot)(hex:ex=true→cap'=cap) :
    VRel (φ.add nid 0 ⟨b,0,0,es,tot,ex,false⟩) (newSlice nid es len cap) (.slice (some ⟨b,0,none⟩) len cap'):=by
  simp only [Lift.newSlice,VRel]
  refine⟨_,_,rfl,hlc,hcc,.inl ⟨rfl,_,Map.add_self _ _ _ _,rfl,.inr ⟨Nat.le_refl _,?_,by simpa using ht⟩,hex⟩⟩
  simp [Place.at]
theorem sim_buildSlice {D:Tys} (hD:D.Ok P) {N0:Nat→Prop} {h h':AHeap} {w0 w:World} (r:HRel φ N0 h w) (hb0:Safe N0 w0 w) (hN:Low N0 w0.heap.size) {nid:Nat} (hid: ∀ v,φ nid v=none) (hn:nid<h.next)
    {t:TypeId} {n:Nat} {parts:Array (Nat×Operand)} {ρ:Operand→AVal} {ρ':Operand→Value} (hρ: ∀ x,VRel φ (ρ x) (ρ' x)) {v:AVal}
    (ho:abuildSlice D t n (parts.toList.map fun p=>(p.1,ρ p.2)) nid h=some (v,h')) :
    Outs P φ N0 w0 h nid v h' (Instr.buildSlice t n (parts.map fun(i,x)=>(i,ρ' x))) w:=by
  unfold abuildSlice at ho
  split at ho
  · rename_i d hd
    obtain⟨ti,u,hti,hu,hk,hs, -, -⟩:=hD.get hd
    split at ho
    · rename_i e hk'
      rw [hk]at hk'
      have:=tkOf_slice hk';subst this
      split at ho
      · rename_i xd hxd
        obtain⟨xi,xu,hxi, -, -,hxs, -,hxz⟩:=hD.get hxd
        split at ho
        · rename_i z hz
          obtain⟨z',hz1,hz2⟩:=zero_rel (P:=P) (φ:=φ) (t:=e) hD hxz hz
          split at ho
          · rename_i hc
            obtain⟨hc1,hc2,hc3,hc4⟩:=hc
            split at ho
            · rename_i l hl
              simp at ho
              obtain⟨rfl,rfl⟩:=ho
              obtain⟨f1,f2,f3⟩:=fits_cells hc3
              have hpos:0<xi.size:=by omega
              have hrep: ∀ e∈List.replicate n z,e.fits xd.kind.isAgg xd.size=true:=by intro e he;rw [List.eq_of_mem_replicate he];exact hc3
              have hlf: ∀ e∈l,e.fits xd.kind.isAgg xd.size=true:=by
                have key: ∀ (parts:List (Nat×AVal)) (m m':List AVal),(∀ p∈parts,p.2.fits xd.kind.isAgg xd.size=true)→(∀ e∈m,e.fits xd.kind.isAgg xd.size=true)→setParts m parts=some m'→ ∀ e∈m',e.fits xd.kind.isAgg xd.size=true:=by
                  intro parts
                  induction parts with
                  | nil=>intro m m' _ hm hs;simp [setParts]at hs;subst hs;exact hm
                  | cons p r ih =>
                    obtain⟨i,v⟩:=p
                    intro m m' hp hm hs
                    simp only [setParts]at hs
                    split at hs
                    · refine ih (m.set i v) m' (fun p hp'=>hp p (by simp [hp'])) ?_ hs
                      intro e he
                      rcases List.mem_or_eq_of_mem_set he with h | h
                      · exact hm e h
                      · rw [h];exact hp (i,v) (by simp)
                    · cases hs
                exact key _ _ _ (fun p hp=>List.all_eq_true.1 hc4 p hp) hrep hl
              obtain⟨cells',k1,k2,k3⟩:=sim_setParts (φ:=φ) (es:=xi.size) (parts_fst parts ρ ρ') (parts_snd hρ parts)
                (fun p hp=>by have:=fits_cells (List.all_eq_true.1 hc4 p hp);exact⟨this.2.1,by omega⟩)
                (by intro e he;rw [List.eq_of_mem_replicate he];omega)
                (zeros_rel hz2 f2 (by omega:z.cells.length=xi.size) hpos n) hl
              have hll:l.length=n:=by rw [setParts_spec hl];simp
              have hN':Low N0 w.heap.size:=hN.le hb0.size
              have hfl:(flat l).length=n*xi.size:=by rw [flat_length k3,hll]
              have hcl:cells'.size=n*xi.size:=by have:=k2.length;rw [Array.length_toList]at this;omega
              refine⟨.slice (some ⟨w.heap.size,0,none⟩) n n,w.alloc (.cells cells' e),φ.add nid 0 ⟨w.heap.size,0,0,xd.size,n,true,false⟩,?_,Ext.add φ _ (hid 0) _,VRel.newSlice (Nat.le_refl _) (Nat.le_refl _) (Nat.le_refl _) (fun _=>rfl),?_,hb0.alloc hN' _,rfl⟩
              · have hle: ¬ n*xi.size>2^24:=by rw [← hxs];omega
                simp only [Instr.buildSlice,Sem.run_bind,run_underlying hu,Result.andThen_ok,sizeOf_run hxi]
                rw [if_neg hle]
                by_cases hn0:n*xi.size=0
                · have hn0':n=0:=by rcases Nat.mul_eq_zero.1 hn0 with h | h<;>omega
                  subst hn0'
                  simp only [Nat.zero_mul,if_true,Sem.run_bind,Sem.run_pure,Result.andThen_ok]at k1 ⊢
                  have e0:(Array.range 0).map (fun i=>(#[]:Array Value)[i % (#[]:Array Value).size]!)=(Array.range 0).map (fun i=>z'.cells[i % z'.cells.size]!):=by simp
                  rw [e0,k1];rfl
                · rw [if_neg hn0]
                  simp only [Sem.run_bind,zero_run hxi hz1,Result.andThen_ok,Sem.run_pure,k1]
                  rfl
              · refine r.made hid hn hN' hc2 (by intro e he;rw [k3 e he,hxs]) ?_ (by rw [hcl,hxs];exact Nat.le_refl _) (by omega) ?_ nofun
                · rw [List.take_of_length_le (by rw [Array.length_toList,hcl,hll,hxs];exact Nat.le_refl _)];exact k2
                · intro x hx;exact k2.one (flat_simple hlf) x (List.mem_of_mem_take hx)
            · cases ho
          · cases ho
        · cases ho
      · cases ho
    · cases ho
  · cases ho
theorem wrap_id {k:IntKind}{n:Int}(h:0≤n)(h2:n<2^62)(hk:k= .i64):k.wrap n=n:=by
  subst hk
  have e:(2:Int)^62=4611686018427387904:=by decide
  exact IntWalk.i64_in _ (by omega)
theorem sim_makeSlice {D:Tys} (hD:D.Ok P) {N0:Nat→Prop} {h h':AHeap} {w0 w:World} (r:HRel φ N0 h w) (hb0:Safe N0 w0 w) (hN:Low N0 w0.heap.size) {nid:Nat} (hid: ∀ v,φ nid v=none) (hn:nid<h.next)
    {t:TypeId} {x y v:AVal} {x' y':Value} (hx:VRel φ x x') (hy:VRel φ y y') (ho:amakeSlice D t x y nid h=some (v,h')) :
    Outs P φ N0 w0 h nid v h' (Instr.makeSlice t x' y') w:=by
  unfold amakeSlice at ho
  split at ho
  · rename_i d k1 l k2 c hd
    simp only [VRel]at hx hy;subst hx hy
    obtain⟨ti,u,hti,hu,hk,hs, -, -⟩:=hD.get hd
    split at ho
    · rename_i e hk'
      rw [hk]at hk'
      have:=tkOf_slice hk';subst this
      split at ho
      · rename_i xd hxd
        obtain⟨xi,xu,hxi, -, -,hxs,hxb,hxz⟩:=hD.get hxd
        split at ho
        · rename_i z hz
          obtain⟨z',hz1,hz2⟩:=zero_rel (P:=P) (φ:=φ) (t:=e) hD hxz hz
          split at ho
          · rename_i hc
            obtain⟨hc1,hc2,hc3,hc4,hc5,hc6⟩:=hc
            simp at ho
            obtain⟨rfl,rfl⟩:=ho
            obtain⟨f1,f2,f3⟩:=fits_cells hc6
            have hpos:0<xi.size:=by omega
            have hN':Low N0 w.heap.size:=hN.le hb0.size
            have hwl:IntKind.i64.wrap l=l:=wrap_id hc1 (by omega) rfl
            have hwc:IntKind.i64.wrap c=c:=wrap_id (by omega) hc3 rfl
            have hzr:=zeros_rel hz2 f2 (by omega:z.cells.length=xi.size) hpos c.toNat
            have hrep: ∀ e∈List.replicate c.toNat z,e.fits xd.kind.isAgg xd.size=true:=by intro e he;rw [List.eq_of_mem_replicate he];exact hc6
            have hall: ∀ e∈List.replicate c.toNat z,e.cells.length=xi.size:=by intro e he;rw [List.eq_of_mem_replicate he];omega
            refine⟨.slice (some ⟨w.heap.size,0,none⟩) l.toNat c.toNat,w.alloc (.cells ((Array.range (c.toNat*xi.size)).map (fun i=>z'.cells[i % z'.cells.size]!)) e),
              φ.add nid 0 ⟨w.heap.size,0,0,xd.size,c.toNat,true,false⟩,?_,Ext.add φ _ (hid 0) _,VRel.newSlice (by omega) (Nat.le_refl _) (Nat.le_refl _) (fun _=>rfl),?_,hb0.alloc hN' _,rfl⟩
            · have hcc: ¬ c<0:=by omega
              have hll: ¬ l<0:=by omega
              have hgt: ¬ l>c:=by omega
              have hbig: ¬ ((xi.bytes:Int)*c>2^48):=by rw [← hxb];omega
              simp only [Instr.makeSlice,Sem.run_bind,run_underlying hu,Result.andThen_ok,asInt,asIntOf,Sem.run_pure,typeInfo_run hxi,hwl,hwc]
              rw [if_neg (by simp only [Bool.or_eq_true,decide_eq_true_eq];omega)]
              simp only [Sem.run_bind,Sem.run_pure,run_askRoom,Result.andThen_ok,sizeOf_run hxi]
              by_cases hn0:c.toNat*xi.size=0
              · have e0:c.toNat*xi.size=0:=hn0
                rw [if_pos hn0]
                have e1:Array.range 0= #[]:=rfl
                simp only [Sem.run_bind,Sem.run_pure,Result.andThen_ok,e0,newRow_run,e1]
                simp
              · rw [if_neg hn0]
                simp only [Sem.run_bind,zero_run hxi hz1,Result.andThen_ok,Sem.run_pure,newRow_run]
            · refine r.made hid hn hN' hc5 (by intro e he;rw [hall e he,hxs]) ?_ (by rw [hxs];simp) (by simp) ?_ nofun
              · rw [List.take_of_length_le (by simp [hxs])];exact hzr
              · intro x hx;exact hzr.one (flat_simple hrep) x (List.mem_of_mem_take hx)
          · cases ho
        · cases ho
      · cases ho
    · cases ho
  · cases ho
theorem sim_len {D:Tys} (hD:D.Ok P) {t:TypeId} {x v:AVal} {xs:Array Value} {ts:Array TypeId} (ty:TypeId) (hx:VRels φ [x] xs.toList) (ht:ts[0]? =some t) (h:alen D t x=some v) (w:World) :
    ∃ v',(Builtin.len_ ts ty xs).run P w= .ok v' w∧VRel φ v v':=by
  simp only [VRels]at hx
  obtain⟨x',l,e,hx,hl⟩:=hx
  have hx0:xs[0]? =some x':=by rw [← Array.getElem?_toList,e];rfl
  unfold alen at h
  split at h
  · rename_i d a n c hd
    obtain⟨ti,u,hti,hu,hk, -⟩:=hD.get hd
    split at h
    · rename_i e hk';rw [hk]at hk';have:=tkOf_slice hk';subst this
      simp at h;subst h
      refine⟨.int .i64 n,?_,by simp only [VRel]⟩
      have: ∃ a' c',x'= .slice a' n c':=by
        cases a with
        | none=>simp only [VRel]at hx;obtain⟨rfl,rfl,rfl⟩:=hx;exact⟨_,_,rfl⟩
        | some a=>simp only [VRel]at hx;obtain⟨_,_,rfl,_⟩:=hx;exact⟨_,_,rfl⟩
      obtain⟨a',c',rfl⟩:=this
      simp [Builtin.len_,ht,hx0,run_underlying hu,goInt]
    · cases h
  · rename_i d s hd
    obtain⟨ti,u,hti,hu,hk, -⟩:=hD.get hd
    split at h
    · rename_i hk';rw [hk]at hk';have:=tkOf_string hk';subst this
      simp at h;subst h
      simp only [VRel]at hx
      obtain⟨s',rfl,rfl⟩:=hx
      refine⟨.int .i64 s'.size,?_,by simp only [VRel];rfl⟩
      simp [Builtin.len_,ht,hx0,run_underlying hu,goInt]
    · cases h
  · rename_i d hd _ _
    obtain⟨ti,u,hti,hu,hk, -⟩:=hD.get hd
    split at h
    · rename_i n e hk';rw [hk]at hk';have:=tkOf_array hk';subst this
      simp at h;subst h
      refine⟨.int .i64 n,?_,by simp only [VRel]⟩
      simp [Builtin.len_,ht,hx0,run_underlying hu,goInt]
    · cases h
  · cases h
end
end
end Go.Lift
namespace Go.Lift
noncomputable section
open Go.RowKit
section
variable {P:Program}{φ:Map}
theorem HRel.readElems {N0:Nat→Prop}{h:AHeap}{w:World}(r:HRel φ N0 h w){id ver:Nat}{p:Place}(hp:φ id ver=some p){b:ABlk}(hb:h.get id=some b){idx len:Nat}
    (hlo:p.lo≤idx) (hl:idx+len≤b.lim ver) (hle:idx+len≤b.elems.length) :
    ∃ news,VRels φ (flat ((b.elems.drop idx).take len)) news∧w.rangeAt p.blk (p.off+(idx-p.lo)*p.es) news∧(∀ x∈news,x.oneCell'=true)∧(∀ e∈(b.elems.drop idx).take len,e.cells.length=p.es)∧news.length=len*p.es:=by
  obtain⟨h1,c,h2,h3,h4,h5,h6,h7,h8⟩:=r.dom _ _ _ hp
  rw [hb]at h2;simp at h2;subst h2
  have hget: ∀ (i:Nat) (e:AVal),((b.elems.drop idx).take len)[i]? =some e→i<len∧b.elems[idx+i]? =some e:=by
    intro i e he
    rw [List.getElem?_take]at he
    split at he
    · rw [List.getElem?_drop]at he;exact⟨by assumption,he⟩
    · simp at he
  have hall: ∀ e∈(b.elems.drop idx).take len,e.cells.length=p.es:=by
    intro e he
    obtain⟨i,hi⟩:=List.getElem?_of_mem he
    obtain⟨g1,g2⟩:=hget i e hi
    exact(h8.cont (idx+i) e (by omega) (by omega) g2).1
  obtain⟨news,n1,n2,n3⟩:=range_of (φ:=φ) (w:=w) (b:=p.blk) (o:=p.off+(idx-p.lo)*p.es) (l:=flat ((b.elems.drop idx).take len)) (fun k x' hk=>by
    have hkl:=(List.getElem?_eq_some_iff.1 hk).1
    obtain⟨i,j,e,rfl,he,hj⟩:=flat_split hall k hkl
    obtain⟨g1,g2⟩:=hget i e he
    have hej:e.cells.length=p.es:=hall e (List.mem_of_getElem? he)
    obtain⟨c1,c2,c3⟩:=h8.cont (idx+i) e (by omega) (by omega) g2
    have hcj:e.cells[j]? =some (e.cells[j]'(by omega)):=List.getElem?_eq_getElem _
    rw [flat_get hall he hcj]at hk
    simp at hk;subst hk
    obtain⟨x,x1,x2⟩:=c3 j _ hcj
    refine⟨x,?_,x2⟩
    have e2:(idx+i-p.lo)*p.es=(idx-p.lo)*p.es+i*p.es:=by rw [← Nat.add_mul];congr 1;omega
    rw [show p.off+(idx-p.lo)*p.es+(i*p.es+j)=p.off+(idx+i-p.lo)*p.es+j by omega]
    exact x1)
  exact⟨news,n1,n2,n3,hall,by rw [n1.length,flat_length hall];congr 1;simp;omega⟩
theorem sim_elems {N0 : Nat→Prop} {h:AHeap} {w:World} (r:HRel φ N0 h w) {es:Nat} {x:AVal} {x':Value} (hx:VRel φ x x') {l:List AVal} (he:elemsOf es x h=some l) (hes:0<es) {tx:TypeId}
    (hk:(∃ e',P.underlying tx=some (.slice e'))∨P.underlying tx=some .string) :
    ∃ news,Src P es tx x' l.length news w∧VRels φ (flat l) news∧(∀ e∈l,e.cells.length=es):=by
  unfold elemsOf at he
  split at he
  · rename_i c
    simp at he;subst he
    simp only [VRel]at hx
    obtain⟨rfl,_,_⟩:=hx
    refine⟨[],⟨hk,fun _=>rfl,run_firstCells_none w es 0 0 0,run_firstCells_none w.drew es 0 0 0,by simp,by simp⟩,by simp [flat,VRels],by simp⟩
  · rename_i a len cap
    simp only [VRel]at hx
    obtain⟨xa,cap',rfl,l1,l2,hso⟩:=hx
    have hempty:len=0→l= []→ ∃ news,Src P es tx (.slice (some xa) len cap') l.length news w∧VRels φ (flat l) news∧(∀ e∈l,e.cells.length=es):=by
      rintro rfl rfl
      exact⟨[],⟨hk,fun _=>rfl,run_firstCells_some w es 0 xa 0 cap' [] (by simp) (by simp),run_firstCells_some w.drew es 0 xa 0 cap' [] (by simp) (by simp),by simp,by simp⟩,by simp [flat,VRels],by simp⟩
    split at he
    · rename_i hf
      obtain⟨p,hp,hes',hor,hex⟩:=hso.plain hf
      split at he
      · rename_i hae
        split at he
        · rename_i b hb
          split at he
          · rename_i h0
            simp at he;subst he
            exact hempty h0 rfl
          · rename_i h0
            split at he
            · rename_i hl
              simp at he;subst he
              rcases hor with hz | ⟨hlo,rfl,htot⟩
              · omega
              · obtain⟨_,c,h2,_⟩:=r.dom _ _ _ hp
                have hle:a.idx+len≤b.elems.length:=hl.2
                obtain⟨news,n1,n2,n3,n4,n5⟩:=r.readElems hp hb hlo hl.1 hle
                have hlen:((b.elems.drop a.idx).take len).length=len:=by simp;omega
                have hpe:p.es=es:=by omega
                refine⟨news,?_,n1,by rw [← hpe];exact n4⟩
                rw [hlen]
                have hc: ∀ j v,news[j]? =some v→w.cell? ((p.at a.idx 0).add j)=some v:=by
                  intro j v hv
                  rw [Place.at_add,Nat.zero_add]
                  exact n2 j v hv
                exact⟨hk,fun _=>rfl,run_firstCells_some w es len _ len cap' news (by rw [n5,hpe]) hc,run_firstCells_some w.drew es len _ len cap' news (by rw [n5,hpe]) (by simpa using hc),by rw [n5,hpe],n3⟩
            · cases he
        · split at he
          · rename_i h0
            simp at he;subst he
            exact hempty h0 rfl
          · cases he
      · cases he
    · rename_i hf
      split at he
      · rename_i h0
        simp at he;subst he
        exact hempty h0 rfl
      · rename_i h0
        split at he
        · rename_i h1
          subst h1
          split at he
          · rename_i b hb
            split at he
            · rename_i cs hcs
              split at he
              · rename_i hc
                simp only [Option.some.injEq]at he;subst he
                rcases hso with ⟨hf2,_⟩ | ⟨f,hff,p,hp,hes',hlo,rfl⟩
                · exact absurd hf2 hf
                · simp only at hp hes' hlo
                  obtain⟨g1,b',g2,g3,g4,g5,g6,g7,g8⟩:=r.dom _ _ _ hp
                  rw [hb]at g2;simp at g2;subst g2
                  have hfe:a.fld-1=f:=by omega
                  rw [hfe]at hc ⊢
                  unfold ABlk.elem? at hcs
                  split at hcs
                  · rename_i hlim
                    obtain⟨q1,q2,q3⟩:=g8.cont a.idx _ hlo hlim hcs
                    have hln:((cs.drop f).take len).length=len:=by simp;omega
                    obtain⟨vs,v1,v2,v3⟩:=range_of (φ:=φ) (w:=w) (b:=p.blk) (o:=p.off+(a.idx-p.lo)*p.es+f) (l:=(cs.drop f).take len) (fun j x' hx=>by
                      rw [List.getElem?_take]at hx
                      split at hx
                      · rw [List.getElem?_drop]at hx
                        obtain⟨x,y1,y2⟩:=q3 (f+j) x' hx
                        refine⟨x,?_,y2⟩
                        rw [← y1];unfold Place.at;congr 2;omega
                      · cases hx)
                    have hvl:vs.length=len:=by have:=v1.length;omega
                    have hfl:flat ((cs.drop f).take len)=(cs.drop f).take len:=by
                      have hs:=hc.2
                      generalize (cs.drop f).take len=l at hs
                      induction l with
                      | nil=>rfl
                      | cons x r ih =>
                        simp only [List.all_cons,Bool.and_eq_true]at hs
                        have ih:=ih hs.2
                        simp only [flat,List.flatMap_cons]at ih ⊢
                        rw [simple_cells hs.1,ih];rfl
                    refine⟨vs,?_,by rw [hfl];exact v1,fun e he=>by rw [simple_cells (List.all_eq_true.1 hc.2 e he)];rfl⟩
                    rw [hln]
                    have hcell: ∀ j v,vs[j]? =some v→w.cell? ((p.at a.idx f).add j)=some v:=by
                      intro j v hv
                      rw [Place.at_add]
                      have:=v2 j v hv
                      rw [← this];unfold Place.at;congr 2;omega
                    exact⟨hk,fun _=>rfl,run_firstCells_some w 1 len _ len cap' vs (by omega) hcell,run_firstCells_some w.drew 1 len _ len cap' vs (by omega) (by simpa using hcell),by omega,v3⟩
                  · cases hcs
              · cases he
            · cases he
          · cases he
        · cases he
  · rename_i s
    split at he
    · rename_i h1
      subst h1
      simp at he;subst he
      simp only [VRel]at hx
      obtain⟨s',rfl,rfl⟩:=hx
      have hlen:(s'.data.toList.map fun b=>AVal.int .u8 b.toNat).length=s'.size:=by rw [List.length_map,Array.length_toList];rfl
      refine⟨byteCells s',?_,?_,?_⟩
      · rw [hlen]
        exact⟨hk,fun _=>rfl,firstCells_string s' w,firstCells_string s' w.drew,by rw [byteCells_length,Nat.mul_one],fun u hu=>by
          obtain⟨_,_,rfl⟩:=List.mem_map.1 hu
          rfl⟩
      · have:flat (s'.data.toList.map fun b=>AVal.int .u8 b.toNat)=s'.data.toList.map fun b=>AVal.int .u8 b.toNat:=by
          generalize s'.data.toList=l
          induction l with
          | nil=>rfl
          | cons a r ih=>simp only [List.map_cons,flat,List.flatMap_cons,AVal.cells]at ih ⊢; rw [ih];rfl
        rw [this]
        exact VRels.map _ _ _ fun b _=>by simp only [VRel]
      · intro e he
        obtain⟨b,_,rfl⟩:=List.mem_map.1 he
        rfl
    · cases he
  · cases he
theorem growBy_le(n:Nat): ∀ (r c:Nat),c≤n+n / 4+512→Builtin.growBy n r c≤n+n / 4+512
  | 0,c,h=>h
  | r+1,c,h=>by
    simp only [Builtin.growBy]
    split
    · exact h
    · exact growBy_le n r _ (by omega)
theorem nextslicecap_le {need cap:Nat}(h:cap<need):Builtin.nextslicecap need cap≤need+need / 4+512:=by
  unfold Builtin.nextslicecap
  split
  · omega
  · split
    · omega
    · exact growBy_le _ _ _ (by omega)
theorem zeroCells_size(zs:Array Value)(n:Nat):(Builtin.zeroCells zs n).size=n*zs.size:=by
  simp [Builtin.zeroCells]
theorem Alike.drew'(w:World):Alike w w.drew:=Alike.drew w _
theorem growRow {vs:List Value}{zs:Array Value}{n c es:Nat}(hl:vs.length=n*es)(hz:zs.size=es)(hn:n≤c) :
    (vs.toArray++Builtin.zeroCells zs (c-n)).size=c*es∧(vs.toArray++Builtin.zeroCells zs (c-n)).toList.take (n*es)=vs:=by
  constructor
  · simp only [Array.size_append,List.size_toArray,zeroCells_size,hl,hz]
    rw [← Nat.add_mul];congr 1;omega
  · simp only [Array.toList_append]
    rw [List.take_left' (by simpa using hl)]
theorem flat_append(l m:List AVal):flat (l++m)=flat l++flat m:=by simp [flat]
theorem sim_append {D : Tys} (hD:D.Ok P) {N0:Nat→Prop} {h h':AHeap} {w0 w:World} (r:HRel φ N0 h w) (hb0:Safe N0 w0 w) (hN:Low N0 w0.heap.size) {nid:Nat} (hid: ∀ v,φ nid v=none) (hn:nid<h.next)
    {t tx:TypeId} (ty:TypeId) {s x v:AVal} {s' x':Value} (hs:VRel φ s s') (hx:VRel φ x x')
    (hk:(∃ e',P.underlying tx=some (.slice e'))∨P.underlying tx=some .string) (ho:aappend D t s x nid h=some (v,h')) :
    Outs P φ N0 w0 h nid v h' (Builtin.append_ #[t,tx] ty #[s',x']) w:=by
  unfold aappend at ho
  split at ho
  · rename_i d base len cap hd
    obtain⟨ti,u,hti,hu,hkd,_, -, -⟩:=hD.get hd
    split at ho
    · rename_i e hk'
      rw [hkd]at hk'
      have:=tkOf_slice hk';subst this
      split at ho
      · rename_i xd hxd
        obtain⟨xi,xu,hxi, -, -,hxs,hxb,hxz⟩:=hD.get hxd
        split at ho
        · rename_i new hnew
          simp only at ho
          split at ho
          · rename_i hc
            obtain⟨hc1,hc2,hc3,hc4⟩:=hc
            obtain⟨news,src,hvr,hel⟩:=sim_elems (P:=P) (tx:=tx) r hx hnew hc1 hk
            rw [hxs]at src
            have hN':Low N0 w.heap.size:=hN.le hb0.size
            have hzc: ∃ z',xi.zero=some z'∧z'.cells.size=xi.size:=by
              unfold TyD.zeroFits at hc4
              cases hzz:xd.zero with
              | none=>simp [hzz]at hc4
              | some z =>
                rw [hzz]at hc4
                obtain⟨z',hz1,hz2⟩:=zero_rel (P:=P) (φ:=φ) (t:=e) hD hxz hzz
                obtain⟨f1,f2,f3⟩:=fits_cells hc4
                have:=(hz2.cells f2).length
                rw [Array.length_toList]at this
                exact⟨z',hz1,by omega⟩
            obtain⟨z',hz1,hzs⟩:=hzc
            have h62:(2:Nat)^62=4611686018427387904:=by decide
            have h48:(2:Nat)^48=281474976710656:=by decide
            have grow: ∀ (base':Option Addr) (cap':Nat) (olds:List Value),(Builtin.firstCells xi.size len (.slice base' len cap')).run P w.drew= .ok olds.toArray w.drew→cap'<len+new.length →
                (Builtin.append_ #[t,tx] ty #[.slice base' len cap',x']).run P w =
                  .ok (.slice (some ⟨w.heap.size,0,none⟩) (len+new.length) (grownCap w (len+new.length) cap' e))
                    (w.drew.alloc (.cells ((olds++news).toArray++Builtin.zeroCells z'.cells (grownCap w (len+new.length) cap' e- (len+new.length))) e)):=by
              intro base' cap' olds hold hlt
              refine run_append_grow_src w t tx ty e xi z' hu hxi hz1 base' len cap' olds hold x' new.length news src hlt (by omega) ?_
              have h1:=nextslicecap_le hlt
              have h2:=Nat.mul_le_mul_right xi.bytes h1
              rw [hxb]at hc2
              omega
            have hb0':Safe N0 w0 w.drew:=hb0.drew
            split at ho
            ·
              simp only [VRel]at hs
              obtain⟨rfl,rfl,rfl⟩:=hs
              split at ho
              · rename_i h0
                simp only [Option.some.injEq,Prod.mk.injEq]at ho
                obtain⟨rfl,rfl⟩:=ho
                have hn0:new= []:=List.length_eq_zero_iff.1 (by omega)
                subst hn0
                have hv0:news= []:=by have:=hvr.length;simp [flat]at this;exact this
                subst hv0
                refine⟨.slice none 0 0,w,φ,?_,Ext.refl _ _ _,by simp [VRel],r,hb0,rfl⟩
                exact run_append_nothing w t tx ty e xi hu hxi none 0 0 (Nat.le_refl _) x' src
              · rename_i h0
                split at ho
                · simp only [Option.some.injEq,Prod.mk.injEq]at ho
                  obtain⟨rfl,rfl⟩:=ho
                  have hg:=grow none 0 [] (run_firstCells_none _ _ _ _ _) (by omega)
                  have hge:=grownCap_ge w (0+new.length) 0 e
                  have hvl:news.length=new.length*xi.size:=by rw [src.newsLen]
                  obtain⟨g1,g2⟩:=growRow (vs:=news) (zs:=z'.cells) (n:=0+new.length) (c:=grownCap w (0+new.length) 0 e) (es:=xi.size) (by rw [hvl,Nat.zero_add]) hzs hge
                  refine⟨_,_,φ.add nid 0 ⟨w.heap.size,0,0,xd.size,grownCap w (0+new.length) 0 e,false,false⟩,hg,Ext.add φ _ (hid 0) _,
                    VRel.newSlice (ex:=false) (Nat.le_refl _) hge (Nat.le_refl _) (by simp),?_,hb0'.alloc (by simpa using hN') _,rfl⟩
                  refine(r.alike (Alike.drew' w)).made hid hn (by simpa using hN') hc1 hel ?_ ?_ (by omega) ?_ (fun q h=>by cases h;exact⟨rfl,fun h=>absurd rfl h⟩)
                  · simp only [List.nil_append]
                    rw [show new.length*xd.size=(0+new.length)*xi.size by rw [hxs,Nat.zero_add],g2];exact hvr
                  · simp only [List.nil_append];rw [g1,hxs];exact Nat.le_refl _
                  · simp only [List.nil_append]
                    rw [show new.length*xd.size=(0+new.length)*xi.size by rw [hxs,Nat.zero_add],g2];exact src.one
                · cases ho
            · rename_i a
              split at ho
              · rename_i haef
                obtain⟨hae,hf⟩:=haef
                split at ho
                · rename_i b hb
                  simp only [VRel]at hs
                  obtain⟨xa,cap',rfl,l1,l2,hso⟩:=hs
                  obtain⟨p,hp,hes',hor,hex⟩:=hso.plain hf
                  obtain⟨g1,b',g2,g3,g4,g5,g6,g7,g8⟩:=r.dom _ _ _ hp
                  rw [hb]at g2;simp at g2;subst g2
                  have hpe:p.es=xi.size:=by omega
                  split at ho
                  · rename_i hfit
                    split at ho
                    · rename_i h0
                      subst h0
                      simp only [Option.some.injEq,Prod.mk.injEq]at ho
                      obtain⟨rfl,rfl⟩:=ho
                      have hv0:news= []:=by have:=hvr.length;simp [flat]at this;exact this
                      subst hv0
                      refine⟨.slice (some xa) len cap',w,φ,?_,Ext.refl _ _ _,?_,r,hb0,rfl⟩
                      · exact run_append_nothing w t tx ty e xi hu hxi (some xa) len cap' (by omega) x' src
                      · simp only [VRel,List.length_nil,Nat.add_zero]
                        exact⟨xa,cap',rfl,l1,l2,.inl ⟨hf,p,hp,hes',hor,hex⟩⟩
                    · rename_i hne
                      split at ho
                      · rename_i hcc
                        obtain⟨hro,hver,hlim⟩:=hcc
                        simp only [Option.some.injEq,Prod.mk.injEq]at ho
                        obtain⟨rfl,rfl⟩:=ho
                        have hnl:0<new.length:=List.length_pos_iff.2 hne
                        rcases hor with hz | ⟨hlo,rfl,htot⟩
                        · omega
                        · rw [hver]at hp
                          obtain⟨k1,k2⟩:=r.putMany hp hb hro (idx:=a.idx+len) (l:=new) (by omega) (by omega) hne (by rw [hpe,← hxs];exact hel) hvr src.one
                          have hoff:p.off+(a.idx+len-p.lo)*p.es=p.off+(a.idx-p.lo)*p.es+0+len*xi.size:=by
                            have:a.idx+len-p.lo=(a.idx-p.lo)+len:=by omega
                            rw [this,Nat.add_mul,← hpe];omega
                          rw [hoff]at k1 k2
                          have hrun:=run_append_room_src (P:=P) w t tx ty e xi hu hxi p.blk (p.off+(a.idx-p.lo)*p.es+0) len cap' x' new.length news src (by omega) (fun j hj=>(k2 j hj).1) (fun j hj=>(k2 j hj).2)
                          refine⟨_,_,φ,hrun,Ext.refl _ _ _,?_,k1,?_,rfl⟩
                          · simp only [VRel]
                            exact⟨_,cap',rfl,hfit,l2,.inl ⟨hf,p,by rw [hver];exact hp,hes',.inr ⟨hlo,rfl,htot⟩,hex⟩⟩
                          · exact below_setCells _ (g8.base (g6 hro)) _ _ hb0
                      · cases ho
                  · rename_i hfit
                    split at ho
                    · rename_i hexact
                      split at ho
                      · rename_i old hold
                        simp only [Option.some.injEq,Prod.mk.injEq]at ho
                        obtain⟨rfl,rfl⟩:=ho
                        have hcap:cap'=cap:=hex (by rw [g5,hexact])
                        have hs':VRel φ (.slice (some a) len cap) (.slice (some xa) len cap'):=by
                          simp only [VRel];exact⟨xa,cap',rfl,l1,l2,.inl ⟨hf,p,hp,hes',hor,hex⟩⟩
                        obtain⟨olds,src2,hvr2,hel2⟩:=sim_elems (P:=P) (tx:=t) r hs' hold hc1 (.inl ⟨e,hu⟩)
                        have hol:old.length=len:=by
                          have e1:=src2.len w
                          simp [Builtin.lenOf]at e1;exact e1.symm
                        rw [hol,hxs]at src2
                        have hg:=grow (some xa) cap' olds src2.cellsD (by omega)
                        have hge:=grownCap_ge w (len+new.length) cap' e
                        have hvl:(olds++news).length=(len+new.length)*xi.size:=by rw [List.length_append,src.newsLen,src2.newsLen,Nat.add_mul]
                        obtain⟨q1,q2⟩:=growRow (vs:=olds++news) (zs:=z'.cells) (n:=len+new.length) (c:=grownCap w (len+new.length) cap' e) (es:=xi.size) hvl hzs hge
                        have hln:(old++new).length*xd.size=(len+new.length)*xi.size:=by rw [List.length_append,hol,hxs]
                        refine⟨_,_,φ.add nid 0 ⟨w.heap.size,0,0,xd.size,grownCap w (len+new.length) cap' e,false,false⟩,hg,Ext.add φ _ (hid 0) _,
                          VRel.newSlice (ex:=false) (Nat.le_refl _) hge (Nat.le_refl _) (by simp),?_,hb0'.alloc (by simpa using hN') _,rfl⟩
                        refine(r.alike (Alike.drew' w)).made hid hn (by simpa using hN') hc1 (fun e he=> ?_) ?_ ?_ (by rw [List.length_append,hol];exact hge) ?_ (fun q h=>by cases h;exact⟨rfl,fun h=>absurd rfl h⟩)
                        · rcases List.mem_append.1 he with he | he
                          · exact hel2 e he
                          · exact hel e he
                        · rw [hln,q2,flat_append];exact hvr2.append hvr
                        · rw [q1,hxs];exact Nat.le_refl _
                        · rw [hln,q2]
                          intro y hy
                          rcases List.mem_append.1 hy with hy | hy
                          · exact src2.one y hy
                          · exact src.one y hy
                      · cases ho
                    · rename_i hexact
                      split at ho
                      · rename_i hcc
                        obtain⟨hro,hver,hend,hdr,hty⟩:=hcc
                        simp only [Option.some.injEq,Prod.mk.injEq]at ho
                        obtain⟨rfl,rfl⟩:=ho
                        have hexf:b.exact=false:=by simpa using hexact
                        rw [hver]at hp
                        by_cases hroom:len+new.length≤cap'
                        ·
                          rcases hor with hz | ⟨hlo,rfl,htot⟩
                          · exfalso
                            have hn0:new.length=0:=by omega
                            omega
                          · obtain⟨k1,k2⟩:=r.growHere hp hb hro (new:=new) (by omega) (by omega) (by rw [hpe,← hxs];exact hel) hvr src.one
                            have hoff:p.off+(b.elems.length-p.lo)*p.es=p.off+(a.idx-p.lo)*p.es+0+len*xi.size:=by
                              have:b.elems.length-p.lo=(a.idx-p.lo)+len:=by omega
                              rw [this,Nat.add_mul,← hpe];omega
                            rw [hoff]at k1 k2
                            have hrun:=run_append_room_src (P:=P) w t tx ty e xi hu hxi p.blk (p.off+(a.idx-p.lo)*p.es+0) len cap' x' new.length news src hroom (fun j hj=>(k2 j hj).1) (fun j hj=>(k2 j hj).2)
                            have hnone:φ a.id (b.ver+1)=none:=by
                              cases hq:φ a.id (b.ver+1)with
                              | none=>rfl
                              | some q=>obtain⟨_,b',h2,h3,_⟩:=r.dom _ _ _ hq;rw [hb]at h2;simp at h2;subst h2;omega
                            refine⟨_,_,φ.add a.id (b.ver+1) p,hrun,⟨φ.le_add p hnone,fun i hi hne hnn u=> ?_,φ.add_ro p (g6 hro)⟩,?_,k1,?_,rfl⟩
                            · have:i≠a.id:=by rintro rfl;rw [hnn]at hp;cases hp
                              simp [Map.add,this,hnn u]
                            · simp only [VRel]
                              refine⟨_,cap',rfl,Nat.le_refl _,hroom,.inl ⟨hf,p,by rw [hver];exact Map.add_self _ _ _ _,hes',.inr ⟨hlo,rfl,htot⟩,fun h=> ?_⟩⟩
                              rw [g5,hexf]at h;cases h
                            · exact below_setCells _ (g8.base (g6 hro)) _ _ hb0
                        ·
                          have hs':VRel φ (.slice (some a) len cap) (.slice (some xa) len cap'):=by
                            simp only [VRel];exact⟨xa,cap',rfl,l1,l2,.inl ⟨hf,p,by rw [hver];exact hp,hes',hor,hex⟩⟩
                          have hold:elemsOf xd.size (.slice (some a) len cap) h=some ((b.elems.drop a.idx).take len):=by
                            simp only [elemsOf,hf,hae,if_true,hb]
                            split
                            · rename_i h0;simp [h0]
                            · rw [if_pos];rw [hver];simp [ABlk.lim];omega
                          obtain⟨olds,src2,hvr2,hel2⟩:=sim_elems (P:=P) (tx:=t) r hs' hold hc1 (.inl ⟨e,hu⟩)
                          have hdt:(b.elems.drop a.idx).take len=b.elems.drop a.idx:=List.take_of_length_le (by simp;omega)
                          rw [hdt]at hvr2 hel2 src2
                          have hol:(b.elems.drop a.idx).length=len:=by simp;omega
                          rw [hol,hxs]at src2
                          have hg:=grow (some xa) cap' olds src2.cellsD (by omega)
                          have hge:=grownCap_ge w (len+new.length) cap' e
                          have hvl:(olds++news).length=(len+new.length)*xi.size:=by rw [List.length_append,src.newsLen,src2.newsLen,Nat.add_mul]
                          obtain⟨q1,q2⟩:=growRow (vs:=olds++news) (zs:=z'.cells) (n:=len+new.length) (c:=grownCap w (len+new.length) cap' e) (es:=xi.size) hvl hzs hge
                          have hbe:b.es=xi.size:=by omega
                          have hln:(b.elems.drop a.idx++new).length*b.es=(len+new.length)*xi.size:=by rw [List.length_append,hol,hbe]
                          have hnone:φ a.id (b.ver+1)=none:=by
                            cases hq:φ a.id (b.ver+1)with
                            | none=>rfl
                            | some q=>obtain⟨_,b',h2,h3,_⟩:=r.dom _ _ _ hq;rw [hb]at h2;simp at h2;subst h2;omega
                          refine⟨_,_,φ.add a.id (b.ver+1) ⟨w.heap.size,0,a.idx,b.es,grownCap w (len+new.length) cap' e,false,false⟩,hg,⟨φ.le_add _ hnone,fun i hi hne hnn u=> ?_,φ.add_ro _ rfl⟩,?_,?_,hb0'.alloc (by simpa using hN') _,rfl⟩
                          · have:i≠a.id:=by rintro rfl;rw [hnn]at hp;cases hp
                            simp [Map.add,this,hnn u]
                          · simp only [VRel]
                            refine⟨_,_,rfl,Nat.le_refl _,hge,.inl ⟨hf,_,by rw [hver];exact Map.add_self _ _ _ _,by rw [← g4,hes'],.inr ⟨Nat.le_refl _,by simp [Place.at],by simp⟩,by simp⟩⟩
                          · refine(r.alike (Alike.drew' w)).growNew hp hb hro hexf (by simpa using hN') (by omega) (fun e he=>by rw [hel2 e he];omega) (fun e he=>by rw [hel e he];omega) ?_ (by rw [q1,hbe];exact Nat.le_refl _) (by rw [List.length_append,hol];exact hge) ?_ (fun q h=>by rcases hty with hty | hty<;>rw [hty]at h<;>cases h;exact⟨rfl,fun h=>absurd rfl h⟩)
                            · rw [hln,q2,flat_append];exact hvr2.append hvr
                            · rw [hln,q2]
                              intro y hy
                              rcases List.mem_append.1 hy with hy | hy
                              · exact src2.one y hy
                              · exact src.one y hy
                      · cases ho
                · cases ho
              · cases ho
          · cases ho
        · cases ho
      · cases ho
    · cases ho
  · cases ho
end
end
end Go.Lift
namespace Go.Lift
noncomputable section
open Go.RowKit
section
variable {P:Program}{φ:Map}
theorem bytesOf_spec: ∀ {l:List AVal} {s:List UInt8} {news:List Value},bytesOf l=some s→VRels φ (flat l) news→ ∃ ns:List Int,news=ns.map (Value.int .u8)∧s=ns.map (fun n=>UInt8.ofNat n.toNat)
  | [],s,news,h,k=>by
    simp only [bytesOf,Option.some.injEq]at h;subst h
    simp only [flat,List.flatMap_nil,VRels]at k;subst k
    exact⟨[],rfl,rfl⟩
  | a ::r,s,news,h,k=>by
    unfold bytesOf at h
    split at h
    · rename_i h0;cases h0
    · rename_i n r' e
      simp only [List.cons.injEq]at e;obtain⟨rfl,rfl⟩:=e
      cases hb:bytesOf r with
      | none=>rw [hb]at h;cases h
      | some q =>
        rw [hb]at h;simp only [Option.map_some,Option.some.injEq]at h;subst h
        simp only [flat,List.flatMap_cons,AVal.cells,List.cons_append,List.nil_append,VRels]at k
        obtain⟨v,t,rfl,k1,k2⟩:=k
        simp only [VRel]at k1;subst k1
        obtain⟨ns,e1,e2⟩:=bytesOf_spec hb k2
        exact⟨n::ns,by rw [e1];rfl,by rw [e2];rfl⟩
    · cases h
theorem bytesIn_spec: ∀ {l:List AVal} {s:List UInt8} {news:List Value},bytesOf l=some s→bytesIn l=true→VRels φ (flat l) news→news=s.map fun x=>Value.int .u8 x.toNat
  | [],s,news,h,hb,k=>by
    simp only [bytesOf,Option.some.injEq]at h;subst h
    simp only [flat,List.flatMap_nil,VRels]at k;subst k
    rfl
  | a ::r,s,news,h,hb,k=>by
    unfold bytesOf at h
    split at h
    · rename_i h0;cases h0
    · rename_i n r' e
      simp only [List.cons.injEq]at e;obtain⟨rfl,rfl⟩:=e
      cases hq:bytesOf r with
      | none=>rw [hq]at h;cases h
      | some q =>
        rw [hq]at h;simp only [Option.map_some,Option.some.injEq]at h;subst h
        simp only [bytesIn,Bool.and_eq_true,decide_eq_true_eq]at hb
        simp only [flat,List.flatMap_cons,AVal.cells,List.cons_append,List.nil_append,VRels]at k
        obtain⟨v,t,rfl,k1,k2⟩:=k
        simp only [VRel]at k1;subst k1
        rw [bytesIn_spec hq hb.2 k2,List.map_cons]
        have:((UInt8.ofNat n.toNat).toNat:Int)=n:=by
          rw [UInt8.toNat_ofNat',Nat.mod_eq_of_lt (by omega)];omega
        rw [this]
    · cases h
theorem freezeN_heap(w:World)(a:Addr){n:Nat}(hn:n≠0)(k:Nat):(w.freeze a n).heap[k]? =if a.block=k then(w.heap[k]?).map fun o=>match o with
    | .cells c elem (lo,hi)=> .cells c elem (if lo == hi then(a.off,a.off+n)else(min lo a.off,max hi (a.off+n)))
    | o=>o else w.heap[k]? :=by
  unfold World.freeze
  rw [if_neg hn]
  simp only [Array.getElem?_modify]
  rfl
theorem freezeN_cell(w:World)(a x:Addr){n:Nat}(hn:n≠0):(w.freeze a n).cell? x=w.cell? x:=by
  unfold World.cell?
  rw [freezeN_heap w a hn]
  by_cases h:a.block=x.block
  · rw [if_pos h]
    cases hh:w.heap[x.block]? with
    | none=>rfl
    | some o =>
      cases o
      case cells c t f=>obtain⟨lo,hi⟩:=f;rfl
      all_goals rfl
  · rw [if_neg h]
theorem freezeN_mark {w:World} {a:Addr} {m:Nat} (hm:m≠0) {k:Nat} {t:TypeId} {n lo hi:Nat} (h:markOf w k=some (t,n,lo,hi)): ∃ lo hi,markOf (w.freeze a m) k=some (t,n,lo,hi):=by
  unfold markOf at h ⊢
  rw [freezeN_heap w a hm]
  by_cases e:a.block=k
  · rw [if_pos e]
    cases hh:w.heap[k]? with
    | none=>rw [hh]at h;cases h
    | some o =>
      rw [hh]at h
      cases o
      case cells c t' f =>
        obtain⟨lo',hi'⟩:=f
        simp only [Option.some.injEq,Prod.mk.injEq]at h
        obtain⟨rfl,rfl,rfl,rfl⟩:=h
        simp only [Option.map_some]
        by_cases hl:lo'=hi'
        · exact⟨a.off,a.off+m,by simp [hl]⟩
        · exact⟨min lo' a.off,max hi' (a.off+m),by simp [hl]⟩
      all_goals cases h
  · rw [if_neg e];exact⟨lo,hi,h⟩
theorem freezeN_size(w:World)(a:Addr)(n:Nat):(w.freeze a n).heap.size=w.heap.size:=by
  unfold World.freeze;split<;>simp
theorem HRel.freezeRow {N0:Nat→Prop} {h:AHeap} {w:World} (r:HRel φ N0 h w) {id v:Nat} {p:Place} {b:ABlk} (hp:φ id v=some p) (hb:h.get id=some b) (hro:b.ro=false) {a:Addr} (ha:a.block=p.blk) {n:Nat} (hn:n≠0) :
    HRel φ N0 (h.set id {b with ro:=true}) (w.freeze a n) where
  dom i u q hq:=by
    obtain⟨h1,c,h2,h3,h4,h5,h6,h7,h8⟩:=r.dom i u q hq
    by_cases e:id=i
    · subst e
      rw [hb]at h2;simp at h2;subst h2
      refine⟨h1,_,AHeap.get_set_self _ _ _,h3,h4,h5,nofun,h7,⟨by rw [freezeN_size];exact h8.blk,h8.base,fun o ho=>by rw [freezeN_cell w a _ hn];exact h8.cells o ho,nofun,nofun,fun t9 h9=> ?_,fun i e g1 g2 g3=> ?_⟩⟩
      · obtain⟨n9,l9,i9,k9,k10,k11⟩:=h8.shp t9 h9
        obtain⟨l8,i8,k8⟩:=freezeN_mark (a:=a) hn k9
        exact⟨n9,l8,i8,k8,k10,k11⟩
      · obtain⟨q1,q2,q3⟩:=h8.cont i e g1 g2 g3
        exact⟨q1,q2,fun j x' hx=>by
          obtain⟨x,y1,y2⟩:=q3 j x' hx
          exact⟨x,by rw [freezeN_cell w a _ hn];exact y1,y2⟩⟩
    · obtain⟨_,b',g2,_,_,_,g6,_,_⟩:=r.dom id v p hp
      rw [hb]at g2;simp at g2;subst g2
      have hne:p.blk≠q.blk:=fun k=>by
        have:=(r.apart id v p i u q hp hq k e).1
        rw [g6 hro]at this;cases this
      have hblk:(w.freeze a n).heap[q.blk]? =w.heap[q.blk]? :=by
        rw [freezeN_heap w a hn,if_neg (by rw [ha];exact hne)]
      refine⟨h1,c,by rw [AHeap.get_set_ne _ _ e];exact h2,h3,h4,h5,h6,h7,⟨by rw [freezeN_size];exact h8.blk,h8.base,fun o ho=>by rw [freezeN_cell w a _ hn];exact h8.cells o ho,fun hr o ho=> ?_,fun hr=>(h8.mark hr).of_eq (markOf_of hblk),fun t9 h9=>by rw [markOf_of hblk];exact h8.shp t9 h9,fun i e g1 g2 g3=> ?_⟩⟩
      · have:=h8.free hr o ho
        unfold World.frozen? at this ⊢
        rw [hblk];exact this
      · obtain⟨q1,q2,q3⟩:=h8.cont i e g1 g2 g3
        exact⟨q1,q2,fun j x' hx=>by
          obtain⟨x,y1,y2⟩:=q3 j x' hx
          exact⟨x,by rw [freezeN_cell w a _ hn];exact y1,y2⟩⟩
  apart:=r.apart
  same:=r.same
theorem Safe.freezeN {S:Nat→Prop}{a w:World}(h:Safe S a w){p:Addr}(hp: ¬ S p.block){n:Nat}(hn:n≠0):Safe S a (w.freeze p n) :=
  h.trans ⟨by unfold World.freeze;rw [if_neg hn],by unfold World.freeze;rw [if_neg hn],by unfold World.freeze;rw [if_neg hn],by rw [freezeN_size];exact Nat.le_refl _,fun k hk=>by
    have hne: ¬ p.block=k:=fun e=>hp (by rw [e];exact hk)
    rw [freezeN_heap w p hn,if_neg hne]⟩
theorem shape_of_mark {w:World}{k:Nat}{t:TypeId}{n lo hi:Nat}(h:markOf w k=some (t,n,lo,hi)):w.shape? k=some (t,n):=by
  unfold markOf at h;unfold World.shape?
  cases hh:w.heap[k]? with
  | none=>rw [hh]at h;cases h
  | some o =>
    rw [hh]at h
    cases o
    case cells c t' f =>
      obtain⟨lo',hi'⟩:=f
      simp only [Option.some.injEq,Prod.mk.injEq]at h
      obtain⟨rfl,rfl,rfl,rfl⟩:=h
      rfl
    all_goals cases h
theorem cell_in_shape {w:World}{k:Nat}{t:TypeId}{n lo hi o:Nat}(h:markOf w k=some (t,n,lo,hi))(hc:(w.cell? ⟨k,o,none⟩).isSome=true):o<n:=by
  unfold markOf at h;unfold World.cell? at hc
  cases hh:w.heap[k]? with
  | none=>rw [hh]at h;cases h
  | some ob =>
    simp only at hc
    rw [hh]at h hc
    cases ob
    case cells c t' f =>
      obtain⟨lo',hi'⟩:=f
      simp only [Option.some.injEq,Prod.mk.injEq]at h
      obtain⟨rfl,rfl,rfl,rfl⟩:=h
      simp only [Option.isSome_none,Bool.false_eq_true,if_false]at hc
      rcases Nat.lt_or_ge o c.size with h | h
      · exact h
      · rw [Array.getElem?_eq_none h]at hc;cases hc
    all_goals cases h
theorem sim_sliceData {ts:Array TypeId} {ty:TypeId} {x v:AVal} {x':Value} (hx:VRel φ x x') (h:asliceData x=some v) (w:World) :
    ∃ v',(Builtin.unsafeSliceData_ ts ty #[x']).run P w= .ok v' w∧VRel φ v v':=by
  unfold asliceData at h
  split at h
  · simp only [Option.some.injEq]at h;subst h
    simp only [VRel]at hx
    obtain⟨rfl,_,_⟩:=hx
    exact⟨.pointer none,rfl,by simp only [VRel]⟩
  · rename_i a n c
    split at h
    · rename_i hc
      simp only [Option.some.injEq]at h;subst h
      simp only [VRel]at hx
      obtain⟨xa,cap',rfl,l1,l2,hso⟩:=hx
      obtain⟨p,hp,hes',hor,hex⟩:=hso.plain hc.1
      rcases hor with hz | ⟨hlo,rfl,htot⟩
      · omega
      · have hcap:cap'≠0:=by omega
        refine⟨.pointer (some (p.at a.idx 0)),?_,?_⟩
        · have hdef:Builtin.unsafeSliceData_ ts ty #[.slice (some (p.at a.idx 0)) n cap'] =
              (do
                if cap'≠0 then pure (.pointer (some (p.at a.idx 0)))
                else if(← viewAt (p.at a.idx 0).block).isSome then pure (.pointer (some (p.at a.idx 0)))
                else pure (.pointer (some ⟨← newObj (.view (p.at a.idx 0) (← elemOf ty)),0,none⟩))):=rfl
          rw [hdef,if_pos hcap];rfl
        · simp only [VRel]
          exact⟨_,rfl,p,hp,hes',hlo,by rw [hc.1]⟩
    · cases h
  · cases h
theorem sim_unsafeString {D:Tys} (hD:D.Ok P) {N0:Nat→Prop} {h h':AHeap} {w0 w:World} (r:HRel φ N0 h w) (hb0:Safe N0 w0 w) {ts:Array TypeId} {t ty:TypeId} (ht:ts[0]? =some t) {p:Option AAddr} {n:Int} {x':Value} (hx:VRel φ (.ptr p) x') {v:AVal}
    (ho:aunsafeString D t p n h=some (v,h')) :
    ∃ v' w',(Builtin.unsafeString_ ts ty #[x',.int .i64 n]).run P w= .ok v' w'∧VRel φ v v'∧HRel φ N0 h' w'∧Safe N0 w0 w'∧h'.next=h.next:=by
  have hdef: ∀ (ts:Array TypeId) q,Builtin.unsafeString_ ts ty #[.pointer q,.int .i64 n]=(do
      let n ← asInt (.int .i64 n)
      let some pt:=ts[0]? | stuck "unsafe.String: no argument types"
      if n<0 then runtimePanic (.error "unsafe.String: len out of range")
      if n>IntKind.i64.max then unsupported (.unsafePointer "String: a length above the largest int")
      match q with
      | none =>
        if n=0 then pure (.string .empty)
        else runtimePanic (.error "unsafe.String: ptr is nil and len is not zero")
      | some a =>
        if n=0 then pure (.string .empty)
        else if ← variablesAt a (← elemOf pt) n.toNat then do
          let s ← loadBytes a .empty n.toNat
          freeze a n.toNat
          pure (.string s)
        else unsupported (.unsafePointer "String: not so many bytes at ptr")):=fun _ _=>rfl
  have hts: ∀ q,(Builtin.unsafeString_ ts ty #[.pointer q,.int .i64 n]).run P w=(Builtin.unsafeString_ #[t,t] ty #[.pointer q,.int .i64 n]).run P w:=fun q=>by
    have e:ts[0]? =(#[t,t]:Array TypeId)[0]? :=by rw [ht];rfl
    rw [hdef,hdef,e]
  unfold aunsafeString at ho
  split at ho
  · rename_i h0
    subst h0
    simp only [Option.some.injEq,Prod.mk.injEq]at ho
    obtain⟨rfl,rfl⟩:=ho
    obtain⟨q,rfl⟩: ∃ q,x'= .pointer q:=by
      cases p with
      | none=>simp only [VRel]at hx;exact⟨_,hx⟩
      | some a=>simp only [VRel]at hx;obtain⟨x,rfl,_⟩:=hx;exact⟨_,rfl⟩
    refine⟨_,w,by rw [hts];exact Go.Lib.run_unsafeString_none w _ _ _ q,?_,r,hb0,rfl⟩
    simp only [VRel];exact⟨_,rfl,rfl⟩
  · rename_i h0
    split at ho
    · rename_i d a hd
      obtain⟨di,du,hdi,hdu,hdk, -⟩:=hD.get hd
      split at ho
      · rename_i e b hk hb
        rw [hdk]at hk
        have:=tkOf_ptr hk;subst this
        split at ho
        · rename_i ed hed
          obtain⟨ei,eu,hei,heu,hek,hes, -⟩:=hD.get hed
          split at ho
          · rename_i hc
            obtain⟨c1,c2,c3,c4,c5,c6,c7,c8,c9,c10,c11⟩:=hc
            cases hbo:bytesOf (b.elems.take n.toNat)with
            | none=>rw [hbo]at ho;cases ho
            | some s =>
              rw [hbo]at ho
              simp only [Option.map_some,Option.some.injEq,Prod.mk.injEq]at ho
              obtain⟨rfl,rfl⟩:=ho
              simp only [VRel]at hx
              obtain⟨x,rfl,pl,hp,hpe,hlo,rfl⟩:=hx
              obtain⟨g1,b',g2,g3,g4,g5,g6,g7,g8⟩:=r.dom _ _ _ hp
              rw [hb]at g2;simp at g2;subst g2
              obtain⟨m,lo,hi,k1,k2,k3⟩:=g8.shp _ c7
              obtain⟨news,n1,n2,n3,n4,n5⟩:=r.readElems hp hb (idx:=0) (len:=n.toNat) (by omega) (by omega) (by omega)
              rw [List.drop_zero]at n1
              have hnews:=bytesIn_spec hbo c11 n1
              have hpes:pl.es=1:=by omega
              have hsl:s.length=n.toNat:=by
                have:=n5;rw [hnews,List.length_map,hpes,Nat.mul_one]at this;exact this
              have haddr:pl.at a.idx a.fld=⟨pl.blk,0,none⟩:=by
                simp [Place.at,c3,c4,k3]
              have hcell: ∀ j x,s[j]? =some x→w.cell? ((⟨pl.blk,0,none⟩:Addr).add j)=some (.int .u8 x.toNat):=by
                intro j x hj
                have hn:=n2 j (.int .u8 x.toNat) (by rw [hnews,List.getElem?_map,hj];rfl)
                rw [Addr.add_mid,Nat.zero_add]
                simpa [k3]using hn
              have hsne:s≠ []:=by rintro rfl;simp at hsl;omega
              have hle:s.length≤m:=by
                have hlt:s.length-1<s.length:=by have:=List.length_pos_iff.2 hsne;omega
                have hc':=hcell (s.length-1) _ (List.getElem?_eq_getElem hlt)
                rw [Addr.add_mid,Nat.zero_add]at hc'
                have:=cell_in_shape k1 (o:=s.length-1) (by rw [hc'];rfl)
                omega
              have hcells:P.cellsOf e=1:=by
                unfold Program.cellsOf;rw [hei];simp;omega
              have hrun:=Go.Lib.run_unsafeString_row (P:=P) w t t ty e hdu hcells pl.blk m (shape_of_mark k1) s hsne hle (by omega) hcell
              have hnn:(n:Int)=s.length:=by rw [hsl];omega
              have hs0:s.length≠0:=by simp only [ne_eq,List.length_eq_zero_iff];exact hsne
              have q1:HRel φ N0 (h.set a.id {b with ro:=true}) (w.freeze ⟨pl.blk,0,none⟩ s.length):=r.freezeRow (a:=⟨pl.blk,0,none⟩) hp hb c6 rfl hs0
              have q2:Safe N0 w0 (w.freeze ⟨pl.blk,0,none⟩ s.length):=Safe.freezeN hb0 (p:=⟨pl.blk,0,none⟩) (g8.base (g6 c6)) hs0
              refine⟨.string ⟨s.toArray⟩,w.freeze ⟨pl.blk,0,none⟩ s.length,?_,?_,q1,q2,rfl⟩
              · rw [hts,haddr,hnn];exact hrun
              · simp only [VRel];exact⟨_,rfl,by simp⟩
          · cases ho
        · cases ho
      · cases ho
    · cases ho
end
end
end Go.Lift
