/-
  Parts of the proof of KeysBack.
-/
import Derived.Test.YtddnafghiejcoaaGreatDoorRows
import Derived.Shelf.Strconv.Itoa1
import Derived.Shelf.Strings.Fields
import Derived.Test.YtddnafghiejcoaaGreatDoorKKeysBackB
set_option linter.unusedVariables false
set_option linter.unusedSimpArgs false
namespace Go.cf
noncomputable section
open Go.RowKit
def J.rows(n:Nat)(l:List (Nat×af)):J:=l.foldl (fun h p=>h.set p.1 p.2) ⟨n,.nil⟩
theorem J.Vg(l:List (Nat×af)):∀(h:J)(i:Nat)(b:af),(l.foldl (fun h p=>h.set p.1 p.2) h).get i=some b→h.get i=some b∨(i,b)∈l:=by
 induction l with
 |nil=>intro h i b k;exact .inl k
 |cons p r ih =>
  intro h i b k;rcases ih _ i b k with k|k
  ·rw [J.kQ]at k;split at k
   ·rename_i e;simp only [Option.some.injEq]at k;exact .inr (by rw [←e,←k];exact List.mem_cons_self ..)
   ·exact .inl k
  ·exact .inr (by simp [k])
theorem J.Vh(l:List (Nat×af)):∀(h:J)(i:Nat),(In h i∨i∈l.map (·.1))→In (l.foldl (fun h p=>h.set p.1 p.2) h) i:=by
 induction l with
 |nil=>intro h i k;rcases k with k|k;exact k;simp at k
 |cons p r ih =>
  intro h i k;refine ih _ i ?_;by_cases e:p.1=i
  ·left;unfold In;rw [J.kQ,if_pos e];rfl
  ·rcases k with k|k
   ·left;unfold In;rw [J.kQ,if_neg e];exact k
   ·simp only [List.map_cons,List.mem_cons]at k;rcases k with k|k
    ·exact absurd k.symm e
    ·exact .inr k
theorem J.Vi(l:List (Nat×af)):∀(h:J),(l.foldl (fun h p=>h.set p.1 p.2) h).U=h.U:=by
 induction l with
 |nil=>intro h;rfl
 |cons p r ih=>intro h;rw [List.foldl_cons,ih];rfl
@[simp] theorem J.Bb(n:Nat)(l:List (Nat × af)) : (J.rows n l).U = n := J.Vi _ _
theorem J.tm{n:Nat}{l:List (Nat×af)}{i:Nat}{b:af}(h:(J.rows n l).get i=some b):(i,b)∈l:=by
 rcases J.Vg l _ i b h with k|k
 ·cases k
 ·exact k
theorem J.u0{n:Nat}{l:List (Nat×af)}{i:Nat}(h:i∈l.map (·.1)):In (J.rows n l) i:=J.Vh l _ i (.inr h)
theorem J.u1{n:Nat}{l:List (Nat×af)}{i:Nat}(h:In (J.rows n l) i):i∈l.map (·.1):=by obtain⟨b,ax⟩:=Option.isSome_iff_exists.1 h;exact List.mem_map.2 ⟨_,J.tm ax,rfl⟩
mutual
theorem aa.tn:∀(v:aa),v.bg (fun i=>i)=v
 |.ptr (some a)=>rfl
 |.slice (some a) _ _=>rfl
 |.func fn f c=>by simp only [aa.bg,aa.Bc]
 |.iface t v=>by simp only [aa.bg,aa.tn v]
 |.agg bm=>by simp only [aa.bg,aa.Bc]
 |.tuple vs=>by simp only [aa.bg,aa.Bc]
 |.undef=>rfl
 |.bool _=>rfl
 |.int _ _=>rfl
 |.str _=>rfl
 |.ptr none=>rfl
 |.slice none _ _=>rfl
 |.nilFunc=>rfl
 |.nilIface=>rfl
theorem aa.Bc:∀(l:List aa),aa.gK (fun i=>i) l=l
 |[]=>rfl
 |a::l=>by simp only [aa.gK,aa.tn a,aa.Bc l]
end
theorem af.tn(b:af):b.bg (fun i=>i)=b:=by
 unfold af.bg
 have:b.bk.map (aa.bg fun i=>i)=b.bk:=by
  conv=>rhs;rw [←List.map_id b.bk]
  exact List.map_congr_left fun e he=>aa.tn e
 rw [this]
def dy(b:af):Prop:= ∀e∈b.bk,cU e
theorem dy.bg{b:af}(h:dy b)(r:Nat→Nat):b.bg r=b:=by
 unfold af.bg
 have:b.bk.map (aa.bg r)=b.bk:=by
  conv=>rhs;rw [←List.map_id b.bk]
  exact List.map_congr_left fun e he=>(h e he).1 r
 rw [this]
theorem dy.eM{b:af}(h:dy b)(D:Nat→Prop):∀e∈b.bk,ch D e:=fun e he=>ch.mono (fun _ k=>k.elim) (h e he).2
theorem cU.ints{α:Type}(l:List α)(k:IntKind)(f:α→Int):∀e∈l.map (fun x=>aa.int k (f x)),cU e:=by intro e he;obtain⟨x,_,rfl⟩:=List.mem_map.1 he;exact cU.int k _
theorem cU.eM{v:aa}(h:cU v)(D:Nat→Prop):ch D v:=ch.mono (fun _ k=>k.elim) h.2
def cp(l:List Nat):Nat→Prop:=fun i=>i∈l
theorem eL.drop{base n:Nat}{F:bJ}{h:J}{K:Nat}{l:List (Nat×af)}(aC:l.map (fun p=>h.get p.1)=l.map (fun p=>some p.2))(c8:l.all (fun p=>Nat.blt p.1 K)=true)
 (ax:(List.range base).all (fun i=>(l.map (·.1)).contains i)=true) (aR:F.all (fun p=>Nat.blt p.1 n)=true) (fx:bR (F.map fun p=>ch (cp (l.map (·.1))) p.2))
 (aw:bR (l.map fun p=> ∀e∈p.2.bk,ch (cp (l.map (·.1))) e)):eL base n F h F (J.rows K l):=by
 have eX:∀i b,(J.rows K l).get i=some b→i<K∧h.get i=some b:=by intro i b k;have hm:=J.tm k;refine⟨Nat.blt_eq.mp (List.all_eq_true.1 c8 _ hm),?_⟩;obtain⟨j,a1,e⟩:=List.mem_iff_getElem.1 hm;have ac:=congrArg (fun(x:List (Option af))=>x[j]?) aC;simp only [List.getElem?_map,List.getElem?_eq_getElem a1,Option.map_some,e,Option.some.injEq]at ac;exact ac
 have rH:∀{v:aa},ch (cp (l.map (·.1))) v→ch (In (J.rows K l)) v:=ch.mono fun i aq=>J.u0 aq
 refine eL.bg (r:=fun i=>i) ⟨fun i b k=>⟨by rw [J.Bb];exact(eX i b k).1,by rw [af.tn];exact(eX i b k).2⟩,fun i j _ _ e=>e,?_⟩ ?_ ?_ ?_ ?_
 ·intro i b k e he;have hm:=J.tm k;exact rH (aw _ (List.mem_map.2 ⟨_,hm,rfl⟩) e he)
 ·intro t v bh
  have hm:(t,v)∈F:=by
   clear aR fx
   induction F with
   |nil=>cases bh
   |cons p r ih =>
    obtain⟨k,u⟩:=p;rw [k3]at bh;split at bh
    ·rename_i e;simp only [Option.some.injEq]at bh;subst e;subst bh;simp
    ·exact List.mem_cons_of_mem _ (ih bh)
  exact⟨Nat.blt_eq.mp (List.all_eq_true.1 aR _ hm),by rw [aa.tn];exact bh,rH (fx _ (List.mem_map.2 ⟨_,hm,rfl⟩))⟩
 ·intro i aq _;exact J.u0 (by simpa using List.all_eq_true.1 ax i (List.mem_range.2 aq))
 ·intro i _ _;rfl
 ·intro i _ k;exact k
theorem b1.Ml{P:Program}{C:(Nat→Prop)→World→Prop}[ke C]{f:FuncId}{args:List aa}{h ag:J}{v:aa}(k:b1 P C f args h v ag)(r:Nat→Nat)(v2:aa)(K:Nat)(l:List (Nat×af))
 (aC:l.map (fun p=>ag.get (r p.1))=l.map (fun p=>some (p.2.bg r))) (bh:v=v2.bg r) (c8:l.all (fun p=>Nat.blt p.1 K)=true) (bc:((l.map (·.1)).map r).Nodup)
 (ax:(List.range h.U).all (fun i=>(l.map (·.1)).contains i&&Nat.beq (r i) i)=true) (fS:l.all (fun p=>Nat.blt p.1 h.U || Nat.ble h.U (r p.1))=true) (aR:Nat.ble h.U K=true)
 (xA:ch (cp (l.map (·.1))) v2) (aw:bR (l.map fun p=> ∀e∈p.2.bk,ch (cp (l.map (·.1))) e)):b1 P C f args h v2 (J.rows K l):=by
 have eX:∀i b,(J.rows K l).get i=some b→i<K∧ag.get (r i)=some (b.bg r):=by intro i b k;have hm:=J.tm k;refine⟨Nat.blt_eq.mp (List.all_eq_true.1 c8 _ hm),?_⟩;obtain⟨j,a1,e⟩:=List.mem_iff_getElem.1 hm;have ac:=congrArg (fun(x:List (Option af))=>x[j]?) aC;simp only [List.getElem?_map,List.getElem?_eq_getElem a1,Option.map_some,e,Option.some.injEq]at ac;exact ac
 have rH:∀{v:aa},ch (cp (l.map (·.1))) v→ch (In (J.rows K l)) v:=ch.mono fun i aq=>J.u0 aq
 refine k.bg (r:=r) ⟨fun i b k=>⟨by rw [J.Bb];exact(eX i b k).1,(eX i b k).2⟩,?_,?_⟩ bh (rH xA) ?_ ?_ ?_ (by rw [J.Bb];exact Nat.le_of_ble_eq_true aR)
 ·intro i j aq a1 e;have aq:=J.u1 aq;have a1:=J.u1 a1;obtain⟨a,aT,rfl⟩:=List.mem_iff_getElem.1 aq;obtain⟨b,fy,rfl⟩:=List.mem_iff_getElem.1 a1;have ac:((l.map (·.1)).map r)[a]'(by simpa using aT)=((l.map (·.1)).map r)[b]'(by simpa using fy):=by simpa using e
  have:=(List.getElem_inj bc).1 ac;subst this;rfl
 ·intro i b k e he;have hm:=J.tm k;exact rH (aw _ (List.mem_map.2 ⟨_,hm,rfl⟩) e he)
 ·intro i aq _;have:=List.all_eq_true.1 ax i (List.mem_range.2 aq);simp only [Bool.and_eq_true]at this;exact J.u0 (by simpa using this.1)
 ·intro i aq _;have:=List.all_eq_true.1 ax i (List.mem_range.2 aq);simp only [Bool.and_eq_true]at this;exact Nat.eq_of_beq_eq_true this.2
 ·intro i aq cG;have aq:=J.u1 aq;obtain⟨p,hm,rfl⟩:=List.mem_map.1 aq;have:=List.all_eq_true.1 fS p hm;simp only [Bool.or_eq_true]at this;rcases this with ac|ac
  ·exact Nat.blt_eq.mp ac
  ·have:=Nat.le_of_ble_eq_true ac;omega
def J.pb:Nat→List af→J→J
 |_,[],h=>h
 |i,b::r,h=>J.pb (i+1) r (h.set i b)
def J.of(l:List af):J:=J.pb 0 l ⟨l.length,.nil⟩
theorem J.Bd:∀(l:List af)(i:Nat)(h:J)(j:Nat),(J.pb i l h).get j=if i≤j∧j<i+l.length then l[j-i]? else h.get j
 |[],i,h,j=>by simp only [J.pb,List.length_nil];rw [if_neg ab]
 |b ::r,i,h,j=>by
  simp only [J.pb,J.Bd r,List.length_cons,J.kQ];by_cases e:i=j
  ·subst e;rw [if_neg ab,if_pos rfl,if_pos ab];simp
  ·by_cases c:i+1≤j∧j<i+1+r.length
   ·rw [if_pos c,if_pos ab,show j-i=(j- (i+1))+1 by omega];simp
   ·rw [if_neg c,if_neg e,if_neg ab]
theorem J.FN:∀(l:List af)(i:Nat)(h:J),(J.pb i l h).U=h.U
 |[],i,h=>rfl
 |b::r,i,h=>by simp only [J.pb,J.FN r];rfl
@[simp] theorem J.of_next(l:List af) : (J.of l).U = l.length := J.FN _ _ _
theorem J.eV(l:List af)(j:Nat):(J.of l).get j=l[j]? :=by
 unfold J.of;rw [J.Bd];split
 ·simp
 ·rw [List.getElem?_eq_none ab];rfl
theorem J.u2{l:List af}{j:Nat} :In (J.of l) j↔j<l.length:=by unfold In;rw [J.eV];simp
def dJ(ids:List Nat)(n i:Nat):Nat :=
 match ids[i]? with
 |some j=>j
 |none=>n+(i-ids.length)
def J.mq:List Nat→List af→J→J
 |j::ids,b::r,h=>J.mq ids r (h.set j b)
 |[],r,h=>J.pb h.U r {h with U:=h.U+r.length}
 |_::_,[],h=>h
def J.hp(h:J)(ids:List Nat)(l:List af):J:=J.mq ids l h
theorem J.FO:∀(ids:List Nat)(l:List af)(h:J),ids.length≤l.length→(J.mq ids l h).U=h.U+(l.length-ids.length)
 |[],l,h,_=>by simp [J.mq,J.FN]
 |j::ids,[],h,k=>by simp at k
 |j::ids,b::r,h,k=>by simp only [J.mq];rw [J.FO ids r _ (by simpa using k)];simp
theorem J.xB:∀(ids:List Nat)(l:List af)(h:J)(j:Nat),ids.length≤l.length→j<h.U→j ∉ ids→(J.mq ids l h).get j=h.get j
 |[],l,h,j,_,a1,_=>by simp only [J.mq];rw [J.Bd,if_neg ab];rfl
 |i::ids,[],h,j,k,_,_=>by simp at k
 |i::ids,b::r,h,j,k,a1,hm=>by simp only [List.mem_cons,not_or]at hm;simp only [J.mq];rw [J.xB ids r (h.set i b) j (by simpa using k) a1 hm.2,J.fg _ _ (Ne.symm hm.1)]
theorem J.FP:∀(ids:List Nat)(l:List af)(h:J)(i:Nat),ids.length≤l.length→ids.Nodup→(∀j∈ids,j<h.U)→i<l.length→(J.mq ids l h).get (dJ ids h.U i)=l[i]?
 |[],l,h,i,_,_,_,aq=>by simp only [J.mq,dJ,List.getElem?_nil,List.length_nil,Nat.sub_zero];rw [J.Bd,if_pos ab];congr 1;omega
 |j::ids,[],h,i,k,_,_,_=>by simp at k
 |j ::ids,b::r,h,i,k,hX,cG,aq=>by
  simp only [List.nodup_cons]at hX;simp only [J.mq];cases i with
  |zero =>
   simp only [dJ,List.getElem?_cons_zero];rw [J.xB ids r (h.set j b) j (by simpa using k) (cG j aM) hX.1,J.gE]
  |succ i =>
   have e:dJ (j::ids) h.U (i+1)=dJ ids (h.set j b).U i:=by
    simp only [dJ,List.getElem?_cons_succ,List.length_cons,J.Sq];cases ids[i]? with
    |some x=>rfl
    |none=>simp only;omega
   rw [e,J.FP ids r (h.set j b) i (by simpa using k) hX.2 (fun x aj=>cG x (by simp [aj])) (by simpa using aq)];simp
theorem b1.up{P:Program}{C:(Nat→Prop)→World→Prop}[ke C]{f:FuncId}{args:List aa}{v:aa}{l cQ:List af}(k:b1 P C f args (J.of l) v (J.of cQ))(ax:∀b∈l,dy b)(fy:∀b∈cQ,dy b)(mf:l.length≤cQ.length)(aT:fp (fun i=>i<l.length) args)
 {H aQ:J} (ids:List Nat) (aR:ids.Nodup) (cG:∀j∈ids,j<H.U) (aC:ids.map H.get=l.map some) (rC:aQ.U=H.U+(cQ.length-l.length)) (me:∀i,i<cQ.length→aQ.get (dJ ids H.U i)=cQ[i]?)
 (kd:∀j,j<H.U→j ∉ ids→aQ.get j=H.get j):b1 P C f (args.map (aa.bg (dJ ids H.U))) H (v.bg (dJ ids H.U)) aQ:=by
 have hlen:ids.length=l.length:=by have:=congrArg List.length aC;simpa using this
 have wQ:∀i (aq:i<ids.length),dJ ids H.U i=ids[i]:=fun i aq=>by simp [dJ,List.getElem?_eq_getElem aq]
 refine k.frame (r:=dJ ids H.U) ⟨?_,?_,?_⟩ ?_ ?_ ?_ ?_ ?_
 ·intro i b ak;rw [J.eV]at ak;have aq:=(List.getElem?_eq_some_iff.1 ak).1;refine⟨by rw [J.of_next];exact aq,?_⟩;rw [(ax b (List.mem_of_getElem? ak)).bg,wQ i ab];have ac:=congrArg (fun(x:List (Option af))=>x[i]?) aC;simp only [List.getElem?_map,List.getElem?_eq_getElem (show i<ids.length by omega),Option.map_some,ak,Option.some.injEq]at ac;exact ac
 ·intro i j aq a1 e;rw [J.u2]at aq a1;rw [wQ i ab,wQ j ab]at e;exact(List.getElem_inj aR).1 e
 ·intro i b ak e he;rw [J.eV]at ak;exact(ax b (List.mem_of_getElem? ak) e he).eM _
 ·exact fp.mono (fun i aq=>J.u2.2 aq) aT
 ·intro i aq;rw [J.of_next]at aq;simp only [dJ,List.getElem?_eq_none (show ids.length≤i by omega),J.of_next,hlen]
 ·intro i b ak _;rw [J.eV]at ak;rw [(fy b (List.mem_of_getElem? ak)).bg,me i (List.getElem?_eq_some_iff.1 ak).1,ak]
 ·rw [rC];simp
 ·intro j a1 bX;refine kd j a1 fun hm=> ?_
  obtain⟨i,aq,e⟩:=List.mem_iff_getElem.1 hm;exact bX i (J.u2.2 ab) (by rw [wQ i aq];exact e)
theorem b1.Vj{P:Program}{C:(Nat→Prop)→World→Prop}[ke C]{f:FuncId}{args:List aa}{v:aa}{l:List af}(k:b1 P C f args (J.of l) v (J.of l))(ax:∀b∈l,dy b)(aT:fp (fun i=>i<l.length) args)
 {H:J} (ids:List Nat) (aR:ids.Nodup) (cG:∀j∈ids,j<H.U) (aC:ids.map H.get=l.map some):b1 P C f (args.map (aa.bg (dJ ids H.U))) H (v.bg (dJ ids H.U)) H:=by
 have hlen:ids.length=l.length:=by have:=congrArg List.length aC;simpa using this
 refine k.up ax ax (Nat.le_refl _) aT ids aR cG aC aM (fun i aq=> ?_) fun _ _ _=>rfl
 have ac:=congrArg (fun(x:List (Option af))=>x[i]?) aC;simp only [List.getElem?_map,List.getElem?_eq_getElem (show i<ids.length by omega),List.getElem?_eq_getElem aq,Option.map_some,Option.some.injEq]at ac;simp only [dJ,List.getElem?_eq_getElem (show i<ids.length by omega),ac,List.getElem?_eq_getElem aq]
theorem b1.Vk{P:Program}{C:(Nat→Prop)→World→Prop}[ke C]{f:FuncId}{args:List aa}{v:aa}{l cQ:List af}(k:b1 P C f args (J.of l) v (J.of cQ))(ax:∀b∈l,dy b)(fy:∀b∈cQ,dy b)(mf:l.length≤cQ.length)(aT:fp (fun i=>i<l.length) args)
 {H:J} (ids:List Nat) (aR:ids.Nodup) (cG:∀j∈ids,j<H.U) (aC:ids.map H.get=l.map some):b1 P C f (args.map (aa.bg (dJ ids H.U))) H (v.bg (dJ ids H.U)) (H.hp ids cQ):=by
 have hlen:ids.length=l.length:=by have:=congrArg List.length aC;simpa using this
 refine k.up ax fy mf aT ids aR cG aC ?_ ?_ ?_
 ·rw [←hlen];exact J.FO ids cQ H ab
 ·intro i aq;exact J.FP ids cQ H i ab aR cG aq
 ·intro j a1 hm;exact J.xB ids cQ H j ab a1 hm
theorem b1.Mm{P:Program}{C:(Nat→Prop)→World→Prop}[ke C]{f:FuncId}{args:List aa}{v:aa}{l l2:List af}(k:b1 P C f args (J.of l) v (J.of (l++l2)))(ax:∀b∈l,dy b)(fy:∀b∈l2,dy b)(aT:fp (fun i=>i<l.length) args)
 {H:J} (ids:List Nat) (aR:ids.Nodup) (cG:∀j∈ids,j<H.U) (aC:ids.map H.get=l.map some):b1 P C f (args.map (aa.bg (dJ ids H.U))) H (v.bg (dJ ids H.U)) (H.hp [] l2):=by
 have hlen:ids.length=l.length:=by have:=congrArg List.length aC;simpa using this
 refine k.up ax (fun b hm=>(List.mem_append.1 hm).elim (ax b) (fy b)) aM aT ids aR cG aC ?_ ?_ ?_
 ·show(J.mq [] l2 H).U=_;rw [J.FO [] l2 H aM];simp
 ·intro i aq;show(J.mq [] l2 H).get _=_;by_cases c:i<ids.length
  ·have ac:=congrArg (fun(x:List (Option af))=>x[i]?) aC;simp only [List.getElem?_map,List.getElem?_eq_getElem c,List.getElem?_eq_getElem (show i<l.length by omega),Option.map_some,Option.some.injEq]at ac;simp only [dJ,List.getElem?_eq_getElem c];rw [J.xB [] l2 H _ aM (cG _ (List.getElem_mem c)) aM,ac,List.getElem?_append_left ab,List.getElem?_eq_getElem (show i<l.length by omega)]
  ·have e:dJ ids H.U i=dJ [] H.U (i-ids.length):=by simp [dJ,List.getElem?_eq_none (show ids.length≤i by omega)]
   rw [List.length_append]at aq;rw [e,J.FP [] l2 H (i-ids.length) aM aM aM ab,List.getElem?_append_right ab,hlen]
 ·intro j a1 hm;exact J.xB [] l2 H j aM a1 aM
def hq:Nat→List af→List (Nat×af)
 |_,[]=> []
 |i,b::r=>(i,b)::hq (i+1) r
theorem J.Mn:∀(l:List af)(i:Nat)(h:J),J.pb i l h=(hq i l).foldl (fun h p=>h.set p.1 p.2) h
 |[],i,h=>rfl
 |b::r,i,h=>by simp only [J.pb,hq,List.foldl_cons];exact J.Mn r _ _
theorem J.Mo(l:List af):J.of l=J.rows l.length (hq 0 l):=J.Mn _ _ _
theorem FQ:∀(l:List af)(i:Nat),(hq i l).map (·.1)=List.range' i l.length
 |[],i=>rfl
 |b::r,i=>by simp only [hq,List.map_cons,FQ r,List.length_cons,List.range'_succ]
theorem xC:∀(l:List af)(i:Nat),(hq i l).map (·.2)=l
 |[],i=>rfl
 |b::r,i=>by simp only [hq,List.map_cons,xC r]
theorem List.Nodup.Vl{f:Nat→Nat}{n:Nat}(h:∀a∈List.range n,∀b∈List.range n,f a=f b→a=b):((List.range n).map f).Nodup:=by rw [List.nodup_iff_pairwise_ne,List.pairwise_map];refine List.Pairwise.imp_of_mem ?_ (List.nodup_range (n:=n));intro a b aT ax bX e;exact bX (h a aT b ax e)
def gu(k:Nat)(hr:List Nat)(i:Nat):Nat:=if i<k then i else(hr[i-k]?).getD 0
theorem b1.fin{P:Program}{C:(Nat→Prop)→World→Prop}[ke C]{f:FuncId}{args:List aa}{ag:J}{v:aa}{l:List af}(k:b1 P C f args (J.of l) v ag)(hr:List Nat)(cQ:List af)(v2:aa)(fy:∀b∈cQ,dy b)
 (hlen:cQ.length=l.length+hr.length) (eX:(List.range cQ.length).map (fun i=>ag.get (gu l.length hr i))=cQ.map some) (bh:v=v2.bg (gu l.length hr)) (xA:ch (fun i=>i<cQ.length) v2)
 (FR:hr.all (fun j=>Nat.ble l.length j)=true) (hX:hr.Nodup):b1 P C f args (J.of l) v2 (J.of cQ):=by
 have mr:(hq 0 cQ).map (·.1)=List.range cQ.length:=by rw [FQ,List.range_eq_range']
 have gi:∀j∈hr,l.length≤j:=fun j a1=>Nat.le_of_ble_eq_true (List.all_eq_true.1 FR j a1)
 have kW:∀i,l.length≤i→i<cQ.length→ ∃(h:i-l.length<hr.length),gu l.length hr i=hr[i-l.length]:=by intro i ac ai;have a8:i-l.length<hr.length:= ab;exact⟨a8,by simp only [gu,if_neg (show ¬i<l.length by omega),List.getElem?_eq_getElem a8,Option.getD_some]⟩
 rw [J.Mo cQ];refine k.Ml (gu l.length hr) v2 cQ.length (hq 0 cQ) ?_ bh ?_ ?_ ?_ ?_ (Nat.ble_eq.mpr ?_) ?_ ?_
 ·have ac:(hq 0 cQ).map (fun p=>ag.get (gu l.length hr p.1))=((hq 0 cQ).map (·.1)).map (fun i=>ag.get (gu l.length hr i)):=by rw [List.map_map];rfl
  have ai:(hq 0 cQ).map (fun p=>some (p.2.bg (gu l.length hr)))=((hq 0 cQ).map (·.2)).map (fun b=>some (b.bg (gu l.length hr))):=by rw [List.map_map];rfl
  rw [ac,ai,mr,xC,eX];exact List.map_congr_left fun b hm=>by rw [(fy b hm).bg]
 ·rw [List.all_eq_true];intro p ah;have:p.1∈(hq 0 cQ).map (·.1):=List.mem_map.2 ⟨p,ah,rfl⟩;rw [mr]at this;exact Nat.blt_eq.mpr (List.mem_range.1 this)
 ·rw [mr];refine List.Nodup.Vl ?_;intro a aT b ax e;have aT:=List.mem_range.1 aT;have ax:=List.mem_range.1 ax;by_cases dI:a<l.length<;>by_cases c2:b<l.length
  ·simpa [gu,dI,c2]using e
  ·obtain⟨a8,bQ⟩:=kW b ab ax;rw [bQ,show gu l.length hr a=a by simp [gu,dI]]at e;have:=gi _ (List.getElem_mem a8);omega
  ·obtain⟨a8,bQ⟩:=kW a ab aT;rw [bQ,show gu l.length hr b=b by simp [gu,c2]]at e;have:=gi _ (List.getElem_mem a8);omega
  ·obtain⟨a8,bQ⟩:=kW a ab aT;obtain⟨bF,dv⟩:=kW b ab ax;rw [bQ,dv]at e;have:=(List.getElem_inj hX).1 e;omega
 ·rw [List.all_eq_true,J.of_next];intro i aq;have aq:=List.mem_range.1 aq;rw [mr,Bool.and_eq_true];exact⟨by simp;omega,beq_true (by simp [gu,aq])⟩
 ·rw [List.all_eq_true,J.of_next];intro p ah;have:p.1∈(hq 0 cQ).map (·.1):=List.mem_map.2 ⟨p,ah,rfl⟩;rw [mr]at this;have cG:=List.mem_range.1 this;rw [Bool.or_eq_true];by_cases c:p.1<l.length
  ·exact .inl (Nat.blt_eq.mpr c)
  ·obtain⟨a8,bQ⟩:=kW p.1 ab cG;exact .inr (Nat.ble_eq.mpr (by rw [bQ];exact gi _ (List.getElem_mem a8)))
 ·rw [J.of_next];omega
 ·rw [mr];exact ch.mono (fun i aq=>List.mem_range.2 aq) xA
 ·intro p ah;obtain⟨q,aB,rfl⟩:=List.mem_map.1 ah;intro e he;exact(fy q.2 (by have:q.2∈(hq 0 cQ).map (·.2):=List.mem_map.2 ⟨q,aB,rfl⟩;rwa [xC]at this) e he).eM _
theorem b1.pure{P:Program}{C:(Nat→Prop)→World→Prop}[ke C]{f:FuncId}{args:List aa}{ag:J}{v:aa}{l:List af}(k:b1 P C f args (J.of l) v ag)(ax:∀b∈l,dy b)(eX:(List.range l.length).map ag.get=l.map some)(bh:cU v)
 (aT:fp (fun i=>i<l.length) args) {H:J} (ids:List Nat) (aR:ids.Nodup) (cG:∀j∈ids,j<H.U) (aC:ids.map H.get=l.map some):b1 P C f (args.map (aa.bg (dJ ids H.U))) H v H:=by
 have aK:=k.fin [] l v ax aM (by
  rw [←eX]
  exact List.map_congr_left fun i aq=>by rw [show gu l.length [] i=i by simp [gu,List.mem_range.1 aq]]) (bh.1 _).symm (bh.eM _) rfl aM
 have aP:=aK.Vj ax aT ids aR cG aC
 rwa [bh.1]at aP
theorem b1.FT{P:Program}{C:(Nat→Prop)→World→Prop}[ke C]{f:FuncId}{args:List aa}{ag:J}{j es n c ad:Nat}{l:List af}{bn:af}(k:b1 P C f args (J.of l) (.slice (some ⟨j,ad,0,0,es⟩) n c) ag)(ax:∀b∈l,dy b)(u3:dy bn)
 (eX:(List.range l.length).map ag.get=l.map some) (fS:ag.get j=some bn) (a1:l.length≤j) (aT:fp (fun i=>i<l.length) args) {H:J} (ids:List Nat) (aR:ids.Nodup) (cG:∀j∈ids,j<H.U) (aC:ids.map H.get=l.map some) :
 b1 P C f (args.map (aa.bg (dJ ids H.U))) H (.slice (some ⟨H.U,ad,0,0,es⟩) n c) (H.hp [] [bn]):=by
 have hlen:ids.length=l.length:=by have:=congrArg List.length aC;simpa using this
 have aK:=k.fin [j] (l++[bn]) (.slice (some ⟨l.length,ad,0,0,es⟩) n c) (fun b hm=>(List.mem_append.1 hm).elim (ax b) (fun h=>by rw [List.mem_singleton.1 h];exact u3)) aM (by
  rw [List.length_append,List.length_singleton,List.range_succ,List.map_append,List.map_append]
  congr 1
  ·rw [←eX];exact List.map_congr_left fun i aq=>by rw [show gu l.length [j] i=i by simp [gu,List.mem_range.1 aq]]
  ·simp [gu,fS]) (by simp [aa.bg,bA.bg,gu]) (by simp [ch]) (by simp [a1]) aM
 have aP:=aK.Mm ax (fun b hm=>by rw [List.mem_singleton.1 hm];exact u3) aT ids aR cG aC
 have e:(aa.slice (some ⟨l.length,ad,0,0,es⟩) n c).bg (dJ ids H.U)=.slice (some ⟨H.U,ad,0,0,es⟩) n c:=by simp only [aa.bg,bA.bg,dJ,List.getElem?_eq_none (show ids.length≤l.length by omega),hlen,Nat.sub_self,Nat.add_zero]
 rwa [e]at aP
theorem cS.more{φ:Map}{S:Nat→Prop}{h ai:J}{w:World}(r:cS φ S h w)(aR:h.U≤ai.U)(ak:∀i,i<h.U→ai.get i=h.get i):cS φ S ai w where
 dD i v p ah:=by obtain⟨ac,b,aK,aP⟩:=r.dD i v p ah;exact⟨Nat.lt_of_lt_of_le ac aR,b,by rw [ak i ac];exact aK,aP⟩
 apart:=r.apart
 same:=r.same
theorem b1.pad{P:Program}{C:(Nat→Prop)→World→Prop}[ke C]{f:FuncId}{args:List aa}{h ag ai:J}{v:aa}(k:b1 P C f args h v ag)(aR:ag.U≤ai.U)(ak:∀i,i<ag.U→ai.get i=ag.get i):b1 P C f args h v ai :=
 fun S bo cu gr φ w dk ed cH ea=>by obtain⟨g1,g2⟩:=k S bo cu gr φ w dk ed cH ea;exact⟨g1,g2.mono fun e bq ⟨br,bE,av,a2,a3,a4,a5,pc⟩=>⟨br,bE,av,a2,a3,a4.more aR ak,a5,Nat.le_trans pc aR⟩⟩
def Be(o:Option bA)(n c id ad off es:Nat):Prop:=o=some ⟨id,ad,off,0,es⟩∨(o=none∧n=0∧c=0)
theorem Be.index{o:Option bA}{n c id ad off es:Nat}(h:Be o n c id ad off es){D:dH}{t e:TypeId}{d cJ:q6}(aE:D t=some d)(au:d.kind=.slice e)(aj:D e=some cJ)(ck:es=cJ.size){k:IntKind}{i:Int}(bf:0≤i)(aq:i<n) :
 sG D t (.slice o n c) (.int k i)=some (.ptr (some ⟨id,ad,off+i.toNat,0,es⟩)):=by
 rcases h with rfl|⟨_,rfl,_⟩
 ·simp only [sG,aE,au,aj];rw [if_pos ⟨bf,aq,ck,trivial⟩]
 ·omega
theorem Be.back{o:Option bA}{n c id ad off es:Nat}(h:Be o n c id ad off es){Mp:Nat}{r:Nat→Nat}(bc:r Mp=id):(aa.slice (o.map fun a=> {a with id:=Mp}) n c).bg r=.slice o n c:=by
 rcases h with rfl|⟨rfl,ac,ai⟩
 ·simp [aa.bg,bA.bg,bc]
 ·rfl
structure xD(D:dH)(t e:TypeId)(sz qf:Nat):Prop where
 ty:∃d cJ,D t=some d∧d.kind=.slice e∧D e=some cJ∧cJ.size=sz∧cJ.bytes=qf∧0<sz∧cJ.ul=true
section
variable {E:bY}{t e:TypeId}{sz qf nid:Nat}{h:J}{x:aa}{new:List aa}
theorem u4(hs:xD E.D t e sz qf)(s:aa):hC E .append #[t,t] [s,x] nid h=hB E.D t s x nid h:=by obtain⟨d,cJ,ac,ai,a8,rfl,rfl,bQ,bF⟩:=hs.ty;simp only [hC,List.getElem?_toArray,List.getElem?_cons_zero,List.getElem?_cons_succ,ac,ai]
theorem Vm(hs:xD E.D t e sz qf)(aj:fU sz x h=some new)(bX:new≠[]){a:bA}{len cap:Nat}{b:af}(ax:((len+new.length)+(len+new.length)/4+512)*qf≤2^48)(aC:len+new.length<2^62)
 (ak:h.get a.id=some b) (ck:a.es=sz∧a.fld=0) (rn:¬len+new.length≤cap) (dv:b.exact=false) (cE:b.ro=false) (cj:a.ad=b.ad) (fv:a.idx+len=b.bk.length) (pX:b.ty=none∨b.ty=some (e,0)) :
 hC E .append #[t,t] [.slice (some a) len cap,x] nid h=some (.slice (some {a with ad:=a.ad+1}) (len+new.length) (len+new.length),h.set a.id (b.grow new)):=by
 rw [u4 hs];obtain⟨d,cJ,ac,ai,a8,rfl,rfl,bQ,bF⟩:=hs.ty;simp only [hB,ac,ai,a8,aj];rw [if_pos ⟨bQ,ax,aC,bF⟩];rw [if_pos ck];simp only [ak];rw [if_neg rn,if_neg (by rw [dv];simp),if_pos ⟨cE,cj,fv,bX,pX⟩]
theorem Vn(hs:xD E.D t e sz qf)(aj:fU sz x h=some new){a:bA}{len cap:Nat}{b:af}{old:List aa}(ax:((len+new.length)+(len+new.length)/4+512)*qf≤2^48)(aC:len+new.length<2^62)
 (ak:h.get a.id=some b) (ck:a.es=sz∧a.fld=0) (rn:¬len+new.length≤cap) (dv:b.exact=true) (ao:fU sz (.slice (some a) len cap) h=some old) :
 hC E .append #[t,t] [.slice (some a) len cap,x] nid h=some (kb nid sz (len+new.length) (len+new.length),h.set nid (.an (old++new) sz false (some (e,0)))):=by
 rw [u4 hs];obtain⟨d,cJ,ac,ai,a8,rfl,rfl,bQ,bF⟩:=hs.ty;simp only [hB,ac,ai,a8,aj];rw [if_pos ⟨bQ,ax,aC,bF⟩];rw [if_pos ck];simp only [ak];rw [if_neg rn,if_pos dv];simp only [ao]
theorem Vo(hs:xD E.D t e sz qf)(aj:fU sz x h=some []){o:Option bA}{len cap:Nat}{b:af}(ax:(len+len/4+512)*qf≤2^48)(aC:len<2^62)
 (ak:∀a,o=some a→h.get a.id=some b∧a.es=sz∧a.fld=0) (rn:len≤cap) (aR:o=none→len=0):hC E .append #[t,t] [.slice o len cap,x] nid h=some (.slice o len cap,h):=by
 rw [u4 hs];obtain⟨d,cJ,ac,ai,a8,rfl,rfl,bQ,bF⟩:=hs.ty;simp only [hB,ac,ai,a8,aj];rw [if_pos ⟨bQ,by simpa using ax,by simpa using aC,bF⟩];cases o with
 |none=>have:=aR rfl;subst this;simp
 |some a =>
  obtain⟨aK,aP⟩:=ak a rfl;simp only;rw [if_pos aP];simp only [aK];rw [if_pos (by simpa using rn),if_pos trivial];simp
end
theorem dK.round{P:Program}{C:(Nat→Prop)→World→Prop}{base n:Nat}{c:Code}{F aU n8:bJ}{h ac l' ai:J}{e:cW}(aK:fw P C base n c F h .normal aU ac)(i:eL base n aU ac aU l')(aP:dK P C base n c aU l' e n8 ai):dK P C base n c F h e n8 ai :=
 dK.step (aK.post i) aP
end
end Go.cf
namespace Go.Proofs.YtddnafghiejcoaaGreatDoor
open Go.cf Go.Shelf
set_option maxRecDepth 1000000
def Mq:Ren where
 f:=fun x=>if x=129 then 136 else if x=284 then 120 else if x=317 then 135 else if x=318 then 137 else 0
 t:=fun x=>if x=0 then 0 else if x=3 then 3 else if x=4 then 4 else if x=5 then 5 else if x=9 then 9 else if x=46 then 108 else if x=53 then 151 else if x=212 then 179 else 0
 g:=fun x=>if x=17 then 5 else 0
theorem Vp:Lays.n284 Tryz.prog Mq:=by constructor;all_goals first|kernel_rfl|(intro w;kernel_rfl)
theorem Vq:LaysM.n284 Tryz.prog Mq:=by constructor;all_goals first|exact Vp|kernel_rfl
end Go.Proofs.YtddnafghiejcoaaGreatDoor
namespace Go.Proofs.YtddnafghiejcoaaGreatDoor
open Go.cf
set_option maxRecDepth 1000000
structure cX(be:Nat→Prop)(w:World):Prop where
 p:be 5
 pow:Lib.TabIs Tryz.prog w "internal/strconv.uint64pow10" .u64 Lib.pow10Tab
 q:be 0
 FU:Lib.TabIs Tryz.prog w "strings.asciiSpace" .u8 Lib.asciiSpaceTab
 s:be 3
 FV:∃rI rJ,w.cell? ⟨3,0,none⟩=some (.iface rI rJ)
 r:be 4
 FW:∃rI rJ,w.cell? ⟨4,0,none⟩=some (.iface rI rJ)
 x:be 2
 mx:∃m,w.cell? ⟨2,0,none⟩=some (.int .i64 m)
theorem FX:Tryz.prog.globalNamed "internal/strconv.uint64pow10" =some 5:= ay
theorem FY:Tryz.prog.globalNamed "strings.asciiSpace" =some 0:= ay
theorem Mr{w bq:World}{n:String}{g:Nat}{k:IntKind}{t:List Int}(ak:Tryz.prog.globalNamed n=some g)(ax:bq.heap[g]? =w.heap[g]?)(h:Lib.TabIs Tryz.prog w n k t):Lib.TabIs Tryz.prog bq n k t:=by unfold Lib.TabIs World.var? at h⊢;rw [ak]at h⊢;simp only [Option.bind_some]at h⊢;rw [ax];exact h
theorem cX.keep{be xj:Nat→Prop}{bo w:World}(h:cX be bo)(hs:Go.cf.Safe be bo w)(aR:∀x,be x→xj x):cX xj w where
 p:=aR _ h.p
 pow:=Mr FX (hs.block _ h.p) h.pow
 q:=aR _ h.q
 FU:=Mr FY (hs.block _ h.q) h.FU
 s:=aR _ h.s
 FV:=by obtain⟨rI,rJ,e⟩:=h.FV;exact⟨rI,rJ,by rw [World.cell?_of_block (hs.block _ h.s)];exact e⟩
 r:=aR _ h.r
 FW:=by obtain⟨rI,rJ,e⟩:=h.FW;exact⟨rI,rJ,by rw [World.cell?_of_block (hs.block _ h.r)];exact e⟩
 x:=aR _ h.x
 mx:=by obtain⟨m,e⟩:=h.mx;exact⟨m,by rw [World.cell?_of_block (hs.block _ h.x)];exact e⟩
instance:ke cX where
 mono _ fm hs aR:=fm.keep hs aR
def jV(n:Nat):Nat :=
 if n<10 then 1 else if n<100 then 2 else if n<1000 then 3 else if n<10000 then 4 else if n<100000 then 5 else if n<1000000 then 6 else if n<10000000 then 7 else if n<100000000 then 8 else if n<1000000000 then 9 else 10
theorem Ms(n:Nat)(h:n<10000000000):jV n=Lib.nDigits n:=by
 unfold jV
 repeat' split
 ·exact(Lib.nDigits_small ‹_›).symm
 ·exact(Lib.nDigits_unique 1 n ab ab).symm
 ·exact(Lib.nDigits_unique 2 n ab ab).symm
 ·exact(Lib.nDigits_unique 3 n ab ab).symm
 ·exact(Lib.nDigits_unique 4 n ab ab).symm
 ·exact(Lib.nDigits_unique 5 n ab ab).symm
 ·exact(Lib.nDigits_unique 6 n ab ab).symm
 ·exact(Lib.nDigits_unique 7 n ab ab).symm
 ·exact(Lib.nDigits_unique 8 n ab ab).symm
 ·exact(Lib.nDigits_unique 9 n ab ab).symm
def Bf:z1:=fun args h =>
 match args with
 |[.int .u64 n]=>if 1≤n∧n<10000000000 then some (.int .i64 (jV n.toNat),h)else none
 |_=>none
theorem Mt:EE Tryz.prog cX 120 Bf:=by
 intro be bo db fm args h v ag ak φ w dk ed cH ea;unfold Bf at ak;split at ak
 ·rename_i n;split at ak
  ·rename_i aR;simp only [Option.some.injEq,Prod.mk.injEq]at ak;obtain⟨rfl,rfl⟩:=ak;obtain⟨l⟩:=dk;simp only [bz]at ea;obtain⟨a,t,rfl,aT,rfl⟩:=ea;simp only [aL]at aT;subst aT;have xk:=fm.keep cH fun _ aj=>aj
   refine⟨⟨Tryz.f120,_,ay,rfl⟩,?_⟩;have k:=Any.internal_strconv_numDigits Vq n.toNat ab ab w xk.pow;rw [Int.toNat_of_nonneg ab]at k;refine k.mono fun e bq bU=> ?_
   obtain⟨he,hw⟩:=bU;subst hw;exact⟨_,φ,he,eW.refl _ _,by simp only [aL];rw [Ms _ ab],ed,cH,Nat.le_refl _⟩
  ·cases ak
 ·cases ak
noncomputable def env:bY:= {cond:=cX,um:=fun f=>if f=120 then some Bf else none,D:=zW Tryz.prog,eqs:=[42],ext:=fun f=>if f=170 then some 0 else if f=133 then some 1 else none}
instance:ke env.cond:=inferInstanceAs (ke cX)
theorem eN:hn Tryz.prog env where
 hO:=dH.Uw _
 eqs:=Uy (by decide+kernel)
 names:=Ux (by decide+kernel)
 K7:=fun f g h=>by
  simp only [env]at h;split at h
  ·rename_i e;subst e;simp only [Option.some.injEq]at h;subst h;exact Mt
  ·cases h
 K8 :=fun f k h=>by
  simp only [env]at h;split at h
  ·rename_i e;subst e;simp only [Option.some.injEq]at h;subst h;exact⟨Tryz.f170,_,ay,ay,ay,ay,rfl⟩
  ·split at h
   ·rename_i e;subst e;simp only [Option.some.injEq]at h;subst h;exact⟨Tryz.f133,_,ay,ay,ay,ay,rfl⟩
   ·cases h
theorem mixed:Tryz.prog.follows .mixedOrders=true:=by decide+kernel
end Go.Proofs.YtddnafghiejcoaaGreatDoor
namespace Go.cf
noncomputable section
open Go.RowKit
inductive c':Type 1 where
 |nil
 |az (x:Hint) (r:c')
 |aI (i:Nat) (y n:c')
 |cases (i:Nat) (p:Prop) (y n:c')
 |ex (i:Nat) {α:Type} (p:α→Prop) (f:α→c')
 |skip (i:Nat) (r:c')
def kC:List Prop→Prop→Prop
 |[],k=>k
 |p::r,k=>p∧kC r k
theorem lF:∀{l:List Prop}{k:Prop},kC l k→bR l∧k
 |[],k,h=>⟨bR.nil,h⟩
 |p::r,k,h=>⟨bR.cons h.1 (lF h.2).1,(lF h.2).2⟩
abbrev lG:=aa→J→c'→List hP→Prop
abbrev rK:=FuncId→List aa→J→c'→(aa→J→c'→Prop)→Prop
abbrev xE:=cW→bJ→J→c'→Prop
def FZ(ρ:Operand→aa)(o:Op):Option (Prop×Bool) :=
 match o with
 |.binOp op t x y _ =>
  match ρ x,ρ y with
  |.int k a,.int e6 b =>
   match decEq k e6 with
   |isTrue _ =>
    match op with
    |.eql=>some (a=b,true)
    |.neq=>some (a=b,false)
    |.lss=>some (a<b,true)
    |.leq=>some (a≤b,true)
    |.gtr=>some (b<a,true)
    |.geq=>some (b≤a,true)
    |_=>none
   |isFalse _=>none
  |.str a,.str b =>
   match op with
   |.eql=>some (a=b,true)
   |.neq=>some (a=b,false)
   |_=>none
  |_,_=>none
 |_=>none
theorem Mu{E:bY}{ρ:Operand→aa}{o:Op}{p:Prop}{b:Bool}(k:FZ ρ o=some (p,b))(call:dV)(nid:Nat)(h:J):(p→bN E call nid ρ h o=some (.bool b,h))∧(¬p→bN E call nid ρ h o=some (.bool (!b),h)):=by
 cases o<;>simp only [FZ]at k<;>try (cases k;done)
 rename_i op t x y ty;split at k
 ·rename_i aK a aP c aj bV;split at k
  ·rename_i au _;subst au;split at k<;>first|(cases k;done)|(simp only [Option.some.injEq,Prod.mk.injEq]at k)
   all_goals (obtain⟨rfl,rfl⟩:=k)
   all_goals (constructor<;>intro ah<;>simp [bN,aj,bV,oK,kn,ah])
   all_goals omega
  ·cases k
 ·rename_i a c aj bV;split at k<;>first|(cases k;done)|(simp only [Option.some.injEq,Prod.mk.injEq]at k)
  all_goals (obtain⟨rfl,rfl⟩:=k)
  all_goals (constructor<;>intro ah<;>simp [bN,aj,bV,oK,ww,ah])
 ·cases k
inductive ey where
 |one (v:aa) (h:J) (ps:List Prop)
 |or (p:Prop) (a b:ey)
 |some (v:aa) (ps:List Prop) (p:J→Prop)
def ey.dt(P:Program)(C:(Nat→Prop)→World→Prop)(f:FuncId)(args:List aa)(h:J):ey→Prop
 |.one v ag ps=>bR ps→b1 P C f args h v ag
 |.or p a b=>(p→ey.dt P C f args h a)∧(¬p→ey.dt P C f args h b)
 |.some v ps p=>bR ps→ ∃ag,b1 P C f args h v ag∧p ag
abbrev e1:=FuncId→Option (List aa→J→Option ey)
def eJ(P:Program)(C:(Nat→Prop)→World→Prop)(S:e1):Prop:= ∀f g,S f=some g→ ∀args h a,g args h=some a→a.dt P C f args h
def Mv:e1:=fun _=>none
theorem gC{P:Program}{C:(Nat→Prop)→World→Prop} :eJ P C Mv:=fun _ _ h=>by cases h
def e1.add(S:e1)(f:FuncId)(g:List aa→J→Option ey):e1:=fun k=>_root_.cond (Nat.beq k f) (some g) (S k)
theorem eJ.add{P:Program}{C:(Nat→Prop)→World→Prop}{S:e1}(k:eJ P C S){f:FuncId}{g:List aa→J→Option ey}(ak:∀args h a,g args h=some a→a.dt P C f args h):eJ P C (S.add f g):=by
 intro gb dp aZ;unfold e1.add at aZ;rcases n7 gb f with ⟨e,dS⟩|⟨e,dS⟩
 ·rw [dS,cond_true]at aZ;simp only [Option.some.injEq]at aZ;subst aZ;subst e;exact ak
 ·rw [dS,cond_false]at aZ;exact k gb dp aZ
def aN(l:List UInt8):List aa:=l.map fun b=> .int .u8 b.toNat
def strOf(l:List aa):List UInt8:=(bytesOf l).getD []
def ba(l:List aa)(i:Nat):Int:=match l[i]? with|some (.int _ n)=>n|_=>0
def F0(E:bY)(draw:Bool)(ops:Array Oper)(ap i:Nat)(ρ:Operand→aa)(h:J)(o:Op):Option (aa×J×List Prop) :=
 match o with
 |.convert s d x =>
  match ρ x with
  |.slice (some a) n c =>
   match E.D s,E.D d,h.get a.id with
   |some nR,some gq,some b =>
    match nR.kind,gq.kind with
    |.slice e,.string =>
     match E.D e with
     |some gX =>
      match gX.kind with
      |.int .u8 =>
       cond (Nat.beq a.fld 0&&Nat.beq a.es 1&&(!draw || (lp ops i || jb ops ap i ρ (.convert s d x))))
        (some (.str (strOf ((b.bk.drop a.idx).take n)),h,[a.ad=b.ad,a.idx+n≤b.bk.length,∃l,(b.bk.drop a.idx).take n=aN l])) none
      |_=>none
     |none=>none
    |_,_=>none
   |_,_,_=>none
  |_=>none
 |.load t x =>
  match ρ x with
  |.ptr (some a) =>
   match E.D t,h.get a.id with
   |some d,some b =>
    match d.kind with
    |.int k =>
     cond (Nat.beq a.fld 0&&Nat.beq d.size 1)
      (some (.int k (ba b.bk a.idx),h,[a.ad=b.ad,b.bk[a.idx]? =some (.int k (ba b.bk a.idx))]++cond draw (iL ops ap i ρ h o h) [])) none
    |_=>none
   |_,_=>none
  |_=>none
 |_=>none
theorem Bg:∀(l:List UInt8),bytesOf (aN l)=some l
 |[]=>rfl
 |b::r=>by have:=Bg r;unfold aN at this;simp only [aN,List.map_cons,bytesOf,this,Option.map_some];simp
theorem jh(l:List UInt8):strOf (aN l)=l:=by unfold strOf;rw [Bg];rfl
theorem Vr{P:Program}{E:bY}{draw:Bool}{ops:Array Oper}{ap i:Nat}{ρ:Operand→aa}{h ag:J}{o:Op}{v:aa}{ps:List Prop}(k:F0 E draw ops ap i ρ h o=some (v,ag,ps))(ah:bR ps)(call:dV):k6 E call ops draw ap i ρ h o=some (v,ag):=by
 cases o<;>simp only [F0]at k<;>try (cases k;done)
 case convert s d x =>
  split at k
  ·rename_i a n c aj;split at k
   ·rename_i nR gq b hs aE ak;split at k
    ·rename_i e gh cn;split at k
     ·rename_i gX he;split at k
      ·rename_i lz;cases aB:(Nat.beq a.fld 0&&Nat.beq a.es 1&&(!draw || (lp ops i || jb ops ap i ρ (.convert s d x))))with
       |false=>rw [aB]at k;cases k
       |true =>
        rw [aB,cond_true]at k;simp only [Option.some.injEq,Prod.mk.injEq]at k;obtain⟨rfl,rfl,rfl⟩:=k;simp only [Bool.and_eq_true]at aB;have dh:=Nat.eq_of_beq_eq_true aB.1.1;have du:=Nat.eq_of_beq_eq_true aB.1.2;have ep:a.ad=b.ad:=ah.head;have hb:a.idx+n≤b.bk.length:=ah.tail.head;obtain⟨l,k5⟩:∃l,(b.bk.drop a.idx).take n=aN l:=ah.tail.tail.head;have ls:b.cC a.ad=b.bk.length:=by rw [ep];simp [af.cC]
        have fO:fU 1 (.slice (some a) n c) h=some (aN l):=by
         by_cases aR:n=0
         ·subst aR;simp only [fU,dh,du,if_true,ak];rw [←k5];simp
         ·simp only [fU,dh,du,if_true,ak];rw [if_neg aR,if_pos ⟨by rw [ls];exact hb,hb⟩,k5]
        refine FI E ?_ ?_ ?_
        ·simp only [bN,aj,wA,hs,aE];rfl
        ·simp only [e7,aj,q',hs,aE,gh,cn,he,lz,fO,Bg,Option.map_some];rw [k5,jh]
        ·intro uE;refine⟨rfl,?_⟩;have:=aB.2;rw [uE]at this;simpa using this
      ·cases k
     ·cases k
    ·cases k
   ·cases k
  ·cases k
 case load t x =>
  split at k
  ·rename_i a aj;split at k
   ·rename_i d b aE ak;split at k
    ·rename_i l9 au;cases aB:(Nat.beq a.fld 0&&Nat.beq d.size 1)with
     |false=>rw [aB]at k;cases k
     |true =>
      rw [aB,cond_true]at k;simp only [Option.some.injEq,Prod.mk.injEq]at k;obtain⟨rfl,rfl,rfl⟩:=k;simp only [Bool.and_eq_true]at aB;have dh:=Nat.eq_of_beq_eq_true aB.1;have ep:a.ad=b.ad:=ah.head;have hb:b.bk[a.idx]? =some (.int l9 (ba b.bk a.idx)):=ah.tail.head;refine jU E ?_ ah.tail.tail;have cG:=(List.getElem?_eq_some_iff.1 hb).1
      have fO:b.elem? a.ad a.idx=some (.int l9 (ba b.bk a.idx)):=by unfold af.elem?;rw [if_pos (by rw [ep];simpa [af.cC]using cG)];exact hb
      simp only [bN,aj,bM,aE,ak,fO,au,kR.isAgg,hZ,dh,if_true,Option.map_some,Bool.false_eq_true,if_false]
    ·cases k
   ·cases k
  ·cases k
section
variable(P:Program)(E:bY)(S:e1)
def Bh(draw:Bool)(ops:Array Oper)(ap i:Nat)(F:bJ)(h:J)(o:Op):Option (aa×J×List Prop×List hP) :=
 match o with
 |.call c =>
  match c.callee with
  |.value f =>
   match bD F f with
   |.func (.func g) fs bm =>
    match S g with
    |some xF =>
     match xF (fs++c.args.toList.map (bD F)++bm) h with
     |some (.one v ag ps)=>some (v,ag,ps++cond draw (iL ops ap i (bD F) h o ag) [],[⟨g,fs++c.args.toList.map (bD F)++bm,h,v,ag⟩])
     |_=>none
    |none=>none
   |_=>none
  |_=>match o' E draw ops ap i F h o []with|some (v,ag,_,bm,ks)=>some (v,ag,bm,ks)|none=>none
 |_=>match o' E draw ops ap i F h o []with|some (v,ag,_,bm,ks)=>some (v,ag,bm,ks)|none=>none
def qg(draw:Bool)(ops:Array Oper)(ap i:Nat)(F:bJ)(o:Op)(g:FuncId)(args:List aa)(h:J)(K:lG):ey→c'→Prop
 |.one v ag ps,hs=>kC (ps++cond draw (iL ops ap i (bD F) h o ag) []) (K v ag hs [⟨g,args,h,v,ag⟩])
 |.or p a b,.aI _ y n=>(p→qg draw ops ap i F o g args h K a y)∧(¬p→qg draw ops ap i F o g args h K b n)
 |.or _ _ _,_=>False
 |.some v ps p,hs=>kC ps (∀ag,p ag→kC (cond draw (iL ops ap i (bD F) h o ag) []) (K v ag hs [⟨g,args,h,v,ag⟩]))
def Bi(F:bJ)(h:J)(o:Op):Option (ey×FuncId×List aa) :=
 match o with
 |.call c =>
  match c.callee with
  |.value f =>
   match bD F f with
   |.func (.func g) fs bm =>
    match S g with
    |some xF=>match xF (fs++c.args.toList.map (bD F)++bm) h with|some a=>some (a,g,fs++c.args.toList.map (bD F)++bm)|none=>none
    |none=>none
   |_=>none
  |_=>none
 |_=>none
def pd(draw:Bool)(ops:Array Oper)(ap i:Nat)(F:bJ)(h:J)(o:Op)(hs:c')(K:lG):Prop :=
 match Bh E S draw ops ap i F h o with
 |some (v,ag,bm,ks)=>kC bm (K v ag hs ks)
 |none =>
  match Bi S F h o with
  |some (.some v ps p,g,args)=>qg draw ops ap i F o g args h K (.some v ps p) hs
  |_=>False
def F1(draw:Bool)(ops:Array Oper)(ap i:Nat)(F:bJ)(h:J)(o:Op)(y n:c')(K:lG):Prop :=
 match FZ (bD F) o with
 |some (p,b)=>(p→kC (cond draw (iL ops ap i (bD F) h o h) []) (K (.bool b) h y []))∧(¬p→kC (cond draw (iL ops ap i (bD F) h o h) []) (K (.bool (!b)) h n []))
 |none =>
  match Bh E S draw ops ap i F h o with
  |some (.bool b,ag,bm,ks)=>kC bm ((b=true→K (.bool true) ag y ks)∧(b=false→K (.bool false) ag n ks))
  |_=>False
def F2(draw:Bool)(ops:Array Oper)(ap i:Nat)(F:bJ)(h:J)(o:Op)(j:Nat)(y n:c')(K:lG):Prop :=
 match Bi S F h o with
 |some (.or p a b,g,args)=>qg draw ops ap i F o g args h K (.or p a b) (.aI j y n)
 |_=>F1 E S draw ops ap i F h o y n K
def F3(fK:rK)(draw:Bool)(ops:Array Oper)(ap i:Nat)(F:bJ)(h:J)(o:Op)(x:Hint)(r:c')(K:lG):Prop :=
 match x with
 |.enter _ =>
  match o with
  |.call c =>
   match c.callee with
   |.value f =>
    match bD F f with
    |.func (.func g) fs bm =>
     fK g (fs++c.args.toList.map (bD F)++bm) h r fun v ag fH=>kC (cond draw (iL ops ap i (bD F) h o ag) []) (K v ag fH [⟨g,fs++c.args.toList.map (bD F)++bm,h,v,ag⟩])
    |_=>False
   |_=>False
  |_=>False
 |_ =>
  match xx P E (fun _ _ _ _=>none) draw ops ap i F h o x []with
  |some (v,ag,_,bm,ks)=>kC bm (K v ag r ks)
  |none=>match F0 E draw ops ap i (bD F) h o with|some (v,ag,bm)=>kC bm (K v ag r [])|none=>False
def pe(fK:rK)(q:Nat)(ops:Array Oper)(draw:Bool)(ap i:Nat)(F:bJ)(h:J)(o:Op)(K:lG):c'→Prop
 |.nil=>pd E S draw ops ap i F h o .nil K
 |.az x r=>match x.at with|some j=>cond (Nat.beq (1000*q+i) j) (F3 P E fK draw ops ap i F h o x r K) (pd E S draw ops ap i F h o (.az x r) K)|none=>pd E S draw ops ap i F h o (.az x r) K
 |.aI j y n=>cond (Nat.beq (1000*q+i) j) (F2 E S draw ops ap i F h o j y n K) (pd E S draw ops ap i F h o (.aI j y n) K)
 |.cases j p y n=>cond (Nat.beq (1000*q+i) j) ((p→pe fK q ops draw ap i F h o K y)∧(¬p→pe fK q ops draw ap i F h o K n)) (pd E S draw ops ap i F h o (.cases j p y n) K)
 |.ex j p f=>cond (Nat.beq (1000*q+i) j) ((∃x,p x)∧∀x,p x→pe fK q ops draw ap i F h o K (f x)) (pd E S draw ops ap i F h o (.ex j p f) K)
 |.skip j r=>cond (Nat.beq (1000*q+i) j) (pd E S draw ops ap i F h o r K) (pd E S draw ops ap i F h o (.skip j r) K)
def tp(ops:Array Oper)(draw:Bool)(ap i:Nat)(F:bJ)(h:J)(o:Op)(K:lG):Prop :=
 ∃v ag ev ks,K v ag ev ks∧(∀c∈ks,b1 P E.cond c.f c.args c.h c.v c.ag)∧∀call:dV,(∀c∈ks,c.holds call)→k6 E call ops draw ap i (bD F) h o=some (v,ag)
def Bj(fK:rK):Prop:= ∀f args h hs K,fK f args h hs K→ ∃v ag ev,b1 P E.cond f args h v ag∧K v ag ev
variable {P E S}
theorem Mw(cw:hn P E)(eR:P.follows .mixedOrders=true)(cu:eJ P E.cond S){draw:Bool}{ops:Array Oper}{ap i:Nat}{F:bJ}{h ag:J}{o:Op}{v:aa}{bm:List Prop}{ks:List hP}(k:Bh E S draw ops ap i F h o=some (v,ag,bm,ks))(aw:bR bm) :
 (∀c∈ks,b1 P E.cond c.f c.args c.h c.v c.ag)∧∀call:dV,(∀c∈ks,c.holds call)→k6 E call ops draw ap i (bD F) h o=some (v,ag):=by
 have plain:∀{r:Option (aa×J×List Prop×List hP)},(match o' E draw ops ap i F h o []with|some (v,ag,_,bm,ks)=>some (v,ag,bm,ks)|none=>none)=some (v,ag,bm,ks) →
  (∀c∈ks,b1 P E.cond c.f c.args c.h c.v c.ag)∧∀call:dV,(∀c∈ks,c.holds call)→k6 E call ops draw ap i (bD F) h o=some (v,ag):=by
  intro r k;split at k
  ·rename_i v1 ac ec dI aK ah;simp only [Option.some.injEq,Prod.mk.injEq]at k;obtain⟨rfl,rfl,rfl,rfl⟩:=k;have kB:FK P E (fun _ _ _ _=>none):=fun _ _ _ _ _ _ _ _ h=>by cases h
   have en:pop P E (fun _ _ _ _=>none) 0 ops draw ap i F h o []=some (v1,ac,ec,dI,aK):=ah;exact⟨Md P E cw eR kB en aw,fun call au=>Mc P E en aw au⟩
  ·cases k
 unfold Bh at k;split at k
 ·rename_i c;split at k
  ·rename_i f aZ;split at k
   ·rename_i g fs th ak;split at k
    ·rename_i xF uH;split at k
     ·rename_i v1 ac ps fW;simp only [Option.some.injEq,Prod.mk.injEq]at k;obtain⟨rfl,rfl,rfl,rfl⟩:=k;refine⟨fun c hm=> ?_,fun call au=> ?_⟩
      ·rw [List.mem_singleton.1 hm];exact cu _ _ uH _ _ _ fW aw.left
      ·refine jU E ?_ aw.right;simp only [bN,aZ,ak,oO];exact au _ (List.mem_singleton.2 rfl)
     ·cases k
    ·cases k
   ·cases k
  ·exact plain (r:=none) k
 ·exact plain (r:=none) k
theorem F4{draw:Bool}{ops:Array Oper}{ap i:Nat}{F:bJ}{h:J}{c:Call}{f:Operand}(aZ:c.callee=.value f){g:FuncId}{fs bm:List aa}(ak:bD F f=.func (.func g) fs bm){K:lG} :
 ∀(a:ey)(hs:c'),a.dt P E.cond g (fs++c.args.toList.map (bD F)++bm) h→qg draw ops ap i F (.call c) g (fs++c.args.toList.map (bD F)++bm) h K a hs→tp P E ops draw ap i F h (.call c) K
 |.one v ag ps,hs,ok,k=>by
  obtain⟨aw,c8⟩:=lF (by simpa only [qg]using k);refine⟨v,ag,hs,_,c8,fun c hm=> ?_,fun call au=> ?_⟩
  ·rw [List.mem_singleton.1 hm];exact ok aw.left
  ·refine jU E ?_ aw.right;simp only [bN,aZ,ak,oO];exact au _ (List.mem_singleton.2 rfl)
 |.some v ps p,hs,ok,k=>by
  obtain⟨aw,c8⟩:=lF (by simpa only [qg]using k);obtain⟨ag,aE,ah⟩:=ok aw;obtain⟨kX,c8⟩:=lF (c8 ag ah);refine⟨v,ag,hs,_,c8,fun c hm=> ?_,fun call au=> ?_⟩
  ·rw [List.mem_singleton.1 hm];exact aE
  ·refine jU E ?_ kX;simp only [bN,aZ,ak,oO];exact au _ (List.mem_singleton.2 rfl)
 |.or p a b,.aI j y n,ok,k=>by
  simp only [qg]at k;by_cases ah:p
  ·exact F4 aZ ak a y (ok.1 ah) (k.1 ah)
  ·exact F4 aZ ak b n (ok.2 ah) (k.2 ah)
 |.or p a b,.nil,ok,k=>k.elim
 |.or p a b,.az _ _,ok,k=>k.elim
 |.or p a b,.cases _ _ _ _,ok,k=>k.elim
 |.or p a b,.ex _ _ _,ok,k=>k.elim
 |.or p a b,.skip _ _,ok,k=>k.elim
theorem Mx(cu:eJ P E.cond S){draw:Bool}{ops:Array Oper}{ap i:Nat}{F:bJ}{h:J}{o:Op}{a:ey}{g:FuncId}{args:List aa}(bW:Bi S F h o=some (a,g,args)){K:lG}{hs:c'}(k:qg draw ops ap i F o g args h K a hs):tp P E ops draw ap i F h o K:=by
 unfold Bi at bW;split at bW
 ·rename_i c;split at bW
  ·rename_i f aZ;split at bW
   ·rename_i dp fs bm ak;split at bW
    ·rename_i xF uH;split at bW
     ·rename_i cv fW;simp only [Option.some.injEq,Prod.mk.injEq]at bW;obtain⟨rfl,rfl,rfl⟩:=bW;exact F4 aZ ak _ _ (cu _ _ uH _ _ _ fW) k
     ·cases bW
    ·cases bW
   ·cases bW
  ·cases bW
 ·cases bW
theorem rL(cw:hn P E)(eR:P.follows .mixedOrders=true)(cu:eJ P E.cond S){draw:Bool}{ops:Array Oper}{ap i:Nat}{F:bJ}{h:J}{o:Op}{hs:c'}{K:lG}(k:pd E S draw ops ap i F h o hs K):tp P E ops draw ap i F h o K:=by
 unfold pd at k;split at k
 ·rename_i v ag bm ks ax;obtain⟨aw,c8⟩:=lF k;obtain⟨aK,aP⟩:=Mw cw eR cu ax aw;exact⟨v,ag,hs,ks,c8,aK,aP⟩
 ·split at k
  ·rename_i bW;exact Mx cu bW k
  ·exact k.elim
theorem Vs(cw:hn P E)(eR:P.follows .mixedOrders=true)(cu:eJ P E.cond S){draw:Bool}{ops:Array Oper}{ap i:Nat}{F:bJ}{h:J}{o:Op}{y n:c'}{K:lG}(k:F1 E S draw ops ap i F h o y n K):tp P E ops draw ap i F h o K:=by
 unfold F1 at k;split at k
 ·rename_i p b ax;by_cases ah:p
  ·obtain⟨aw,c8⟩:=lF (k.1 ah);exact⟨_,_,_,_,c8,fun c hm=>by simp at hm,fun call _=>jU E ((Mu ax call (ap+i) h).1 ah) aw⟩
  ·obtain⟨aw,c8⟩:=lF (k.2 ah);exact⟨_,_,_,_,c8,fun c hm=>by simp at hm,fun call _=>jU E ((Mu ax call (ap+i) h).2 ah) aw⟩
 ·split at k
  ·rename_i b ag bm ks ax;obtain⟨aw,c8⟩:=lF k;obtain⟨aK,aP⟩:=Mw cw eR cu ax aw;cases b with
   |true=>exact⟨_,_,_,_,c8.1 rfl,aK,aP⟩
   |false=>exact⟨_,_,_,_,c8.2 rfl,aK,aP⟩
  ·exact k.elim
theorem Vt(cw:hn P E)(eR:P.follows .mixedOrders=true)(cu:eJ P E.cond S){draw:Bool}{ops:Array Oper}{ap i:Nat}{F:bJ}{h:J}{o:Op}{j:Nat}{y n:c'}{K:lG}(k:F2 E S draw ops ap i F h o j y n K):tp P E ops draw ap i F h o K:=by
 unfold F2 at k;split at k
 ·rename_i bW;exact Mx cu bW k
 ·exact Vs cw eR cu k
theorem Vu(cw:hn P E)(eR:P.follows .mixedOrders=true)(cu:eJ P E.cond S){fK:rK}(kB:Bj P E fK){q:Nat}{draw:Bool}{ops:Array Oper}{ap i:Nat}{F:bJ}{h:J}{o:Op}{x:Hint}(aj:x.at=some (1000*q+i)){r:c'}{K:lG}(k:F3 P E fK draw ops ap i F h o x r K) :
 tp P E ops draw ap i F h o K:=by
 unfold F3 at k;split at k
 ·split at k
  ·rename_i c;split at k
   ·rename_i f aZ;split at k
    ·rename_i g fs bm ak;obtain⟨v,ag,ev,aE,c8⟩:=kB _ _ _ _ _ k;obtain⟨aw,c8⟩:=lF c8;refine⟨v,ag,ev,_,c8,fun c hm=> ?_,fun call au=> ?_⟩
     ·rw [List.mem_singleton.1 hm];exact aE
     ·refine jU E ?_ aw;simp only [bN,aZ,ak,oO];exact au _ (List.mem_singleton.2 rfl)
    ·exact k.elim
   ·exact k.elim
  ·exact k.elim
 ·split at k
  ·rename_i v ag ec bm ks ah;obtain⟨aw,c8⟩:=lF k;have Vv:FK P E (fun _ _ _ _=>none):=fun _ _ _ _ _ _ _ _ h=>by cases h
   have en:pop P E (fun _ _ _ _=>none) q ops draw ap i F h o [x]=some (v,ag,ec,bm,ks):=by unfold pop;simp only [aj];rw [beq_true rfl,cond_true];exact ah
   exact⟨v,ag,r,ks,c8,Md P E cw eR Vv en aw,fun call au=>Mc P E en aw au⟩
  ·split at k
   ·rename_i v ag bm ah;obtain⟨aw,c8⟩:=lF k;exact⟨v,ag,r,[],c8,fun c hm=>by simp at hm,fun call _=>Vr (P:=P) ah aw call⟩
   ·exact k.elim
theorem Bk(cw:hn P E)(eR:P.follows .mixedOrders=true)(cu:eJ P E.cond S){fK:rK}(kB:Bj P E fK){q:Nat}{draw:Bool}{ops:Array Oper}{ap i:Nat}{F:bJ}{h:J}{o:Op}{K:lG} :∀(hs:c'),pe P E S fK q ops draw ap i F h o K hs→tp P E ops draw ap i F h o K
 |.nil,k=>rL cw eR cu k
 |.az x r,k=>by
  simp only [pe]at k;split at k
  ·rename_i j a1;rcases n7 (1000*q+i) j with ⟨e,dS⟩|⟨e,dS⟩
   ·rw [dS,cond_true]at k;exact Vu cw eR cu kB (by rw [a1,e]) k
   ·rw [dS,cond_false]at k;exact rL cw eR cu k
  ·exact rL cw eR cu k
 |.aI j y n,k=>by
  simp only [pe]at k;rcases n7 (1000*q+i) j with ⟨e,dS⟩|⟨e,dS⟩
  ·rw [dS,cond_true]at k;exact Vt cw eR cu k
  ·rw [dS,cond_false]at k;exact rL cw eR cu k
 |.cases j p y n,k=>by
  simp only [pe]at k;rcases n7 (1000*q+i) j with ⟨e,dS⟩|⟨e,dS⟩
  ·rw [dS,cond_true]at k;by_cases ah:p
   ·exact Bk cw eR cu kB y (k.1 ah)
   ·exact Bk cw eR cu kB n (k.2 ah)
  ·rw [dS,cond_false]at k;exact rL cw eR cu k
 |.ex j p f,k=>by
  simp only [pe]at k;rcases n7 (1000*q+i) j with ⟨e,dS⟩|⟨e,dS⟩
  ·rw [dS,cond_true]at k;obtain⟨⟨x,aj⟩,k⟩:=k;exact Bk cw eR cu kB (f x) (k x aj)
  ·rw [dS,cond_false]at k;exact rL cw eR cu k
 |.skip j r,k=>by
  simp only [pe]at k;rcases n7 (1000*q+i) j with ⟨e,dS⟩|⟨e,dS⟩
  ·rw [dS,cond_true]at k;exact rL cw eR cu k
  ·rw [dS,cond_false]at k;exact rL cw eR cu k
variable(P E S)
def u5(fK:rK)(q:Nat)(ops:Array Oper)(draw:Bool)(n ap:Nat):List Oper→Nat→bJ→J→c'→List hP→(bJ→J→c'→List hP→Prop)→Prop
 |[],_,F,h,hs,ks,K=>K F h hs ks
 |o::r,i,F,h,hs,ks,K =>
  cond (FL n o)
  (match FA ops F o with
  |some true=>cond (o.op.operands.toList.all (uV F)) (pe P E S fK q ops draw ap i F h o.op (fun v ag ev aP=>u5 fK q ops draw n ap r (i+1) (A5 F o.dst v) ag ev (ks++aP) K) hs) False
  |some false=>u5 fK q ops draw n ap r (i+1) (A5 F o.dst gg) h hs ks K
  |none=>False) False
variable {P E S}
theorem F5(cw:hn P E)(eR:P.follows .mixedOrders=true)(cu:eJ P E.cond S){fK:rK}(kB:Bj P E fK){q:Nat}{ops:Array Oper}{draw:Bool}{n ap:Nat} :∀(l:List Oper)(i:Nat)(F:bJ)(h:J)(hs:c')(ks:List hP){K:bJ→J→c'→List hP→Prop},(∀j,l[j]? =ops[i+j]?) →
 u5 P E S fK q ops draw n ap l i F h hs ks K→ ∃ew ag ev aP,K ew ag ev (ks++aP)∧(∀c∈aP,b1 P E.cond c.f c.args c.h c.v c.ag)∧∀call:dV,(∀c∈aP,c.holds call)→ ∀s:List aa,s.length=n→Has F s→ ∃bG,bG.length=n∧Has ew bG ∧
  qe E call ops draw ap (List.range' i l.length) ⟨s,h⟩=some ⟨bG,ag⟩
 |[],i,F,h,hs,ks,K,aC,k=>⟨F,h,hs,[],by simpa [u5]using k,fun c hm=>by simp at hm,fun call _ s aR fx=>⟨s,aR,fx,by unfold qe;cases draw<;>rfl⟩⟩
 |o :: r, i,F,h,hs,ks,K,aC,k=>by
  have ao:ops[i]? =some o:=by have:=aC 0;simpa using this.symm
  have bc:∀j,r[j]? =ops[i+1+j]? :=fun j=>by have:=aC (j+1);simp at this;rw [this];congr 1;omega
  simp only [u5]at k;cases aE:FL n o with
  |false=>rw [aE]at k;exact k.elim
  |true =>
   rw [aE,cond_true]at k
   have My:∀m,m=n→ ∀t,o.dst=some t→t<m:=by intro m hm t bW;unfold FL at aE;rw [bW]at aE;rw [hm];exact Nat.blt_eq.mp aE
   rw [List.length_cons,List.range'_succ];split at k
   ·rename_i ak;cases h3:o.op.operands.toList.all (uV F)with
    |false=>rw [h3]at k;exact k.elim
    |true =>
     rw [h3,cond_true]at k;obtain⟨v,ac,ec,aK,c8,n4,Vw⟩:=Bk cw eR cu kB hs k;obtain⟨ew,ag,ev,aP,xG,s5,F6⟩:=F5 cw eR cu kB r (i+1) _ _ _ _ bc c8;refine⟨ew,ag,ev,aK++aP,by rw [←List.append_assoc];exact xG,fun c hm=>(List.mem_append.1 hm).elim (n4 c) (s5 c),fun call au s aR fx=> ?_⟩;have rs:=Vw call fun c hm=>au c (by simp [hm])
     obtain⟨bG,bi,bu,ni⟩:=F6 call (fun c hm=>au c (by simp [hm])) (hM s o.dst v) (by rw [Me];exact aR) (fx.set (My s.length aR) v);refine⟨bG,bi,bu,?_⟩
     have Bl:k6 E call ops draw ap i (de s) h o.op=some (v,ac):=by
      rw [←rs];have pf:∀x∈o.op.operands.toList,de s x=bD F x:=fun x aj=>(fx.get (List.all_eq_true.1 h3 x aj)).symm
      have bf:∀nid,bN E call nid (de s) h o.op=bN E call nid (bD F) h o.op:=fun nid=>EQ pf
      have eI:kp (de s) o.op=kp (bD F) o.op:=by cases jR:o.op<;>simp only [kp];rename_i t x;rw [jR]at pf;rw [pf x (by simp [Op.operands])]
      have iF:nS (de s) o.op=nS (bD F) o.op:=by cases jR:o.op<;>simp only [nS];rename_i t x y;rw [jR]at pf;rw [pf x (by simp [Op.operands])]
      have w0:∀nid,e7 E nid (de s) h o.op=e7 E nid (bD F) h o.op:=fun nid=>U5 E pf
      have AK:h2 (de s) o.op=h2 (bD F) o.op:=by cases jR:o.op<;>simp only [h2];rename_i c;rw [jR]at pf;rw [uK (xs:=c.args) (fun x aj=>pf x (by simp only [Op.operands,Call.operands,Array.toList_append,List.mem_append];exact .inr aj))]
      have EV:jb ops ap i (de s) o.op=jb ops ap i (bD F) o.op:=by
       have:oT (de s) o.op=oT (bD F) o.op:=by cases jR:o.op<;>simp only [oT];rename_i a b x;rw [jR]at pf;rw [pf x (by simp [Op.operands])]
       unfold jb;rw [this]
      unfold k6 fB jv;simp only [bf,eI,iF,w0,AK,EV]
     exact(U9 E ao (L5 fx ak) Bl).trans ni
   ·rename_i ak;obtain⟨ew,ag,ev,aP,xG,s5,F6⟩:=F5 cw eR cu kB r (i+1) _ _ _ _ bc k;refine⟨ew,ag,ev,aP,xG,s5,fun call au s aR fx=> ?_⟩;obtain⟨bG,bi,bu,ni⟩:=F6 call au (hM s o.dst gg) (by rw [Me];exact aR) (fx.set (My s.length aR) gg);exact⟨bG,bi,bu,(U' E ao (L5 fx ak)).trans ni⟩
   ·exact k.elim
def Bm(step:bJ→J→c'→xE→Prop)(K:xE):Nat→bJ→J→c'→Prop
 |0,_,_,_=>False
 |m+1,F,h,hs=>step F h hs fun e aU ac ec=>match e with|.normal=>Bm step K m aU ac ec|e=>K e aU ac ec
def Mz(D:dH)(dR:List ResultVar)(e:cW)(F:bJ)(h ag:J)(K:aa→Prop):Prop :=
 match e with
 |.normal=>match mn D F ag dR []with|some (l,bm)=>kC bm (cond (Nat.ble h.U ag.U) (K (mS l)) False)|none=>False
 |.ret=>match mn D F ag dR []with|some (l,bm)=>kC bm (cond (Nat.ble h.U ag.U) (K (mS l)) False)|none=>False
 |_=>False
variable(P E S)
def xH(ex:Nat→Nat→Code→bJ→J→c'→xE→Prop):rK:=fun f args h hs K =>
 match P.funcs[f]? with
 |some fn =>
  match fn.body with
  |some c=>ex h.U (args.length+(fn.ntmps-args.length)) c (ti 0 args) h hs fun e F ag ev=>Mz E.D fn.results.toList e F h ag fun v=>K v ag ev
  |none=>False
 |none=>False
def ht(R:Nat→Nat→Code→bJ→J→cW→bJ→J→Prop):Nat→Nat→Nat→Option Code→Code→bJ→J→c'→xE→Prop
 |0,_,_,_,_,_,_,_,_=>False
 |k + 1,base,n,some body,c,F,h,hs,K =>
  ht R k base n none c F h hs fun e aU ac ec =>
   match e with
   |.goto l =>
    match findLabel body l with
    |some rest=>ht R k base n (some body) rest aU ac ec K
    |none=>K (.goto l) aU ac ec
   |e=>K e aU ac ec
 |k + 1,base,n,none,c,F,h,hs,K =>
  match c with
  |.skip=>K .normal F h hs
  |.label _=>K .normal F h hs
  |.region q ops draw =>
   cond (Nat.ble base h.U&&(!draw || oR ops))
   (u5 P E S (xH P E fun b m c F h hs K=>ht R k b m none c F h hs K) q ops draw n h.U ops.toList 0 F {h with U:=h.U+ops.size} hs [] fun aU ac ec ks=>kC (A9 ks) (K .normal aU ac ec)) False
  |.seq a b =>
   ht R k base n none a F h hs fun e aU ac ec =>
    match e with
    |.normal=>ht R k base n none b aU ac ec K
    |e=>K e aU ac ec
  |.cond x a b =>
   cond (uV F x)
   (match bD F x with
   |.bool true=>ht R k base n none a F h hs K
   |.bool false=>ht R k base n none b F h hs K
   |_=>False) False
  |.block id c =>
   ht R k base n none c F h hs fun e aU ac ec =>
    match e with
    |.exit j=>K (cond (Nat.beq j id) .normal (.exit j)) aU ac ec
    |e=>K e aU ac ec
  |.loop c =>
   match hs with
   |.az (.keep l) (.az (.loop aU ac e) r)=>R base n (.loop c) (qc F l) h e aU ac∧K e aU ac r
   |.az (.loop aU ac e) r=>R base n (.loop c) F h e aU ac∧K e aU ac r
   |.az (.rounds m) r=>Bm (fun F h hs K=>ht R k base n none c F h hs K) K m F h r
   |.cases _ p y u6=>(p→ht R k base n none (.loop c) F h y K)∧(¬p→ht R k base n none (.loop c) F h u6 K)
   |.ex _ p f=>(∃x,p x)∧∀x,p x→ht R k base n none (.loop c) F h (f x) K
   |_=>False
  |.scope c=>ht R k base n (some c) c F h hs K
  |.goto l=>K (.goto l) F h hs
  |.exit id=>K (.exit id) F h hs
  |.ret=>K .ret F h hs
  |_=>False
variable {P E S}
theorem MA(cw:hn P E){f:FuncId}{fn:Func}{c:Code}(aZ:P.funcs[f]? =some fn)(ax:fn.body=some c){args:List aa}{h ag:J}{e:cW}{ew:bJ}{K:aa→Prop}
 (bc:fw P E.cond h.U (args.length+(fn.ntmps-args.length)) c (ti 0 args) h e ew ag) (k:Mz E.D fn.results.toList e ew h ag K):∃v,b1 P E.cond f args h v ag∧K v:=by
 have fin:(e=.normal∨e=.ret)→(match mn E.D ew ag fn.results.toList []with|some (l,bm)=>kC bm (cond (Nat.ble h.U ag.U) (K (mS l)) False)|none=>False)→ ∃v,b1 P E.cond f args h v ag∧K v:=by
  intro he k;split at k
  ·rename_i l bm ah;obtain⟨aw,k⟩:=lF k;cases hle:Nat.ble h.U ag.U with
   |false=>rw [hle]at k;exact k.elim
   |true =>
    rw [hle,cond_true]at k;exact⟨_,b1.Vc cw aZ ax he bc ah aw (Nat.le_of_ble_eq_true hle),k⟩
  ·exact k.elim
 cases e with
 |normal=>exact fin (.inl rfl) k
 |ret=>exact fin (.inr rfl) k
 |exit j=>exact k.elim
 |goto l=>exact k.elim
theorem MB(cw:hn P E)(eR:P.follows .mixedOrders=true)(cu:eJ P E.cond S):∀(k:Nat){base n:Nat}(body:Option Code)(c:Code)(F:bJ)(h:J)(hs:c'){K:xE},
 ht P E S (fw P E.cond) k base n body c F h hs K→ ∃e ew ag ev,k7 P E.cond base n (tj P body c) F h e ew ag∧K e ew ag ev:=by
 intro k;induction k with
 |zero=>intro base n body c F h hs K ah;exact ah.elim
 |succ k ih =>
  intro base n body c F h hs K ah;cases body with
  |some body =>
   simp only [ht]at ah;obtain⟨e,aU,ac,ec,t1,ah⟩:=ih none c F h hs ah
   have pass:(∀l,e≠ .goto l)→k7 P E.cond base n (tj P (some body) c) F h e aU ac:=by
    intro bX S bo cu gr eS φ a w bf au r Q eD;refine AO (t1 S bo cu gr eS φ a w bf au r _ fun bE cv bq eg fH=> ?_);have:=eD bE cv bq eg fH;cases e with
    |goto l=>exact absurd rfl (bX l)
    |_=>exact this
   cases e with
   |goto l =>
    simp only at ah;cases aC:findLabel body l with
    |none =>
     rw [aC]at ah;refine⟨.goto l,aU,ac,ec,?_,ah⟩;intro S bo cu gr eS φ a w bf au r Q eD;refine AO (t1 S bo cu gr eS φ a w bf au r _ fun bE cv bq eg fH=> ?_);show rB P body Q (.goto l) cv bq;simp only [rB,aC];exact eD bE cv bq eg fH
    |some rest =>
     rw [aC]at ah;obtain⟨bu,n8,ai,qh,t2,ah⟩:=ih (some body) rest aU ac ec ah;refine⟨bu,n8,ai,qh,?_,ah⟩;intro S bo cu gr eS φ a w bf au r Q eD;refine AO (t1 S bo cu gr eS φ a w bf au r _ fun bE cv bq eg fH=> ?_);show rB P body Q (.goto l) cv bq;simp only [rB,aC];exact t2 S bo cu gr eS bE cv bq bf eg fH Q eD
   |normal=>exact⟨_,aU,ac,ec,pass (fun l=> aM),ah⟩
   |exit j=>exact⟨_,aU,ac,ec,pass (fun l=> aM),ah⟩
   |ret=>exact⟨_,aU,ac,ec,pass (fun l=> aM),ah⟩
  |none =>
   have stop:∀{e0:cW},(∀(Q:Exit→Act→World→Prop)(a:Act)(w:World),Q (xh e0) a w→c.wp P Q a w)→K e0 F h hs→ ∃e ew ag ev,k7 P E.cond base n (tj P none c) F h e ew ag∧K e ew ag ev:=by intro e0 bf ah;refine⟨e0,F,h,hs,?_,ah⟩;intro S bo cu gr eS φ a w aE au r Q eD;exact bf Q a w (eD φ a w au r)
   cases c;case skip=>exact stop (e0:= .normal) (fun _ _ _ aB=>wp_skip aB) ah
   case label l=>exact stop (e0:= .normal) (fun _ _ _ aB=>wp_label aB) ah
   case goto l=>exact stop (e0:= .goto l) (fun _ _ _ aB=>wp_goto aB) ah
   case exit id=>exact stop (e0:= .exit id) (fun _ _ _ aB=>wp_exit aB) ah
   case ret=>exact stop (e0:= .ret) (fun _ _ _ aB=>wp_ret aB) ah
   case region id ops draw =>
    simp only [ht]at ah;cases aE:(Nat.ble base h.U&&(!draw || oR ops))with
    |false=>rw [aE]at ah;exact ah.elim
    |true =>
     rw [aE,cond_true]at ah;simp only [Bool.and_eq_true,Bool.or_eq_true]at aE;obtain⟨ax,aE⟩:=aE;have ax:base≤h.U:=Nat.le_of_ble_eq_true ax;have aC:∀j:Nat,ops.toList[j]? =ops[0+j]? :=fun j=> aM
     have kB:Bj P E (xH P E fun b m c F h hs K=>ht P E S (fw P E.cond) k b m none c F h hs K):=by
      intro f args h hs K aB;unfold xH at aB;split at aB
      ·rename_i fn aZ;split at aB
       ·rename_i c ax;obtain⟨e,ew,ag,ev,t,aB⟩:=ih none c _ _ _ aB;obtain⟨v,aE,c8⟩:=MA cw aZ ax t aB;exact⟨v,ag,ev,aE,c8⟩
       ·exact aB.elim
      ·exact aB.elim
     obtain⟨aU,ac,ec,aK,c8,En,kw⟩:=F5 cw eR cu kB ops.toList 0 F _ hs [] aC ah;rw [List.nil_append]at c8;obtain⟨gI,c8⟩:=lF c8;refine⟨.normal,aU,ac,ec,?_,c8⟩;intro S bo cu gr eS φ a w bf au ⟨s,aR,fx,r⟩ Q eD;obtain⟨bG,g1,g2,mc⟩:=kw (rG aK) (Mi gI) s aR fx;have Vx:List.range' 0 ops.toList.length=List.range ops.size:=by rw [List.range_eq_range',Array.length_toList]
     rw [Vx]at mc
     have Vy:sK E (rG aK) ops draw ⟨s,h⟩=some ⟨bG,ac⟩:=by
      unfold sK;unfold qe at mc;cases draw with
      |false=>simpa using mc
      |true =>
       have aE:oR ops=true:=by simpa using aE
       simp only [if_true,aE];simpa using mc
     exact LH cw cu (Va P E En cu gr) eR r Vy fun cv bq bE dh du fE=>eD bE cv bq (au.trans (dh.mono ax)) ⟨bG,g1,g2,du⟩
   case seq x y =>
    simp only [ht]at ah;obtain⟨e,aU,ac,ec,t1,ah⟩:=ih none x F h hs ah
    have pass:e≠ .normal→k7 P E.cond base n (tj P none (.seq x y)) F h e aU ac:=by
     intro bX S bo cu gr eS φ a w bf au r Q eD;refine wp_seq (t1 S bo cu gr eS φ a w bf au r _ fun bE cv bq eg fH=> ?_);have:=eD bE cv bq eg fH;cases e with
     |normal=>exact absurd rfl bX
     |_=>exact this
    cases e with
    |normal =>
     obtain⟨bu,n8,ai,qh,t2,ah⟩:=ih none y aU ac ec ah;refine⟨bu,n8,ai,qh,?_,ah⟩;intro S bo cu gr eS φ a w bf au r Q eD;exact wp_seq (t1 S bo cu gr eS φ a w bf au r _ fun bE cv bq eg fH=>t2 S bo cu gr eS bE cv bq bf eg fH Q eD)
    |exit j=>exact⟨_,aU,ac,ec,pass aM,ah⟩
    |goto l=>exact⟨_,aU,ac,ec,pass aM,ah⟩
    |ret=>exact⟨_,aU,ac,ec,pass aM,ah⟩
   case cond x y z =>
    simp only [ht]at ah;cases au:uV F x with
    |false=>rw [au]at ah;exact ah.elim
    |true =>
     rw [au,cond_true]at ah
     have go:∀{q:Bool},bD F x=.bool q→ht P E S (fw P E.cond) k base n none (cond q y z) F h hs K→ ∃e ew ag ev,k7 P E.cond base n (tj P none (.cond x y z)) F h e ew ag∧K e ew ag ev:=by
      intro q aB ah;obtain⟨e,aU,ac,ec,t1,ah⟩:=ih none (cond q y z) F h hs ah;refine⟨e,aU,ac,ec,?_,ah⟩;intro S bo cu gr eS φ a w bf eg r Q eD;have hw:=t1 S bo cu gr eS φ a w bf eg r Q eD;obtain⟨s,aR,fx,r⟩:=r;have aj:=r.eval x;simp only at aj;rw [←fx.get au,aB]at aj;simp only [aL]at aj;cases q
      ·exact wp_cond_false aj hw
      ·exact wp_cond_true aj hw
     split at ah
     ·rename_i aB;exact go (q:=true) aB ah
     ·rename_i aB;exact go (q:=false) aB ah
     ·exact ah.elim
   case block id c =>
    simp only [ht]at ah;obtain⟨e,aU,ac,ec,t1,ah⟩:=ih none c F h hs ah
    have pass:(∀j,e≠ .exit j)→k7 P E.cond base n (tj P none (.block id c)) F h e aU ac:=by
     intro bX S bo cu gr eS φ a w bf au r Q eD;refine wp_block (t1 S bo cu gr eS φ a w bf au r _ fun bE cv bq eg fH=> ?_);have:=eD bE cv bq eg fH;cases e with
     |exit j=>exact absurd rfl (bX j)
     |_=>exact this
    cases e with
    |exit j =>
     refine⟨_,aU,ac,ec,?_,ah⟩;intro S bo cu gr eS φ a w bf au r Q eD;refine wp_block (t1 S bo cu gr eS φ a w bf au r _ fun bE cv bq eg fH=> ?_);have:=eD bE cv bq eg fH;simp only [xh,Exit.inBlock];rcases n7 j id with ⟨a1,kf⟩|⟨a1,kf⟩
     ·rw [kf,cond_true]at this;rw [if_pos a1];exact this
     ·rw [kf,cond_false]at this;rw [if_neg a1];exact this
    |normal=>exact⟨_,aU,ac,ec,pass (fun j=> aM),ah⟩
    |goto l=>exact⟨_,aU,ac,ec,pass (fun j=> aM),ah⟩
    |ret=>exact⟨_,aU,ac,ec,pass (fun j=> aM),ah⟩
   case loop c =>
    simp only [ht]at ah;split at ah
    ·rename_i l aU ac bi e8;have aj:k7 P E.cond base n (tj P none (.loop c)) (qc F l) h bi aU ac:=ah.1;exact⟨_,_,_,_,aj.pre (eL.facts fun t v bh=>xw bh),ah.2⟩
    ·exact⟨_,_,_,_,ah.1,ah.2⟩
    ·rename_i m r
     have key:∀(m:Nat)(F:bJ)(h:J)(hs:c'),Bm (fun F h hs K=>ht P E S (fw P E.cond) k base n none c F h hs K) K m F h hs→ ∃e ew ag ev,dK P E.cond base n c F h e ew ag∧K e ew ag ev:=by
      intro m;induction m with
      |zero=>intro F h hs ah;exact ah.elim
      |succ m Vz =>
       intro F h hs ah;simp only [Bm]at ah;obtain⟨e,aU,ac,ec,t1,ah⟩:=ih none c F h hs ah;cases e with
       |normal =>
        obtain⟨bu,n8,ai,qh,t2,ah⟩:=Vz aU ac ec ah;exact⟨bu,n8,ai,qh,dK.step t1 t2,ah⟩
       |exit j=>exact⟨_,aU,ac,ec,dK.last aM t1,ah⟩
       |goto j=>exact⟨_,aU,ac,ec,dK.last aM t1,ah⟩
       |ret=>exact⟨_,aU,ac,ec,dK.last aM t1,ah⟩
     obtain⟨e,ew,ag,ev,t,c8⟩:=key m F h r ah;exact⟨e,ew,ag,ev,fw.hQ t,c8⟩
    ·rename_i p y u6;by_cases aB:p
     ·exact ih none (.loop c) F h y (ah.1 aB)
     ·exact ih none (.loop c) F h u6 (ah.2 aB)
    ·rename_i α p f;obtain⟨⟨x,aj⟩,ah⟩:=ah;exact ih none (.loop c) F h (f x) (ah x aj)
    ·exact ah.elim
   case scope c =>
    simp only [ht]at ah;obtain⟨e,aU,ac,ec,t1,ah⟩:=ih (some c) c F h hs ah;refine⟨e,aU,ac,ec,?_,ah⟩;intro S bo cu gr eS φ a w bf au r Q eD;exact LK (t1 S bo cu gr eS φ a w bf au r Q eD)
   all_goals exact ah.elim
variable(P E S)
def F7(f:FuncId)(args:List aa)(h:J)(hs:c')(K:aa→J→Prop):Prop :=
 xH P E (fun b m c F h hs K=>ht P E S (fw P E.cond) 1000 b m none c F h hs K) f args h hs fun v ag _=>K v ag
def VA(base n:Nat)(c:Code)(F:bJ)(h:J)(hs:c')(keep:List Nat)(K:cW→bJ→J→Prop):Prop :=
 ht P E S (fw P E.cond) 1000 base n none c F h hs fun e ew ag _=>K e (qc ew keep) ag
variable {P E S}
theorem tq(cw:hn P E)(eR:P.follows .mixedOrders=true)(cu:eJ P E.cond S){f:FuncId}{args:List aa}{h:J}{hs:c'}{K:aa→J→Prop}{p:Prop}(e:F7 P E S f args h hs K=p)(k:p):∃v ag,b1 P E.cond f args h v ag∧K v ag:=by
 rw [←e]at k;unfold F7 xH at k;split at k
 ·rename_i fn aZ;split at k
  ·rename_i c ax;obtain⟨e,ew,ag,ev,t,aB⟩:=MB cw eR cu 1000 none c _ _ _ k;obtain⟨v,aE,c8⟩:=MA cw aZ ax t aB;exact⟨v,ag,aE,c8⟩
  ·exact k.elim
 ·exact k.elim
theorem fP(cw:hn P E)(eR:P.follows .mixedOrders=true)(cu:eJ P E.cond S){base n:Nat}{c:Code}{F:bJ}{h:J}{hs:c'}{keep:List Nat}{K:cW→bJ→J→Prop}{p:Prop}(e:VA P E S base n c F h hs keep K=p)(k:p) :
 ∃e ew ag,fw P E.cond base n c F h e ew ag∧K e ew ag:=by
 rw [←e]at k;obtain⟨e,ew,ag,ev,t,aB⟩:=MB cw eR cu 1000 none c _ _ _ k;exact⟨e,_,ag,t.post (eL.facts (bJ.Vb _ _)),aB⟩
end
end
end Go.cf
namespace Go.cf
abbrev ak(n:Nat)(r:c'):c':= .az (.go n) r
abbrev he(n:Nat)(r:c'):c':= .az (.enter n) r
abbrev ahq(a b x:Int):Prop:=a≤x∧x≤b
abbrev bd(a b:Nat)(p:Prop):Prop:=bif Nat.ble a b&&true then p else False
abbrev bC(a b:Nat)(p:Prop):Prop:=bif Nat.ble a b then p else False
end Go.cf
namespace Go.cf
noncomputable section
open Go.RowKit
mutual
theorem aa.Bn{D:Nat→Prop}{r:Nat→Nat}(h:∀i,D i→r i=i):∀{v:aa},ch D v→v.bg r=v
 |.ptr (some a),k=>by simp only [ch]at k;simp only [aa.bg,bA.bg,h _ k]
 |.slice (some a) _ _,k=>by simp only [ch]at k;simp only [aa.bg,bA.bg,h _ k]
 |.func fn f c,k=>by simp only [ch]at k;simp only [aa.bg,aa.xI h k.1,aa.xI h k.2]
 |.iface t v,k=>by simp only [ch]at k;simp only [aa.bg,aa.Bn h k]
 |.agg bm,k=>by simp only [ch]at k;simp only [aa.bg,aa.xI h k]
 |.tuple vs,k=>by simp only [ch]at k;simp only [aa.bg,aa.xI h k]
 |.undef,_=>rfl
 |.bool _,_=>rfl
 |.int _ _,_=>rfl
 |.str _,_=>rfl
 |.ptr none,_=>rfl
 |.slice none _ _,_=>rfl
 |.nilFunc,_=>rfl
 |.nilIface,_=>rfl
theorem aa.xI{D:Nat→Prop}{r:Nat→Nat}(h:∀i,D i→r i=i):∀{l:List aa},fp D l→aa.gK r l=l
 |[],_=>rfl
 |a::l,k=>by simp only [fp]at k;simp only [aa.gK,aa.Bn h k.1,aa.xI h k.2]
end
def Bo(D:Nat→Prop)(b:af):Prop:= ∀e∈b.bk,ch D e
theorem b1.closed{P:Program}{C:(Nat→Prop)→World→Prop}[ke C]{f:FuncId}{args:List aa}{ag:J}{v:aa}{l cQ:List af}(k:b1 P C f args (J.of l) v ag)(hlen:cQ.length=l.length)(eX:(List.range cQ.length).map ag.get=cQ.map some)(bh:cU v)
 (aw:∀b∈cQ,Bo (fun i=>i<cQ.length) b):b1 P C f args (J.of l) v (J.of cQ):=by
 have mr:(hq 0 cQ).map (·.1)=List.range cQ.length:=by rw [FQ,List.range_eq_range']
 rw [J.Mo cQ];refine k.Ml (fun i=>i) v cQ.length (hq 0 cQ) ?_ (bh.1 _).symm ?_ ?_ ?_ ?_ (Nat.ble_eq.mpr ?_) (bh.eM _) ?_
 ·have ac:(hq 0 cQ).map (fun p=>ag.get p.1)=((hq 0 cQ).map (·.1)).map ag.get:=by rw [List.map_map];rfl
  have ai:(hq 0 cQ).map (fun p=>some (p.2.bg fun i=>i))=((hq 0 cQ).map (·.2)).map some:=by rw [List.map_map];exact List.map_congr_left fun p _=>by rw [af.tn];rfl
  rw [ac,ai,mr,xC,eX]
 ·rw [List.all_eq_true];intro p ah;have:p.1∈(hq 0 cQ).map (·.1):=List.mem_map.2 ⟨p,ah,rfl⟩;rw [mr]at this;exact Nat.blt_eq.mpr (List.mem_range.1 this)
 ·rw [mr];rw [List.map_id'];exact List.nodup_range
 ·rw [List.all_eq_true,J.of_next];intro i aq;have aq:=List.mem_range.1 aq;rw [mr,Bool.and_eq_true];exact⟨by simp;omega,beq_true rfl⟩
 ·rw [List.all_eq_true,J.of_next];intro p ah;have:p.1∈(hq 0 cQ).map (·.1):=List.mem_map.2 ⟨p,ah,rfl⟩;rw [mr]at this;have cG:=List.mem_range.1 this;rw [Bool.or_eq_true];exact .inl (Nat.blt_eq.mpr ab)
 ·rw [J.of_next];omega
 ·rw [mr]
  have:∀(q:List (Nat×af)),(∀p∈q,Bo (fun i=>i<cQ.length) p.2)→bR (q.map fun p=> ∀e∈p.2.bk,ch (cp (List.range cQ.length)) e):=by
   intro q;induction q with
   |nil=>intro _;exact bR.nil
   |cons p r ih =>
    intro aB;exact bR.cons (fun e he=>ch.mono (fun i aq=>List.mem_range.2 aq) (aB p aM e he)) (ih fun p ah=>aB p (by simp [ah]))
  refine this _ fun p ah=>aw p.2 ?_
  have:p.2∈(hq 0 cQ).map (·.2):=List.mem_map.2 ⟨p,ah,rfl⟩
  rwa [xC]at this
end
end Go.cf
namespace Go.cf
noncomputable section
open Go.RowKit
def MC:List (Nat×af)→Option af
 |[]=>none
 |(k,b)::r=>_root_.cond (Nat.beq k 0) (some b) (MC r)
def xJ(o:Nat):List (Nat×af)→List (Nat×af)
 |[]=> []
 |(k,b)::r=>_root_.cond (Nat.beq k 0) (xJ o r) (_root_.cond (Nat.beq (Nat.mod k 2) o) (((k- (2-o))/2,b)::xJ o r) (xJ o r))
def ofLT:Nat→List (Nat×af)→aV af
 |_,[]=> .nil
 |0,_=> .nil
 |d+1,l=> .node (MC l) (ofLT d (xJ 1 l)) (ofLT d (xJ 0 l))
def J.ar(n:Nat)(l:List (Nat×af)):J:=⟨n,ofLT 20 l⟩
def J.lay(H:J)(n:Nat)(l:List (Nat×af)):J:=l.foldl (fun h p=>h.set p.1 p.2) {H with U:=n}
theorem VB(l:List (Nat×af)):∀(h:J),(l.map (·.1)).Nodup→ ∀p∈l,(l.foldl (fun h p=>h.set p.1 p.2) h).get p.1=some p.2:=by
 induction l with
 |nil=>intro h _ p ah;cases ah
 |cons a r ih =>
  intro h aR p ah;simp only [List.map_cons,List.nodup_cons]at aR;rw [List.foldl_cons];rcases List.mem_cons.1 ah with rfl|ah
  ·have:∀(r:List (Nat×af)) (h:J),p.1 ∉ r.map (·.1)→(r.foldl (fun h p=>h.set p.1 p.2) h).get p.1=h.get p.1:=by
    intro r;induction r with
    |nil=>intro h _;rfl
    |cons b s Ff =>
     intro h hm;simp only [List.map_cons,List.mem_cons,not_or]at hm;rw [List.foldl_cons,Ff _ hm.2,J.fg _ _ (Ne.symm hm.1)]
   rw [this r _ aR.1,J.gE]
  ·exact ih _ aR.2 p ah
theorem MD(l:List (Nat×af)):∀(h:J)(i:Nat),i ∉ l.map (·.1)→(l.foldl (fun h p=>h.set p.1 p.2) h).get i=h.get i:=by
 induction l with
 |nil=>intro h i _;rfl
 |cons p r ih =>
  intro h i aq;simp only [List.map_cons,List.mem_cons,not_or]at aq;rw [List.foldl_cons,ih _ i aq.2,J.fg _ _ (Ne.symm aq.1)]
theorem ME(l:List (Nat×af)):∀(h:J),(l.foldl (fun h p=>h.set p.1 p.2) h).U=h.U:=by
 induction l with
 |nil=>intro h;rfl
 |cons p r ih=>intro h;rw [List.foldl_cons,ih];rfl
theorem tr{ids:List Nat}{n i:Nat}(h:i<ids.length):dJ ids n i=ids[i]:=by simp [dJ,List.getElem?_eq_getElem h]
theorem n9{ids:List Nat}{n i:Nat}(h:ids.length≤i):dJ ids n i=n+(i-ids.length):=by simp [dJ,List.getElem?_eq_none h]
theorem MF{ids:List Nat}{n:Nat}(aR:ids.Nodup)(cG:∀j∈ids,j<n){i j:Nat}(e:dJ ids n i=dJ ids n j):i=j:=by
 by_cases dI:i<ids.length<;>by_cases c2:j<ids.length
 ·rw [tr dI,tr c2]at e;exact(List.getElem_inj aR).1 e
 ·rw [tr dI,n9 ab]at e;have:=cG _ (List.getElem_mem dI);omega
 ·rw [tr c2,n9 ab]at e;have:=cG _ (List.getElem_mem c2);omega
 ·rw [n9 ab,n9 ab]at e;omega
def aV.fX:aV af→List (Nat×af)
 |.nil=> []
 |.node v l r=>(match v with|some b=> [(0,b)]|none=> [])++((aV.fX l).map fun p=>(2*p.1+1,p.2))++((aV.fX r).map fun p=>(2*p.1+2,p.2))
theorem aV.VC(v:Option af)(l r:aV af)(k:Nat):(aV.node v l r).get k=_root_.cond (Nat.beq k 0) v (_root_.cond (Nat.beq (k%2) 1) (l.get (k/2)) (r.get (k/2-1))):=rfl
theorem aV.Bp:∀(t:aV af)(k:Nat)(b:af),t.get k=some b→(k,b)∈aV.fX t
 |.nil,k,b,h=>by cases h
 |.node v l r,k,b,h=>by
  rw [aV.VC]at h;unfold aV.fX;rcases n7 k 0 with ⟨e,dS⟩|⟨e,dS⟩
  ·rw [dS,cond_true]at h;subst h;subst e;simp
  ·rw [dS,cond_false]at h;rcases n7 (k%2) 1 with ⟨f,gb⟩|⟨f,gb⟩
   ·rw [gb,cond_true]at h;have:=aV.Bp l _ _ h;refine List.mem_append_left _ (List.mem_append_right _ (List.mem_map.2 ⟨_,this,?_⟩));simp only [Prod.mk.injEq,and_true];omega
   ·rw [gb,cond_false]at h;have:=aV.Bp r _ _ h;refine List.mem_append_right _ (List.mem_map.2 ⟨_,this,?_⟩);simp only [Prod.mk.injEq,and_true];omega
theorem aV.F8:∀(t:aV af),((aV.fX t).map (·.1)).Nodup
 |.nil=>List.nodup_nil
 |.node v l r=>by
  unfold aV.fX;have ac:=aV.F8 l;have ai:=aV.F8 r;have m1:(((aV.fX l).map fun p=>(2*p.1+1,p.2)).map (·.1))=((aV.fX l).map (·.1)).map fun k=>2*k+1:=by simp [List.map_map,Function.comp_def]
  have m2:(((aV.fX r).map fun p=>(2*p.1+2,p.2)).map (·.1))=((aV.fX r).map (·.1)).map fun k=>2*k+2:=by simp [List.map_map,Function.comp_def]
  rw [List.map_append,List.map_append,m1,m2]
  have inj:∀(l:List Nat)(c:Nat),l.Nodup→(l.map fun k=>2*k+c).Nodup:=by intro l c aC;rw [List.nodup_iff_pairwise_ne,List.pairwise_map];exact List.Pairwise.imp (fun sD e=>sD ab) (List.nodup_iff_pairwise_ne.1 aC)
  rw [List.nodup_append,List.nodup_append];refine⟨⟨by cases v<;>simp,inj _ _ ac,?_⟩,inj _ _ ai,?_⟩
  ·intro a aT b ax e;obtain⟨k,_,rfl⟩:=List.mem_map.1 ax;cases v with
   |none=>simp at aT
   |some x=>simp at aT;omega
  ·intro a aT b ax e;obtain⟨k,_,rfl⟩:=List.mem_map.1 ax;rcases List.mem_append.1 aT with aT|aT
   ·cases v with
    |none=>simp at aT
    |some x=>simp at aT;omega
   ·obtain⟨j,_,rfl⟩:=List.mem_map.1 aT;omega
theorem b1.place{P:Program}{C:(Nat→Prop)→World→Prop}[ke C]{f:FuncId}{args:List aa}{v:aa}{l:List af}{ag:J}(k:b1 P C f args (J.of l) v ag)(tl:l.length≤ag.U)
 (ax:∀b∈l,Bo (fun i=>i<l.length) b) (aT:fp (fun i=>i<l.length) args) {H:J} (ids:List Nat) (aR:ids.Nodup) (cG:∀j∈ids,j<H.U) (hlen:ids.length=l.length)
 (aC:∀i b,l[i]? =some b→H.get (dJ ids H.U i)=some (b.bg (dJ ids H.U))) :
 ∃aQ,b1 P C f (args.map (aa.bg (dJ ids H.U))) H (v.bg (dJ ids H.U)) aQ∧aQ.U=H.U+(ag.U-l.length)∧(∀i b,ag.get i=some b→aQ.get (dJ ids H.U i)=some (b.bg (dJ ids H.U)))∧∀j,j<H.U→j ∉ ids→aQ.get j=H.get j:=by
 let cQ:=aV.fX ag.aH
 have hX:(cQ.map (·.1)).Nodup:=aV.F8 _
 let u6:=ag.U
 let r:=dJ ids H.U
 have iu:∀i j,r i=r j→i=j:=fun i j e=>MF aR cG e
 let m:List (Nat×af):=cQ.map fun p=>(r p.1,p.2.bg r)
 have MG:m.map (·.1)=(cQ.map (·.1)).map r:=by simp [m,List.map_map,Function.comp_def]
 have VD:(m.map (·.1)).Nodup:=by rw [MG,List.nodup_iff_pairwise_ne,List.pairwise_map];exact List.Pairwise.imp (fun sD e=>sD (iu _ _ e)) (List.nodup_iff_pairwise_ne.1 hX)
 have eX:∀p∈cQ,(H.lay (H.U+(u6-l.length)) m).get (r p.1)=some (p.2.bg r):=by intro p ah;exact VB m _ VD (r p.1,p.2.bg r) (List.mem_map.2 ⟨p,ah,rfl⟩)
 have MH:∀j,j<H.U→(∀i,i<l.length→r i≠j)→j ∉ m.map (·.1):=by
  intro j a1 bX hm;rw [MG]at hm;obtain⟨i,_,e⟩:=List.mem_map.1 hm;by_cases c:i<l.length
  ·exact bX i c e
  ·have:r i=H.U+(i-ids.length):=n9 ab;omega
 refine⟨H.lay (H.U+(u6-l.length)) m,k.frame (r:=r) ⟨?_,?_,?_⟩ ?_ ?_ ?_ ?_ ?_,?_,fun i b ak=>eX (i,b) (aV.Bp _ _ _ ak),?_⟩
 ·intro i b ak;rw [J.eV]at ak;exact⟨by rw [J.of_next];exact(List.getElem?_eq_some_iff.1 ak).1,aC i b ak⟩
 ·intro i j _ _ e;exact iu i j e
 ·intro i b ak e he;rw [J.eV]at ak;exact ch.mono (fun i aq=>J.u2.2 aq) (ax b (List.mem_of_getElem? ak) e he)
 ·exact fp.mono (fun i aq=>J.u2.2 aq) aT
 ·intro i aq;rw [J.of_next]at aq;rw [J.of_next,←hlen];exact n9 ab
 ·intro i b ak _;exact eX (i,b) (aV.Bp _ _ _ ak)
 ·rw [J.of_next];unfold J.lay;rw [ME]
 ·intro j a1 bX;unfold J.lay;rw [MD _ _ _ (MH j a1 fun i aq=>bX i (J.u2.2 aq))];rfl
 ·unfold J.lay;rw [ME]
 ·intro j a1 hm;unfold J.lay;rw [MD _ _ _ (MH j a1 fun i aq e=>hm (by rw [←e];show dJ ids H.U i∈ids;rw [tr ab];exact List.getElem_mem _))];rfl
theorem b1.less{P:Program}{C:(Nat→Prop)→World→Prop}{f:FuncId}{args:List aa}{h ai ag:J}{v:aa}(k:b1 P C f args ai v ag)(aR:h.U≤ai.U)(ak:∀i,i<h.U→ai.get i=h.get i):b1 P C f args h v ag :=
 fun S bo cu gr φ w dk ed cH ea=>by obtain⟨g1,g2⟩:=k S bo cu gr φ w dk (ed.more aR ak) cH ea;exact⟨g1,g2.mono fun e bq ⟨br,bE,av,a2,a3,a4,a5,pc⟩=>⟨br,bE,av,a2.mono aR,a3,a4,a5,Nat.le_trans aR pc⟩⟩
theorem b1.eT{P:Program}{C:(Nat→Prop)→World→Prop}[ke C]{f:FuncId}{args:List aa}{v:aa}(k:∃v1 ac,b1 P C f args ⟨0,.nil⟩ v1 ac∧v1=v)(aT:aa.pa args=true)(bh:v.mo=true)(H:J):b1 P C f args H v H:=by
 obtain⟨v1,ac,aE,rfl⟩:=k
 have gz:∀{l:List aa},aa.pa l=true→ ∀a∈l,cU a:=by
  intro l;induction l with
  |nil=>intro _ a aT;cases aT
  |cons x r ih =>
   intro aC a aT;simp only [aa.pa,Bool.and_eq_true]at aC;rcases List.mem_cons.1 aT with rfl|hm
   ·exact cU.of aC.1
   ·exact ih aC.2 a hm
 exact aE.bare (gz aT) (cU.of bh) H
def kD(g:List aa→Option (aa×List Prop)):List aa→J→Option ey:=fun args h=>match g args with|some (v,ps)=>some (.one v h ps)|none=>none
theorem lH{P:Program}{C:(Nat→Prop)→World→Prop}{f:FuncId}{g:List aa→Option (aa×List Prop)}(k:∀args v ps,g args=some (v,ps)→bR ps→ ∀H,b1 P C f args H v H):∀args h a,kD g args h=some a→a.dt P C f args h:=by
 intro args h a e;unfold kD at e;split at e
 ·rename_i u ahr hu;simp only [Option.some.injEq]at e;subst e;exact fun ah=>k _ _ _ hu ah h
 ·cases e
end
end Go.cf
namespace Go.Keys
abbrev Bytes:=List UInt8
def lead(b:Nat):Nat×Nat×Nat :=
 if b<128 then(1,0,0)
 else if 194≤b∧b≤223 then(2,128,191)
 else if b=224 then(3,160,191)
 else if b=237 then(3,128,159)
 else if 225≤b∧b≤239 then(3,128,191)
 else if b=240 then(4,144,191)
 else if 241≤b∧b≤243 then(4,128,191)
 else if b=244 then(4,128,143)
 else(0,0,0)
def tail:Nat→Nat→Nat→Nat→Nat→Bytes→Nat×Nat×Bool
 |0,i,_,_,v,_=>(v,i,false)
 |_+1,i,_,_,_,[]=>(65533,i,true)
 |k+1,i,bb,aq,v,c::r=>if c.toNat<bb∨aq<c.toNat then(65533,i,false)else tail k (i+1) 128 191 (v*64+c.toNat%64) r
def first:Bytes→Nat×Nat×Bool
 |[]=>(0,0,false)
 |b::r =>
  if(lead b.toNat).1=0 then(65533,1,false)
  else if(lead b.toNat).1=1 then(b.toNat,1,false)
  else tail ((lead b.toNat).1-1) 1 (lead b.toNat).2.1 (lead b.toNat).2.2 (b.toNat%2^(7- (lead b.toNat).1)) r
structure bl where
 kind:Int
 code:Int:=0
 df:Int:=0
 x:Int:=0
 y:Int:=0
 text:Bytes:=[]
 deriving DecidableEq
theorem MI(b:Nat):(lead b).1≤4:=by
 unfold lead
 repeat' split
 all_goals simp
end Go.Keys
namespace Go.Keys
def jB:Nat→Bytes→List Nat
 |0,_=> []
 |_+1,[]=> []
 |k+1,s=>(first s).1::jB k (s.drop (first s).2.1)
def eE(s:Bytes):List Nat:=jB s.length s
def u8(n:Nat):UInt8:=UInt8.ofNat n
def put(r:Nat):Bytes :=
 let r:=if 55296≤r∧r≤57343∨1114111<r then 65533 else r
 if r<128 then [u8 r]
 else if r<2048 then [u8 (192+r/64),u8 (128+r%64)]
 else if r<65536 then [u8 (224+r/4096),u8 (128+r/64%64),u8 (128+r%64)]
 else [u8 (240+r/262144),u8 (128+r/4096%64),u8 (128+r/64%64),u8 (128+r%64)]
def gf(l:List Nat):Bytes:=l.flatMap put
def valid(s:Bytes):Bool:=gf (eE s) == s
def hv:Nat→Bytes→List Nat×Bytes
 |0,_=>([],[])
 |_+1,[]=>([],[])
 |k+1,b::r =>
  if(first (b::r)).2.2 then([],b::r)
  else((first (b::r)).1::(hv k ((b::r).drop (first (b::r)).2.1)).1,(hv k ((b::r).drop (first (b::r)).2.1)).2)
def b'(aF:Bytes)(c:UInt8):List Nat×Bytes:=hv (aF.length+1) (aF++[c])
inductive nj where
 |ground|dj|da|sequence|single|cK
 deriving DecidableEq
structure bK where
 nx:nj:= .ground
 al:Bytes:=[]
 aF:Bytes:=[]
 aD:Bytes:=[]
 deriving DecidableEq
def er(c:Int)(m:Int:=0):bl:= {kind:=2,code:=c,df:=m}
def fi(c:Int)(m:Int:=0):bl:= {kind:=1,code:=c,df:=m}
def gM(s:Bytes):bl:= {kind:=7,text:=s}
def control(c:Nat):bl :=
 if c=13 then er 1 else if c=9 then er 2 else if c=127 then er 3 else if c=0 then fi 32 4
 else if c<27 then fi (c+96) 4 else fi (c+64) 4
def tell(s:bK)(e:bl):bK×List bl:=({s with al:=[],nx:= .ground},[e])
def at'(al:Bytes):Nat:=match al with|b::_=>if b=27 then 1 else 0 | []=>0
def gv(s:bK)(c:UInt8)(no:bK→bK×List bl):bK×List bl :=
 let l:=(b' s.aF c).1
 let s1:= {s with aF:=(b' s.aF c).2,nx:= .da}
 if s1.aF≠[]∧l=[]then({s1 with al:=s.al++[c]},[])
 else if l.length=1∧s.al.length=at' s.al∨valid (s.al.drop (at' s.al)++[c])=true then
  if valid ((s.al++[c]).drop (at' s.al))=true then tell s1 (fi (l.headD 0) (2*at' s.al))
  else tell s1 (gM (s.al++[c]))
 else no {s1 with aF:=[]}
def iv(s:bK)(c:UInt8)(no:bK→bK×List bl):bK×List bl :=
 if c.toNat<32∨c.toNat=127 then tell s (if s.al=[]then control c.toNat else {control c.toNat with df:=(control c.toNat).df+2})
 else gv s c no
def ground(s:bK)(c:UInt8):bK×List bl :=
 if c=27 then({s with al:=[27],nx:= .dj},[])
 else iv s c fun s1=>tell s1 (gM s1.al)
def bad(s:bK)(c:UInt8):bK×List bl :=
 ((ground (tell s (gM s.al)).1 c).1,gM s.al::(ground (tell s (gM s.al)).1 c).2)
def da(s:bK)(c:UInt8):bK×List bl:=gv s c fun s1=>bad s1 c
def plain(s:bK)(c:UInt8):bK×List bl:=iv s c fun s1=>bad s1 c
def dj(s:bK)(c:UInt8):bK×List bl :=
 if c=27 then((ground (tell s (er 4)).1 c).1,er 4::(ground (tell s (er 4)).1 c).2)
 else if c=91 then({s with al:=s.al++[c],nx:= .sequence},[])
 else if c=79 then({s with al:=s.al++[c],nx:= .single},[])
 else plain s c
def gw(c:Nat):Int :=
 if 65≤c∧c≤68 then 5+(c-65)else if c=72 then 9 else if c=70 then 10 else 0
def single(s:bK)(c:UInt8):bK×List bl :=
 if 0<gw c.toNat then tell s (er (gw c.toNat))
 else if 80≤c.toNat∧c.toNat≤83 then tell s (er (21+(c.toNat-80)))
 else if c.toNat=77 then tell s (er 1)
 else((ground (tell s (fi 79 2)).1 c).1,fi 79 2::(ground (tell s (fi 79 2)).1 c).2)
def splitAt(sep:UInt8):Bytes→List Bytes
 |[]=> [[]]
 |b::r=>if b=sep then []::splitAt sep r else match splitAt sep r with|w::t=>(b::w)::t | []=> [[b]]
def digit(b:UInt8):Bool:=decide (48≤b.toNat)&&decide (b.toNat≤57)
def number(w:Bytes):Nat:=w.foldl (fun n b=>10*n+(b.toNat-48)) 0
def lI:List Bytes→Option (List Nat)
 |[]=>some []
 |w::r=>if w=[]∨9<w.length∨w.all digit=false then none else(lI r).map (number w:: ·)
def numbers(words:Bytes):Option (List Nat):=if words=[]then some []else lI (splitAt 59 words)
def iM(n:Nat):Int :=
 if n=1∨n=7 then 9 else if n=4∨n=8 then 10 else if n=2∨n=3 then 11+((n:Int)-2)else if n=5∨n=6 then 13+((n:Int)-5)
 else if 11≤n∧n≤15 then 21+((n:Int)-11)else if 17≤n∧n≤21 then 21+((n:Int)-12)else if n=23∨n=24 then 21+((n:Int)-13)else 0
def shown(r:Int):Bool:=decide (32≤r)&&decide (r≠127)&&decide (r≤1114111)&&(decide (r<55296) || decide (57343<r))
def dL(c:Nat)(m:Int):Option bl :=
 if c=13 then some (er 1 m)else if c=9 then some (er 2 m)else if c=127 then some (er 3 m)else if c=27 then some (er 4 m)
 else if 2097152<c∨shown c=false then none else some (fi c m)
def e2(words:Bytes)(c:Nat):Option bl :=
 match words with
 |60 ::rest =>
  match numbers rest with
  |some [ap,a6,n2] =>
   let held:=ap/4%8
   let b:=ap-4*held
   if a6<1∨4096<a6∨n2<1∨4096<n2 then none
   else
    let e:bl:= {kind:=3,df:=held,x:=(a6:Int)-1,y:=(n2:Int)-1}
    if c=109∧b≤3 then some {e with code:=3}
    else if c=77∧b≤2 then some {e with code:=b}
    else if c=77∧32≤b∧b≤35 then some {e with code:=6}
    else if c=77∧b=64 then some {e with code:=4}
    else if c=77∧b=65 then some {e with code:=5}
    else none
  |_=>none
 |_=>none
def told(words:Bytes)(c:UInt8):Option bl :=
 if c=82∨c=99∨c=110 then some {kind:=6,text:=words++[c]}
 else if c=77∨c=109 then e2 words c.toNat
 else
  match numbers words with
  |none=>none
  |some [] =>
   if c=90 then some (er 2 1)else if c=73 then some {kind:=5,code:=1} else if c=79 then some {kind:=5}
   else if 0<gw c.toNat then some (er (gw c.toNat))else none
  |some (ap::r) =>
   let m:=match r with | [x]=>x|_=>1
   if 1<r.length∨m<1∨8<m then none
   else if 0<gw c.toNat∧ap=1∧r.length=1 then some (er (gw c.toNat) ((m:Int)-1))
   else if c=126∧0<iM ap then some (er (iM ap) ((m:Int)-1))
   else if c=117 then dL ap ((m:Int)-1)
   else none
def kg(words:Bytes):Bool:=words ==[50,48,48] || (words.dropWhile (· == 48) ==[50,48,48]&&decide (words.length≤9))
def done(s:bK)(words:Bytes)(c:UInt8):bK×List bl :=
 if c=126∧kg words=true then({s with al:=[],nx:= .cK},[])
 else tell s ((told words c).getD (gM s.al))
def sequence(s:bK)(c:UInt8):bK×List bl :=
 if 64≤c.toNat∧c.toNat≤126 then done {s with al:=s.al++[c]} (s.al.drop 2) c
 else if c.toNat<32∨63<c.toNat∨48≤c.toNat∧(s.al.getLastD 0).toNat<48 then bad s c
 else if s.al.length+1=64 then tell {s with al:=s.al++[c]} (gM (s.al++[c]))
 else({s with al:=s.al++[c]},[])
def dW:Bytes:=[27,91,50,48,49,126]
def shift:Nat→Bytes→Bytes→Bytes×Bytes
 |0,al,aD=>(al,aD)
 |_+1,[],aD=>([],aD)
 |k+1,b::r,aD=>if(b::r).isPrefixOf dW then(b::r,aD)else shift k r (if aD.length<65536 then aD++[b]else aD)
def cK(s:bK)(c:UInt8):bK×List bl :=
 let p:=shift (s.al.length+1) (s.al++[c]) s.aD
 if p.1.length=6 then tell {s with al:=p.1,aD:=[]} {kind:=4,text:=p.2}
 else({s with al:=p.1,aD:=p.2},[])
def step(s:bK)(c:UInt8):bK×List bl :=
 match s.nx with
 |.ground=>ground s c
 |.dj=>dj s c
 |.da=>da s c
 |.sequence=>sequence s c
 |.single=>single s c
 |.cK=>cK s c
def dd:bK→Bytes→bK×List bl
 |s,[]=>(s,[])
 |s,c::r=>((dd (step s c).1 r).1,(step s c).2++(dd (step s c).1 r).2)
theorem Bq(s:bK)(a b:Bytes):dd s (a++b)=((dd (dd s a).1 b).1,(dd s a).2++(dd (dd s a).1 b).2):=by
 induction a generalizing s with
 |nil=>simp [dd]
 |cons c r ih=>simp only [List.cons_append,dd,ih,List.append_assoc]
def held(s:bK):Nat:=s.aD.length+s.al.length
def flush(s:bK):bK×List bl :=
 if s.nx=.cK∨s.al=[]then(s,[])
 else if s.al=[27]then tell {s with aF:=[]} (er 4)
 else if s.al=[27,91]∨s.al=[27,79]then tell {s with aF:=[]} (fi ((s.al.getD 1 0).toNat) 2)
 else tell {s with aF:=[]} (gM s.al)
end Go.Keys
namespace Go.Proofs.YtddnafghiejcoaaGreatDoor
open Go.cf Go.Keys
set_option maxRecDepth 1000000
abbrev cm(x:Nat) : Option bA := some ⟨x, 0, 0, 0, 1⟩
abbrev aJ(x:Nat) : Option bA := some ⟨x, 0, 0, 0, 6⟩
abbrev b4(f:FuncId)(a:List aa)(h:J)(K:aa → J → Prop) : Prop := ∃v ac, b1 Tryz.prog cX f a h v ac ∧ K v ac
abbrev bS := b1 Tryz.prog cX
abbrev ca := L7 Tryz.prog cX
abbrev dc := fw Tryz.prog cX
abbrev hd := dK Tryz.prog cX
noncomputable abbrev cs := Vf Tryz.prog
abbrev bL := Option (TypeId × Nat)
abbrev bI := aa → J → Prop
theorem b9{S:e1}{f:FuncId}{args:List aa}{h:J}{K:aa → J → Prop}{p:Prop}(cu:eJ Tryz.prog cX S)(hs:c')(k:p)(e : F7 Tryz.prog env S f args h hs K = p := by kernel_rfl) : b4 f args h K := tq eN mixed cu e k
theorem VE(b:Int)(ae:bI)(aW:(b<128→ae (aa.tuple [aa.int .i64 (1),aa.int .u8 (0),aa.int .u8 (0)]) (J.ar 9 []))∧(¬b<128→(194≤b→(b≤223→ae (aa.tuple [aa.int .i64 (2),aa.int .u8 (128),aa.int .u8 (191)]) (J.ar 16 []))∧(¬b≤223→(b=224→ae (aa.tuple [aa.int .i64 (3),aa.int .u8 (160),aa.int .u8 (191)]) (J.ar 19 []))∧(¬b=224→(b=237→ae (aa.tuple [aa.int .i64 (3),aa.int .u8 (128),aa.int .u8 (159)]) (J.ar 22 []))∧(¬b=237→(225≤b→(b≤239→ae (aa.tuple [aa.int .i64 (3),aa.int .u8 (128),aa.int .u8 (191)]) (J.ar 29 []))∧(¬b≤239→(b=240→ae (aa.tuple [aa.int .i64 (4),aa.int .u8 (144),aa.int .u8 (191)]) (J.ar 32 []))∧(¬b=240→(241≤b→(b≤243→ae (aa.tuple [aa.int .i64 (4),aa.int .u8 (128),aa.int .u8 (191)]) (J.ar 39 []))∧(¬b≤243→(b=244→ae (aa.tuple [aa.int .i64 (4),aa.int .u8 (128),aa.int .u8 (143)]) (J.ar 42 []))∧(¬b=244→ae (aa.tuple [aa.int .i64 (0),aa.int .u8 (0),aa.int .u8 (0)]) (J.ar 42 []))))∧(¬241≤b→(b=244→ae (aa.tuple [aa.int .i64 (4),aa.int .u8 (128),aa.int .u8 (143)]) (J.ar 42 []))∧(¬b=244→ae (aa.tuple [aa.int .i64 (0),aa.int .u8 (0),aa.int .u8 (0)]) (J.ar 42 []))))))∧(¬225≤b→(b=240→ae (aa.tuple [aa.int .i64 (4),aa.int .u8 (144),aa.int .u8 (191)]) (J.ar 32 []))∧(¬b=240→(241≤b→(b≤243→ae (aa.tuple [aa.int .i64 (4),aa.int .u8 (128),aa.int .u8 (191)]) (J.ar 39 []))∧(¬b≤243→(b=244→ae (aa.tuple [aa.int .i64 (4),aa.int .u8 (128),aa.int .u8 (143)]) (J.ar 42 []))∧(¬b=244→ae (aa.tuple [aa.int .i64 (0),aa.int .u8 (0),aa.int .u8 (0)]) (J.ar 42 []))))∧(¬241≤b→(b=244→ae (aa.tuple [aa.int .i64 (4),aa.int .u8 (128),aa.int .u8 (143)]) (J.ar 42 []))∧(¬b=244→ae (aa.tuple [aa.int .i64 (0),aa.int .u8 (0),aa.int .u8 (0)]) (J.ar 42 [])))))))))∧(¬194≤b→(b=224→ae (aa.tuple [aa.int .i64 (3),aa.int .u8 (160),aa.int .u8 (191)]) (J.ar 19 []))∧(¬b=224→(b=237→ae (aa.tuple [aa.int .i64 (3),aa.int .u8 (128),aa.int .u8 (159)]) (J.ar 22 []))∧(¬b=237→(225≤b→(b≤239→ae (aa.tuple [aa.int .i64 (3),aa.int .u8 (128),aa.int .u8 (191)]) (J.ar 29 []))∧(¬b≤239→(b=240→ae (aa.tuple [aa.int .i64 (4),aa.int .u8 (144),aa.int .u8 (191)]) (J.ar 32 []))∧(¬b=240→(241≤b→(b≤243→ae (aa.tuple [aa.int .i64 (4),aa.int .u8 (128),aa.int .u8 (191)]) (J.ar 39 []))∧(¬b≤243→(b=244→ae (aa.tuple [aa.int .i64 (4),aa.int .u8 (128),aa.int .u8 (143)]) (J.ar 42 []))∧(¬b=244→ae (aa.tuple [aa.int .i64 (0),aa.int .u8 (0),aa.int .u8 (0)]) (J.ar 42 []))))∧(¬241≤b→(b=244→ae (aa.tuple [aa.int .i64 (4),aa.int .u8 (128),aa.int .u8 (143)]) (J.ar 42 []))∧(¬b=244→ae (aa.tuple [aa.int .i64 (0),aa.int .u8 (0),aa.int .u8 (0)]) (J.ar 42 []))))))∧(¬225≤b→(b=240→ae (aa.tuple [aa.int .i64 (4),aa.int .u8 (144),aa.int .u8 (191)]) (J.ar 32 []))∧(¬b=240→(241≤b→(b≤243→ae (aa.tuple [aa.int .i64 (4),aa.int .u8 (128),aa.int .u8 (191)]) (J.ar 39 []))∧(¬b≤243→(b=244→ae (aa.tuple [aa.int .i64 (4),aa.int .u8 (128),aa.int .u8 (143)]) (J.ar 42 []))∧(¬b=244→ae (aa.tuple [aa.int .i64 (0),aa.int .u8 (0),aa.int .u8 (0)]) (J.ar 42 []))))∧(¬241≤b→(b=244→ae (aa.tuple [aa.int .i64 (4),aa.int .u8 (128),aa.int .u8 (143)]) (J.ar 42 []))∧(¬b=244→ae (aa.tuple [aa.int .i64 (0),aa.int .u8 (0),aa.int .u8 (0)]) (J.ar 42 [])))))))))) :
 b4 99 [.int .u8 b] (⟨0,.nil⟩) ae :=
 b9 gC (.aI 1001 .nil (.aI 3001 (.aI 3004 .nil (.aI 5001 .nil (.aI 7001 .nil (.aI 9001 (.aI 9004 .nil (.aI 11001 .nil (.aI 13001 (.aI 13004 .nil (.aI 15001 .nil .nil)) (.aI 15001 .nil .nil)))) (.aI 11001 .nil (.aI 13001 (.aI 13004 .nil (.aI 15001 .nil .nil)) (.aI 15001 .nil .nil))))))) (.aI 5001 .nil (.aI 7001 .nil (.aI 9001 (.aI 9004 .nil (.aI 11001 .nil (.aI 13001 (.aI 13004 .nil (.aI 15001 .nil .nil)) (.aI 15001 .nil .nil)))) (.aI 11001 .nil (.aI 13001 (.aI 13004 .nil (.aI 15001 .nil .nil)) (.aI 15001 .nil .nil)))))))) aW
def dm(b:Int):Int×Int×Int :=
 if b<128 then(1,0,0)else if 194≤b∧b≤223 then(2,128,191)else if b=224 then(3,160,191)else if b=237 then(3,128,159)else if 225≤b∧b≤239 then(3,128,191)
 else if b=240 then(4,144,191)else if 241≤b∧b≤243 then(4,128,191)else if b=244 then(4,128,143)else(0,0,0)
def n'(b:Int):aa:= .tuple [.int .i64 (dm b).1,.int .u8 (dm b).2.1,.int .u8 (dm b).2.2]
theorem VF(b x y z:Int)(h:dm b=(x,y,z)):aa.tuple [.int .i64 x,.int .u8 y,.int .u8 z]=n' b:=by unfold n';rw [h]
theorem rM(b:Int)(H:J):bS 99 [.int .u8 b] H (n' b) H:=by
 refine b1.eT (VE b (fun v _=>v=n' b) ?_) rfl rfl H
 repeat' (first|apply And.intro|intro _)
 all_goals (refine VF _ _ _ _ ?_;unfold dm;repeat' split)
 all_goals first|rfl|omega
theorem VG(c:Int)(ae:bI)(aW:(c=65→(0≤c-65∧c-65≤255)∧(-2147483648≤c-65∧c-65≤2147483647)∧(-2147483648≤5+(c-65)∧5+(c-65)≤2147483647)∧ae (aa.int .i32 (5+(c-65))) (J.ar 9 []))∧(¬c=65→(c=66→(0≤c-65∧c-65≤255)∧(-2147483648≤c-65∧c-65≤2147483647)∧(-2147483648≤5+(c-65)∧5+(c-65)≤2147483647)∧ae (aa.int .i32 (5+(c-65))) (J.ar 11 []))∧(¬c=66→(c=67→(0≤c-65∧c-65≤255)∧(-2147483648≤c-65∧c-65≤2147483647)∧(-2147483648≤5+(c-65)∧5+(c-65)≤2147483647)∧ae (aa.int .i32 (5+(c-65))) (J.ar 13 []))∧(¬c=67→(c=68→(0≤c-65∧c-65≤255)∧(-2147483648≤c-65∧c-65≤2147483647)∧(-2147483648≤5+(c-65)∧5+(c-65)≤2147483647)∧ae (aa.int .i32 (5+(c-65))) (J.ar 15 []))∧(¬c=68→(c=72→ae (aa.int .i32 (9)) (J.ar 13 []))∧(¬c=72→(c=70→ae (aa.int .i32 (10)) (J.ar 15 []))∧(¬c=70→ae (aa.int .i32 (0)) (J.ar 15 [])))))))) :
 b4 71 [.int .u8 c] (⟨0,.nil⟩) ae :=
 b9 gC (.aI 2000 (.az (.go 6001) (.az (.go 6002) (.az (.go 6003) .nil))) (.aI 3000 (.az (.go 6001) (.az (.go 6002) (.az (.go 6003) .nil))) (.aI 4000 (.az (.go 6001) (.az (.go 6002) (.az (.go 6003) .nil))) (.aI 5000 (.az (.go 6001) (.az (.go 6002) (.az (.go 6003) .nil))) (.aI 7000 .nil (.aI 9000 .nil .nil)))))) aW
def hf(c:Int):Int:=if 65≤c∧c≤68 then 5+(c-65)else if c=72 then 9 else if c=70 then 10 else 0
theorem VH(c:Int)(H:J):bS 71 [.int .u8 c] H (.int .i32 (hf c)) H:=by
 refine b1.eT (VG c (fun v _=>v=.int .i32 (hf c)) ?_) rfl rfl H
 repeat' (first|apply And.intro|intro _)
 all_goals first
  |omega
  |(refine congrArg (aa.int .i32) ?_;unfold hf;repeat' split)
 all_goals omega
theorem VI(n:Int)(ae:bI)(aW:(n=1→ae (aa.int .i32 (9)) (J.ar 9 []))∧(¬n=1→(n=7→ae (aa.int .i32 (9)) (J.ar 9 []))∧(¬n=7→(n=4→ae (aa.int .i32 (10)) (J.ar 16 []))∧(¬n=4→(n=8→ae (aa.int .i32 (10)) (J.ar 16 []))∧(¬n=8→(n=2→(-9223372036854775808≤n-2∧n-2≤9223372036854775807)∧(-2147483648≤n-2∧n-2≤2147483647)∧(-2147483648≤11+(n-2)∧11+(n-2)≤2147483647)∧ae (aa.int .i32 (11+(n-2))) (J.ar 27 []))∧(¬n=2→(n=3→(-9223372036854775808≤n-2∧n-2≤9223372036854775807)∧(-2147483648≤n-2∧n-2≤2147483647)∧(-2147483648≤11+(n-2)∧11+(n-2)≤2147483647)∧ae (aa.int .i32 (11+(n-2))) (J.ar 27 []))∧(¬n=3→(n=5→(-9223372036854775808≤n-5∧n-5≤9223372036854775807)∧(-2147483648≤n-5∧n-5≤2147483647)∧(-2147483648≤13+(n-5)∧13+(n-5)≤2147483647)∧ae (aa.int .i32 (13+(n-5))) (J.ar 34 []))∧(¬n=5→(n=6→(-9223372036854775808≤n-5∧n-5≤9223372036854775807)∧(-2147483648≤n-5∧n-5≤2147483647)∧(-2147483648≤13+(n-5)∧13+(n-5)≤2147483647)∧ae (aa.int .i32 (13+(n-5))) (J.ar 34 []))∧(¬n=6→(11≤n→(n≤15→(-9223372036854775808≤n-11∧n-11≤9223372036854775807)∧(-2147483648≤n-11∧n-11≤2147483647)∧(-2147483648≤21+(n-11)∧21+(n-11)≤2147483647)∧ae (aa.int .i32 (21+(n-11))) (J.ar 41 []))∧(¬n≤15→(17≤n→(n≤21→(-9223372036854775808≤n-12∧n-12≤9223372036854775807)∧(-2147483648≤n-12∧n-12≤2147483647)∧(-2147483648≤21+(n-12)∧21+(n-12)≤2147483647)∧ae (aa.int .i32 (21+(n-12))) (J.ar 48 []))∧(¬n≤21→(n=23→(-9223372036854775808≤n-13∧n-13≤9223372036854775807)∧(-2147483648≤n-13∧n-13≤2147483647)∧(-2147483648≤21+(n-13)∧21+(n-13)≤2147483647)∧ae (aa.int .i32 (21+(n-13))) (J.ar 55 []))∧(¬n=23→(n=24→(-9223372036854775808≤n-13∧n-13≤9223372036854775807)∧(-2147483648≤n-13∧n-13≤2147483647)∧(-2147483648≤21+(n-13)∧21+(n-13)≤2147483647)∧ae (aa.int .i32 (21+(n-13))) (J.ar 55 []))∧(¬n=24→ae (aa.int .i32 (0)) (J.ar 51 [])))))∧(¬17≤n→(n=23→(-9223372036854775808≤n-13∧n-13≤9223372036854775807)∧(-2147483648≤n-13∧n-13≤2147483647)∧(-2147483648≤21+(n-13)∧21+(n-13)≤2147483647)∧ae (aa.int .i32 (21+(n-13))) (J.ar 55 []))∧(¬n=23→(n=24→(-9223372036854775808≤n-13∧n-13≤9223372036854775807)∧(-2147483648≤n-13∧n-13≤2147483647)∧(-2147483648≤21+(n-13)∧21+(n-13)≤2147483647)∧ae (aa.int .i32 (21+(n-13))) (J.ar 55 []))∧(¬n=24→ae (aa.int .i32 (0)) (J.ar 51 []))))))∧(¬11≤n→(17≤n→(n≤21→(-9223372036854775808≤n-12∧n-12≤9223372036854775807)∧(-2147483648≤n-12∧n-12≤2147483647)∧(-2147483648≤21+(n-12)∧21+(n-12)≤2147483647)∧ae (aa.int .i32 (21+(n-12))) (J.ar 48 []))∧(¬n≤21→(n=23→(-9223372036854775808≤n-13∧n-13≤9223372036854775807)∧(-2147483648≤n-13∧n-13≤2147483647)∧(-2147483648≤21+(n-13)∧21+(n-13)≤2147483647)∧ae (aa.int .i32 (21+(n-13))) (J.ar 55 []))∧(¬n=23→(n=24→(-9223372036854775808≤n-13∧n-13≤9223372036854775807)∧(-2147483648≤n-13∧n-13≤2147483647)∧(-2147483648≤21+(n-13)∧21+(n-13)≤2147483647)∧ae (aa.int .i32 (21+(n-13))) (J.ar 55 []))∧(¬n=24→ae (aa.int .i32 (0)) (J.ar 51 [])))))∧(¬17≤n→(n=23→(-9223372036854775808≤n-13∧n-13≤9223372036854775807)∧(-2147483648≤n-13∧n-13≤2147483647)∧(-2147483648≤21+(n-13)∧21+(n-13)≤2147483647)∧ae (aa.int .i32 (21+(n-13))) (J.ar 55 []))∧(¬n=23→(n=24→(-9223372036854775808≤n-13∧n-13≤9223372036854775807)∧(-2147483648≤n-13∧n-13≤2147483647)∧(-2147483648≤21+(n-13)∧21+(n-13)≤2147483647)∧ae (aa.int .i32 (21+(n-13))) (J.ar 55 []))∧(¬n=24→ae (aa.int .i32 (0)) (J.ar 51 [])))))))))))))) :
 b4 72 [.int .i64 n] (⟨0,.nil⟩) ae :=
 b9 gC (.aI 1001 .nil (.aI 1004 .nil (.aI 3001 .nil (.aI 3004 .nil (.aI 5001 (.az (.go 6001) (.az (.go 6002) (.az (.go 6003) .nil))) (.aI 5004 (.az (.go 6001) (.az (.go 6002) (.az (.go 6003) .nil))) (.aI 7001 (.az (.go 8001) (.az (.go 8002) (.az (.go 8003) .nil))) (.aI 7004 (.az (.go 8001) (.az (.go 8002) (.az (.go 8003) .nil))) (.aI 9001 (.aI 9004 (.az (.go 10001) (.az (.go 10002) (.az (.go 10003) .nil))) (.aI 11001 (.aI 11004 (.az (.go 12001) (.az (.go 12002) (.az (.go 12003) .nil))) (.aI 13001 (.az (.go 14001) (.az (.go 14002) (.az (.go 14003) .nil))) (.aI 13004 (.az (.go 14001) (.az (.go 14002) (.az (.go 14003) .nil))) .nil))) (.aI 13001 (.az (.go 14001) (.az (.go 14002) (.az (.go 14003) .nil))) (.aI 13004 (.az (.go 14001) (.az (.go 14002) (.az (.go 14003) .nil))) .nil)))) (.aI 11001 (.aI 11004 (.az (.go 12001) (.az (.go 12002) (.az (.go 12003) .nil))) (.aI 13001 (.az (.go 14001) (.az (.go 14002) (.az (.go 14003) .nil))) (.aI 13004 (.az (.go 14001) (.az (.go 14002) (.az (.go 14003) .nil))) .nil))) (.aI 13001 (.az (.go 14001) (.az (.go 14002) (.az (.go 14003) .nil))) (.aI 13004 (.az (.go 14001) (.az (.go 14002) (.az (.go 14003) .nil))) .nil)))))))))))) aW
def hH(n:Int):Int :=
 if n=1∨n=7 then 9 else if n=4∨n=8 then 10 else if n=2∨n=3 then 11+(n-2)else if n=5∨n=6 then 13+(n-5)
 else if 11≤n∧n≤15 then 21+(n-11)else if 17≤n∧n≤21 then 21+(n-12)else if n=23∨n=24 then 21+(n-13)else 0
set_option maxHeartbeats 4000000 in
theorem VJ(n:Int)(H:J):bS 72 [.int .i64 n] H (.int .i32 (hH n)) H:=by
 refine b1.eT (VI n (fun v _=>v=.int .i32 (hH n)) ?_) rfl rfl H
 repeat' (first|apply And.intro|intro _)
 all_goals first
  |omega
  |(refine congrArg (aa.int .i32) ?_;unfold hH;repeat' split)
 all_goals omega
theorem VK(r:Int)(ae:bI)(aW:(32≤r→(r=127→ae (aa.bool false) (J.ar 20 []))∧(¬r=127→(r≤1114111→(r<55296→ae (aa.bool true) (J.ar 20 []))∧(¬r<55296→(57343<r→ae (aa.bool true) (J.ar 20 []))∧(¬57343<r→ae (aa.bool false) (J.ar 20 []))))∧(¬r≤1114111→ae (aa.bool false) (J.ar 20 []))))∧(¬32≤r→ae (aa.bool false) (J.ar 20 []))) :
 b4 41 [.int .i32 r] (⟨0,.nil⟩) ae :=
 b9 gC (.aI 1001 (.aI 1004 .nil (.aI 1008 (.aI 1012 .nil (.aI 1015 .nil .nil)) .nil)) .nil) aW
theorem F9(r:Int)(H:J):bS 41 [.int .i32 r] H (.bool (shown r)) H:=by
 refine b1.eT (VK r (fun v _=>v=.bool (shown r)) ?_) rfl rfl H
 repeat' (first|apply And.intro|intro _)
 all_goals (refine congrArg aa.bool ?_;simp [shown];try omega)
def cB(e:bl):aa:= .agg [.int .i8 e.kind,.int .i32 e.code,.int .u8 e.df,.int .i64 e.x,.int .i64 e.y,.str e.text]
theorem VL(c:Int)(ae:bI)(aW:(c=13→ae (aa.agg [aa.int .i8 (2),aa.int .i32 (1),aa.int .u8 (0),aa.int .i64 (0),aa.int .i64 (0),aa.str []]) (J.ar 6 [(0,(af.an ([aa.agg [aa.int .i8 (2),aa.int .i32 (1),aa.int .u8 (0),aa.int .i64 (0),aa.int .i64 (0),aa.str []]]) 6 true (some (42,6))))]))∧(¬c=13→(c=9→ae (aa.agg [aa.int .i8 (2),aa.int .i32 (2),aa.int .u8 (0),aa.int .i64 (0),aa.int .i64 (0),aa.str []]) (J.ar 8 [(0,(af.an ([aa.agg [aa.int .i8 (2),aa.int .i32 (2),aa.int .u8 (0),aa.int .i64 (0),aa.int .i64 (0),aa.str []]]) 6 true (some (42,6))))]))∧(¬c=9→(c=127→ae (aa.agg [aa.int .i8 (2),aa.int .i32 (3),aa.int .u8 (0),aa.int .i64 (0),aa.int .i64 (0),aa.str []]) (J.ar 10 [(0,(af.an ([aa.agg [aa.int .i8 (2),aa.int .i32 (3),aa.int .u8 (0),aa.int .i64 (0),aa.int .i64 (0),aa.str []]]) 6 true (some (42,6))))]))∧(¬c=127→(c=0→ae (aa.agg [aa.int .i8 (1),aa.int .i32 (32),aa.int .u8 (4),aa.int .i64 (0),aa.int .i64 (0),aa.str []]) (J.ar 12 [(0,(af.an ([aa.agg [aa.int .i8 (1),aa.int .i32 (32),aa.int .u8 (4),aa.int .i64 (0),aa.int .i64 (0),aa.str []]]) 6 true (some (42,6))))]))∧(¬c=0→(c<27→(-2147483648≤c∧c≤2147483647)∧True∧ae (aa.agg [aa.int .i8 (1),aa.int .i32 (b2 .i32 c (96)),aa.int .u8 (4),aa.int .i64 (0),aa.int .i64 (0),aa.str []]) (J.ar 17 [(0,(af.an ([aa.agg [aa.int .i8 (1),aa.int .i32 (b2 .i32 c (96)),aa.int .u8 (4),aa.int .i64 (0),aa.int .i64 (0),aa.str []]]) 6 true (some (42,6))))]))∧(¬c<27→(-2147483648≤c∧c≤2147483647)∧True∧ae (aa.agg [aa.int .i8 (1),aa.int .i32 (b2 .i32 c (64)),aa.int .u8 (4),aa.int .i64 (0),aa.int .i64 (0),aa.str []]) (J.ar 17 [(0,(af.an ([aa.agg [aa.int .i8 (1),aa.int .i32 (b2 .i32 c (64)),aa.int .u8 (4),aa.int .i64 (0),aa.int .i64 (0),aa.str []]]) 6 true (some (42,6))))]))))))) :
 b4 89 [.int .u8 c] (⟨0,.nil⟩) ae :=
 b9 gC (.aI 2000 .nil (.aI 4000 .nil (.aI 6000 .nil (.aI 8000 .nil (.aI 10001 (.az (.go 11001) (.az (.go 11002) .nil)) (.az (.go 12001) (.az (.go 12002) .nil))))))) aW
theorem VM:∀n:Fin 27,0<n.val→b2 .i32 (n.val:Int) 96=n.val+96:=by decide+kernel
theorem VN:∀n:Fin 32,26<n.val→b2 .i32 (n.val:Int) 64=n.val+64:=by decide+kernel
theorem VO(c:Int)(aw:0≤c∧(c<32∨c=127))(ji:c≠27)(H:J):bS 89 [.int .u8 c] H (cB (control c.toNat)) H:=by
 refine b1.eT (VL c (fun v _=>v=cB (control c.toNat)) ?_) rfl rfl H;obtain⟨n,rfl⟩:=Int.eq_ofNat_of_zero_le aw.1
 repeat' (first|apply And.intro|intro _)
 all_goals first
  |omega
  |exact trivial
  |skip
 all_goals simp only [Int.toNat_natCast]
 all_goals unfold Go.Keys.control
 all_goals repeat' split
 all_goals first
  |(exfalso;omega)
  |rfl
  |(have:=VM ⟨n,ab⟩ (by simp;omega);simp only at this;rw [this];rfl)
  |(have:=VN ⟨n,ab⟩ (by simp;omega);simp only at this;rw [this];rfl)
theorem VP(b:Int):(dm b).1=0∨(dm b).1=1∨(dm b).1=2∨(dm b).1=3∨(dm b).1=4:=by
 unfold dm
 repeat' split
 all_goals simp
def F':List aa→J→Option ey:=fun a h =>
 match a with
 |[.int .u8 b]=>some (.or ((dm b).1=0) (.one (.tuple [.int .i64 0,.int .u8 (dm b).2.1,.int .u8 (dm b).2.2]) h []) (.or ((dm b).1=1) (.one (.tuple [.int .i64 1,.int .u8 (dm b).2.1,.int .u8 (dm b).2.2]) h [])
  (.or ((dm b).1=2) (.one (.tuple [.int .i64 2,.int .u8 (dm b).2.1,.int .u8 (dm b).2.2]) h []) (.or ((dm b).1=3) (.one (.tuple [.int .i64 3,.int .u8 (dm b).2.1,.int .u8 (dm b).2.2]) h []) (.one (.tuple [.int .i64 4,.int .u8 (dm b).2.1,.int .u8 (dm b).2.2]) h [])))))
 |_=>none
theorem VQ:∀args h a,F' args h=some a→a.dt Tryz.prog cX 99 args h:=by
 intro args h a e;unfold F' at e;split at e<;>first|(cases e;done)|skip
 rename_i b;simp only [Option.some.injEq]at e;subst e;have go:∀n,(dm b).1=n→bS 99 [.int .u8 b] h (.tuple [.int .i64 n,.int .u8 (dm b).2.1,.int .u8 (dm b).2.2]) h:=fun n aR=>by rw [←aR];exact rM b h
 exact⟨fun e _=>go _ e,fun ap=>⟨fun e _=>go _ e,fun a6=>⟨fun e _=>go _ e,fun n2=>⟨fun e _=>go _ e,fun eY _=>go _ (by have:=VP b;omega)⟩⟩⟩⟩
def qi:e1:=((((Mv.add 99 F').add 71 (kD fun a=>match a with | [.int .u8 b]=>some (.int .i32 (hf b),[])|_=>none)).add
 72 (kD fun a=>match a with | [.int .i64 b]=>some (.int .i32 (hH b),[])|_=>none)).add 41 (kD fun a=>match a with | [.int .i32 b]=>some (.bool (shown b),[])|_=>none)).add
 89 (kD fun a=>match a with | [.int .u8 b]=>some (cB (control b.toNat),[0≤b∧(b<32∨b=127),b≠27])|_=>none)
theorem cx:eJ Tryz.prog cX qi:=by
 refine((((gC.add VQ).add (lH ?_)).add (lH ?_)).add (lH ?_)).add (lH ?_)
 all_goals
  intro args v ps e ah H;split at e<;>first|(cases e;done)|skip
  simp only [Option.some.injEq,Prod.mk.injEq]at e;obtain⟨rfl,rfl⟩:=e
 ·exact VH _ H
 ·exact VJ _ H
 ·exact F9 _ H
 ·exact VO _ ah.head ah.tail.head H
abbrev hg(bx aK aP bt n:Int)(ty:bL):af:=af.an [.agg [.int .u8 bx,.int .u8 aK,.int .u8 aP,.int .u8 bt,.int .i64 n]] 5 true ty
abbrev gN(c:Int):af:=af.an [.int .u8 c] 1 true
abbrev cV(c:Int):af:=(af.an ([.int .u8 c]) 1 true)
abbrev qj:c':=(ak 7001 (ak 7004 (.az (.rounds 300) .nil)))
abbrev MJ:af:=(af.an ([.slice (cm 19) 1 1]) 1 true (some (34,1)))
abbrev rN(aK aP bt c:Int):aa:=aa.agg [.int .u8 c,.int .u8 aK,.int .u8 aP,.int .u8 bt,.int .i64 1]
abbrev Ga(bx aK aP bt:Int)(ty:bL):af:=⟨[.agg [.int .u8 bx,.int .u8 aK,.int .u8 aP,.int .u8 bt,.int .i64 0]],5,true,false,0,0,0,ty⟩
abbrev oa(aK aP bt c:Int)(ty:bL):af:=⟨[(rN aK aP bt c)],5,true,false,0,0,0,ty⟩
abbrev Br(aK aP bt c:Int)(ty:bL):J:=(J.ar 95 [(0,(oa aK aP bt c ty)),(1,(cV c)),(5,af.an (List.replicate 0 (.int .u8 0)) 1 true),(15,MJ),(19,af.an [.int .u8 c] 1 false (some (5,0)))])
theorem VR(bx aK aP bt c bb aq:Int)(ty:bL)(ae:bI)(aW:(Prod.fst (dm c)=0→ae (.slice (cm 70) 1 1) (J.ar 81 [(0,(Ga bx aK aP bt ty)),(1,(cV c)),(5,af.an (List.replicate 0 (.int .u8 0)) 1 true),(15,(af.an ([.slice (some ⟨19,0,1,0,1⟩) 0 0]) 1 true (some (34,1)))),(19,af.an [.int .u8 c] 1 false (some (5,0))),(69,af.an [.int .i32 65533] 1 true),(70,af.an [.int .i32 65533] 1 false (some (21,0)))]))∧(¬Prod.fst (dm c)=0→(Prod.fst (dm c)=1→(-2147483648≤c∧c≤2147483647)∧ae (.slice (cm 74) 1 1) (J.ar 85 [(0,(Ga bx aK aP bt ty)),(1,(cV c)),(5,af.an (List.replicate 0 (.int .u8 0)) 1 true),(15,(af.an ([.slice (some ⟨19,0,1,0,1⟩) 0 0]) 1 true (some (34,1)))),(19,af.an [.int .u8 c] 1 false (some (5,0))),(73,af.an [.int .i32 c] 1 true),(74,af.an [.int .i32 c] 1 false (some (21,0)))]))∧(¬Prod.fst (dm c)=1→(Prod.fst (dm c)=2→(-2147483648≤c∧c≤2147483647)∧True∧ae (.slice none 0 0) (Br aK aP bt c ty))∧(¬Prod.fst (dm c)=2→(Prod.fst (dm c)=3→(-2147483648≤c∧c≤2147483647)∧True∧ae (.slice none 0 0) (Br aK aP bt c ty))∧(¬Prod.fst (dm c)=3→(-2147483648≤c∧c≤2147483647)∧True∧ae (.slice none 0 0) (Br aK aP bt c ty)))))) :
 b4 107 [.ptr (some ⟨0,0,0,0,5⟩),.slice (cm 1) 1 1] (J.of [hg bx aK aP bt 0 ty,gN c]) ae :=
 b9 cx (.az (.rounds 300) (he 8003 (he 1001 (.aI 2001 .nil (.aI 2001 (ak 6001 .nil) (.aI 2001 qj (.aI 2001 qj qj))))))) aW
abbrev Bs:aa:=aa.slice (some ⟨14,1,1,0,1⟩) 1 1
abbrev Bt:aa:=aa.slice (some ⟨14,1,2,0,1⟩) 0 0
abbrev u7:aa:=aa.slice (cm 104) 1 1
abbrev pg:aa:=aa.slice (some ⟨104,1,0,0,1⟩) 2 2
abbrev tt(bx aK aP bt:Int):aa:=aa.agg [.int .u8 bx,.int .u8 aK,.int .u8 aP,.int .u8 bt,.int .i64 0]
abbrev lJ(bx c:Int)(ty:bL):af:=⟨[.int .u8 bx,.int .u8 c],1,false,false,1,0,1,some (5,0)⟩
abbrev qk(c:Int)(ty:bL):af:=⟨[.int .i32 65533,.int .i32 c],1,false,false,1,0,1,some (21,0)⟩
abbrev ql(ty:bL):af:=⟨[.int .i32 65533,.int .i32 65533],1,false,false,1,0,1,some (21,0)⟩
abbrev Bu:af:=(af.an ([Bs]) 1 true (some (34,1)))
abbrev u9:af:=(af.an ([Bt]) 1 true (some (34,1)))
abbrev nk:c':=(he 1001 (.aI 2001 .nil (.aI 2001 (ak 6001 .nil) (.aI 2001 qj (.aI 2001 qj qj)))))
abbrev hI(bx aK aP bt:Int)(ty:bL):af:=⟨[(tt bx aK aP bt)],5,true,false,0,0,0,ty⟩
abbrev Gb(bx aK aP bt c:Int)(ty:bL):J:=(J.ar 61 [(0,(hI bx aK aP bt ty)),(1,(cV c)),(5,af.an (List.replicate 0 (.int .u8 0)) 1 true),(14,(lJ bx c ty)),(15,(af.an ([.slice (some ⟨14,1,0,0,1⟩) 2 2]) 1 true (some (34,1))))])
abbrev u'(bx aK aP bt c:Int)(ty:bL):J:=(J.ar 179 [(0,(oa aK aP bt c ty)),(1,(cV c)),(5,af.an (List.replicate 0 (.int .u8 0)) 1 true),(14,(lJ bx c ty)),(15,Bu),(103,af.an [.int .i32 65533] 1 true),(104,af.an [.int .i32 65533] 1 false (some (21,0)))])
abbrev Bv(bx aK aP bt c:Int)(ty:bL):J:=(J.ar 169 [(0,(hI bx aK aP bt ty)),(1,(cV c)),(5,af.an (List.replicate 0 (.int .u8 0)) 1 true),(14,(lJ bx c ty)),(15,u9),(103,af.an [.int .i32 65533] 1 true),(104,(qk c ty)),(157,af.an [.int .i32 c] 1 true)])
abbrev qm(bx aK aP bt c:Int)(ty:bL):J:=(J.ar 165 [(0,(hI bx aK aP bt ty)),(1,(cV c)),(5,af.an (List.replicate 0 (.int .u8 0)) 1 true),(14,(lJ bx c ty)),(15,u9),(103,af.an [.int .i32 65533] 1 true),(104,(ql ty)),(153,af.an [.int .i32 65533] 1 true)])
abbrev Bw(bx aK aP bt c:Int)(ty:bL)(ae:bI):Prop:=(¬Prod.fst (dm c)=2→(Prod.fst (dm c)=3→(-2147483648≤c∧c≤2147483647)∧True∧ae (u7) (u' bx aK aP bt c ty))∧(¬Prod.fst (dm c)=3→(-2147483648≤c∧c≤2147483647)∧True∧ae (u7) (u' bx aK aP bt c ty)))
abbrev qn(bx aK aP bt c:Int)(ty:bL)(ae:bI):Prop:=(¬Prod.fst (dm c)=0→(Prod.fst (dm c)=1→(-2147483648≤c∧c≤2147483647)∧ae (pg) (Bv bx aK aP bt c ty))∧(¬Prod.fst (dm c)=1→(Prod.fst (dm c)=2→(-2147483648≤c∧c≤2147483647)∧True∧ae (u7) (u' bx aK aP bt c ty))∧(Bw bx aK aP bt c ty ae)))
theorem VS(bx aK aP bt c bb aq:Int)(ty:bL)(ae:bI)(aW:ca 99 [.int .u8 bx] (Gb bx aK aP bt c ty) (.tuple [.int .i64 2,.int .u8 bb,.int .u8 aq]) (Gb bx aK aP bt c ty)∧(-2147483648≤bx∧bx≤2147483647)∧True∧(c<bb→(Prod.fst (dm c)=0→ae (pg) (qm bx aK aP bt c ty))∧(qn bx aK aP bt c ty ae))∧(¬c<bb→(aq<c→(Prod.fst (dm c)=0→ae (pg) (qm bx aK aP bt c ty))∧(qn bx aK aP bt c ty ae))∧(¬aq<c→Int.NonNeg (6-0)∧True∧(-2147483648≤bp .u8 c (63)∧bp .u8 c (63)≤2147483647)∧True∧ae (.slice (cm 120) 1 1) (J.ar 131 [(0,(hI bx aK aP bt ty)),(1,(cV c)),(5,af.an (List.replicate 0 (.int .u8 0)) 1 true),(14,(lJ bx c ty)),(15,u9),(119,af.an [.int .i32 (b2 .i32 (eZ .i32 (bp .i32 bx (31)) (6)) (bp .u8 c (63)))] 1 true),(120,af.an [.int .i32 (b2 .i32 (eZ .i32 (bp .i32 bx (31)) (6)) (bp .u8 c (63)))] 1 false (some (21,0)))])))) :
 b4 107 [.ptr (some ⟨0,0,0,0,5⟩),.slice (cm 1) 1 1] (J.of [hg bx aK aP bt 1 ty,gN c]) ae :=
 b9 cx (.az (.rounds 300) (he 8003 (he 1001 (.az (.val 2001 (.tuple [.int .i64 2,.int .u8 bb,.int .u8 aq])) (ak 7001 (ak 7004 (.az (.rounds 300) (he 13002 (.aI 14002 (he 8003 nk) (.aI 14006 (he 8003 nk) (ak 17001 (ak 17003 (ak 17004 (ak 17005 .nil)))))))))))))) aW
abbrev rO:af:=(af.an ([.slice (some ⟨14,1,0,0,1⟩) 2 2]) 1 true (some (34,1)))
theorem VT(bx aK aP bt c bb aq:Int)(ty:bL)(ae:bI)(aW:ca 99 [.int .u8 bx] (J.ar 61 [(0,(hI bx aK aP bt ty)),(1,(cV c)),(5,af.an (List.replicate 0 (.int .u8 0)) 1 true),(14,(lJ bx c ty)),(15,rO)]) (.tuple [.int .i64 3,.int .u8 bb,.int .u8 aq]) (J.ar 61 [(0,(hI bx aK aP bt ty)),(1,(cV c)),(5,af.an (List.replicate 0 (.int .u8 0)) 1 true),(14,(lJ bx c ty)),(15,rO)])∧(-2147483648≤bx∧bx≤2147483647)∧True∧(c<bb→(Prod.fst (dm c)=0→ae (pg) (qm bx aK aP bt c ty))∧(qn bx aK aP bt c ty ae))∧(¬c<bb→(aq<c→(Prod.fst (dm c)=0→ae (pg) (qm bx aK aP bt c ty))∧(qn bx aK aP bt c ty ae))∧(¬aq<c→Int.NonNeg (6-0)∧True∧(-2147483648≤bp .u8 c (63)∧bp .u8 c (63)≤2147483647)∧True∧ae (.slice none 0 0) (J.ar 131 [(0,⟨[.agg [.int .u8 bx,.int .u8 c,.int .u8 aP,.int .u8 bt,.int .i64 2]],5,true,false,0,0,0,ty⟩),(1,(cV c)),(5,af.an (List.replicate 0 (.int .u8 0)) 1 true),(14,(lJ bx c ty)),(15,rO)])))) :
 b4 107 [.ptr (some ⟨0,0,0,0,5⟩),.slice (cm 1) 1 1] (J.of [hg bx aK aP bt 1 ty,gN c]) ae :=
 b9 cx (.az (.rounds 300) (he 8003 (he 1001 (.az (.val 2001 (.tuple [.int .i64 3,.int .u8 bb,.int .u8 aq])) (ak 7001 (ak 7004 (.az (.rounds 300) (he 13002 (.aI 14002 (he 8003 nk) (.aI 14006 (he 8003 nk) (ak 17001 (ak 17003 (ak 17004 (ak 17005 .nil)))))))))))))) aW
theorem VU(bx aK aP bt c bb aq:Int)(ty:bL)(ae:bI)(aW:ca 99 [.int .u8 bx] (J.ar 61 [(0,(hI bx aK aP bt ty)),(1,(cV c)),(5,af.an (List.replicate 0 (.int .u8 0)) 1 true),(14,(lJ bx c ty)),(15,rO)]) (.tuple [.int .i64 4,.int .u8 bb,.int .u8 aq]) (J.ar 61 [(0,(hI bx aK aP bt ty)),(1,(cV c)),(5,af.an (List.replicate 0 (.int .u8 0)) 1 true),(14,(lJ bx c ty)),(15,rO)])∧(-2147483648≤bx∧bx≤2147483647)∧True∧(c<bb→(Prod.fst (dm c)=0→ae (pg) (qm bx aK aP bt c ty))∧(qn bx aK aP bt c ty ae))∧(¬c<bb→(aq<c→(Prod.fst (dm c)=0→ae (pg) (qm bx aK aP bt c ty))∧(qn bx aK aP bt c ty ae))∧(¬aq<c→Int.NonNeg (6-0)∧True∧(-2147483648≤bp .u8 c (63)∧bp .u8 c (63)≤2147483647)∧True∧ae (.slice none 0 0) (J.ar 131 [(0,⟨[.agg [.int .u8 bx,.int .u8 c,.int .u8 aP,.int .u8 bt,.int .i64 2]],5,true,false,0,0,0,ty⟩),(1,(cV c)),(5,af.an (List.replicate 0 (.int .u8 0)) 1 true),(14,(lJ bx c ty)),(15,rO)])))) :
 b4 107 [.ptr (some ⟨0,0,0,0,5⟩),.slice (cm 1) 1 1] (J.of [hg bx aK aP bt 1 ty,gN c]) ae :=
 b9 cx (.az (.rounds 300) (he 8003 (he 1001 (.az (.val 2001 (.tuple [.int .i64 4,.int .u8 bb,.int .u8 aq])) (ak 7001 (ak 7004 (.az (.rounds 300) (he 13002 (.aI 14002 (he 8003 nk) (.aI 14006 (he 8003 nk) (ak 17001 (ak 17003 (ak 17004 (ak 17005 .nil)))))))))))))) aW
abbrev Gc:aa:=aa.slice (some ⟨14,1,2,0,1⟩) 1 1
abbrev Gd:aa:=aa.slice (some ⟨14,1,3,0,1⟩) 0 0
abbrev xK:aa:=aa.slice (cm 140) 1 1
abbrev tu:aa:=aa.slice (some ⟨140,1,0,0,1⟩) 2 2
abbrev ph(bx aK c:Int)(ty:bL):af:=⟨[.int .u8 bx,.int .u8 aK,.int .u8 c],1,false,false,1,0,2,some (5,0)⟩
abbrev Ge:af:=(af.an ([Gc]) 1 true (some (34,1)))
abbrev xL:af:=(af.an ([Gd]) 1 true (some (34,1)))
abbrev Gf(bx aK aP bt c:Int)(ty:bL):J:=(J.ar 61 [(0,(hI bx aK aP bt ty)),(1,(cV c)),(5,af.an (List.replicate 0 (.int .u8 0)) 1 true),(14,(ph bx aK c ty)),(15,(af.an ([.slice (some ⟨14,1,0,0,1⟩) 3 3]) 1 true (some (34,1))))])
abbrev xM(bx aK aP bt c:Int)(ty:bL):J:=(J.ar 215 [(0,(oa aK aP bt c ty)),(1,(cV c)),(5,af.an (List.replicate 0 (.int .u8 0)) 1 true),(14,(ph bx aK c ty)),(15,Ge),(139,af.an [.int .i32 65533] 1 true),(140,af.an [.int .i32 65533] 1 false (some (21,0)))])
abbrev Gg(bx aK aP bt c:Int)(ty:bL):J:=(J.ar 205 [(0,(hI bx aK aP bt ty)),(1,(cV c)),(5,af.an (List.replicate 0 (.int .u8 0)) 1 true),(14,(ph bx aK c ty)),(15,xL),(139,af.an [.int .i32 65533] 1 true),(140,(qk c ty)),(193,af.an [.int .i32 c] 1 true)])
abbrev va(bx aK aP bt c:Int)(ty:bL):J:=(J.ar 201 [(0,(hI bx aK aP bt ty)),(1,(cV c)),(5,af.an (List.replicate 0 (.int .u8 0)) 1 true),(14,(ph bx aK c ty)),(15,xL),(139,af.an [.int .i32 65533] 1 true),(140,(ql ty)),(189,af.an [.int .i32 65533] 1 true)])
abbrev Gh(bx aK aP bt c:Int)(ty:bL)(ae:bI):Prop:=(¬Prod.fst (dm c)=2→(Prod.fst (dm c)=3→(-2147483648≤c∧c≤2147483647)∧True∧ae (xK) (xM bx aK aP bt c ty))∧(¬Prod.fst (dm c)=3→(-2147483648≤c∧c≤2147483647)∧True∧ae (xK) (xM bx aK aP bt c ty)))
abbrev vb(bx aK aP bt c:Int)(ty:bL)(ae:bI):Prop:=(¬Prod.fst (dm c)=0→(Prod.fst (dm c)=1→(-2147483648≤c∧c≤2147483647)∧ae (tu) (Gg bx aK aP bt c ty))∧(¬Prod.fst (dm c)=1→(Prod.fst (dm c)=2→(-2147483648≤c∧c≤2147483647)∧True∧ae (xK) (xM bx aK aP bt c ty))∧(Gh bx aK aP bt c ty ae)))
theorem VV(bx aK aP bt c bb aq:Int)(ty:bL)(ae:bI)(aW:ca 99 [.int .u8 bx] (Gf bx aK aP bt c ty) (.tuple [.int .i64 3,.int .u8 bb,.int .u8 aq]) (Gf bx aK aP bt c ty)∧(-2147483648≤bx∧bx≤2147483647)∧True∧some (aa.bool (decide (aK<bb)))=some (aa.bool false)∧some (aa.bool (decide (aK>aq)))=some (aa.bool false)∧Int.NonNeg (6-0)∧True∧(-2147483648≤bp .u8 aK (63)∧bp .u8 aK (63)≤2147483647)∧True∧(c<128→(Prod.fst (dm c)=0→ae (tu) (va bx aK aP bt c ty))∧(vb bx aK aP bt c ty ae))∧(¬c<128→(191<c→(Prod.fst (dm c)=0→ae (tu) (va bx aK aP bt c ty))∧(vb bx aK aP bt c ty ae))∧(¬191<c→Int.NonNeg (6-0)∧True∧(-2147483648≤bp .u8 c (63)∧bp .u8 c (63)≤2147483647)∧True∧ae (.slice (cm 156) 1 1) (J.ar 167 [(0,(hI bx aK aP bt ty)),(1,(cV c)),(5,af.an (List.replicate 0 (.int .u8 0)) 1 true),(14,(ph bx aK c ty)),(15,xL),(155,af.an [.int .i32 (b2 .i32 (eZ .i32 (b2 .i32 (eZ .i32 (bp .i32 bx (15)) (6)) (bp .u8 aK (63))) (6)) (bp .u8 c (63)))] 1 true),(156,af.an [.int .i32 (b2 .i32 (eZ .i32 (b2 .i32 (eZ .i32 (bp .i32 bx (15)) (6)) (bp .u8 aK (63))) (6)) (bp .u8 c (63)))] 1 false (some (21,0)))])))) :
 b4 107 [.ptr (some ⟨0,0,0,0,5⟩),.slice (cm 1) 1 1] (J.of [hg bx aK aP bt 2 ty,gN c]) ae :=
 b9 cx (.az (.rounds 300) (he 8003 (he 1001 (.az (.val 2001 (.tuple [.int .i64 3,.int .u8 bb,.int .u8 aq])) (ak 7001 (ak 7004 (.az (.rounds 300) (he 13002 (.az (.val 14002 (.bool false)) (.az (.val 14006 (.bool false)) (ak 17001 (ak 17003 (ak 17004 (ak 17005 (he 13002 (.aI 14002 (he 8003 nk) (.aI 14006 (he 8003 nk) (ak 17001 (ak 17003 (ak 17004 (ak 17005 .nil))))))))))))))))))))) aW
abbrev Bx:af:=(af.an ([.slice (some ⟨14,1,0,0,1⟩) 3 3]) 1 true (some (34,1)))
theorem VW(bx aK aP bt c bb aq:Int)(ty:bL)(ae:bI)(aW:ca 99 [.int .u8 bx] (J.ar 61 [(0,(hI bx aK aP bt ty)),(1,(cV c)),(5,af.an (List.replicate 0 (.int .u8 0)) 1 true),(14,(ph bx aK c ty)),(15,Bx)]) (.tuple [.int .i64 4,.int .u8 bb,.int .u8 aq]) (J.ar 61 [(0,(hI bx aK aP bt ty)),(1,(cV c)),(5,af.an (List.replicate 0 (.int .u8 0)) 1 true),(14,(ph bx aK c ty)),(15,Bx)])∧(-2147483648≤bx∧bx≤2147483647)∧True∧some (aa.bool (decide (aK<bb)))=some (aa.bool false)∧some (aa.bool (decide (aK>aq)))=some (aa.bool false)∧Int.NonNeg (6-0)∧True∧(-2147483648≤bp .u8 aK (63)∧bp .u8 aK (63)≤2147483647)∧True∧(c<128→(Prod.fst (dm c)=0→ae (tu) (va bx aK aP bt c ty))∧(vb bx aK aP bt c ty ae))∧(¬c<128→(191<c→(Prod.fst (dm c)=0→ae (tu) (va bx aK aP bt c ty))∧(vb bx aK aP bt c ty ae))∧(¬191<c→Int.NonNeg (6-0)∧True∧(-2147483648≤bp .u8 c (63)∧bp .u8 c (63)≤2147483647)∧True∧ae (.slice none 0 0) (J.ar 167 [(0,⟨[.agg [.int .u8 bx,.int .u8 aK,.int .u8 c,.int .u8 bt,.int .i64 3]],5,true,false,0,0,0,ty⟩),(1,(cV c)),(5,af.an (List.replicate 0 (.int .u8 0)) 1 true),(14,(ph bx aK c ty)),(15,Bx)])))) :
 b4 107 [.ptr (some ⟨0,0,0,0,5⟩),.slice (cm 1) 1 1] (J.of [hg bx aK aP bt 2 ty,gN c]) ae :=
 b9 cx (.az (.rounds 300) (he 8003 (he 1001 (.az (.val 2001 (.tuple [.int .i64 4,.int .u8 bb,.int .u8 aq])) (ak 7001 (ak 7004 (.az (.rounds 300) (he 13002 (.az (.val 14002 (.bool false)) (.az (.val 14006 (.bool false)) (ak 17001 (ak 17003 (ak 17004 (ak 17005 (he 13002 (.aI 14002 (he 8003 nk) (.aI 14006 (he 8003 nk) (ak 17001 (ak 17003 (ak 17004 (ak 17005 .nil))))))))))))))))))))) aW
abbrev MK:aa:=aa.slice (some ⟨14,1,3,0,1⟩) 1 1
abbrev ML:aa:=aa.slice (some ⟨14,1,4,0,1⟩) 0 0
abbrev By:aa:=aa.slice (cm 176) 1 1
abbrev Bz:aa:=aa.slice (some ⟨176,1,0,0,1⟩) 2 2
abbrev vc(bx aK aP c:Int)(ty:bL):af:=⟨[.int .u8 bx,.int .u8 aK,.int .u8 aP,.int .u8 c],1,false,false,1,0,3,some (5,0)⟩
abbrev MM:af:=(af.an ([MK]) 1 true (some (34,1)))
abbrev BA:af:=(af.an ([ML]) 1 true (some (34,1)))
abbrev Gi(bx aK aP bt c:Int)(ty:bL):J:=(J.ar 61 [(0,(hI bx aK aP bt ty)),(1,(cV c)),(5,af.an (List.replicate 0 (.int .u8 0)) 1 true),(14,(vc bx aK aP c ty)),(15,(af.an ([.slice (some ⟨14,1,0,0,1⟩) 4 4]) 1 true (some (34,1))))])
abbrev BB(bx aK aP bt c:Int)(ty:bL):J:=(J.ar 251 [(0,(oa aK aP bt c ty)),(1,(cV c)),(5,af.an (List.replicate 0 (.int .u8 0)) 1 true),(14,(vc bx aK aP c ty)),(15,MM),(175,af.an [.int .i32 65533] 1 true),(176,af.an [.int .i32 65533] 1 false (some (21,0)))])
abbrev MN(bx aK aP bt c:Int)(ty:bL):J:=(J.ar 241 [(0,(hI bx aK aP bt ty)),(1,(cV c)),(5,af.an (List.replicate 0 (.int .u8 0)) 1 true),(14,(vc bx aK aP c ty)),(15,BA),(175,af.an [.int .i32 65533] 1 true),(176,(qk c ty)),(229,af.an [.int .i32 c] 1 true)])
abbrev Gj(bx aK aP bt c:Int)(ty:bL):J:=(J.ar 237 [(0,(hI bx aK aP bt ty)),(1,(cV c)),(5,af.an (List.replicate 0 (.int .u8 0)) 1 true),(14,(vc bx aK aP c ty)),(15,BA),(175,af.an [.int .i32 65533] 1 true),(176,(ql ty)),(225,af.an [.int .i32 65533] 1 true)])
abbrev MO(bx aK aP bt c:Int)(ty:bL)(ae:bI):Prop:=(¬Prod.fst (dm c)=2→(Prod.fst (dm c)=3→(-2147483648≤c∧c≤2147483647)∧True∧ae (By) (BB bx aK aP bt c ty))∧(¬Prod.fst (dm c)=3→(-2147483648≤c∧c≤2147483647)∧True∧ae (By) (BB bx aK aP bt c ty)))
abbrev Gk(bx aK aP bt c:Int)(ty:bL)(ae:bI):Prop:=(¬Prod.fst (dm c)=0→(Prod.fst (dm c)=1→(-2147483648≤c∧c≤2147483647)∧ae (Bz) (MN bx aK aP bt c ty))∧(¬Prod.fst (dm c)=1→(Prod.fst (dm c)=2→(-2147483648≤c∧c≤2147483647)∧True∧ae (By) (BB bx aK aP bt c ty))∧(MO bx aK aP bt c ty ae)))
theorem VX(bx aK aP bt c bb aq:Int)(ty:bL)(ae:bI)(aW:ca 99 [.int .u8 bx] (Gi bx aK aP bt c ty) (.tuple [.int .i64 4,.int .u8 bb,.int .u8 aq]) (Gi bx aK aP bt c ty)∧(-2147483648≤bx∧bx≤2147483647)∧True∧some (aa.bool (decide (aK<bb)))=some (aa.bool false)∧some (aa.bool (decide (aK>aq)))=some (aa.bool false)∧Int.NonNeg (6-0)∧True∧(-2147483648≤bp .u8 aK (63)∧bp .u8 aK (63)≤2147483647)∧True∧some (aa.bool (decide (aP<128)))=some (aa.bool false)∧some (aa.bool (decide (aP>191)))=some (aa.bool false)∧Int.NonNeg (6-0)∧True∧(-2147483648≤bp .u8 aP (63)∧bp .u8 aP (63)≤2147483647)∧True∧(c<128→(Prod.fst (dm c)=0→ae (Bz) (Gj bx aK aP bt c ty))∧(Gk bx aK aP bt c ty ae))∧(¬c<128→(191<c→(Prod.fst (dm c)=0→ae (Bz) (Gj bx aK aP bt c ty))∧(Gk bx aK aP bt c ty ae))∧(¬191<c→Int.NonNeg (6-0)∧True∧(-2147483648≤bp .u8 c (63)∧bp .u8 c (63)≤2147483647)∧True∧ae (.slice (cm 192) 1 1) (J.ar 203 [(0,(hI bx aK aP bt ty)),(1,(cV c)),(5,af.an (List.replicate 0 (.int .u8 0)) 1 true),(14,(vc bx aK aP c ty)),(15,BA),(191,af.an [.int .i32 (b2 .i32 (eZ .i32 (b2 .i32 (eZ .i32 (b2 .i32 (eZ .i32 (bp .i32 bx (7)) (6)) (bp .u8 aK (63))) (6)) (bp .u8 aP (63))) (6)) (bp .u8 c (63)))] 1 true),(192,af.an [.int .i32 (b2 .i32 (eZ .i32 (b2 .i32 (eZ .i32 (b2 .i32 (eZ .i32 (bp .i32 bx (7)) (6)) (bp .u8 aK (63))) (6)) (bp .u8 aP (63))) (6)) (bp .u8 c (63)))] 1 false (some (21,0)))])))) :
 b4 107 [.ptr (some ⟨0,0,0,0,5⟩),.slice (cm 1) 1 1] (J.of [hg bx aK aP bt 3 ty,gN c]) ae :=
 b9 cx (.az (.rounds 300) (he 8003 (he 1001 (.az (.val 2001 (.tuple [.int .i64 4,.int .u8 bb,.int .u8 aq])) (ak 7001 (ak 7004 (.az (.rounds 300) (he 13002 (.az (.val 14002 (.bool false)) (.az (.val 14006 (.bool false)) (ak 17001 (ak 17003 (ak 17004 (ak 17005 (he 13002 (.az (.val 14002 (.bool false)) (.az (.val 14006 (.bool false)) (ak 17001 (ak 17003 (ak 17004 (ak 17005 (he 13002 (.aI 14002 (he 8003 nk) (.aI 14006 (he 8003 nk) (ak 17001 (ak 17003 (ak 17004 (ak 17005 .nil)))))))))))))))))))))))))))) aW
end Go.Proofs.YtddnafghiejcoaaGreatDoor
namespace Go.cf
theorem VY:∀n:Fin 256,bp .i32 (n.val:Int) 31=(n.val%32:Nat):=by decide+kernel
theorem VZ:∀n:Fin 256,bp .i32 (n.val:Int) 15=(n.val%16:Nat):=by decide+kernel
theorem V0:∀n:Fin 256,bp .i32 (n.val:Int) 7=(n.val%8:Nat):=by decide+kernel
theorem V1:∀n:Fin 256,bp .u8 (n.val:Int) 63=(n.val%64:Nat):=by decide+kernel
theorem MP(b:UInt8):bp .i32 (b.toNat:Int) 31=(b.toNat%32:Nat):=VY ⟨b.toNat,b.toNat_lt⟩
theorem MQ(b:UInt8):bp .i32 (b.toNat:Int) 15=(b.toNat%16:Nat):=VZ ⟨b.toNat,b.toNat_lt⟩
theorem MR(b:UInt8):bp .i32 (b.toNat:Int) 7=(b.toNat%8:Nat):=V0 ⟨b.toNat,b.toNat_lt⟩
theorem ms(b:UInt8):bp .u8 (b.toNat:Int) 63=(b.toNat%64:Nat):=V1 ⟨b.toNat,b.toNat_lt⟩
theorem nl(a:Nat)(h:a<33554432):eZ .i32 (a:Int) 6=(a*64:Nat):=by unfold eZ;rw [show min (Int.toNat 6) (IntKind.bits .i32)=6 by decide];rw [show((a:Int)*2^6)=(a*64:Nat)by push_cast;rfl];exact qd (k:= .i32) (by simp only [h'];omega)
theorem nn(a x:Nat)(h:a<16777216)(aj:x<64):b2 .i32 ((a*64:Nat):Int) (x:Int)=(a*64+x:Nat):=by
 unfold b2
 have e:(BitVec.ofInt (IntKind.bits .i32) ((a*64:Nat):Int) ||| BitVec.ofInt (IntKind.bits .i32) (x:Int)).toNat=a*64+x:=by rw [show IntKind.bits .i32=32 by rfl,BitVec.ofInt_natCast,BitVec.ofInt_natCast,BitVec.toNat_or,BitVec.toNat_ofNat,BitVec.toNat_ofNat,Nat.mod_eq_of_lt ab,Nat.mod_eq_of_lt ab];rw [show a*64=2^6*a by omega,←Nat.two_pow_add_eq_or_of_lt ab a]
 rw [e];exact qd (k:= .i32) (by simp only [h'];omega)
end Go.cf
namespace Go.Proofs.YtddnafghiejcoaaGreatDoor
open Go.cf Go.Keys
set_option maxRecDepth 1000000
def V2(x:Nat×Nat×Nat):Int×Int×Int:=((x.1:Int),(x.2.1:Int),(x.2.2:Int))
theorem V3(n:Nat):dm (n:Int)=V2 (lead n):=by
 have av:((n:Int)<128)=(n<128):=propext ab;have a2:(194≤(n:Int)∧(n:Int)≤223)=(194≤n∧n≤223):=propext ab;have a3:((n:Int)=224)=(n=224):=propext ab;have a4:((n:Int)=237)=(n=237):=propext ab;have a5:(225≤(n:Int)∧(n:Int)≤239)=(225≤n∧n≤239):=propext ab;have pc:((n:Int)=240)=(n=240):=propext ab;have xN:(241≤(n:Int)∧(n:Int)≤243)=(241≤n∧n≤243):=propext ab;have Gl:((n:Int)=244)=(n=244):=propext ab;unfold dm lead;simp only [av,a2,a3,a4,a5,pc,xN,Gl];by_cases dI:n<128
 ·simp only [if_pos dI];rfl
 by_cases c2:194≤n∧n≤223
 ·simp only [if_neg dI,if_pos c2];rfl
 by_cases c3:n=224
 ·simp only [if_neg dI,if_neg c2,if_pos c3];rfl
 by_cases c4:n=237
 ·simp only [if_neg dI,if_neg c2,if_neg c3,if_pos c4];rfl
 by_cases c5:225≤n∧n≤239
 ·simp only [if_neg dI,if_neg c2,if_neg c3,if_neg c4,if_pos c5];rfl
 by_cases kZ:n=240
 ·simp only [if_neg dI,if_neg c2,if_neg c3,if_neg c4,if_neg c5,if_pos kZ];rfl
 by_cases p5:241≤n∧n≤243
 ·simp only [if_neg dI,if_neg c2,if_neg c3,if_neg c4,if_neg c5,if_neg kZ,if_pos p5];rfl
 by_cases o4:n=244
 ·simp only [if_neg dI,if_neg c2,if_neg c3,if_neg c4,if_neg c5,if_neg kZ,if_neg p5,if_pos o4];rfl
 ·simp only [if_neg dI,if_neg c2,if_neg c3,if_neg c4,if_neg c5,if_neg kZ,if_neg p5,if_neg o4];rfl
theorem rP(n:Nat):dm (n:Int)=(((lead n).1:Int),((lead n).2.1:Int),((lead n).2.2:Int)):=V3 n
theorem tv(b:UInt8):(dm (b.toNat:Int)).1=(lead b.toNat).1:=by rw [rP]
theorem jW(n:Nat):(lead n).1=0∨(lead n).1=1∨(lead n).1=2∨(lead n).1=3∨(lead n).1=4:=by
 unfold lead
 repeat' split
 all_goals simp
def b8(h:Bytes)(i:Nat)(k:Int):Int:=match h[i]? with|some b=>b.toNat|none=>k
abbrev cb(h:Bytes)(bx aK aP bt:Int)(ty:bL):af:=hg (b8 h 0 bx) (b8 h 1 aK) (b8 h 2 aP) (b8 h 3 bt) h.length ty
abbrev xO(r:Nat):af:=af.an [.int .i32 r] 1 false (some (21,0))
abbrev xP(r s:Nat):af:= {bk:=[.int .i32 r,.int .i32 s],es:=1,exact:=false,ro:=false,ad:=1,gd:=0,hj:=1,ty:=some (21,0)}
def np(bx aK aP bt c:Int)(ty:bL)(q:List Nat×Bytes)(v:aa)(h:J):Prop :=
 h.get 0=some (cb q.2 bx aK aP bt ty)∧h.get 1=some (gN c) ∧
 match q.1 with
 |[]=>v=.slice none 0 0
 |[r]=> ∃j,2≤j∧v=.slice (some ⟨j,0,0,0,1⟩) 1 1∧h.get j=some (xO r)
 |[r,s]=> ∃j,2≤j∧v=.slice (some ⟨j,1,0,0,1⟩) 2 2∧h.get j=some (xP r s)
 |_=>False
theorem vd{bx aK aP bt c:Int}{ty:bL}{q:List Nat×Bytes}{ai:Bytes}(e:q=([],ai)){h:J}(bf:h.get 0=some (cb ai bx aK aP bt ty))(ac:h.get 1=some (gN c)):np bx aK aP bt c ty q (.slice none 0 0) h:=by subst e;exact⟨bf,ac,rfl⟩
theorem fj{bx aK aP bt c:Int}{ty:bL}{q:List Nat×Bytes}{r:Nat}{ai:Bytes}(e:q=([r],ai)){h:J}{j:Nat}(a1:2≤j)(bf:h.get 0=some (cb ai bx aK aP bt ty))(ac:h.get 1=some (gN c))(bc:h.get j=some (xO r)) :
 np bx aK aP bt c ty q (.slice (some ⟨j,0,0,0,1⟩) 1 1) h:=by
 subst e;exact⟨bf,ac,j,a1,rfl,bc⟩
theorem hR{bx aK aP bt c:Int}{ty:bL}{q:List Nat×Bytes}{r s:Nat}{ai:Bytes}(e:q=([r,s],ai)){h:J}{j:Nat}(a1:2≤j)(bf:h.get 0=some (cb ai bx aK aP bt ty))(ac:h.get 1=some (gN c))(bc:h.get j=some (xP r s)) :
 np bx aK aP bt c ty q (.slice (some ⟨j,1,0,0,1⟩) 2 2) h:=by
 subst e;exact⟨bf,ac,j,a1,rfl,bc⟩
theorem dz(b:UInt8): -2147483648≤(b.toNat:Int)∧(b.toNat:Int)≤2147483647:=by have:=b.toNat_lt;omega
theorem jj(b:UInt8): -2147483648≤bp .u8 (b.toNat:Int) 63∧bp .u8 (b.toNat:Int) 63≤2147483647:=by rw [ms];omega
theorem lK(c:UInt8)(h:(lead c.toNat).1=0):b' [] c=([65533],[]):=by simp [b',hv,first,h]
theorem lL(c:UInt8)(h:(lead c.toNat).1=1):b' [] c=([c.toNat],[]):=by simp [b',hv,first,h]
theorem kh(b:UInt8)(r:Bytes)(n:Nat)(h:(lead b.toNat).1=n+2):first (b::r)=tail (n+1) 1 (lead b.toNat).2.1 (lead b.toNat).2.2 (b.toNat%2^(7- (n+2))) r:=by simp only [first,h];rw [if_neg ab,if_neg ab];rfl
theorem e'(c:UInt8)(n:Nat)(h:(lead c.toNat).1=n+2):b' [] c=([],[c]):=by simp [b',hv,kh c [] n h,tail]
theorem V4(c:UInt8)(bx aK aP bt:Int)(ty:bL) :
 ∃v ac,bS 107 [.ptr (some ⟨0,0,0,0,5⟩),.slice (some ⟨1,0,0,0,1⟩) 1 1] (J.of [hg bx aK aP bt 0 ty,gN c.toNat]) v ac∧np bx aK aP bt c.toNat ty (b' [] c) v ac:=by
 refine VR bx aK aP bt c.toNat 0 0 ty _ ?_
 delta Br MJ cV oa rN Ga
 rw [tv]
 refine⟨fun e=>fj (lK c ab) aS rfl rfl rfl,fun ap=>⟨fun e=>⟨dz c,fj (lL c ab) aS rfl rfl rfl⟩,fun a6=>⟨fun e=>⟨dz c,trivial,vd (e' c 0 ab) rfl rfl⟩,
  fun n2=>⟨fun e=>⟨dz c,trivial,vd (e' c 1 ab) rfl rfl⟩,fun eY=>⟨dz c,trivial,vd (e' c 2 (by have:=jW c.toNat;omega)) rfl rfl⟩⟩⟩⟩⟩
theorem hS:Int.NonNeg (6-0):=(show(0:Int)≤6 by decide)
theorem ve(k:Nat):hv k []=([],[]):=by cases k<;>rfl
theorem V5(k:Nat)(c:UInt8):hv (k+1) [c]=hv 1 [c]:=by
 have aE:∀n,1≤n→List.drop n [c]=[]:=fun n aR=>by rw [List.drop_eq_nil_iff];simpa using aR
 have aR:(first [c]).2.2=false→1≤(first [c]).2.1:=by
  intro h;by_cases bf:(lead c.toNat).1=0
  ·simp [first,bf]
  ·by_cases ac:(lead c.toNat).1=1
   ·simp [first,ac]
   ·rw [kh c [] ((lead c.toNat).1-2) ab]at h;simp [tail]at h
 simp only [hv];cases h:(first [c]).2.2 with
 |true=>simp
 |false=>simp only [Bool.false_eq_true,if_false];rw [aE _ (aR h),ve]
theorem vf(b:UInt8)(r:Bytes)(c:UInt8)(v:Nat)(ax:first (b::r++[c])=(v,(b::r).length,false)):b' (b::r) c=(v::(b' [] c).1,(b' [] c).2):=by
 unfold b';simp only [List.cons_append,List.length_cons,hv];have fy:first (b::(r++[c]))=(v,r.length+1,false):=ax
 simp only [fy,Bool.false_eq_true,if_false,List.drop_succ_cons];rw [List.drop_left,V5];rfl
theorem Gm(b:UInt8)(r:Bytes)(c:UInt8)(v:Nat)(ax:first (b::r++[c])=(v,(b::r).length+1,false)):b' (b::r) c=([v],[]):=by
 unfold b';simp only [List.cons_append,List.length_cons,hv];have fy:first (b::(r++[c]))=(v,r.length+1+1,false):=ax
 simp only [fy,Bool.false_eq_true,if_false,List.drop_succ_cons];rw [List.drop_eq_nil_of_le aM,ve]
theorem xQ(b:UInt8)(r:Bytes)(c:UInt8)(ax:(first (b::r++[c])).2.2=true):b' (b::r) c=([],b::r++[c]):=by unfold b';simp only [List.cons_append,List.length_cons,hv];have fy:(first (b::(r++[c]))).2.2=true:=ax;rw [if_pos fy]
theorem V6(aA c:UInt8)(aK aP bt:Int)(ty:bL)(aC:(lead aA.toNat).1=2) :
 ∃v ac,bS 107 [.ptr (some ⟨0,0,0,0,5⟩),.slice (some ⟨1,0,0,0,1⟩) 1 1] (J.of [hg aA.toNat aK aP bt 1 ty,gN c.toNat]) v ac∧np aA.toNat aK aP bt c.toNat ty (b' (aA:: []) c) v ac:=by
 have aZ:∀r,first (aA::r)=tail 1 1 (lead aA.toNat).2.1 (lead aA.toNat).2.2 (aA.toNat%2^(7-2)) r:=fun r=>kh aA r 0 aC
 have dr:(c.toNat<(lead aA.toNat).2.1∨(lead aA.toNat).2.2<c.toNat)→b' (aA:: []) c=(65533::(b' [] c).1,(b' [] c).2):=fun aw=>vf _ _ _ _ (by rw [show(aA:: [])++[c]=aA:: [c]by rfl,aZ];simp only [tail];rw [if_pos aw];rfl)
 have ob:¬(c.toNat<(lead aA.toNat).2.1∨(lead aA.toNat).2.2<c.toNat)→b' (aA:: []) c=([(aA.toNat%32)*64+c.toNat%64],[]):=fun aw=>Gm _ _ _ _ (by rw [show(aA:: [])++[c]=aA:: [c]by rfl,aZ];simp only [tail];rw [if_neg aw];rfl)
 have bh:b2 .i32 (eZ .i32 (bp .i32 (aA.toNat:Int) 31) 6) (bp .u8 (c.toNat:Int) 63)=(((aA.toNat%32)*64+c.toNat%64:Nat):Int):=by rw [MP,ms c,nl _ ab,nn _ _ ab ab]
 refine VS aA.toNat aK aP bt c.toNat (lead aA.toNat).2.1 (lead aA.toNat).2.2 ty _ ?_
 delta u9 Bt lJ cV hI tt qn Bw u' Bu Bs oa rN u7 Bv qk pg qm ql Gb
 rw [tv];refine⟨⟨by have k:=fun H=>rM aA.toNat H;simp only [n',rP,aC]at k;exact k _⟩,dz aA,trivial,fun cG=> ?_,fun gi=>⟨fun uC=> ?_,fun hle=>⟨hS,trivial,jj c,trivial,fj (ob ab) aS rfl rfl (congrArg (fun x=>some (af.an [.int .i32 x] 1 false (some (21,0)))) bh)⟩⟩⟩
 ·exact⟨fun e=>hR (by rw [dr ab,lK c ab]) aS rfl rfl rfl,fun ap=>⟨fun e=>⟨dz c,hR (by rw [dr ab,lL c ab]) aS rfl rfl rfl⟩,fun a6=>⟨fun e=>⟨dz c,trivial,fj (by rw [dr ab,e' c 0 ab]) aS rfl rfl rfl⟩,
   fun n2=>⟨fun e=>⟨dz c,trivial,fj (by rw [dr ab,e' c 1 ab]) aS rfl rfl rfl⟩,fun eY=>⟨dz c,trivial,fj (by rw [dr ab,e' c 2 (by have:=jW c.toNat;omega)]) aS rfl rfl rfl⟩⟩⟩⟩⟩
 ·exact⟨fun e=>hR (by rw [dr ab,lK c ab]) aS rfl rfl rfl,fun ap=>⟨fun e=>⟨dz c,hR (by rw [dr ab,lL c ab]) aS rfl rfl rfl⟩,fun a6=>⟨fun e=>⟨dz c,trivial,fj (by rw [dr ab,e' c 0 ab]) aS rfl rfl rfl⟩,
   fun n2=>⟨fun e=>⟨dz c,trivial,fj (by rw [dr ab,e' c 1 ab]) aS rfl rfl rfl⟩,fun eY=>⟨dz c,trivial,fj (by rw [dr ab,e' c 2 (by have:=jW c.toNat;omega)]) aS rfl rfl rfl⟩⟩⟩⟩⟩
theorem V7(aA c:UInt8)(aK aP bt:Int)(ty:bL)(aC:(lead aA.toNat).1=3) :
 ∃v ac,bS 107 [.ptr (some ⟨0,0,0,0,5⟩),.slice (some ⟨1,0,0,0,1⟩) 1 1] (J.of [hg aA.toNat aK aP bt 1 ty,gN c.toNat]) v ac∧np aA.toNat aK aP bt c.toNat ty (b' (aA:: []) c) v ac:=by
 have aZ:∀r,first (aA::r)=tail 2 1 (lead aA.toNat).2.1 (lead aA.toNat).2.2 (aA.toNat%2^(7-3)) r:=fun r=>kh aA r 1 aC
 have dr:(c.toNat<(lead aA.toNat).2.1∨(lead aA.toNat).2.2<c.toNat)→b' (aA:: []) c=(65533::(b' [] c).1,(b' [] c).2):=fun aw=>vf _ _ _ _ (by rw [show(aA:: [])++[c]=aA:: [c]by rfl,aZ];simp only [tail];rw [if_pos aw];rfl)
 have ob:¬(c.toNat<(lead aA.toNat).2.1∨(lead aA.toNat).2.2<c.toNat)→b' (aA:: []) c=([],aA:: []++[c]):=fun aw=>xQ _ _ _ (by rw [show(aA:: [])++[c]=aA:: [c]by rfl,aZ];simp only [tail];rw [if_neg aw])
 refine VT aA.toNat aK aP bt c.toNat (lead aA.toNat).2.1 (lead aA.toNat).2.2 ty _ ?_
 delta rO lJ cV qn Bw u' Bu Bs oa rN u7 Bv qk u9 Bt hI tt pg qm ql
 rw [tv];refine⟨⟨by have k:=fun H=>rM aA.toNat H;simp only [n',rP,aC]at k;exact k _⟩,dz aA,trivial,fun cG=> ?_,fun gi=>⟨fun uC=> ?_,fun hle=>⟨hS,trivial,jj c,trivial,vd (ob ab) rfl rfl⟩⟩⟩
 ·exact⟨fun e=>hR (by rw [dr ab,lK c ab]) aS rfl rfl rfl,fun ap=>⟨fun e=>⟨dz c,hR (by rw [dr ab,lL c ab]) aS rfl rfl rfl⟩,fun a6=>⟨fun e=>⟨dz c,trivial,fj (by rw [dr ab,e' c 0 ab]) aS rfl rfl rfl⟩,
   fun n2=>⟨fun e=>⟨dz c,trivial,fj (by rw [dr ab,e' c 1 ab]) aS rfl rfl rfl⟩,fun eY=>⟨dz c,trivial,fj (by rw [dr ab,e' c 2 (by have:=jW c.toNat;omega)]) aS rfl rfl rfl⟩⟩⟩⟩⟩
 ·exact⟨fun e=>hR (by rw [dr ab,lK c ab]) aS rfl rfl rfl,fun ap=>⟨fun e=>⟨dz c,hR (by rw [dr ab,lL c ab]) aS rfl rfl rfl⟩,fun a6=>⟨fun e=>⟨dz c,trivial,fj (by rw [dr ab,e' c 0 ab]) aS rfl rfl rfl⟩,
   fun n2=>⟨fun e=>⟨dz c,trivial,fj (by rw [dr ab,e' c 1 ab]) aS rfl rfl rfl⟩,fun eY=>⟨dz c,trivial,fj (by rw [dr ab,e' c 2 (by have:=jW c.toNat;omega)]) aS rfl rfl rfl⟩⟩⟩⟩⟩
theorem V8(aA c:UInt8)(aK aP bt:Int)(ty:bL)(aC:(lead aA.toNat).1=4) :
 ∃v ac,bS 107 [.ptr (some ⟨0,0,0,0,5⟩),.slice (some ⟨1,0,0,0,1⟩) 1 1] (J.of [hg aA.toNat aK aP bt 1 ty,gN c.toNat]) v ac∧np aA.toNat aK aP bt c.toNat ty (b' (aA:: []) c) v ac:=by
 have aZ:∀r,first (aA::r)=tail 3 1 (lead aA.toNat).2.1 (lead aA.toNat).2.2 (aA.toNat%2^(7-4)) r:=fun r=>kh aA r 2 aC
 have dr:(c.toNat<(lead aA.toNat).2.1∨(lead aA.toNat).2.2<c.toNat)→b' (aA:: []) c=(65533::(b' [] c).1,(b' [] c).2):=fun aw=>vf _ _ _ _ (by rw [show(aA:: [])++[c]=aA:: [c]by rfl,aZ];simp only [tail];rw [if_pos aw];rfl)
 have ob:¬(c.toNat<(lead aA.toNat).2.1∨(lead aA.toNat).2.2<c.toNat)→b' (aA:: []) c=([],aA:: []++[c]):=fun aw=>xQ _ _ _ (by rw [show(aA:: [])++[c]=aA:: [c]by rfl,aZ];simp only [tail];rw [if_neg aw])
 refine VU aA.toNat aK aP bt c.toNat (lead aA.toNat).2.1 (lead aA.toNat).2.2 ty _ ?_
 delta rO lJ cV qn Bw u' Bu Bs oa rN u7 Bv qk u9 Bt hI tt pg qm ql
 rw [tv];refine⟨⟨by have k:=fun H=>rM aA.toNat H;simp only [n',rP,aC]at k;exact k _⟩,dz aA,trivial,fun cG=> ?_,fun gi=>⟨fun uC=> ?_,fun hle=>⟨hS,trivial,jj c,trivial,vd (ob ab) rfl rfl⟩⟩⟩
 ·exact⟨fun e=>hR (by rw [dr ab,lK c ab]) aS rfl rfl rfl,fun ap=>⟨fun e=>⟨dz c,hR (by rw [dr ab,lL c ab]) aS rfl rfl rfl⟩,fun a6=>⟨fun e=>⟨dz c,trivial,fj (by rw [dr ab,e' c 0 ab]) aS rfl rfl rfl⟩,
   fun n2=>⟨fun e=>⟨dz c,trivial,fj (by rw [dr ab,e' c 1 ab]) aS rfl rfl rfl⟩,fun eY=>⟨dz c,trivial,fj (by rw [dr ab,e' c 2 (by have:=jW c.toNat;omega)]) aS rfl rfl rfl⟩⟩⟩⟩⟩
 ·exact⟨fun e=>hR (by rw [dr ab,lK c ab]) aS rfl rfl rfl,fun ap=>⟨fun e=>⟨dz c,hR (by rw [dr ab,lL c ab]) aS rfl rfl rfl⟩,fun a6=>⟨fun e=>⟨dz c,trivial,fj (by rw [dr ab,e' c 0 ab]) aS rfl rfl rfl⟩,
   fun n2=>⟨fun e=>⟨dz c,trivial,fj (by rw [dr ab,e' c 1 ab]) aS rfl rfl rfl⟩,fun eY=>⟨dz c,trivial,fj (by rw [dr ab,e' c 2 (by have:=jW c.toNat;omega)]) aS rfl rfl rfl⟩⟩⟩⟩⟩
theorem V9(aA a' c:UInt8)(aP bt:Int)(ty:bL)(aC:(lead aA.toNat).1=3)(ac:¬(a'.toNat<(lead aA.toNat).2.1∨(lead aA.toNat).2.2<a'.toNat)) :
 ∃v ac,bS 107 [.ptr (some ⟨0,0,0,0,5⟩),.slice (some ⟨1,0,0,0,1⟩) 1 1] (J.of [hg aA.toNat a'.toNat aP bt 2 ty,gN c.toNat]) v ac∧np aA.toNat a'.toNat aP bt c.toNat ty (b' (aA:: [a']) c) v ac:=by
 have aZ:∀r,first (aA::r)=tail 2 1 (lead aA.toNat).2.1 (lead aA.toNat).2.2 (aA.toNat%2^(7-3)) r:=fun r=>kh aA r 1 aC
 have dr:(c.toNat<128∨191<c.toNat)→b' (aA:: [a']) c=(65533::(b' [] c).1,(b' [] c).2):=fun aw=>vf _ _ _ _ (by rw [show(aA:: [a'])++[c]=aA:: [a',c]by rfl,aZ];simp only [tail];rw [if_neg ac,if_pos aw];rfl)
 have ob:¬(c.toNat<128∨191<c.toNat)→b' (aA:: [a']) c=([((aA.toNat%16)*64+a'.toNat%64)*64+c.toNat%64],[]):=fun aw=>Gm _ _ _ _ (by rw [show(aA:: [a'])++[c]=aA:: [a',c]by rfl,aZ];simp only [tail];rw [if_neg ac,if_neg aw];rfl)
 have bh:b2 .i32 (eZ .i32 (b2 .i32 (eZ .i32 (bp .i32 (aA.toNat:Int) 15) 6) (bp .u8 (a'.toNat:Int) 63)) 6) (bp .u8 (c.toNat:Int) 63)=((((aA.toNat%16)*64+a'.toNat%64)*64+c.toNat%64:Nat):Int):=by rw [MQ,ms a',ms c,nl _ ab,nn _ _ ab ab,nl _ ab,nn _ _ ab ab]
 refine VV aA.toNat a'.toNat aP bt c.toNat (lead aA.toNat).2.1 (lead aA.toNat).2.2 ty _ ?_
 delta xL Gd ph cV hI tt vb Gh xM Ge Gc oa rN xK Gg qk tu va ql Gf
 rw [tv];refine⟨⟨by have k:=fun H=>rM aA.toNat H;simp only [n',rP,aC]at k;exact k _⟩,dz aA,trivial,okF ab,okF ab,hS,trivial,jj a',trivial,fun cG=> ?_,fun gi=>⟨fun uC=> ?_,fun hle=>⟨hS,trivial,jj c,trivial,fj (ob ab) aS rfl rfl (congrArg (fun x=>some (af.an [.int .i32 x] 1 false (some (21,0)))) bh)⟩⟩⟩
 ·exact⟨fun e=>hR (by rw [dr ab,lK c ab]) aS rfl rfl rfl,fun ap=>⟨fun e=>⟨dz c,hR (by rw [dr ab,lL c ab]) aS rfl rfl rfl⟩,fun a6=>⟨fun e=>⟨dz c,trivial,fj (by rw [dr ab,e' c 0 ab]) aS rfl rfl rfl⟩,
   fun n2=>⟨fun e=>⟨dz c,trivial,fj (by rw [dr ab,e' c 1 ab]) aS rfl rfl rfl⟩,fun eY=>⟨dz c,trivial,fj (by rw [dr ab,e' c 2 (by have:=jW c.toNat;omega)]) aS rfl rfl rfl⟩⟩⟩⟩⟩
 ·exact⟨fun e=>hR (by rw [dr ab,lK c ab]) aS rfl rfl rfl,fun ap=>⟨fun e=>⟨dz c,hR (by rw [dr ab,lL c ab]) aS rfl rfl rfl⟩,fun a6=>⟨fun e=>⟨dz c,trivial,fj (by rw [dr ab,e' c 0 ab]) aS rfl rfl rfl⟩,
   fun n2=>⟨fun e=>⟨dz c,trivial,fj (by rw [dr ab,e' c 1 ab]) aS rfl rfl rfl⟩,fun eY=>⟨dz c,trivial,fj (by rw [dr ab,e' c 2 (by have:=jW c.toNat;omega)]) aS rfl rfl rfl⟩⟩⟩⟩⟩
theorem V'(aA a' c:UInt8)(aP bt:Int)(ty:bL)(aC:(lead aA.toNat).1=4)(ac:¬(a'.toNat<(lead aA.toNat).2.1∨(lead aA.toNat).2.2<a'.toNat)) :
 ∃v ac,bS 107 [.ptr (some ⟨0,0,0,0,5⟩),.slice (some ⟨1,0,0,0,1⟩) 1 1] (J.of [hg aA.toNat a'.toNat aP bt 2 ty,gN c.toNat]) v ac∧np aA.toNat a'.toNat aP bt c.toNat ty (b' (aA:: [a']) c) v ac:=by
 have aZ:∀r,first (aA::r)=tail 3 1 (lead aA.toNat).2.1 (lead aA.toNat).2.2 (aA.toNat%2^(7-4)) r:=fun r=>kh aA r 2 aC
 have dr:(c.toNat<128∨191<c.toNat)→b' (aA:: [a']) c=(65533::(b' [] c).1,(b' [] c).2):=fun aw=>vf _ _ _ _ (by rw [show(aA:: [a'])++[c]=aA:: [a',c]by rfl,aZ];simp only [tail];rw [if_neg ac,if_pos aw];rfl)
 have ob:¬(c.toNat<128∨191<c.toNat)→b' (aA:: [a']) c=([],aA:: [a']++[c]):=fun aw=>xQ _ _ _ (by rw [show(aA:: [a'])++[c]=aA:: [a',c]by rfl,aZ];simp only [tail];rw [if_neg ac,if_neg aw])
 refine VW aA.toNat a'.toNat aP bt c.toNat (lead aA.toNat).2.1 (lead aA.toNat).2.2 ty _ ?_
 delta Bx ph cV vb Gh xM Ge Gc oa rN xK Gg qk xL Gd hI tt tu va ql
 rw [tv];refine⟨⟨by have k:=fun H=>rM aA.toNat H;simp only [n',rP,aC]at k;exact k _⟩,dz aA,trivial,okF ab,okF ab,hS,trivial,jj a',trivial,fun cG=> ?_,fun gi=>⟨fun uC=> ?_,fun hle=>⟨hS,trivial,jj c,trivial,vd (ob ab) rfl rfl⟩⟩⟩
 ·exact⟨fun e=>hR (by rw [dr ab,lK c ab]) aS rfl rfl rfl,fun ap=>⟨fun e=>⟨dz c,hR (by rw [dr ab,lL c ab]) aS rfl rfl rfl⟩,fun a6=>⟨fun e=>⟨dz c,trivial,fj (by rw [dr ab,e' c 0 ab]) aS rfl rfl rfl⟩,
   fun n2=>⟨fun e=>⟨dz c,trivial,fj (by rw [dr ab,e' c 1 ab]) aS rfl rfl rfl⟩,fun eY=>⟨dz c,trivial,fj (by rw [dr ab,e' c 2 (by have:=jW c.toNat;omega)]) aS rfl rfl rfl⟩⟩⟩⟩⟩
 ·exact⟨fun e=>hR (by rw [dr ab,lK c ab]) aS rfl rfl rfl,fun ap=>⟨fun e=>⟨dz c,hR (by rw [dr ab,lL c ab]) aS rfl rfl rfl⟩,fun a6=>⟨fun e=>⟨dz c,trivial,fj (by rw [dr ab,e' c 0 ab]) aS rfl rfl rfl⟩,
   fun n2=>⟨fun e=>⟨dz c,trivial,fj (by rw [dr ab,e' c 1 ab]) aS rfl rfl rfl⟩,fun eY=>⟨dz c,trivial,fj (by rw [dr ab,e' c 2 (by have:=jW c.toNat;omega)]) aS rfl rfl rfl⟩⟩⟩⟩⟩
theorem Wa(aA a' bP c:UInt8)(bt:Int)(ty:bL)(aC:(lead aA.toNat).1=4)(ac:¬(a'.toNat<(lead aA.toNat).2.1∨(lead aA.toNat).2.2<a'.toNat))(ai:¬(bP.toNat<128∨191<bP.toNat)) :
 ∃v ac,bS 107 [.ptr (some ⟨0,0,0,0,5⟩),.slice (some ⟨1,0,0,0,1⟩) 1 1] (J.of [hg aA.toNat a'.toNat bP.toNat bt 3 ty,gN c.toNat]) v ac∧np aA.toNat a'.toNat bP.toNat bt c.toNat ty (b' (aA:: [a',bP]) c) v ac:=by
 have aZ:∀r,first (aA::r)=tail 3 1 (lead aA.toNat).2.1 (lead aA.toNat).2.2 (aA.toNat%2^(7-4)) r:=fun r=>kh aA r 2 aC
 have dr:(c.toNat<128∨191<c.toNat)→b' (aA:: [a',bP]) c=(65533::(b' [] c).1,(b' [] c).2):=fun aw=>vf _ _ _ _ (by rw [show(aA:: [a',bP])++[c]=aA:: [a',bP,c]by rfl,aZ];simp only [tail];rw [if_neg ac,if_neg ai,if_pos aw];rfl)
 have ob:¬(c.toNat<128∨191<c.toNat)→b' (aA:: [a',bP]) c=([(((aA.toNat%8)*64+a'.toNat%64)*64+bP.toNat%64)*64+c.toNat%64],[]):=fun aw=>Gm _ _ _ _ (by rw [show(aA:: [a',bP])++[c]=aA:: [a',bP,c]by rfl,aZ];simp only [tail];rw [if_neg ac,if_neg ai,if_neg aw];rfl)
 have bh:b2 .i32 (eZ .i32 (b2 .i32 (eZ .i32 (b2 .i32 (eZ .i32 (bp .i32 (aA.toNat:Int) 7) 6) (bp .u8 (a'.toNat:Int) 63)) 6) (bp .u8 (bP.toNat:Int) 63)) 6) (bp .u8 (c.toNat:Int) 63)=(((((aA.toNat%8)*64+a'.toNat%64)*64+bP.toNat%64)*64+c.toNat%64:Nat):Int):=by rw [MR,ms a',ms bP,ms c,nl _ ab,nn _ _ ab ab,nl _ ab,nn _ _ ab ab,nl _ ab,nn _ _ ab ab]
 refine VX aA.toNat a'.toNat bP.toNat bt c.toNat (lead aA.toNat).2.1 (lead aA.toNat).2.2 ty _ ?_
 delta BA ML vc cV hI tt Gk MO BB MM MK oa rN By MN qk Bz Gj ql Gi
 rw [tv];refine⟨⟨by have k:=fun H=>rM aA.toNat H;simp only [n',rP,aC]at k;exact k _⟩,dz aA,trivial,okF ab,okF ab,hS,trivial,jj a',trivial,okF ab,okF ab,hS,trivial,jj bP,trivial,fun cG=> ?_,fun gi=>⟨fun uC=> ?_,fun hle=>⟨hS,trivial,jj c,trivial,fj (ob ab) aS rfl rfl (congrArg (fun x=>some (af.an [.int .i32 x] 1 false (some (21,0)))) bh)⟩⟩⟩
 ·exact⟨fun e=>hR (by rw [dr ab,lK c ab]) aS rfl rfl rfl,fun ap=>⟨fun e=>⟨dz c,hR (by rw [dr ab,lL c ab]) aS rfl rfl rfl⟩,fun a6=>⟨fun e=>⟨dz c,trivial,fj (by rw [dr ab,e' c 0 ab]) aS rfl rfl rfl⟩,
   fun n2=>⟨fun e=>⟨dz c,trivial,fj (by rw [dr ab,e' c 1 ab]) aS rfl rfl rfl⟩,fun eY=>⟨dz c,trivial,fj (by rw [dr ab,e' c 2 (by have:=jW c.toNat;omega)]) aS rfl rfl rfl⟩⟩⟩⟩⟩
 ·exact⟨fun e=>hR (by rw [dr ab,lK c ab]) aS rfl rfl rfl,fun ap=>⟨fun e=>⟨dz c,hR (by rw [dr ab,lL c ab]) aS rfl rfl rfl⟩,fun a6=>⟨fun e=>⟨dz c,trivial,fj (by rw [dr ab,e' c 0 ab]) aS rfl rfl rfl⟩,
   fun n2=>⟨fun e=>⟨dz c,trivial,fj (by rw [dr ab,e' c 1 ab]) aS rfl rfl rfl⟩,fun eY=>⟨dz c,trivial,fj (by rw [dr ab,e' c 2 (by have:=jW c.toNat;omega)]) aS rfl rfl rfl⟩⟩⟩⟩⟩
end Go.Proofs.YtddnafghiejcoaaGreatDoor
namespace Go.Keys
def Good(s:bK):Prop :=
 match s.nx with
 |.ground=>s.al=[]∧s.aF=[]∧s.aD=[]
 |.dj=>s.al=[27]∧s.aF=[]∧s.aD=[]
 |.da=>s.aD=[]∧s.aF=s.al.drop (at' s.al)∧0<s.aF.length∧s.aF.length≤3∧(first s.aF).2.2=true
 |.sequence=>s.aF=[]∧s.aD=[]∧2≤s.al.length∧s.al.length<64
 |.single=>s.aF=[]∧s.aD=[]∧s.al=[27,79]
 |.cK=>s.aF=[]∧s.al.length<6∧s.al.isPrefixOf dW=true∧s.aD.length≤65536
theorem MS:∀(k i bb aq v:Nat)(l:Bytes),(tail k i bb aq v l).2.2=true→l.length<k∧(tail k i bb aq v l).2.1=i+l.length
 |0,i,bb,aq,v,l,h=>by simp [tail]at h
 |k+1,i,bb,aq,v,[],h=>by simp [tail]
 |k +1,i,bb,aq,v,c::r,h=>by
  simp only [tail]at h⊢;split at h
  ·simp at h
  ·rename_i aw;rw [if_neg aw];have:=MS k (i+1) 128 191 (v*64+c.toNat%64) r h;simp only [List.length_cons];omega
theorem MT:∀(k i bb aq v:Nat)(l:Bytes)(c:UInt8),(tail k i bb aq v l).2.2=true →
 (tail k i bb aq v (l++[c])).2.2=true∨((tail k i bb aq v (l++[c])).2.2=false∧(tail k i bb aq v (l++[c])).2.1=i+l.length+1)∨(tail k i bb aq v (l++[c]))=(65533,i+l.length,false)
 |0,i,bb,aq,v,l,c,h=>by simp [tail]at h
 |k +1,i,bb,aq,v,[],c,h=>by
  simp only [List.nil_append,tail,List.length_nil];split
  ·exact .inr (.inr rfl)
  ·cases k with
   |zero=>exact .inr (.inl ⟨rfl,rfl⟩)
   |succ k=>exact .inl rfl
 |k +1,i,bb,aq,v,b::r,c,h=>by
  simp only [tail,List.cons_append]at h⊢;split at h
  ·simp at h
  ·rename_i aw;rw [if_neg aw];have:=MT k (i+1) 128 191 (v*64+b.toNat%64) r c h;simp only [List.length_cons];have e:i+1+r.length=i+(r.length+1):= ab
   rwa [e]at this
theorem vg{h:Bytes}(ao:(first h).2.2=true):∃b r,h=b::r∧1<(lead b.toNat).1∧first h=tail ((lead b.toNat).1-1) 1 (lead b.toNat).2.1 (lead b.toNat).2.2 (b.toNat%2^(7- (lead b.toNat).1)) r:=by
 cases h with
 |nil=>simp [first]at ao
 |cons b r =>
  refine⟨b,r,rfl,?_⟩;by_cases bf:(lead b.toNat).1=0
  ·simp [first,bf]at ao
  ·by_cases ac:(lead b.toNat).1=1
   ·simp [first,ac]at ao
   ·exact⟨ab,by simp only [first,if_neg bf,if_neg ac]⟩
theorem MU{h:Bytes}(ao:(first h).2.2=true):h.length≤3:=by obtain⟨b,r,rfl,aC,e⟩:=vg ao;rw [e]at ao;have:=(MS _ _ _ _ _ _ ao).1;have:=MI b.toNat;simp only [List.length_cons];omega
theorem Wb{h:Bytes}(ao:(first h).2.2=true)(c:UInt8) :
 (first (h++[c])).2.2=true∨((first (h++[c])).2.2=false∧(first (h++[c])).2.1=h.length+1)∨first (h++[c])=(65533,h.length,false):=by
 obtain⟨b,r,rfl,aC,e⟩:=vg ao;rw [e]at ao;have k:=MT _ _ _ _ _ _ c ao
 have bu:first (b::r++[c])=tail ((lead b.toNat).1-1) 1 (lead b.toNat).2.1 (lead b.toNat).2.2 (b.toNat%2^(7- (lead b.toNat).1)) (r++[c]):=by simp only [List.cons_append,first];rw [if_neg ab,if_neg ab]
 rw [bu];have b7:1+r.length=(b::r).length:=by simp only [List.length_cons];omega
 rw [b7]at k;exact k
theorem Wc(c:UInt8):((first [c]).2.2=true)∨((first [c]).2.2=false∧(first [c]).2.1=1):=by
 simp only [first];split
 ·exact .inr ⟨rfl,rfl⟩
 ·split
  ·exact .inr ⟨rfl,rfl⟩
  ·have h:(lead c.toNat).1-1≠0:= ab;obtain⟨k,au⟩:=Nat.exists_eq_succ_of_ne_zero h;rw [au];exact .inl rfl
theorem ve(k:Nat):hv k []=([],[]):=by cases k<;>rfl
theorem Wd{c:UInt8}{h:Bytes} :(h++[c]).drop (h.length+1)=[]:=by rw [List.drop_eq_nil_iff];simp
theorem We{c:UInt8}{h:Bytes} :(h++[c]).drop h.length=[c]:=by rw [List.drop_append_of_le_length (Nat.le_refl _),List.drop_length];rfl
inductive Wf(h:Bytes)(c:UInt8):Prop where
 |more (e:b' h c=([],h++[c])) (o:(first (h++[c])).2.2=true)
 |whole (r:Nat) (e:b' h c=([r],[]))
 |broken (l:List Nat) (t:Bytes) (e:b' h c=(65533::l,t)) (bf:h≠[]) (bu:first (h++[c])=(65533,h.length,false))
theorem Wg(h:Bytes)(c:UInt8)(ao:h=[]∨(first h).2.2=true):Wf h c:=by
 have ex:∀x:Bytes,x≠[]→ ∀k,hv (k+1) x=if(first x).2.2 then([],x)else((first x).1::(hv k (x.drop (first x).2.1)).1,(hv k (x.drop (first x).2.1)).2):=by
  intro x aj k;cases x with
  |nil=>exact absurd rfl aj
  |cons b r=>rfl
 have bX:h++[c]≠[]:= aM;have aZ:b' h c=hv (h.length+1) (h++[c]):=rfl;rw [ex _ bX]at aZ;rcases ao with rfl|ao
 ·simp only [List.nil_append]at aZ;rcases Wc c with o|⟨o,n⟩
  ·rw [o,if_pos rfl]at aZ;exact .more aZ o
  ·rw [o,if_neg aM,n]at aZ;exact .whole (first [c]).1 (by rw [aZ];simp [ve])
 ·rcases Wb ao c with o|⟨o,n⟩|e
  ·rw [o,if_pos rfl]at aZ;exact .more aZ o
  ·rw [o,if_neg aM,n,Wd,ve]at aZ;exact .whole _ aZ
  ·rw [e]at aZ;simp only [if_neg (show ¬(false=true)by simp)]at aZ;exact .broken _ _ aZ (by rintro rfl;simp [first]at ao) e
theorem MV(r:Nat):1≤(put r).length:=by
 unfold put;simp only
 repeat' split
 all_goals simp
theorem Wh:put 65533=[239,191,189]:= aS
theorem Wi{k n:Nat}{b:UInt8}{r:Bytes}(e:first (b::r)=(65533,n,false)):jB (k+1) (b::r)=65533::jB k ((b::r).drop n):=by simp only [jB,e]
theorem Wj{h:Bytes}{c:UInt8}(ao:(first h).2.2=true)(e:first (h++[c])=(65533,h.length,false)):valid (h++[c])=false:=by
 have aC:=MU ao;obtain⟨b,r,rfl,ax,_⟩:=vg ao
 have bc:eE (b::r++[c])=65533::jB (r++[c]).length [c]:=by
  have dS:first (b::(r++[c]))=(65533,(b::r).length,false):=e
  show jB ((r++[c]).length+1) (b::(r++[c]))=_;rw [Wi dS]
  congr 1
  have:(b::(r++[c])).drop (b::r).length=[c]:=We (h:=b::r);rw [this]
 have Wk:∃x,jB (r++[c]).length [c]=x::jB ((r++[c]).length-1) ([c].drop (first [c]).2.1):=by have:(r++[c]).length=r.length+1:= aM;rw [this];exact⟨_,rfl⟩
 obtain⟨x,aj⟩:=Wk;unfold valid;rw [bc,aj];rw [beq_eq_false_iff_ne];intro eq;simp only [gf,List.flatMap_cons,Wh]at eq;have et:=congrArg List.length eq;have p:=MV x;simp only [List.length_append,List.length_cons,List.length_nil]at et;simp only [List.length_cons]at aC;have lM:r.length=2:= ab
 match r,lM with
 |[e8,il],_ =>
  simp only [List.cons_append,List.nil_append,List.cons.injEq]at eq;obtain⟨rfl,rfl,rfl,_⟩:=eq;revert ao
  decide
theorem Wl{k:Bytes}{c:UInt8}(h:k≠[]∨c≠27):at' (k++[c])=at' k:=by
 cases k with
 |nil =>
  rcases h with h|h
  ·exact absurd rfl h
  ·simp [at',h]
 |cons b r=>rfl
theorem Wm(k:Bytes):at' k≤k.length:=by
 cases k with
 |nil=>simp [at']
 |cons b r=>simp only [at',List.length_cons];split<;>omega
theorem Wn(k:Bytes):at' k≤1:=by
 cases k with
 |nil=>simp [at']
 |cons b r=>simp only [at'];split<;>omega
theorem Gn{s:bK}{c:UInt8}{no:bK→bK×List bl}(ah:s.aD=[])(bU:s.aF=s.al.drop (at' s.al))(ao:s.aF=[]∨(first s.aF).2.2=true)(au:s.al≠[]∨c≠27)(jf:∀s1:bK,s1.aD=[]→s1.aF=[]→Good (no s1).1):Good (gv s c no).1:=by
 have key:=Wg s.aF c ao;unfold gv;simp only;cases key with
 |more e o =>
  rw [e];simp only [ne_eq,List.append_eq_nil_iff,List.cons_ne_self,and_false,not_false_eq_true,and_self,if_true];refine⟨ah,?_,aM,?_,o⟩
  ·show s.aF++[c]=(s.al++[c]).drop (at' (s.al++[c]));rw [Wl au,bU,List.drop_append_of_le_length (Wm _)]
  ·exact MU o
 |whole r e =>
  rw [e];simp only [ne_eq,not_true_eq_false,false_and,if_false];split
  ·split<;>exact⟨rfl,rfl,ah⟩
  ·exact jf _ ah rfl
 |broken l t e bf bu =>
  rw [e]
  have bh:valid (s.al.drop (at' s.al)++[c])=false:=by
   rw [←bU];rcases ao with ao|ao
   ·exact absurd ao bf
   ·exact Wj ao bu
  have lv:¬s.al.length=at' s.al:=by intro q;apply bf;rw [bU,List.drop_eq_nil_iff];omega
  rw [if_neg aM,if_neg (by simp [bh,lv])];exact jf _ ah rfl
theorem rQ{s:bK}{e:bl}(h:s.aF=[])(p:s.aD=[]):Good (tell s e).1:=⟨rfl,h,p⟩
theorem BC{s:bK}{c:UInt8}(au:s.al=[])(bU:s.aF=[])(ah:s.aD=[]):Good (ground s c).1:=by
 unfold ground;split
 ·exact⟨rfl,bU,ah⟩
 ·rename_i aw;unfold iv;split
  ·exact rQ bU ah
  ·exact Gn ah (by rw [au,bU];rfl) (.inl bU) (.inr aw) fun s1 a b=>rQ b a
theorem Gp{s:bK}{c:UInt8}(bU:s.aF=[])(ah:s.aD=[]):Good (bad s c).1:=BC rfl bU ah
theorem Wo{s:bK}{c:UInt8}(au:s.al=[27])(bU:s.aF=[])(ah:s.aD=[]):Good (plain s c).1:=by
 unfold plain iv;split
 ·exact rQ bU ah
 ·exact Gn ah (by rw [au,bU];rfl) (.inl bU) (.inl (by rw [au];simp)) fun s1 a b=>Gp b a
theorem MW:∀(n:Nat)(k p:Bytes),k.length≤n→p.length≤65536→(shift n k p).1.isPrefixOf dW=true∧(shift n k p).2.length≤65536
 |0,k,p,h,ah=>by have:k=[]:=List.eq_nil_of_length_eq_zero ab;subst this;exact⟨by simp [shift],ah⟩
 |n+1,[],p,h,ah=>by simp [shift,ah]
 |n +1,b::r,p,h,ah=>by
  simp only [shift];split
  ·exact⟨‹_›,ah⟩
  ·refine MW n r _ (by simp only [List.length_cons]at h;omega) ?_;split
   ·simp;omega
   ·exact ah
theorem Wp{k:Bytes}(h:k.isPrefixOf dW=true):k.length≤6:=by rw [List.isPrefixOf_iff_prefix]at h;exact h.length_le
theorem xR{s:bK}(c:UInt8)(h:Good s):Good (step s c).1:=by
 obtain⟨nx,al,aF,aD⟩:=s;unfold step;cases nx with
 |ground=>exact BC h.1 h.2.1 h.2.2
 |dj =>
  obtain⟨ac,ai,a8⟩:=h;simp only at ac ai a8⊢;unfold dj;split
  ·exact BC rfl ai a8
  ·split
   ·exact⟨ai,a8,by simp [ac],by simp [ac]⟩
   ·split
    ·rename_i aw;exact⟨ai,a8,by simp [ac,aw]⟩
    ·exact Wo ac ai a8
 |da =>
  obtain⟨ac,ai,a8,bQ,bF⟩:=h;simp only at ac ai a8 bQ bF⊢;have au:al≠[]:=by rintro rfl;rw [ai]at a8;simp at a8
  exact Gn ac ai (.inr bF) (.inl au) fun s1 a b=>Gp b a
 |sequence =>
  obtain⟨ac,ai,a8,bQ⟩:=h;simp only at ac ai a8 bQ⊢;unfold sequence;split
  ·unfold done;split
   ·exact⟨ac,aM,aM,by simp [ai]⟩
   ·exact rQ ac ai
  ·split
   ·exact Gp ac ai
   ·split
    ·exact rQ ac ai
    ·refine⟨ac,ai,?_,?_⟩
     ·show 2≤(al++[c]).length;simp;omega
     ·show(al++[c]).length<64;simp only at *;simp;omega
 |single =>
  obtain⟨ac,ai,a8⟩:=h;simp only at ac ai a8⊢;unfold single;split
  ·exact rQ ac ai
  ·split
   ·exact rQ ac ai
   ·split
    ·exact rQ ac ai
    ·exact BC rfl ac ai
 |cK =>
  obtain⟨ac,ai,a8,bQ⟩:=h;simp only at ac ai a8 bQ⊢;unfold cK;simp only;have k:=MW (al.length+1) (al++[c]) aD aM bQ;split
  ·exact⟨rfl,ac,rfl⟩
  ·have:=Wp k.1;exact⟨ac,by show(shift _ _ _).1.length<6;omega,k.1,k.2⟩
theorem BD:∀(b:Bytes){s:bK},Good s→Good (dd s b).1
 |[],s,h=>h
 |c::r,s,h=>BD r (xR c h)
end Go.Keys
namespace Go.Keys
theorem Gq{s:bK}{c:UInt8}{no:bK→bK×List bl}{k:Nat}(au:1≤k)(h:∀s1,(no s1).2.length≤k):(gv s c no).2.length≤k:=by
 unfold gv;simp only;split
 ·simp
 ·split
  ·split<;>(simp only [tell,List.length_cons,List.length_nil];omega)
  ·exact h _
theorem BE(s:bK)(c:UInt8):(ground s c).2.length≤1:=by
 unfold ground;split
 ·simp
 ·unfold iv;split
  ·simp [tell]
  ·exact Gq aS fun s1=>by simp [tell]
theorem Gr(s:bK)(c:UInt8):(bad s c).2.length≤2:=by unfold bad;simp only [List.length_cons];have:=BE (tell s (gM s.al)).1 c;omega
theorem Wq(s:bK)(c:UInt8):(plain s c).2.length≤2:=by
 unfold plain iv;split
 ·simp [tell]
 ·exact Gq aS fun s1=>Gr s1 c
theorem Wr(s:bK)(c:UInt8):(step s c).2.length≤2:=by
 unfold step;split
 ·have:=BE s c;omega
 ·unfold dj;split
  ·simp only [List.length_cons];have:=BE (tell s (er 4)).1 c;omega
  ·split
   ·simp
   ·split
    ·simp
    ·exact Wq s c
 ·exact Gq aS fun s1=>Gr s1 c
 ·unfold sequence;split
  ·unfold done;split<;>simp [tell]
  ·split
   ·exact Gr s c
   ·split<;>simp [tell]
 ·unfold single;split
  ·simp [tell]
  ·split
   ·simp [tell]
   ·split
    ·simp [tell]
    ·simp only [List.length_cons];have:=BE (tell s (fi 79 2)).1 c;omega
 ·unfold cK;simp only;split<;>simp [tell]
end Go.Keys
namespace Go.Proofs.YtddnafghiejcoaaGreatDoor
open Go.cf Go.Keys
set_option maxRecDepth 1000000
theorem Ws(ae:bI)(aW:ae (.tuple [.int .i32 0,.int .i64 0]) (J.ar 7 [(0,af.an [.str []] 1 true (some (9,1)))])) :
 b4 54 [.str []] (⟨0,.nil⟩) ae :=
 b9 cx (.nil) aW
theorem Wt(aA:UInt8)(r:Bytes)(bb aq:Int)(ae:bI)(aW:ca 99 [.int .u8 (↑(UInt8.toNat aA):Int)] (J.ar 36 [(0,af.an [.str (aA::r)] 1 true (some (9,1)))]) (.tuple [.int .i64 0,.int .u8 bb,.int .u8 aq]) (J.ar 36 [(0,af.an [.str (aA::r)] 1 true (some (9,1)))])∧ae (.tuple [.int .i32 65533,.int .i64 1]) (J.ar 45 [(0,af.an [.str (aA::r)] 1 true (some (9,1)))])) :
 b4 54 [.str (aA::r)] (⟨0,.nil⟩) ae :=
 b9 cx (he 3003 (he 1001 (.az (.val 2001 (.tuple [.int .i64 0,.int .u8 bb,.int .u8 aq])) .nil))) aW
theorem Wu(aA:UInt8)(r:Bytes)(bb aq:Int)(ae:bI)(aW:ca 99 [.int .u8 (↑(UInt8.toNat aA):Int)] (J.ar 36 [(0,af.an [.str (aA::r)] 1 true (some (9,1)))]) (.tuple [.int .i64 1,.int .u8 bb,.int .u8 aq]) (J.ar 36 [(0,af.an [.str (aA::r)] 1 true (some (9,1)))])∧(-2147483648≤(↑(UInt8.toNat aA):Int)∧(↑(UInt8.toNat aA):Int)≤2147483647)∧ae (.tuple [.int .i32 (↑(UInt8.toNat aA):Int),.int .i64 1]) (J.ar 49 [(0,af.an [.str (aA::r)] 1 true (some (9,1)))])) :
 b4 54 [.str (aA::r)] (⟨0,.nil⟩) ae :=
 b9 cx (he 3003 (he 1001 (.az (.val 2001 (.tuple [.int .i64 1,.int .u8 bb,.int .u8 aq])) (ak 6001 .nil)))) aW
theorem Wv(aA:UInt8)(bb aq:Int)(ae:bI)(aW:ca 99 [.int .u8 (↑(UInt8.toNat aA):Int)] (J.ar 36 [(0,af.an [.str [aA]] 1 true (some (9,1)))]) (.tuple [.int .i64 2,.int .u8 bb,.int .u8 aq]) (J.ar 36 [(0,af.an [.str [aA]] 1 true (some (9,1)))])∧(-2147483648≤(↑(UInt8.toNat aA):Int)∧(↑(UInt8.toNat aA):Int)≤2147483647)∧True∧ae (.tuple [.int .i32 65533,.int .i64 1]) (J.ar 61 [(0,af.an [.str [aA]] 1 true (some (9,1)))])) :
 b4 54 [.str ([aA])] (⟨0,.nil⟩) ae :=
 b9 cx (he 3003 (he 1001 (.az (.val 2001 (.tuple [.int .i64 2,.int .u8 bb,.int .u8 aq])) qj))) aW
theorem Ww(aA a':UInt8)(r:Bytes)(bb aq:Int)(ae:bI)(aW:ca 99 [.int .u8 (↑(UInt8.toNat aA):Int)] (J.ar 36 [(0,af.an [.str (aA::a'::r)] 1 true (some (9,1)))]) (.tuple [.int .i64 2,.int .u8 bb,.int .u8 aq]) (J.ar 36 [(0,af.an [.str (aA::a'::r)] 1 true (some (9,1)))])∧(-2147483648≤(↑(UInt8.toNat aA):Int)∧(↑(UInt8.toNat aA):Int)≤2147483647)∧True∧((↑(UInt8.toNat a'):Int)<bb→ae (.tuple [.int .i32 65533,.int .i64 1]) (J.ar 78 [(0,af.an [.str (aA::a'::r)] 1 true (some (9,1)))]))∧(¬(↑(UInt8.toNat a'):Int)<bb→(aq<(↑(UInt8.toNat a'):Int)→ae (.tuple [.int .i32 65533,.int .i64 1]) (J.ar 78 [(0,af.an [.str (aA::a'::r)] 1 true (some (9,1)))]))∧(¬aq<(↑(UInt8.toNat a'):Int)→Int.NonNeg (6-0)∧True∧(-2147483648≤bp .u8 (↑(UInt8.toNat a'):Int) (63)∧bp .u8 (↑(UInt8.toNat a'):Int) (63)≤2147483647)∧True∧ae (.tuple [.int .i32 (b2 .i32 (eZ .i32 (bp .i32 (↑(UInt8.toNat aA):Int) (31)) (6)) (bp .u8 (↑(UInt8.toNat a'):Int) (63))),.int .i64 2]) (J.ar 94 [(0,af.an [.str (aA::a'::r)] 1 true (some (9,1)))])))) :
 b4 54 [.str (aA::a'::r)] (⟨0,.nil⟩) ae :=
 b9 cx (he 3003 (he 1001 (.az (.val 2001 (.tuple [.int .i64 2,.int .u8 bb,.int .u8 aq])) (ak 7001 (ak 7004 (.az (.rounds 300) (he 13002 (.aI 14002 .nil (.aI 14006 .nil (ak 17001 (ak 17003 (ak 17004 (ak 17005 .nil))))))))))))) aW
theorem Wx(aA:UInt8)(bb aq:Int)(ae:bI)(aW:ca 99 [.int .u8 (↑(UInt8.toNat aA):Int)] (J.ar 36 [(0,af.an [.str [aA]] 1 true (some (9,1)))]) (.tuple [.int .i64 3,.int .u8 bb,.int .u8 aq]) (J.ar 36 [(0,af.an [.str [aA]] 1 true (some (9,1)))])∧(-2147483648≤(↑(UInt8.toNat aA):Int)∧(↑(UInt8.toNat aA):Int)≤2147483647)∧True∧ae (.tuple [.int .i32 65533,.int .i64 1]) (J.ar 61 [(0,af.an [.str [aA]] 1 true (some (9,1)))])) :
 b4 54 [.str ([aA])] (⟨0,.nil⟩) ae :=
 b9 cx (he 3003 (he 1001 (.az (.val 2001 (.tuple [.int .i64 3,.int .u8 bb,.int .u8 aq])) qj))) aW
theorem Wy(aA a':UInt8)(bb aq:Int)(ae:bI)(aW:ca 99 [.int .u8 (↑(UInt8.toNat aA):Int)] (J.ar 36 [(0,af.an [.str [aA,a']] 1 true (some (9,1)))]) (.tuple [.int .i64 3,.int .u8 bb,.int .u8 aq]) (J.ar 36 [(0,af.an [.str [aA,a']] 1 true (some (9,1)))])∧(-2147483648≤(↑(UInt8.toNat aA):Int)∧(↑(UInt8.toNat aA):Int)≤2147483647)∧True∧((↑(UInt8.toNat a'):Int)<bb→ae (.tuple [.int .i32 65533,.int .i64 1]) (J.ar 78 [(0,af.an [.str [aA,a']] 1 true (some (9,1)))]))∧(¬(↑(UInt8.toNat a'):Int)<bb→(aq<(↑(UInt8.toNat a'):Int)→ae (.tuple [.int .i32 65533,.int .i64 1]) (J.ar 78 [(0,af.an [.str [aA,a']] 1 true (some (9,1)))]))∧(¬aq<(↑(UInt8.toNat a'):Int)→Int.NonNeg (6-0)∧True∧(-2147483648≤bp .u8 (↑(UInt8.toNat a'):Int) (63)∧bp .u8 (↑(UInt8.toNat a'):Int) (63)≤2147483647)∧True∧ae (.tuple [.int .i32 65533,.int .i64 2]) (J.ar 96 [(0,af.an [.str [aA,a']] 1 true (some (9,1)))])))) :
 b4 54 [.str ([aA,a'])] (⟨0,.nil⟩) ae :=
 b9 cx (he 3003 (he 1001 (.az (.val 2001 (.tuple [.int .i64 3,.int .u8 bb,.int .u8 aq])) (ak 7001 (ak 7004 (.az (.rounds 300) (he 13002 (.aI 14002 .nil (.aI 14006 .nil (ak 17001 (ak 17003 (ak 17004 (ak 17005 .nil))))))))))))) aW
theorem Wz(aA a' bP:UInt8)(r:Bytes)(bb aq:Int)(ae:bI)(aW:ca 99 [.int .u8 (↑(UInt8.toNat aA):Int)] (J.ar 36 [(0,af.an [.str (aA::a'::bP::r)] 1 true (some (9,1)))]) (.tuple [.int .i64 3,.int .u8 bb,.int .u8 aq]) (J.ar 36 [(0,af.an [.str (aA::a'::bP::r)] 1 true (some (9,1)))])∧(-2147483648≤(↑(UInt8.toNat aA):Int)∧(↑(UInt8.toNat aA):Int)≤2147483647)∧True∧((↑(UInt8.toNat a'):Int)<bb→ae (.tuple [.int .i32 65533,.int .i64 1]) (J.ar 78 [(0,af.an [.str (aA::a'::bP::r)] 1 true (some (9,1)))]))∧(¬(↑(UInt8.toNat a'):Int)<bb→(aq<(↑(UInt8.toNat a'):Int)→ae (.tuple [.int .i32 65533,.int .i64 1]) (J.ar 78 [(0,af.an [.str (aA::a'::bP::r)] 1 true (some (9,1)))]))∧(¬aq<(↑(UInt8.toNat a'):Int)→Int.NonNeg (6-0)∧True∧(-2147483648≤bp .u8 (↑(UInt8.toNat a'):Int) (63)∧bp .u8 (↑(UInt8.toNat a'):Int) (63)≤2147483647)∧True∧((↑(UInt8.toNat bP):Int)<128→ae (.tuple [.int .i32 65533,.int .i64 2]) (J.ar 113 [(0,af.an [.str (aA::a'::bP::r)] 1 true (some (9,1)))]))∧(¬(↑(UInt8.toNat bP):Int)<128→(191<(↑(UInt8.toNat bP):Int)→ae (.tuple [.int .i32 65533,.int .i64 2]) (J.ar 113 [(0,af.an [.str (aA::a'::bP::r)] 1 true (some (9,1)))]))∧(¬191<(↑(UInt8.toNat bP):Int)→Int.NonNeg (6-0)∧True∧(-2147483648≤bp .u8 (↑(UInt8.toNat bP):Int) (63)∧bp .u8 (↑(UInt8.toNat bP):Int) (63)≤2147483647)∧True∧ae (.tuple [.int .i32 (b2 .i32 (eZ .i32 (b2 .i32 (eZ .i32 (bp .i32 (↑(UInt8.toNat aA):Int) (15)) (6)) (bp .u8 (↑(UInt8.toNat a'):Int) (63))) (6)) (bp .u8 (↑(UInt8.toNat bP):Int) (63))),.int .i64 3]) (J.ar 129 [(0,af.an [.str (aA::a'::bP::r)] 1 true (some (9,1)))])))))) :
 b4 54 [.str (aA::a'::bP::r)] (⟨0,.nil⟩) ae :=
 b9 cx (he 3003 (he 1001 (.az (.val 2001 (.tuple [.int .i64 3,.int .u8 bb,.int .u8 aq])) (ak 7001 (ak 7004 (.az (.rounds 300) (he 13002 (.aI 14002 .nil (.aI 14006 .nil (ak 17001 (ak 17003 (ak 17004 (ak 17005 (he 13002 (.aI 14002 .nil (.aI 14006 .nil (ak 17001 (ak 17003 (ak 17004 (ak 17005 .nil)))))))))))))))))))) aW
theorem WA(aA:UInt8)(bb aq:Int)(ae:bI)(aW:ca 99 [.int .u8 (↑(UInt8.toNat aA):Int)] (J.ar 36 [(0,af.an [.str [aA]] 1 true (some (9,1)))]) (.tuple [.int .i64 4,.int .u8 bb,.int .u8 aq]) (J.ar 36 [(0,af.an [.str [aA]] 1 true (some (9,1)))])∧(-2147483648≤(↑(UInt8.toNat aA):Int)∧(↑(UInt8.toNat aA):Int)≤2147483647)∧True∧ae (.tuple [.int .i32 65533,.int .i64 1]) (J.ar 61 [(0,af.an [.str [aA]] 1 true (some (9,1)))])) :
 b4 54 [.str ([aA])] (⟨0,.nil⟩) ae :=
 b9 cx (he 3003 (he 1001 (.az (.val 2001 (.tuple [.int .i64 4,.int .u8 bb,.int .u8 aq])) qj))) aW
theorem WB(aA a':UInt8)(bb aq:Int)(ae:bI)(aW:ca 99 [.int .u8 (↑(UInt8.toNat aA):Int)] (J.ar 36 [(0,af.an [.str [aA,a']] 1 true (some (9,1)))]) (.tuple [.int .i64 4,.int .u8 bb,.int .u8 aq]) (J.ar 36 [(0,af.an [.str [aA,a']] 1 true (some (9,1)))])∧(-2147483648≤(↑(UInt8.toNat aA):Int)∧(↑(UInt8.toNat aA):Int)≤2147483647)∧True∧((↑(UInt8.toNat a'):Int)<bb→ae (.tuple [.int .i32 65533,.int .i64 1]) (J.ar 78 [(0,af.an [.str [aA,a']] 1 true (some (9,1)))]))∧(¬(↑(UInt8.toNat a'):Int)<bb→(aq<(↑(UInt8.toNat a'):Int)→ae (.tuple [.int .i32 65533,.int .i64 1]) (J.ar 78 [(0,af.an [.str [aA,a']] 1 true (some (9,1)))]))∧(¬aq<(↑(UInt8.toNat a'):Int)→Int.NonNeg (6-0)∧True∧(-2147483648≤bp .u8 (↑(UInt8.toNat a'):Int) (63)∧bp .u8 (↑(UInt8.toNat a'):Int) (63)≤2147483647)∧True∧ae (.tuple [.int .i32 65533,.int .i64 2]) (J.ar 96 [(0,af.an [.str [aA,a']] 1 true (some (9,1)))])))) :
 b4 54 [.str ([aA,a'])] (⟨0,.nil⟩) ae :=
 b9 cx (he 3003 (he 1001 (.az (.val 2001 (.tuple [.int .i64 4,.int .u8 bb,.int .u8 aq])) (ak 7001 (ak 7004 (.az (.rounds 300) (he 13002 (.aI 14002 .nil (.aI 14006 .nil (ak 17001 (ak 17003 (ak 17004 (ak 17005 .nil))))))))))))) aW
theorem WC(aA a' bP:UInt8)(bb aq:Int)(ae:bI)(aW:ca 99 [.int .u8 (↑(UInt8.toNat aA):Int)] (J.ar 36 [(0,af.an [.str [aA,a',bP]] 1 true (some (9,1)))]) (.tuple [.int .i64 4,.int .u8 bb,.int .u8 aq]) (J.ar 36 [(0,af.an [.str [aA,a',bP]] 1 true (some (9,1)))])∧(-2147483648≤(↑(UInt8.toNat aA):Int)∧(↑(UInt8.toNat aA):Int)≤2147483647)∧True∧((↑(UInt8.toNat a'):Int)<bb→ae (.tuple [.int .i32 65533,.int .i64 1]) (J.ar 78 [(0,af.an [.str [aA,a',bP]] 1 true (some (9,1)))]))∧(¬(↑(UInt8.toNat a'):Int)<bb→(aq<(↑(UInt8.toNat a'):Int)→ae (.tuple [.int .i32 65533,.int .i64 1]) (J.ar 78 [(0,af.an [.str [aA,a',bP]] 1 true (some (9,1)))]))∧(¬aq<(↑(UInt8.toNat a'):Int)→Int.NonNeg (6-0)∧True∧(-2147483648≤bp .u8 (↑(UInt8.toNat a'):Int) (63)∧bp .u8 (↑(UInt8.toNat a'):Int) (63)≤2147483647)∧True∧((↑(UInt8.toNat bP):Int)<128→ae (.tuple [.int .i32 65533,.int .i64 2]) (J.ar 113 [(0,af.an [.str [aA,a',bP]] 1 true (some (9,1)))]))∧(¬(↑(UInt8.toNat bP):Int)<128→(191<(↑(UInt8.toNat bP):Int)→ae (.tuple [.int .i32 65533,.int .i64 2]) (J.ar 113 [(0,af.an [.str [aA,a',bP]] 1 true (some (9,1)))]))∧(¬191<(↑(UInt8.toNat bP):Int)→Int.NonNeg (6-0)∧True∧(-2147483648≤bp .u8 (↑(UInt8.toNat bP):Int) (63)∧bp .u8 (↑(UInt8.toNat bP):Int) (63)≤2147483647)∧True∧ae (.tuple [.int .i32 65533,.int .i64 3]) (J.ar 131 [(0,af.an [.str [aA,a',bP]] 1 true (some (9,1)))])))))) :
 b4 54 [.str ([aA,a',bP])] (⟨0,.nil⟩) ae :=
 b9 cx (he 3003 (he 1001 (.az (.val 2001 (.tuple [.int .i64 4,.int .u8 bb,.int .u8 aq])) (ak 7001 (ak 7004 (.az (.rounds 300) (he 13002 (.aI 14002 .nil (.aI 14006 .nil (ak 17001 (ak 17003 (ak 17004 (ak 17005 (he 13002 (.aI 14002 .nil (.aI 14006 .nil (ak 17001 (ak 17003 (ak 17004 (ak 17005 .nil)))))))))))))))))))) aW
theorem WD(aA a' bP ei:UInt8)(r:Bytes)(bb aq:Int)(ae:bI)(aW:ca 99 [.int .u8 (↑(UInt8.toNat aA):Int)] (J.ar 36 [(0,af.an [.str (aA::a'::bP::ei::r)] 1 true (some (9,1)))]) (.tuple [.int .i64 4,.int .u8 bb,.int .u8 aq]) (J.ar 36 [(0,af.an [.str (aA::a'::bP::ei::r)] 1 true (some (9,1)))])∧(-2147483648≤(↑(UInt8.toNat aA):Int)∧(↑(UInt8.toNat aA):Int)≤2147483647)∧True∧((↑(UInt8.toNat a'):Int)<bb→ae (.tuple [.int .i32 65533,.int .i64 1]) (J.ar 78 [(0,af.an [.str (aA::a'::bP::ei::r)] 1 true (some (9,1)))]))∧(¬(↑(UInt8.toNat a'):Int)<bb→(aq<(↑(UInt8.toNat a'):Int)→ae (.tuple [.int .i32 65533,.int .i64 1]) (J.ar 78 [(0,af.an [.str (aA::a'::bP::ei::r)] 1 true (some (9,1)))]))∧(¬aq<(↑(UInt8.toNat a'):Int)→Int.NonNeg (6-0)∧True∧(-2147483648≤bp .u8 (↑(UInt8.toNat a'):Int) (63)∧bp .u8 (↑(UInt8.toNat a'):Int) (63)≤2147483647)∧True∧((↑(UInt8.toNat bP):Int)<128→ae (.tuple [.int .i32 65533,.int .i64 2]) (J.ar 113 [(0,af.an [.str (aA::a'::bP::ei::r)] 1 true (some (9,1)))]))∧(¬(↑(UInt8.toNat bP):Int)<128→(191<(↑(UInt8.toNat bP):Int)→ae (.tuple [.int .i32 65533,.int .i64 2]) (J.ar 113 [(0,af.an [.str (aA::a'::bP::ei::r)] 1 true (some (9,1)))]))∧(¬191<(↑(UInt8.toNat bP):Int)→Int.NonNeg (6-0)∧True∧(-2147483648≤bp .u8 (↑(UInt8.toNat bP):Int) (63)∧bp .u8 (↑(UInt8.toNat bP):Int) (63)≤2147483647)∧True∧((↑(UInt8.toNat ei):Int)<128→ae (.tuple [.int .i32 65533,.int .i64 3]) (J.ar 148 [(0,af.an [.str (aA::a'::bP::ei::r)] 1 true (some (9,1)))]))∧(¬(↑(UInt8.toNat ei):Int)<128→(191<(↑(UInt8.toNat ei):Int)→ae (.tuple [.int .i32 65533,.int .i64 3]) (J.ar 148 [(0,af.an [.str (aA::a'::bP::ei::r)] 1 true (some (9,1)))]))∧(¬191<(↑(UInt8.toNat ei):Int)→Int.NonNeg (6-0)∧True∧(-2147483648≤bp .u8 (↑(UInt8.toNat ei):Int) (63)∧bp .u8 (↑(UInt8.toNat ei):Int) (63)≤2147483647)∧True∧ae (.tuple [.int .i32 (b2 .i32 (eZ .i32 (b2 .i32 (eZ .i32 (b2 .i32 (eZ .i32 (bp .i32 (↑(UInt8.toNat aA):Int) (7)) (6)) (bp .u8 (↑(UInt8.toNat a'):Int) (63))) (6)) (bp .u8 (↑(UInt8.toNat bP):Int) (63))) (6)) (bp .u8 (↑(UInt8.toNat ei):Int) (63))),.int .i64 4]) (J.ar 164 [(0,af.an [.str (aA::a'::bP::ei::r)] 1 true (some (9,1)))])))))))) :
 b4 54 [.str (aA::a'::bP::ei::r)] (⟨0,.nil⟩) ae :=
 b9 cx (he 3003 (he 1001 (.az (.val 2001 (.tuple [.int .i64 4,.int .u8 bb,.int .u8 aq])) (ak 7001 (ak 7004 (.az (.rounds 300) (he 13002 (.aI 14002 .nil (.aI 14006 .nil (ak 17001 (ak 17003 (ak 17004 (ak 17005 (he 13002 (.aI 14002 .nil (.aI 14006 .nil (ak 17001 (ak 17003 (ak 17004 (ak 17005 (he 13002 (.aI 14002 .nil (.aI 14006 .nil (ak 17001 (ak 17003 (ak 17004 (ak 17005 .nil))))))))))))))))))))))))))) aW
def gO(s:Bytes):aa:= .tuple [.int .i32 ((first s).1:Int),.int .i64 ((first s).2.1:Int)]
theorem gl{s:Bytes}{a k:Nat}{x:Bool}(h:first s=(a,k,x)){cv e6:Int}(aT:cv=a)(au:e6=k):aa.tuple [.int .i32 cv,.int .i64 e6]=gO s:=by unfold gO;rw [h,aT,au]
theorem WE(H:J):bS 54 [.str []] H (gO []) H:=b1.eT (Ws (fun v _=>v=gO []) rfl) rfl rfl H
theorem oc(b:UInt8)(n:Nat)(h:(lead b.toNat).1=n)(H:J):bS 99 [.int .u8 (b.toNat:Int)] H (.tuple [.int .i64 (n:Int),.int .u8 ((lead b.toNat).2.1:Int),.int .u8 ((lead b.toNat).2.2:Int)]) H:=by have k:=rM b.toNat H;simp only [n',rP,h]at k;exact k
theorem WG(aA:UInt8)(r:Bytes)(aC:(lead aA.toNat).1=0)(H:J):bS 54 [.str (aA::r)] H (gO (aA::r)) H:=by refine b1.eT (Wt aA r (lead aA.toNat).2.1 (lead aA.toNat).2.2 (fun v _=>v=gO (aA::r)) ?_) rfl rfl H;exact⟨⟨oc aA 0 aC _⟩,gl (show first (aA::r)=(65533,1,false)by simp [first,aC]) rfl rfl⟩
theorem WH(aA:UInt8)(r:Bytes)(aC:(lead aA.toNat).1=1)(H:J):bS 54 [.str (aA::r)] H (gO (aA::r)) H:=by refine b1.eT (Wu aA r (lead aA.toNat).2.1 (lead aA.toNat).2.2 (fun v _=>v=gO (aA::r)) ?_) rfl rfl H;exact⟨⟨oc aA 1 aC _⟩,dz aA,gl (show first (aA::r)=(aA.toNat,1,false)by simp [first,aC]) rfl rfl⟩
theorem WI(aA:UInt8)(aC:(lead aA.toNat).1=2)(H:J):bS 54 [.str (aA:: [])] H (gO (aA:: [])) H:=by
 refine b1.eT (Wv aA (lead aA.toNat).2.1 (lead aA.toNat).2.2 (fun v _=>v=gO (aA:: [])) ?_) rfl rfl H;have aZ:∀r,first (aA::r)=tail 1 1 (lead aA.toNat).2.1 (lead aA.toNat).2.2 (aA.toNat%2^(7-2)) r:=fun r=>kh aA r 0 aC
 have jX:first (aA:: [])=(65533,1,true):=by rw [aZ];rfl
 exact⟨⟨oc aA 2 aC _⟩,dz aA,trivial,gl jX rfl rfl⟩
theorem WJ(aA a':UInt8)(r:Bytes)(aC:(lead aA.toNat).1=2)(H:J):bS 54 [.str (aA::a'::r)] H (gO (aA::a'::r)) H:=by
 refine b1.eT (Ww aA a' r (lead aA.toNat).2.1 (lead aA.toNat).2.2 (fun v _=>v=gO (aA::a'::r)) ?_) rfl rfl H;have aZ:∀r,first (aA::r)=tail 1 1 (lead aA.toNat).2.1 (lead aA.toNat).2.2 (aA.toNat%2^(7-2)) r:=fun r=>kh aA r 0 aC
 have ki:∀(aw:a'.toNat<(lead aA.toNat).2.1∨(lead aA.toNat).2.2<a'.toNat),first (aA::a'::r)=(65533,1,false):=fun aw=>by rw [aZ];simp only [tail];rw [if_pos aw]
 have jX:∀(ac:¬(a'.toNat<(lead aA.toNat).2.1∨(lead aA.toNat).2.2<a'.toNat)),first (aA::a'::r)=((aA.toNat%32)*64+a'.toNat%64,2,false):=fun ac=>by rw [aZ];simp only [tail];rw [if_neg ac]
 have bh:b2 .i32 (eZ .i32 (bp .i32 (aA.toNat:Int) 31) 6) (bp .u8 (a'.toNat:Int) 63)=(((aA.toNat%32)*64+a'.toNat%64:Nat):Int):=by rw [MP,ms a',nl _ ab,nn _ _ ab ab]
 exact⟨⟨oc aA 2 aC _⟩,dz aA,trivial,⟨fun av=>gl (ki ab) rfl rfl,fun xS=>⟨fun dI=>gl (ki ab) rfl rfl,fun d1=>⟨hS,trivial,jj a',trivial,gl (jX ab) bh rfl⟩⟩⟩⟩
theorem WK(aA:UInt8)(aC:(lead aA.toNat).1=3)(H:J):bS 54 [.str (aA:: [])] H (gO (aA:: [])) H:=by
 refine b1.eT (Wx aA (lead aA.toNat).2.1 (lead aA.toNat).2.2 (fun v _=>v=gO (aA:: [])) ?_) rfl rfl H;have aZ:∀r,first (aA::r)=tail 2 1 (lead aA.toNat).2.1 (lead aA.toNat).2.2 (aA.toNat%2^(7-3)) r:=fun r=>kh aA r 1 aC
 have jX:first (aA:: [])=(65533,1,true):=by rw [aZ];rfl
 exact⟨⟨oc aA 3 aC _⟩,dz aA,trivial,gl jX rfl rfl⟩
theorem WL(aA a':UInt8)(aC:(lead aA.toNat).1=3)(H:J):bS 54 [.str (aA::a':: [])] H (gO (aA::a':: [])) H:=by
 refine b1.eT (Wy aA a' (lead aA.toNat).2.1 (lead aA.toNat).2.2 (fun v _=>v=gO (aA::a':: [])) ?_) rfl rfl H;have aZ:∀r,first (aA::r)=tail 2 1 (lead aA.toNat).2.1 (lead aA.toNat).2.2 (aA.toNat%2^(7-3)) r:=fun r=>kh aA r 1 aC
 have ki:∀(aw:a'.toNat<(lead aA.toNat).2.1∨(lead aA.toNat).2.2<a'.toNat),first (aA::a':: [])=(65533,1,false):=fun aw=>by rw [aZ];simp only [tail];rw [if_pos aw]
 have jX:∀(ac:¬(a'.toNat<(lead aA.toNat).2.1∨(lead aA.toNat).2.2<a'.toNat)),first (aA::a':: [])=(65533,2,true):=fun ac=>by rw [aZ];simp only [tail];rw [if_neg ac]
 exact⟨⟨oc aA 3 aC _⟩,dz aA,trivial,⟨fun av=>gl (ki ab) rfl rfl,fun xS=>⟨fun dI=>gl (ki ab) rfl rfl,fun d1=>⟨hS,trivial,jj a',trivial,gl (jX ab) rfl rfl⟩⟩⟩⟩
theorem WM(aA a' bP:UInt8)(r:Bytes)(aC:(lead aA.toNat).1=3)(H:J):bS 54 [.str (aA::a'::bP::r)] H (gO (aA::a'::bP::r)) H:=by
 refine b1.eT (Wz aA a' bP r (lead aA.toNat).2.1 (lead aA.toNat).2.2 (fun v _=>v=gO (aA::a'::bP::r)) ?_) rfl rfl H;have aZ:∀r,first (aA::r)=tail 2 1 (lead aA.toNat).2.1 (lead aA.toNat).2.2 (aA.toNat%2^(7-3)) r:=fun r=>kh aA r 1 aC
 have ki:∀(aw:a'.toNat<(lead aA.toNat).2.1∨(lead aA.toNat).2.2<a'.toNat),first (aA::a'::bP::r)=(65533,1,false):=fun aw=>by rw [aZ];simp only [tail];rw [if_pos aw]
 have rR:∀(ac:¬(a'.toNat<(lead aA.toNat).2.1∨(lead aA.toNat).2.2<a'.toNat)) (aw:bP.toNat<128∨191<bP.toNat),first (aA::a'::bP::r)=(65533,2,false):=fun ac aw=>by rw [aZ];simp only [tail];rw [if_neg ac,if_pos aw]
 have jX:∀(ac:¬(a'.toNat<(lead aA.toNat).2.1∨(lead aA.toNat).2.2<a'.toNat)) (ai:¬(bP.toNat<128∨191<bP.toNat)),first (aA::a'::bP::r)=(((aA.toNat%16)*64+a'.toNat%64)*64+bP.toNat%64,3,false):=fun ac ai=>by rw [aZ];simp only [tail];rw [if_neg ac,if_neg ai]
 have bh:b2 .i32 (eZ .i32 (b2 .i32 (eZ .i32 (bp .i32 (aA.toNat:Int) 15) 6) (bp .u8 (a'.toNat:Int) 63)) 6) (bp .u8 (bP.toNat:Int) 63)=((((aA.toNat%16)*64+a'.toNat%64)*64+bP.toNat%64:Nat):Int):=by rw [MQ,ms a',ms bP,nl _ ab,nn _ _ ab ab,nl _ ab,nn _ _ ab ab]
 exact⟨⟨oc aA 3 aC _⟩,dz aA,trivial,⟨fun av=>gl (ki ab) rfl rfl,fun xS=>⟨fun dI=>gl (ki ab) rfl rfl,fun d1=>⟨hS,trivial,jj a',trivial,⟨fun a2=>gl (rR ab ab) rfl rfl,fun MX=>⟨fun c2=>gl (rR ab ab) rfl rfl,fun d2=>⟨hS,trivial,jj bP,trivial,gl (jX ab ab) bh rfl⟩⟩⟩⟩⟩⟩⟩
theorem WN(aA:UInt8)(aC:(lead aA.toNat).1=4)(H:J):bS 54 [.str (aA:: [])] H (gO (aA:: [])) H:=by
 refine b1.eT (WA aA (lead aA.toNat).2.1 (lead aA.toNat).2.2 (fun v _=>v=gO (aA:: [])) ?_) rfl rfl H;have aZ:∀r,first (aA::r)=tail 3 1 (lead aA.toNat).2.1 (lead aA.toNat).2.2 (aA.toNat%2^(7-4)) r:=fun r=>kh aA r 2 aC
 have jX:first (aA:: [])=(65533,1,true):=by rw [aZ];rfl
 exact⟨⟨oc aA 4 aC _⟩,dz aA,trivial,gl jX rfl rfl⟩
theorem WO(aA a':UInt8)(aC:(lead aA.toNat).1=4)(H:J):bS 54 [.str (aA::a':: [])] H (gO (aA::a':: [])) H:=by
 refine b1.eT (WB aA a' (lead aA.toNat).2.1 (lead aA.toNat).2.2 (fun v _=>v=gO (aA::a':: [])) ?_) rfl rfl H;have aZ:∀r,first (aA::r)=tail 3 1 (lead aA.toNat).2.1 (lead aA.toNat).2.2 (aA.toNat%2^(7-4)) r:=fun r=>kh aA r 2 aC
 have ki:∀(aw:a'.toNat<(lead aA.toNat).2.1∨(lead aA.toNat).2.2<a'.toNat),first (aA::a':: [])=(65533,1,false):=fun aw=>by rw [aZ];simp only [tail];rw [if_pos aw]
 have jX:∀(ac:¬(a'.toNat<(lead aA.toNat).2.1∨(lead aA.toNat).2.2<a'.toNat)),first (aA::a':: [])=(65533,2,true):=fun ac=>by rw [aZ];simp only [tail];rw [if_neg ac]
 exact⟨⟨oc aA 4 aC _⟩,dz aA,trivial,⟨fun av=>gl (ki ab) rfl rfl,fun xS=>⟨fun dI=>gl (ki ab) rfl rfl,fun d1=>⟨hS,trivial,jj a',trivial,gl (jX ab) rfl rfl⟩⟩⟩⟩
theorem WQ(aA a' bP:UInt8)(aC:(lead aA.toNat).1=4)(H:J):bS 54 [.str (aA::a'::bP:: [])] H (gO (aA::a'::bP:: [])) H:=by
 refine b1.eT (WC aA a' bP (lead aA.toNat).2.1 (lead aA.toNat).2.2 (fun v _=>v=gO (aA::a'::bP:: [])) ?_) rfl rfl H;have aZ:∀r,first (aA::r)=tail 3 1 (lead aA.toNat).2.1 (lead aA.toNat).2.2 (aA.toNat%2^(7-4)) r:=fun r=>kh aA r 2 aC
 have ki:∀(aw:a'.toNat<(lead aA.toNat).2.1∨(lead aA.toNat).2.2<a'.toNat),first (aA::a'::bP:: [])=(65533,1,false):=fun aw=>by rw [aZ];simp only [tail];rw [if_pos aw]
 have rR:∀(ac:¬(a'.toNat<(lead aA.toNat).2.1∨(lead aA.toNat).2.2<a'.toNat)) (aw:bP.toNat<128∨191<bP.toNat),first (aA::a'::bP:: [])=(65533,2,false):=fun ac aw=>by rw [aZ];simp only [tail];rw [if_neg ac,if_pos aw]
 have jX:∀(ac:¬(a'.toNat<(lead aA.toNat).2.1∨(lead aA.toNat).2.2<a'.toNat)) (ai:¬(bP.toNat<128∨191<bP.toNat)),first (aA::a'::bP:: [])=(65533,3,true):=fun ac ai=>by rw [aZ];simp only [tail];rw [if_neg ac,if_neg ai]
 exact⟨⟨oc aA 4 aC _⟩,dz aA,trivial,⟨fun av=>gl (ki ab) rfl rfl,fun xS=>⟨fun dI=>gl (ki ab) rfl rfl,fun d1=>⟨hS,trivial,jj a',trivial,⟨fun a2=>gl (rR ab ab) rfl rfl,fun MX=>⟨fun c2=>gl (rR ab ab) rfl rfl,fun d2=>⟨hS,trivial,jj bP,trivial,gl (jX ab ab) rfl rfl⟩⟩⟩⟩⟩⟩⟩
theorem WR(aA a' bP ei:UInt8)(r:Bytes)(aC:(lead aA.toNat).1=4)(H:J):bS 54 [.str (aA::a'::bP::ei::r)] H (gO (aA::a'::bP::ei::r)) H:=by
 refine b1.eT (WD aA a' bP ei r (lead aA.toNat).2.1 (lead aA.toNat).2.2 (fun v _=>v=gO (aA::a'::bP::ei::r)) ?_) rfl rfl H;have aZ:∀r,first (aA::r)=tail 3 1 (lead aA.toNat).2.1 (lead aA.toNat).2.2 (aA.toNat%2^(7-4)) r:=fun r=>kh aA r 2 aC
 have ki:∀(aw:a'.toNat<(lead aA.toNat).2.1∨(lead aA.toNat).2.2<a'.toNat),first (aA::a'::bP::ei::r)=(65533,1,false):=fun aw=>by rw [aZ];simp only [tail];rw [if_pos aw]
 have rR:∀(ac:¬(a'.toNat<(lead aA.toNat).2.1∨(lead aA.toNat).2.2<a'.toNat)) (aw:bP.toNat<128∨191<bP.toNat),first (aA::a'::bP::ei::r)=(65533,2,false):=fun ac aw=>by rw [aZ];simp only [tail];rw [if_neg ac,if_pos aw]
 have MY:∀(ac:¬(a'.toNat<(lead aA.toNat).2.1∨(lead aA.toNat).2.2<a'.toNat)) (ai:¬(bP.toNat<128∨191<bP.toNat)) (aw:ei.toNat<128∨191<ei.toNat),first (aA::a'::bP::ei::r)=(65533,3,false):=fun ac ai aw=>by rw [aZ];simp only [tail];rw [if_neg ac,if_neg ai,if_pos aw]
 have jX:∀(ac:¬(a'.toNat<(lead aA.toNat).2.1∨(lead aA.toNat).2.2<a'.toNat)) (ai:¬(bP.toNat<128∨191<bP.toNat)) (a8:¬(ei.toNat<128∨191<ei.toNat)),first (aA::a'::bP::ei::r)=((((aA.toNat%8)*64+a'.toNat%64)*64+bP.toNat%64)*64+ei.toNat%64,4,false):=fun ac ai a8=>by rw [aZ];simp only [tail];rw [if_neg ac,if_neg ai,if_neg a8]
 have bh:b2 .i32 (eZ .i32 (b2 .i32 (eZ .i32 (b2 .i32 (eZ .i32 (bp .i32 (aA.toNat:Int) 7) 6) (bp .u8 (a'.toNat:Int) 63)) 6) (bp .u8 (bP.toNat:Int) 63)) 6) (bp .u8 (ei.toNat:Int) 63)=(((((aA.toNat%8)*64+a'.toNat%64)*64+bP.toNat%64)*64+ei.toNat%64:Nat):Int):=by rw [MR,ms a',ms bP,ms ei,nl _ ab,nn _ _ ab ab,nl _ ab,nn _ _ ab ab,nl _ ab,nn _ _ ab ab]
 exact⟨⟨oc aA 4 aC _⟩,dz aA,trivial,⟨fun av=>gl (ki ab) rfl rfl,fun xS=>⟨fun dI=>gl (ki ab) rfl rfl,fun d1=>⟨hS,trivial,jj a',trivial,⟨fun a2=>gl (rR ab ab) rfl rfl,fun MX=>⟨fun c2=>gl (rR ab ab) rfl rfl,fun d2=>⟨hS,trivial,jj bP,trivial,⟨fun a3=>gl (MY ab ab ab) rfl rfl,fun ahs=>⟨fun c3=>gl (MY ab ab ab) rfl rfl,fun d3=>⟨hS,trivial,jj ei,trivial,gl (jX ab ab ab) bh rfl⟩⟩⟩⟩⟩⟩⟩⟩⟩⟩
theorem MZ(s:Bytes)(H:J):bS 54 [.str s] H (gO s) H:=by
 match s with
 |[]=>exact WE H
 |aA::t =>
  rcases jW aA.toNat with h|h|h|h|h
  ·exact WG aA t h H
  ·exact WH aA t h H
  ·match t with
   |[]=>exact WI aA h H
   |a'::r=>exact WJ aA a' r h H
  ·match t with
   |[]=>exact WK aA h H
   |[a']=>exact WL aA a' h H
   |a'::bP::r=>exact WM aA a' bP r h H
  ·match t with
   |[]=>exact WN aA h H
   |[a']=>exact WO aA a' h H
   |[a',bP]=>exact WQ aA a' bP h H
   |a'::bP::ei::r=>exact WR aA a' bP ei r h H
def M0:List aa→J→Option ey:=kD fun a=>match a with | [.str s]=>some (gO s,[])|_=>none
theorem WS:∀args h a,M0 args h=some a→a.dt Tryz.prog cX 54 args h:=by
 refine lH ?_;intro args v ps e ah H;split at e<;>first|(cases e;done)|skip
 simp only [Option.some.injEq,Prod.mk.injEq]at e;obtain⟨rfl,rfl⟩:=e;exact MZ _ H
abbrev hh(l:List aa)(v f:Nat):af:= {bk:=l,es:=1,exact:=false,ro:=false,ad:=v,gd:=0,hj:=f,ty:=some (21,0)}
noncomputable def WT:e1:=qi.add 54 M0
theorem Gs:eJ Tryz.prog cX WT:=cx.add WS
theorem M1(s:Bytes)(ae:cW→bJ→J→Prop)(aW:(0<(↑(List.length s):Int)→(-9223372036854775808≤0+(↑(Prod.fst (Prod.snd (first (List.drop 0 (List.take (List.length s) s))))):Int)∧0+(↑(Prod.fst (Prod.snd (first (List.drop 0 (List.take (List.length s) s))))):Int)≤9223372036854775807)∧ae .normal [(0,.str s),(3,.slice (cm 16) 1 1),(4,.int .i64 (0+(↑(Prod.fst (Prod.snd (first (List.drop 0 (List.take (List.length s) s))))):Int)))] (J.ar 22 [(15,af.an [.int .i32 (↑(Prod.fst (first (List.drop 0 (List.take (List.length s) s)))):Int)] 1 true),(16,af.an [.int .i32 (↑(Prod.fst (first (List.drop 0 (List.take (List.length s) s)))):Int)] 1 false (some (21,0)))]))∧(¬0<(↑(List.length s):Int)→ae (.exit 0) [(0,.str s),(3,.slice none 0 0),(4,.int .i64 0)] (J.ar 4 []))) :
 ∃e aU ac,dc 0 26 (cs 150 0) [(0,.str s),(3,.slice none 0 0),(4,.int .i64 0)] (⟨0,.nil⟩) e aU ac∧ae e aU ac :=
 fP eN mixed Gs (hs:= .aI 3003 (ak 6002 .nil) .nil) (keep:=[0,3,4]) ay aW
theorem Gt(s:Bytes)(i v f n:Nat)(l:List aa)(ae:cW→bJ→J→Prop)(aW:((i:Int)<(↑(List.length s):Int)→(0≤(i:Int)∧(i:Int)≤(↑(List.length s):Int))∧(v=v∧0+n=List.length l∧n<n+1∧(n+1+(n+1)/4+512)*4≤281474976710656∧n+1<4611686018427387904)∧(-9223372036854775808≤(i:Int)+(↑(Prod.fst (Prod.snd (first (List.drop i s)))):Int)∧(i:Int)+(↑(Prod.fst (Prod.snd (first (List.drop i s)))):Int)≤9223372036854775807)∧ae .normal [(0,.str s),(3,.slice (some {id:=16,ad:=v+1,idx:=0,fld:=0,es:=1}) (n+1) (n+1)),(4,.int .i64 ((i:Int)+(↑(Prod.fst (Prod.snd (first (List.drop i s)))):Int)))] (J.ar 42 [(16,⟨l++[.int .i32 (↑(Prod.fst (first (List.drop i s))):Int)],1,false,false,v+1,0,if 0=v then List.length l else min f (List.length l),some (21,0)⟩),(35,af.an [.int .i32 (↑(Prod.fst (first (List.drop i s))):Int)] 1 true)]))∧(¬(i:Int)<(↑(List.length s):Int)→ae (.exit 0) [(0,.str s),(3,.slice (some ⟨16,v,0,0,1⟩) n n),(4,.int .i64 (i:Int))] (J.ar 24 [(16,⟨l,1,false,false,v,0,f,some (21,0)⟩)]))) :
 ∃e aU ac,dc 0 26 (cs 150 0) [(0,.str s),(3,.slice (some ⟨16,v,0,0,1⟩) n n),(4,.int .i64 i)] (J.rows 20 [(16,hh l v f)]) e aU ac∧ae e aU ac :=
 fP eN mixed Gs (hs:= .aI 3003 (ak 4002 (ak 5003 (ak 6002 .nil))) .nil) (keep:=[0,3,4]) ay aW
theorem M2(s:Bytes)(ia gm:aa)(ag:J)(ae:bI)(aW:dc 0 26 (Code.loop (cs 150 0)) [(0,.str s),(3,.slice none 0 0),(4,.int .i64 0)] (J.ar 3 []) (.exit 0) [(0,.str s),(3,ia),(4,gm)] ag∧ae ia (J.mk (ag.U+2) (J.aH ag))) :
 b4 150 [.str s] (⟨0,.nil⟩) ae :=
 b9 Gs (.az (.keep [0,3,4]) (.az (.loop [(0,.str s),(3,ia),(4,gm)] ag (.exit 0)) .nil)) aW
end Go.Proofs.YtddnafghiejcoaaGreatDoor
namespace Go.Keys
theorem M3:∀(k i bb aq v:Nat)(l:Bytes),i≤(tail k i bb aq v l).2.1∧(tail k i bb aq v l).2.1≤i+l.length
 |0,i,bb,aq,v,l=>by simp [tail]
 |k+1,i,bb,aq,v,[]=>by simp [tail]
 |k +1,i,bb,aq,v,c::r=>by
  simp only [tail];split
  ·simp
  ·have:=M3 k (i+1) 128 191 (v*64+c.toNat%64) r;simp only [List.length_cons];omega
theorem xT{s:Bytes}(h:s≠[]):1≤(first s).2.1∧(first s).2.1≤s.length:=by
 cases s with
 |nil=>exact absurd rfl h
 |cons b r =>
  simp only [first];split
  ·simp
  ·split
   ·simp
   ·have:=M3 ((lead b.toNat).1-1) 1 (lead b.toNat).2.1 (lead b.toNat).2.2 (b.toNat%2^(7- (lead b.toNat).1)) r;simp only [List.length_cons];omega
theorem M4:∀(k e6:Nat)(s:Bytes),s.length≤k→s.length≤e6→jB k s=jB e6 s
 |0,0,s,_,_=>rfl
 |0,e6+1,[],_,_=>rfl
 |0,e6+1,b::r,h,_=>by simp at h
 |k+1,0,[],_,_=>rfl
 |k+1,0,b::r,_,h=>by simp at h
 |k+1,e6+1,[],_,_=>rfl
 |k+1,e6+1,b::r,h,ag=>by simp only [jB];have:=(xT (s:=b::r) aM).1;rw [M4 k e6 _ (by simp only [List.length_drop,List.length_cons]at *; omega) (by simp only [List.length_drop,List.length_cons]at *; omega)]
theorem BF:eE []=[]:=rfl
theorem BG{s:Bytes}(h:s≠[]):eE s=(first s).1::eE (s.drop (first s).2.1):=by
 cases s with
 |nil=>exact absurd rfl h
 |cons b r =>
  have:=(xT (s:=b::r) aM).1;unfold eE;simp only [List.length_cons,jB];rw [M4 r.length _ _ (by simp only [List.length_drop,List.length_cons];omega) (Nat.le_refl _)]
theorem M5:∀(n:Nat)(s:Bytes),s.length≤n→(eE s).length≤s.length
 |0,s,h=>by have:s=[]:=List.eq_nil_of_length_eq_zero ab;subst this;simp [BF]
 |n +1,s,h=>by
  by_cases hs:s=[]
  ·subst hs;simp [BF]
  ·rw [BG hs];have aZ:=xT hs;have:=M5 n (s.drop (first s).2.1) (by simp only [List.length_drop];omega);simp only [List.length_cons];simp only [List.length_drop]at this;omega
end Go.Keys
namespace Go.Proofs.YtddnafghiejcoaaGreatDoor
open Go.cf Go.Keys
set_option maxRecDepth 1000000
def dR(l:List Nat):List aa:=l.map fun(n:Nat)=>aa.int .i32 n
theorem M6(l:List Nat):(dR l).length=l.length:=by simp [dR]
def jY(n:Nat):Nat:=if n=1 then 0 else 1
abbrev nq(l:List Nat):af:=hh (dR l) (l.length-1) (jY l.length)
abbrev od(s:Bytes)(l i:Nat):bJ:=[(0,.str s),(3,.slice (some ⟨16,l-1,0,0,1⟩) l l),(4,.int .i64 (i:Nat))]
theorem WU{n l c:Nat} :ch (Go.cf.cp [16]) (.slice (some ⟨16,n,0,0,1⟩) l c):=(by show(16:Nat)∈ [16];simp)
theorem rS(l:List Nat):∀e∈dR l,cU e:=cU.ints l .i32 fun(n:Nat)=>(n:Int)
theorem M7(s:Bytes)(l i:Nat)(h:J)(b:af)(ax:dy b)(ak:h.get 16=some b):eL 0 26 (od s l i) h (od s l i) (J.rows 20 [(16,b)]) :=
 eL.drop (K:=20) (l:=[(16,b)]) (by simp [ak]) rfl rfl (by rfl) (by
  refine bR.cons trivial (bR.cons WU (bR.cons trivial bR.nil))) (by
  refine bR.cons (fun e he=>(ax e he).eM _) bR.nil)
theorem WV(s:Bytes)(hs:s.length<2^40):∀(k i:Nat)(L:List Nat),s.length-i≤k→i≤s.length→1≤L.length→L.length≤i→ ∃ag,
 hd 0 26 (cs 150 0) (od s L.length i) (J.rows 20 [(16,nq L)]) (.exit 0) (od s (L++eE (s.drop i)).length s.length) ag∧ag.get 16=some (nq (L++eE (s.drop i))):=by
 intro k;induction k with
 |zero =>
  intro i L au aq ac dN;obtain⟨e,aU,ac,bc,rfl,rfl,rfl⟩:=Gt s i (L.length-1) (jY L.length) L.length (dR L) (fun e aU ac=>e=.exit 0∧aU=od s L.length i∧ac=J.ar 24 [(16,nq L)]) ⟨fun h=> ab,fun _=>⟨rfl,rfl,rfl⟩⟩;have:i=s.length:= ab;subst this;rw [List.drop_length,BF,List.append_nil];exact⟨_,dK.last aM bc,ay⟩
 |succ k ih =>
  intro i L au aq ac dN;by_cases aw:i<s.length
  ·have bX:s.drop i≠[]:=by rw [Ne,List.drop_eq_nil_iff];omega
   have aZ:=xT bX;rw [List.length_drop]at aZ
   obtain⟨e,aU,ai,bc,rfl,rfl,ak⟩:=Gt s i (L.length-1) (jY L.length) L.length (dR L) (fun e aU ai=>e=.normal∧aU=od s (L.length+1) (i+(first (s.drop i)).2.1)∧ai.get 16=some (nq (L++[(first (s.drop i)).1]))) (by
    refine⟨fun _=>⟨⟨ab,ab⟩,⟨rfl,by rw [M6];omega,ab,ab,ab⟩,⟨ab,ab⟩,rfl,?_,?_⟩,fun h=> ab⟩
    ·unfold od;rw [show L.length+1-1=L.length-1+1 by omega];rfl
    ·have bi:dR (L++[(first (s.drop i)).1])=dR L++[aa.int .i32 ((first (s.drop i)).1:Int)]:=by simp [dR]
     have bu:(L++[(first (s.drop i)).1]).length-1=L.length-1+1:=by simp;omega
     have b7:jY (L++[(first (s.drop i)).1]).length=if 0=L.length-1 then(dR L).length else min (jY L.length) (dR L).length:=by
      rw [M6];unfold jY;simp only [List.length_append,List.length_cons,List.length_nil];by_cases dI:L.length=1
      ·rw [if_neg ab,if_pos ab];omega
      ·rw [if_neg ab,if_neg ab,if_neg dI];omega
     show some _=some (hh _ _ _)
     rw [bi,bu,b7])
   obtain⟨ag,aC,M8⟩:=ih (i+(first (s.drop i)).2.1) (L++[(first (s.drop i)).1]) ab ab aM (by simp;omega)
   have cc:(L++[(first (s.drop i)).1])++eE (s.drop (i+(first (s.drop i)).2.1))=L++eE (s.drop i):=by rw [BG bX,List.drop_drop];simp
   rw [cc]at aC M8;have iw:(L++[(first (s.drop i)).1]).length=L.length+1:= aM;rw [show od s (L++[(first (s.drop i)).1]).length (i+(first (s.drop i)).2.1)=od s (L.length+1) (i+(first (s.drop i)).2.1)by rw [iw]]at aC;exact⟨ag,dK.round bc (M7 s _ _ _ (nq (L++[(first (s.drop i)).1])) (rS _) ak) aC,M8⟩
  ·obtain⟨e,aU,ac,bc,rfl,rfl,rfl⟩:=Gt s i (L.length-1) (jY L.length) L.length (dR L) (fun e aU ac=>e=.exit 0∧aU=od s L.length i∧ac=J.ar 24 [(16,nq L)]) ⟨fun h=> ab,fun _=>⟨rfl,rfl,rfl⟩⟩;have:i=s.length:= ab;subst this;rw [List.drop_length,BF,List.append_nil];exact⟨_,dK.last aM bc,ay⟩
theorem WW(H:J):bS 150 [.str []] H (.slice none 0 0) H:=by refine b1.eT (M2 [] (.slice none 0 0) (.int .i64 0) (J.ar 4 []) (fun v _=>v=.slice none 0 0) ⟨?_,rfl⟩) rfl rfl H;refine fw.hQ ?_;obtain⟨e,aU,ac,bc,rfl,rfl,rfl⟩:=M1 [] (fun e aU ac=>e=.exit 0∧aU=[(0,aa.str []),(3,aa.slice none 0 0),(4,aa.int .i64 0)]∧ac=J.ar 4 []) ⟨fun h=>by simp at h,fun _=>⟨rfl,rfl,rfl⟩⟩;exact(dK.last aM bc).pre (eL.drop (K:=0) (l:=[]) rfl aS aS (by rfl) (bR.cons trivial (bR.cons trivial (bR.cons trivial bR.nil))) bR.nil)
theorem WX(s:Bytes)(hs:s.length<2^40)(bf:s≠[])(H:J):bS 150 [.str s] H (.slice (some ⟨H.U,(eE s).length-1,0,0,1⟩) (eE s).length (eE s).length) (H.hp [] [nq (eE s)]):=by
 have aZ:=xT bf;have iE:0<s.length:=List.length_pos_iff.2 bf;have e0:List.drop 0 (List.take s.length s)=s:= aM
 obtain⟨e,aU,ac,bc,rfl,rfl,hT⟩:=M1 s (fun e aU ac=>e=.normal∧aU=od s 1 (first s).2.1∧ac.get 16=some (nq [(first s).1])) (by
  rw [e0]
  exact⟨fun _=>⟨⟨ab,ab⟩,rfl,by rw [show(0:Int)+((first s).2.1:Int)=(((first s).2.1:Nat):Int)by omega],rfl⟩,fun h=> ab⟩)
 obtain⟨ag,aC,ak⟩:=WV s hs s.length (first s).2.1 [(first s).1] ab aZ.2 aM (by simpa using aZ.1);rw [show [(first s).1]++eE (s.drop (first s).2.1)=eE s from(BG bf).symm]at aC ak;have dN:=(dK.round bc (M7 s 1 (first s).2.1 ac (nq [(first s).1]) (rS _) hT) aC).pre (eL.drop (h:=J.ar 3 []) (K:=0) (l:=[]) rfl aS aS (by rfl) (bR.cons trivial (bR.cons trivial (bR.cons trivial bR.nil))) bR.nil);obtain⟨v,ai,aE,rfl,mu⟩:=M2 s (.slice (some ⟨16,(eE s).length-1,0,0,1⟩) (eE s).length (eE s).length) (.int .i64 (s.length:Nat)) ag (fun v ai=>v=.slice (some ⟨16,(eE s).length-1,0,0,1⟩) (eE s).length (eE s).length∧ai.get 16=some (nq (eE s))) ⟨fw.hQ dN,rfl,ak⟩;exact b1.FT (l:=[]) (bn:=nq (eE s)) aE (fun b ax=>by cases ax) (rS _) rfl mu aM (by exact⟨trivial,trivial⟩) [] List.nodup_nil (fun j a1=>by cases a1) rfl
end Go.Proofs.YtddnafghiejcoaaGreatDoor
