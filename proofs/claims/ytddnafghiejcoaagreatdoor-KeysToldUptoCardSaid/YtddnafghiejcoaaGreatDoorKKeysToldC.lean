/-
  Parts of the proof of KeysTold.
-/
import Derived.Test.YtddnafghiejcoaaGreatDoorRows
import Derived.Shelf.Strconv.Itoa1
import Derived.Shelf.Strings.Fields
import Derived.Test.YtddnafghiejcoaaGreatDoorKKeysToldB
set_option linter.unusedVariables false
set_option linter.unusedSimpArgs false
namespace Go.cH
noncomputable section
open Go.RowKit
def j.rows(n:Nat)(l:List (Nat×J)):j:=l.foldl (fun h I=>h.set I.1 I.2) ⟨n,.nil⟩
theorem j.TI(l:List (Nat×J)):∀(h:j)(i:Nat)(b:J),(l.foldl (fun h I=>h.set I.1 I.2) h).get i=some b→h.get i=some b∨(i,b)∈l:=by
 induction l with
 |nil=>intro h i b k;exact .inl k
 |cons I r ih =>
  intro h i b k;rcases ih _ i b k with k|k
  ·rw [j.kG]at k;split at k
   ·rename_i e;simp only [Option.some.injEq]at k;exact .inr (by rw [←e,←k];exact List.mem_cons_self ..)
   ·exact .inl k
  ·exact .inr (by simp [k])
theorem j.TJ(l:List (Nat×J)):∀(h:j)(i:Nat),(In h i∨i∈l.map (·.1))→In (l.foldl (fun h I=>h.set I.1 I.2) h) i:=by
 induction l with
 |nil=>intro h i k;rcases k with k|k;exact k;simp at k
 |cons I r ih =>
  intro h i k;refine ih _ i ?_;by_cases e:I.1=i
  ·left;unfold In;rw [j.kG,if_pos e];rfl
  ·rcases k with k|k
   ·left;unfold In;rw [j.kG,if_neg e];exact k
   ·simp only [List.map_cons,List.mem_cons]at k;rcases k with k|k
    ·exact absurd k.symm e
    ·exact .inr k
theorem j.TK(l:List (Nat×J)):∀(h:j),(l.foldl (fun h I=>h.set I.1 I.2) h).next=h.next:=by
 induction l with
 |nil=>intro h;rfl
 |cons I r ih=>intro h;rw [List.foldl_cons,ih];rfl
@[simp] theorem j.zO(n : Nat)(l : List (Nat × J)) : (j.rows n l).next = n := j.TK _ _
theorem j.ss{n:Nat}{l:List (Nat×J)}{i:Nat}{b:J}(h:(j.rows n l).get i=some b):(i,b)∈l:=by
 rcases j.TI l _ i b h with k|k
 ·cases k
 ·exact k
theorem j.tX{n:Nat}{l:List (Nat×J)}{i:Nat}(h:i∈l.map (·.1)):In (j.rows n l) i:=j.TJ l _ i (.inr h)
theorem j.tY{n:Nat}{l:List (Nat×J)}{i:Nat}(h:In (j.rows n l) i):i∈l.map (·.1):=by obtain⟨b,av⟩:=Option.isSome_iff_exists.1 h;exact List.mem_map.2 ⟨_,j.ss av,rfl⟩
mutual
theorem o.st:∀(v:o),v.bc (fun i=>i)=v
 |.ptr (some a)=>rfl
 |.slice (some a) _ _=>rfl
 |.func fn f c=>by simp only [o.bc,o.zP]
 |.iface t v=>by simp only [o.bc,o.st v]
 |.agg bn=>by simp only [o.bc,o.zP]
 |.tuple cd=>by simp only [o.bc,o.zP]
 |.undef=>rfl
 |.bool _=>rfl
 |.int _ _=>rfl
 |.str _=>rfl
 |.ptr none=>rfl
 |.slice none _ _=>rfl
 |.nilFunc=>rfl
 |.nilIface=>rfl
theorem o.zP:∀(l:List o),o.gz (fun i=>i) l=l
 |[]=>rfl
 |a::l=>by simp only [o.gz,o.st a,o.zP l]
end
theorem J.st(b:J):b.bc (fun i=>i)=b:=by
 unfold J.bc
 have:b.bi.map (o.bc fun i=>i)=b.bi:=by
  conv=>rhs;rw [←List.map_id b.bi]
  exact List.map_congr_left fun e he=>o.st e
 rw [this]
def dt(b:J):Prop:= ∀e∈b.bi,cT e
theorem dt.bc{b:J}(h:dt b)(r:Nat→Nat):b.bc r=b:=by
 unfold J.bc
 have:b.bi.map (o.bc r)=b.bi:=by
  conv=>rhs;rw [←List.map_id b.bi]
  exact List.map_congr_left fun e he=>(h e he).1 r
 rw [this]
theorem dt.e2{b:J}(h:dt b)(D:Nat→Prop):∀e∈b.bi,cv D e:=fun e he=>cv.mono (fun _ k=>k.elim) (h e he).2
theorem cT.ints{α:Type}(l:List α)(k:IntKind)(f:α→Int):∀e∈l.map (fun x=>o.int k (f x)),cT e:=by intro e he;obtain⟨x,_,rfl⟩:=List.mem_map.1 he;exact cT.int k _
theorem cT.e2{v:o}(h:cT v)(D:Nat→Prop):cv D v:=cv.mono (fun _ k=>k.elim) h.2
def cB(l:List Nat):Nat→Prop:=fun i=>i∈l
theorem e0.drop{base n:Nat}{F:bT}{h:j}{K:Nat}{l:List (Nat×J)}(aB:l.map (fun I=>h.get I.1)=l.map (fun I=>some I.2))(df:l.all (fun I=>Nat.blt I.1 K)=true)
 (av:(List.range base).all (fun i=>(l.map (·.1)).contains i)=true) (aM:F.all (fun I=>Nat.blt I.1 n)=true) (fE:b0 (F.map fun I=>cv (cB (l.map (·.1))) I.2))
 (ar:b0 (l.map fun I=> ∀e∈I.2.bi,cv (cB (l.map (·.1))) e)):e0 base n F h F (j.rows K l):=by
 have eT:∀i b,(j.rows K l).get i=some b→i<K∧h.get i=some b:=by intro i b k;have hm:=j.ss k;refine⟨Nat.blt_eq.mp (List.all_eq_true.1 df _ hm),?_⟩;obtain⟨C,aX,e⟩:=List.mem_iff_getElem.1 hm;have p:=congrArg (fun(x:List (Option J))=>x[C]?) aB;simp only [List.getElem?_map,List.getElem?_eq_getElem aX,Option.map_some,e,Option.some.injEq]at p;exact p
 have qS:∀{v:o},cv (cB (l.map (·.1))) v→cv (In (j.rows K l)) v:=cv.mono fun i al=>j.tX al
 refine e0.bc (r:=fun i=>i) ⟨fun i b k=>⟨by rw [j.zO];exact(eT i b k).1,by rw [J.st];exact(eT i b k).2⟩,fun i C _ _ e=>e,?_⟩ ?_ ?_ ?_ ?_
 ·intro i b k e he;have hm:=j.ss k;exact qS (ar _ (List.mem_map.2 ⟨_,hm,rfl⟩) e he)
 ·intro t v a'
  have hm:(t,v)∈F:=by
   clear aM fE
   induction F with
   |nil=>cases a'
   |cons I r ih =>
    obtain⟨k,u⟩:=I;rw [kS]at a';split at a'
    ·rename_i e;simp only [Option.some.injEq]at a';subst e;subst a';simp
    ·exact List.mem_cons_of_mem _ (ih a')
  exact⟨Nat.blt_eq.mp (List.all_eq_true.1 aM _ hm),by rw [o.st];exact a',qS (fE _ (List.mem_map.2 ⟨_,hm,rfl⟩))⟩
 ·intro i al _;exact j.tX (by simpa using List.all_eq_true.1 av i (List.mem_range.2 al))
 ·intro i _ _;rfl
 ·intro i _ k;exact k
theorem aI.KE{P:Program}{cb:(Nat→Prop)→World→Prop}[j6 cb]{f:FuncId}{args:List o}{h aa:j}{v:o}(k:aI P cb f args h v aa)(r:Nat→Nat)(v2:o)(K:Nat)(l:List (Nat×J))
 (aB:l.map (fun I=>aa.get (r I.1))=l.map (fun I=>some (I.2.bc r))) (a':v=v2.bc r) (df:l.all (fun I=>Nat.blt I.1 K)=true) (be:((l.map (·.1)).map r).Nodup)
 (av:(List.range h.next).all (fun i=>(l.map (·.1)).contains i&&Nat.beq (r i) i)=true) (fb:l.all (fun I=>Nat.blt I.1 h.next || Nat.ble h.next (r I.1))=true) (aM:Nat.ble h.next K=true)
 (wv:cv (cB (l.map (·.1))) v2) (ar:b0 (l.map fun I=> ∀e∈I.2.bi,cv (cB (l.map (·.1))) e)):aI P cb f args h v2 (j.rows K l):=by
 have eT:∀i b,(j.rows K l).get i=some b→i<K∧aa.get (r i)=some (b.bc r):=by intro i b k;have hm:=j.ss k;refine⟨Nat.blt_eq.mp (List.all_eq_true.1 df _ hm),?_⟩;obtain⟨C,aX,e⟩:=List.mem_iff_getElem.1 hm;have p:=congrArg (fun(x:List (Option J))=>x[C]?) aB;simp only [List.getElem?_map,List.getElem?_eq_getElem aX,Option.map_some,e,Option.some.injEq]at p;exact p
 have qS:∀{v:o},cv (cB (l.map (·.1))) v→cv (In (j.rows K l)) v:=cv.mono fun i al=>j.tX al
 refine k.bc (r:=r) ⟨fun i b k=>⟨by rw [j.zO];exact(eT i b k).1,(eT i b k).2⟩,?_,?_⟩ a' (qS wv) ?_ ?_ ?_ (by rw [j.zO];exact Nat.le_of_ble_eq_true aM)
 ·intro i C al aX e;have al:=j.tY al;have aX:=j.tY aX;obtain⟨a,aS,rfl⟩:=List.mem_iff_getElem.1 al;obtain⟨b,fw,rfl⟩:=List.mem_iff_getElem.1 aX;have p:((l.map (·.1)).map r)[a]'(by simpa using aS)=((l.map (·.1)).map r)[b]'(by simpa using fw):=by simpa using e
  have:=(List.getElem_inj be).1 p;subst this;rfl
 ·intro i b k e he;have hm:=j.ss k;exact qS (ar _ (List.mem_map.2 ⟨_,hm,rfl⟩) e he)
 ·intro i al _;have:=List.all_eq_true.1 av i (List.mem_range.2 al);simp only [Bool.and_eq_true]at this;exact j.tX (by simpa using this.1)
 ·intro i al _;have:=List.all_eq_true.1 av i (List.mem_range.2 al);simp only [Bool.and_eq_true]at this;exact Nat.eq_of_beq_eq_true this.2
 ·intro i al cM;have al:=j.tY al;obtain⟨I,hm,rfl⟩:=List.mem_map.1 al;have:=List.all_eq_true.1 fb I hm;simp only [Bool.or_eq_true]at this;rcases this with p|p
  ·exact Nat.blt_eq.mp p
  ·have:=Nat.le_of_ble_eq_true p;omega
def j.oC:Nat→List J→j→j
 |_,[],h=>h
 |i,b::r,h=>j.oC (i+1) r (h.set i b)
def j.of(l:List J):j:=j.oC 0 l ⟨l.length,.nil⟩
theorem j.zQ:∀(l:List J)(i:Nat)(h:j)(C:Nat),(j.oC i l h).get C=if i≤C∧C<i+l.length then l[C-i]? else h.get C
 |[],i,h,C=>by simp only [j.oC,List.length_nil];rw [if_neg (by omega)]
 |b ::r,i,h,C=>by
  simp only [j.oC,j.zQ r,List.length_cons,j.kG];by_cases e:i=C
  ·subst e;rw [if_neg (by omega),if_pos rfl,if_pos (by omega)];simp
  ·by_cases c:i+1≤C∧C<i+1+r.length
   ·rw [if_pos c,if_pos (by omega),show C-i=(C- (i+1))+1 by omega];simp
   ·rw [if_neg c,if_neg e,if_neg (by omega)]
theorem j.Ej:∀(l:List J)(i:Nat)(h:j),(j.oC i l h).next=h.next
 |[],i,h=>rfl
 |b::r,i,h=>by simp only [j.oC,j.Ej r];rfl
@[simp] theorem j.of_next(l : List J) : (j.of l).next = l.length := j.Ej _ _ _
theorem j.eX(l:List J)(C:Nat):(j.of l).get C=l[C]? :=by
 unfold j.of;rw [j.zQ];split
 ·simp
 ·rw [List.getElem?_eq_none (by omega)];rfl
theorem j.tZ{l:List J}{C:Nat} :In (j.of l) C↔C<l.length:=by unfold In;rw [j.eX];simp
def dH(ids:List Nat)(n:Nat)(i:Nat):Nat :=
 match ids[i]? with
 |some C=>C
 |none=>n+(i-ids.length)
def j.lZ:List Nat→List J→j→j
 |C::ids,b::r,h=>j.lZ ids r (h.set C b)
 |[],r,h=>j.oC h.next r {h with next:=h.next+r.length}
 |_::_,[],h=>h
def j.hp(h:j)(ids:List Nat)(l:List J):j:=j.lZ ids l h
theorem j.Ek:∀(ids:List Nat)(l:List J)(h:j),ids.length≤l.length→(j.lZ ids l h).next=h.next+(l.length-ids.length)
 |[],l,h,_=>by simp [j.lZ,j.Ej]
 |C::ids,[],h,k=>by simp at k
 |C::ids,b::r,h,k=>by simp only [j.lZ];rw [j.Ek ids r _ (by simpa using k)];simp
theorem j.ww:∀(ids:List Nat)(l:List J)(h:j)(C:Nat),ids.length≤l.length→C<h.next→C ∉ ids→(j.lZ ids l h).get C=h.get C
 |[],l,h,C,_,aX,_=>by simp only [j.lZ];rw [j.zQ,if_neg (by omega)];rfl
 |i::ids,[],h,C,k,_,_=>by simp at k
 |i::ids,b::r,h,C,k,aX,hm=>by simp only [List.mem_cons,not_or]at hm;simp only [j.lZ];rw [j.ww ids r (h.set i b) C (by simpa using k) aX hm.2,j.e1 _ _ (Ne.symm hm.1)]
theorem j.El:∀(ids:List Nat)(l:List J)(h:j)(i:Nat),ids.length≤l.length→ids.Nodup→(∀C∈ids,C<h.next)→i<l.length→(j.lZ ids l h).get (dH ids h.next i)=l[i]?
 |[],l,h,i,_,_,_,al=>by simp only [j.lZ,dH,List.getElem?_nil,List.length_nil,Nat.sub_zero];rw [j.zQ,if_pos (by omega)];congr 1;omega
 |C::ids,[],h,i,k,_,_,_=>by simp at k
 |C ::ids,b::r,h,i,k,h1,cM,al=>by
  simp only [List.nodup_cons]at h1;simp only [j.lZ];cases i with
  |zero =>
   simp only [dH,List.getElem?_cons_zero];rw [j.ww ids r (h.set C b) C (by simpa using k) (cM C (by simp)) h1.1,j.gG]
  |succ i =>
   have e:dH (C::ids) h.next (i+1)=dH ids (h.set C b).next i:=by
    simp only [dH,List.getElem?_cons_succ,List.length_cons,j.QT];cases ids[i]? with
    |some x=>rfl
    |none=>simp only;omega
   rw [e,j.El ids r (h.set C b) i (by simpa using k) h1.2 (fun x af=>cM x (by simp [af])) (by simpa using al)];simp
theorem aI.up{P:Program}{cb:(Nat→Prop)→World→Prop}[j6 cb]{f:FuncId}{args:List o}{v:o}{l c3:List J}(k:aI P cb f args (j.of l) v (j.of c3))(av:∀b∈l,dt b)(fw:∀b∈c3,dt b)(kl:l.length≤c3.length)(aS:fo (fun i=>i<l.length) args)
 {H aR:j} (ids:List Nat) (aM:ids.Nodup) (cM:∀C∈ids,C<H.next) (aB:ids.map H.get=l.map some) (qL:aR.next=H.next+(c3.length-l.length)) (oo:∀i,i<c3.length→aR.get (dH ids H.next i)=c3[i]?)
 (jr:∀C,C<H.next→C ∉ ids→aR.get C=H.get C):aI P cb f (args.map (o.bc (dH ids H.next))) H (v.bc (dH ids H.next)) aR:=by
 have hlen:ids.length=l.length:=by have:=congrArg List.length aB;simpa using this
 have vA:∀i (al:i<ids.length),dH ids H.next i=ids[i]:=fun i al=>by simp [dH,List.getElem?_eq_getElem al]
 refine k.frame (r:=dH ids H.next) ⟨?_,?_,?_⟩ ?_ ?_ ?_ ?_ ?_
 ·intro i b ah;rw [j.eX]at ah;have al:=(List.getElem?_eq_some_iff.1 ah).1;refine⟨by rw [j.of_next];exact al,?_⟩;rw [(av b (List.mem_of_getElem? ah)).bc,vA i (by omega)];have p:=congrArg (fun(x:List (Option J))=>x[i]?) aB;simp only [List.getElem?_map,List.getElem?_eq_getElem (show i<ids.length by omega),Option.map_some,ah,Option.some.injEq]at p;exact p
 ·intro i C al aX e;rw [j.tZ]at al aX;rw [vA i (by omega),vA C (by omega)]at e;exact(List.getElem_inj aM).1 e
 ·intro i b ah e he;rw [j.eX]at ah;exact(av b (List.mem_of_getElem? ah) e he).e2 _
 ·exact fo.mono (fun i al=>j.tZ.2 al) aS
 ·intro i al;rw [j.of_next]at al;simp only [dH,List.getElem?_eq_none (show ids.length≤i by omega),j.of_next,hlen]
 ·intro i b ah _;rw [j.eX]at ah;rw [(fw b (List.mem_of_getElem? ah)).bc,oo i (List.getElem?_eq_some_iff.1 ah).1,ah]
 ·rw [qL];simp
 ·intro C aX bZ;refine jr C aX fun hm=> ?_
  obtain⟨i,al,e⟩:=List.mem_iff_getElem.1 hm;exact bZ i (j.tZ.2 (by omega)) (by rw [vA i al];exact e)
theorem aI.TL{P:Program}{cb:(Nat→Prop)→World→Prop}[j6 cb]{f:FuncId}{args:List o}{v:o}{l:List J}(k:aI P cb f args (j.of l) v (j.of l))(av:∀b∈l,dt b)(aS:fo (fun i=>i<l.length) args)
 {H:j} (ids:List Nat) (aM:ids.Nodup) (cM:∀C∈ids,C<H.next) (aB:ids.map H.get=l.map some):aI P cb f (args.map (o.bc (dH ids H.next))) H (v.bc (dH ids H.next)) H:=by
 have hlen:ids.length=l.length:=by have:=congrArg List.length aB;simpa using this
 refine k.up av av (Nat.le_refl _) aS ids aM cM aB (by simp) (fun i al=> ?_) fun _ _ _=>rfl
 have p:=congrArg (fun(x:List (Option J))=>x[i]?) aB;simp only [List.getElem?_map,List.getElem?_eq_getElem (show i<ids.length by omega),List.getElem?_eq_getElem al,Option.map_some,Option.some.injEq]at p;simp only [dH,List.getElem?_eq_getElem (show i<ids.length by omega),p,List.getElem?_eq_getElem al]
theorem aI.TM{P:Program}{cb:(Nat→Prop)→World→Prop}[j6 cb]{f:FuncId}{args:List o}{v:o}{l c3:List J}(k:aI P cb f args (j.of l) v (j.of c3))(av:∀b∈l,dt b)(fw:∀b∈c3,dt b)(kl:l.length≤c3.length)(aS:fo (fun i=>i<l.length) args)
 {H:j} (ids:List Nat) (aM:ids.Nodup) (cM:∀C∈ids,C<H.next) (aB:ids.map H.get=l.map some):aI P cb f (args.map (o.bc (dH ids H.next))) H (v.bc (dH ids H.next)) (H.hp ids c3):=by
 have hlen:ids.length=l.length:=by have:=congrArg List.length aB;simpa using this
 refine k.up av fw kl aS ids aM cM aB ?_ ?_ ?_
 ·rw [←hlen];exact j.Ek ids c3 H (by omega)
 ·intro i al;exact j.El ids c3 H i (by omega) aM cM al
 ·intro C aX hm;exact j.ww ids c3 H C (by omega) aX hm
theorem aI.KF{P:Program}{cb:(Nat→Prop)→World→Prop}[j6 cb]{f:FuncId}{args:List o}{v:o}{l ci:List J}(k:aI P cb f args (j.of l) v (j.of (l++ci)))(av:∀b∈l,dt b)(fw:∀b∈ci,dt b)(aS:fo (fun i=>i<l.length) args)
 {H:j} (ids:List Nat) (aM:ids.Nodup) (cM:∀C∈ids,C<H.next) (aB:ids.map H.get=l.map some):aI P cb f (args.map (o.bc (dH ids H.next))) H (v.bc (dH ids H.next)) (H.hp [] ci):=by
 have hlen:ids.length=l.length:=by have:=congrArg List.length aB;simpa using this
 refine k.up av (fun b hm=>(List.mem_append.1 hm).elim (av b) (fw b)) (by simp) aS ids aM cM aB ?_ ?_ ?_
 ·show(j.lZ [] ci H).next=_
  rw [j.Ek [] ci H (by simp)];simp
 ·intro i al;show(j.lZ [] ci H).get _=_;by_cases c:i<ids.length
  ·have p:=congrArg (fun(x:List (Option J))=>x[i]?) aB;simp only [List.getElem?_map,List.getElem?_eq_getElem c,List.getElem?_eq_getElem (show i<l.length by omega),Option.map_some,Option.some.injEq]at p;simp only [dH,List.getElem?_eq_getElem c];rw [j.ww [] ci H _ (by simp) (cM _ (List.getElem_mem c)) (by simp),p,List.getElem?_append_left (by omega),List.getElem?_eq_getElem (show i<l.length by omega)]
  ·have e:dH ids H.next i=dH [] H.next (i-ids.length):=by simp [dH,List.getElem?_eq_none (show ids.length≤i by omega)]
   rw [List.length_append]at al;rw [e,j.El [] ci H (i-ids.length) (by simp) (by simp) (by simp) (by omega),List.getElem?_append_right (by omega),hlen]
 ·intro C aX hm;exact j.ww [] ci H C (by simp) aX (by simp)
def hq:Nat→List J→List (Nat×J)
 |_,[]=> []
 |i,b::r=>(i,b)::hq (i+1) r
theorem j.KG:∀(l:List J)(i:Nat)(h:j),j.oC i l h=(hq i l).foldl (fun h I=>h.set I.1 I.2) h
 |[],i,h=>rfl
 |b::r,i,h=>by simp only [j.oC,hq,List.foldl_cons];exact j.KG r _ _
theorem j.KH(l:List J):j.of l=j.rows l.length (hq 0 l):=j.KG _ _ _
theorem Em:∀(l:List J)(i:Nat),(hq i l).map (·.1)=List.range' i l.length
 |[],i=>rfl
 |b::r,i=>by simp only [hq,List.map_cons,Em r,List.length_cons,List.range'_succ]
theorem wx:∀(l:List J)(i:Nat),(hq i l).map (·.2)=l
 |[],i=>rfl
 |b::r,i=>by simp only [hq,List.map_cons,wx r]
theorem List.Nodup.TN{f:Nat→Nat}{n:Nat}(h:∀a∈List.range n,∀b∈List.range n,f a=f b→a=b):((List.range n).map f).Nodup:=by rw [List.nodup_iff_pairwise_ne,List.pairwise_map];refine List.Pairwise.imp_of_mem ?_ (List.nodup_range (n:=n));intro a b aS av bZ e;exact bZ (h a aS b av e)
def gu(k:Nat)(hr:List Nat)(i:Nat):Nat:=if i<k then i else(hr[i-k]?).getD 0
theorem aI.fin{P:Program}{cb:(Nat→Prop)→World→Prop}[j6 cb]{f:FuncId}{args:List o}{aa:j}{v:o}{l:List J}(k:aI P cb f args (j.of l) v aa)(hr:List Nat)(c3:List J)(v2:o)(fw:∀b∈c3,dt b)
 (hlen:c3.length=l.length+hr.length) (eT:(List.range c3.length).map (fun i=>aa.get (gu l.length hr i))=c3.map some) (a':v=v2.bc (gu l.length hr)) (wv:cv (fun i=>i<c3.length) v2)
 (En:hr.all (fun C=>Nat.ble l.length C)=true) (h1:hr.Nodup):aI P cb f args (j.of l) v2 (j.of c3):=by
 have l0:(hq 0 c3).map (·.1)=List.range c3.length:=by rw [Em,List.range_eq_range']
 have gh:∀C∈hr,l.length≤C:=fun C aX=>Nat.le_of_ble_eq_true (List.all_eq_true.1 En C aX)
 have kM:∀i,l.length≤i→i<c3.length→ ∃(h:i-l.length<hr.length),gu l.length hr i=hr[i-l.length]:=by
  intro i p ae;have bg:i-l.length<hr.length:=by omega
  exact⟨bg,by simp only [gu,if_neg (show ¬i<l.length by omega),List.getElem?_eq_getElem bg,Option.getD_some]⟩
 rw [j.KH c3];refine k.KE (gu l.length hr) v2 c3.length (hq 0 c3) ?_ a' ?_ ?_ ?_ ?_ (Nat.ble_eq.mpr ?_) ?_ ?_
 ·have p:(hq 0 c3).map (fun I=>aa.get (gu l.length hr I.1))=((hq 0 c3).map (·.1)).map (fun i=>aa.get (gu l.length hr i)):=by rw [List.map_map];rfl
  have ae:(hq 0 c3).map (fun I=>some (I.2.bc (gu l.length hr)))=((hq 0 c3).map (·.2)).map (fun b=>some (b.bc (gu l.length hr))):=by rw [List.map_map];rfl
  rw [p,ae,l0,wx,eT];exact List.map_congr_left fun b hm=>by rw [(fw b hm).bc]
 ·rw [List.all_eq_true];intro I ac;have:I.1∈(hq 0 c3).map (·.1):=List.mem_map.2 ⟨I,ac,rfl⟩;rw [l0]at this;exact Nat.blt_eq.mpr (List.mem_range.1 this)
 ·rw [l0];refine List.Nodup.TN ?_;intro a aS b av e;have aS:=List.mem_range.1 aS;have av:=List.mem_range.1 av;by_cases dJ:a<l.length<;>by_cases ef:b<l.length
  ·simpa [gu,dJ,ef]using e
  ·obtain⟨bg,bO⟩:=kM b (by omega) av;rw [bO,show gu l.length hr a=a by simp [gu,dJ]]at e;have:=gh _ (List.getElem_mem bg);omega
  ·obtain⟨bg,bO⟩:=kM a (by omega) aS;rw [bO,show gu l.length hr b=b by simp [gu,ef]]at e;have:=gh _ (List.getElem_mem bg);omega
  ·obtain⟨bg,bO⟩:=kM a (by omega) aS;obtain⟨bJ,du⟩:=kM b (by omega) av;rw [bO,du]at e;have:=(List.getElem_inj h1).1 e;omega
 ·rw [List.all_eq_true,j.of_next];intro i al;have al:=List.mem_range.1 al;rw [l0,Bool.and_eq_true];exact⟨by simp;omega,beq_true (by simp [gu,al])⟩
 ·rw [List.all_eq_true,j.of_next];intro I ac;have:I.1∈(hq 0 c3).map (·.1):=List.mem_map.2 ⟨I,ac,rfl⟩;rw [l0]at this;have cM:=List.mem_range.1 this;rw [Bool.or_eq_true];by_cases c:I.1<l.length
  ·exact .inl (Nat.blt_eq.mpr c)
  ·obtain⟨bg,bO⟩:=kM I.1 (by omega) cM;exact .inr (Nat.ble_eq.mpr (by rw [bO];exact gh _ (List.getElem_mem bg)))
 ·rw [j.of_next];omega
 ·rw [l0];exact cv.mono (fun i al=>List.mem_range.2 al) wv
 ·intro I ac;obtain⟨q,aC,rfl⟩:=List.mem_map.1 ac;intro e he;exact(fw q.2 (by have:q.2∈(hq 0 c3).map (·.2):=List.mem_map.2 ⟨q,aC,rfl⟩;rwa [wx]at this) e he).e2 _
theorem aI.pure{P:Program}{cb:(Nat→Prop)→World→Prop}[j6 cb]{f:FuncId}{args:List o}{aa:j}{v:o}{l:List J}(k:aI P cb f args (j.of l) v aa)(av:∀b∈l,dt b)(eT:(List.range l.length).map aa.get=l.map some)(a':cT v)
 (aS:fo (fun i=>i<l.length) args) {H:j} (ids:List Nat) (aM:ids.Nodup) (cM:∀C∈ids,C<H.next) (aB:ids.map H.get=l.map some):aI P cb f (args.map (o.bc (dH ids H.next))) H v H:=by
 have aL:=k.fin [] l v av (by simp) (by
  rw [←eT]
  exact List.map_congr_left fun i al=>by rw [show gu l.length [] i=i by simp [gu,List.mem_range.1 al]]) (a'.1 _).symm (a'.e2 _) rfl (by simp)
 have aQ:=aL.TL av aS ids aM cM aB
 rwa [a'.1]at aQ
theorem aI.Eo{P:Program}{cb:(Nat→Prop)→World→Prop}[j6 cb]{f:FuncId}{args:List o}{aa:j}{C es n c R:Nat}{l:List J}{gv:J}(k:aI P cb f args (j.of l) (.slice (some ⟨C,R,0,0,es⟩) n c) aa)(av:∀b∈l,dt b)(t':dt gv)
 (eT:(List.range l.length).map aa.get=l.map some) (fb:aa.get C=some gv) (aX:l.length≤C) (aS:fo (fun i=>i<l.length) args) {H:j} (ids:List Nat) (aM:ids.Nodup) (cM:∀C∈ids,C<H.next) (aB:ids.map H.get=l.map some) :
 aI P cb f (args.map (o.bc (dH ids H.next))) H (.slice (some ⟨H.next,R,0,0,es⟩) n c) (H.hp [] [gv]):=by
 have hlen:ids.length=l.length:=by have:=congrArg List.length aB;simpa using this
 have aL:=k.fin [C] (l++[gv]) (.slice (some ⟨l.length,R,0,0,es⟩) n c) (fun b hm=>(List.mem_append.1 hm).elim (av b) (fun h=>by rw [List.mem_singleton.1 h];exact t')) (by simp) (by
  rw [List.length_append,List.length_singleton,List.range_succ,List.map_append,List.map_append]
  congr 1
  ·rw [←eT];exact List.map_congr_left fun i al=>by rw [show gu l.length [C] i=i by simp [gu,List.mem_range.1 al]]
  ·simp [gu,fb]) (by simp [o.bc,bH.bc,gu]) (by simp [cv]) (by simp [aX]) (by simp)
 have aQ:=aL.KF av (fun b hm=>by rw [List.mem_singleton.1 hm];exact t') aS ids aM cM aB
 have e:(o.slice (some ⟨l.length,R,0,0,es⟩) n c).bc (dH ids H.next)=.slice (some ⟨H.next,R,0,0,es⟩) n c:=by simp only [o.bc,bH.bc,dH,List.getElem?_eq_none (show ids.length≤l.length by omega),hlen,Nat.sub_self,Nat.add_zero]
 rwa [e]at aQ
theorem c2.more{ak:Map}{S:Nat→Prop}{h ae:j}{w:World}(r:c2 ak S h w)(aM:h.next≤ae.next)(ah:∀i,i<h.next→ae.get i=h.get i):c2 ak S ae w where
 dB i v I ac:=by obtain⟨p,b,aL,aQ⟩:=r.dB i v I ac;exact⟨Nat.lt_of_lt_of_le p aM,b,by rw [ah i p];exact aL,aQ⟩
 apart:=r.apart
 same:=r.same
theorem aI.pad{P:Program}{cb:(Nat→Prop)→World→Prop}[j6 cb]{f:FuncId}{args:List o}{h aa ae:j}{v:o}(k:aI P cb f args h v aa)(aM:aa.next≤ae.next)(ah:∀i,i<aa.next→ae.get i=aa.get i):aI P cb f args h v ae :=
 fun S bo cq gr ak w dD ep c1 eA=>by obtain⟨g1,g2⟩:=k S bo cq gr ak w dD ep c1 eA;exact⟨g1,g2.mono fun e bA ⟨bp,bM,ap,a2,a3,a4,a5,su⟩=>⟨bp,bM,ap,a2,a3,a4.more aM ah,a5,Nat.le_trans su aM⟩⟩
def sv(U:Option bH)(n c id R off es:Nat):Prop:=U=some ⟨id,R,off,0,es⟩∨(U=none∧n=0∧c=0)
theorem sv.index{U:Option bH}{n c id R off es:Nat}(h:sv U n c id R off es){D:dI}{t e:TypeId}{d cR:qi}(aD:D t=some d)(ao:d.kind=.slice e)(af:D e=some cR)(cs:es=cR.size){k:IntKind}{i:Int}(bm:0≤i)(al:i<n) :
 rN D t (.slice U n c) (.int k i)=some (.ptr (some ⟨id,R,off+i.toNat,0,es⟩)):=by
 rcases h with rfl|⟨_,rfl,_⟩
 ·simp only [rN,aD,ao,af];rw [if_pos ⟨bm,al,cs,trivial⟩]
 ·omega
theorem sv.back{U:Option bH}{n c id R off es:Nat}(h:sv U n c id R off es){KI:Nat}{r:Nat→Nat}(be:r KI=id):(o.slice (U.map fun a=> {a with id:=KI}) n c).bc r=.slice U n c:=by
 rcases h with rfl|⟨rfl,p,ae⟩
 ·simp [o.bc,bH.bc,be]
 ·rfl
structure qT(D:dI)(t e:TypeId)(c6 lp:Nat):Prop where
 an:∃d cR,D t=some d∧d.kind=.slice e∧D e=some cR∧cR.size=c6∧cR.bytes=lp∧0<c6∧cR.rO=true
section
variable {E:b4}{t e:TypeId}{c6 lp bh:Nat}{h:j}{x:o}{new:List o}
theorem sw(aq:qT E.D t e c6 lp)(s:o):gn E .append #[t,t] [s,x] bh h=hi E.D t s x bh h:=by obtain⟨d,cR,p,ae,bg,rfl,rfl,bO,bJ⟩:=aq.an;simp only [gn,List.getElem?_toArray,List.getElem?_cons_zero,List.getElem?_cons_succ,p,ae]
theorem TO(aq:qT E.D t e c6 lp)(af:eW c6 x h=some new)(bZ:new≠[])(av:(new.length+new.length/4+512)*lp≤2^48)(aB:new.length<2^62) :
 gn E .append #[t,t] [.slice none 0 0,x] bh h=some (j1 bh c6 new.length new.length,h.set bh (.made new c6 false (some (e,0)))):=by
 rw [sw aq];obtain⟨d,cR,p,ae,bg,rfl,rfl,bO,bJ⟩:=aq.an;have aM:¬0+new.length=0:=by rw [Nat.zero_add];intro c;exact bZ (List.eq_nil_of_length_eq_zero c)
 simp only [hi,p,ae,bg,af];rw [if_pos ⟨bO,by simpa using av,by simpa using aB,bJ⟩];rw [if_neg aM,if_pos ⟨trivial,trivial⟩,Nat.zero_add]
theorem KJ(aq:qT E.D t e c6 lp)(af:eW c6 x h=some new)(bZ:new≠[]){a:bH}{len cap:Nat}{b:J}(av:((len+new.length)+(len+new.length)/4+512)*lp≤2^48)(aB:len+new.length<2^62)
 (ah:h.get a.id=some b) (cs:a.es=c6∧a.bP=0) (ou:¬len+new.length≤cap) (du:b.exact=false) (cI:b.ro=false) (cr:a.R=b.R) (fB:a.idx+len=b.bi.length) (pe:b.an=none∨b.an=some (e,0)) :
 gn E .append #[t,t] [.slice (some a) len cap,x] bh h=some (.slice (some {a with R:=a.R+1}) (len+new.length) (len+new.length),h.set a.id (b.grow new)):=by
 rw [sw aq];obtain⟨d,cR,p,ae,bg,rfl,rfl,bO,bJ⟩:=aq.an;simp only [hi,p,ae,bg,af];rw [if_pos ⟨bO,av,aB,bJ⟩];rw [if_pos cs];simp only [ah];rw [if_neg ou,if_neg (by rw [du];simp),if_pos ⟨cI,cr,fB,bZ,pe⟩]
theorem TP(aq:qT E.D t e c6 lp)(af:eW c6 x h=some new){a:bH}{len cap:Nat}{b:J}{old:List o}(av:((len+new.length)+(len+new.length)/4+512)*lp≤2^48)(aB:len+new.length<2^62)
 (ah:h.get a.id=some b) (cs:a.es=c6∧a.bP=0) (ou:¬len+new.length≤cap) (du:b.exact=true) (ai:eW c6 (.slice (some a) len cap) h=some old) :
 gn E .append #[t,t] [.slice (some a) len cap,x] bh h=some (j1 bh c6 (len+new.length) (len+new.length),h.set bh (.made (old++new) c6 false (some (e,0)))):=by
 rw [sw aq];obtain⟨d,cR,p,ae,bg,rfl,rfl,bO,bJ⟩:=aq.an;simp only [hi,p,ae,bg,af];rw [if_pos ⟨bO,av,aB,bJ⟩];rw [if_pos cs];simp only [ah];rw [if_neg ou,if_pos du];simp only [ai]
theorem Ep(aq:qT E.D t e c6 lp)(af:eW c6 x h=some []){U:Option bH}{len cap:Nat}{b:J}(av:(len+len/4+512)*lp≤2^48)(aB:len<2^62)
 (ah:∀a,U=some a→h.get a.id=some b∧a.es=c6∧a.bP=0) (ou:len≤cap) (aM:U=none→len=0):gn E .append #[t,t] [.slice U len cap,x] bh h=some (.slice U len cap,h):=by
 rw [sw aq];obtain⟨d,cR,p,ae,bg,rfl,rfl,bO,bJ⟩:=aq.an;simp only [hi,p,ae,bg,af];rw [if_pos ⟨bO,by simpa using av,by simpa using aB,bJ⟩];cases U with
 |none=>have:=aM rfl;subst this;simp
 |some a =>
  obtain⟨aL,aQ⟩:=ah a rfl;simp only;rw [if_pos aQ];simp only [aL];rw [if_pos (by simpa using ou),if_pos trivial];simp
end
theorem db.round{P:Program}{cb:(Nat→Prop)→World→Prop}{base n:Nat}{c:Code}{F bb ny:bT}{h p lM ae:j}{e:dj}(aL:cP P cb base n c F h .normal bb p)(i:e0 base n bb p bb lM)(aQ:db P cb base n c bb lM e ny ae):db P cb base n c F h e ny ae :=
 db.step (aL.post i) aQ
end
end Go.cH
namespace Go.Proofs.YtddnafghiejcoaaGreatDoor
open Go.cH Go.Shelf
set_option maxRecDepth 1000000
def KK:Ren where
 f:=fun x=>if x=129 then 136 else if x=284 then 120 else if x=317 then 135 else if x=318 then 137 else 0
 t:=fun x=>if x=0 then 0 else if x=3 then 3 else if x=4 then 4 else if x=5 then 5 else if x=9 then 9 else if x=46 then 108 else if x=53 then 151 else if x=212 then 179 else 0
 g:=fun x=>if x=17 then 5 else 0
theorem TQ:Lays.n284 Tryz.prog KK:=by constructor;all_goals first|kernel_rfl|(intro w;kernel_rfl)
theorem TR:LaysM.n284 Tryz.prog KK:=by constructor;all_goals first|exact TQ|kernel_rfl
end Go.Proofs.YtddnafghiejcoaaGreatDoor
namespace Go.Proofs.YtddnafghiejcoaaGreatDoor
open Go.cH
set_option maxRecDepth 1000000
structure aw(bd:Nat→Prop)(w:World):Prop where
 I:bd 5
 pow:Lib.TabIs Tryz.prog w "internal/strconv.uint64pow10" .u64 Lib.pow10Tab
 q:bd 0
 Er:Lib.TabIs Tryz.prog w "strings.asciiSpace" .u8 Lib.asciiSpaceTab
 s:bd 3
 KL:∃sx sy,w.cell? ⟨3,0,none⟩=some (.iface sx sy)
 r:bd 4
 KM:∃sx sy,w.cell? ⟨4,0,none⟩=some (.iface sx sy)
 x:bd 2
 fL:∃m,w.cell? ⟨2,0,none⟩=some (.int .i64 m)
theorem Es:Tryz.prog.globalNamed "internal/strconv.uint64pow10" =some 5:=by kernel_rfl
theorem Et:Tryz.prog.globalNamed "strings.asciiSpace" =some 0:=by kernel_rfl
theorem KN{w bA:World}{n:String}{g:Nat}{k:IntKind}{t:List Int}(ah:Tryz.prog.globalNamed n=some g)(av:bA.heap[g]? =w.heap[g]?)(h:Lib.TabIs Tryz.prog w n k t):Lib.TabIs Tryz.prog bA n k t:=by unfold Lib.TabIs World.var? at h⊢;rw [ah]at h⊢;simp only [Option.bind_some]at h⊢;rw [av];exact h
theorem aw.cN{bd v7:Nat→Prop}{bo w:World}(h:aw bd bo)(aq:Go.cH.Safe bd bo w)(aM:∀x,bd x→v7 x):aw v7 w where
 I:=aM _ h.I
 pow:=KN Es (aq.block _ h.I) h.pow
 q:=aM _ h.q
 Er:=KN Et (aq.block _ h.q) h.Er
 s:=aM _ h.s
 KL:=by obtain⟨sx,sy,e⟩:=h.KL;exact⟨sx,sy,by rw [World.cell?_of_block (aq.block _ h.s)];exact e⟩
 r:=aM _ h.r
 KM:=by obtain⟨sx,sy,e⟩:=h.KM;exact⟨sx,sy,by rw [World.cell?_of_block (aq.block _ h.r)];exact e⟩
 x:=aM _ h.x
 fL:=by obtain⟨m,e⟩:=h.fL;exact⟨m,by rw [World.cell?_of_block (aq.block _ h.x)];exact e⟩
instance:j6 aw where
 mono _ fK aq aM:=fK.cN aq aM
def jQ(n:Nat):Nat :=
 if n<10 then 1 else if n<100 then 2 else if n<1000 then 3 else if n<10000 then 4 else if n<100000 then 5 else if n<1000000 then 6 else if n<10000000 then 7 else if n<100000000 then 8 else if n<1000000000 then 9 else 10
theorem KO(n:Nat)(h:n<10000000000):jQ n=Lib.nDigits n:=by
 unfold jQ
 repeat' split
 ·exact(Lib.nDigits_small ‹_›).symm
 ·exact(Lib.nDigits_unique 1 n (by omega) (by omega)).symm
 ·exact(Lib.nDigits_unique 2 n (by omega) (by omega)).symm
 ·exact(Lib.nDigits_unique 3 n (by omega) (by omega)).symm
 ·exact(Lib.nDigits_unique 4 n (by omega) (by omega)).symm
 ·exact(Lib.nDigits_unique 5 n (by omega) (by omega)).symm
 ·exact(Lib.nDigits_unique 6 n (by omega) (by omega)).symm
 ·exact(Lib.nDigits_unique 7 n (by omega) (by omega)).symm
 ·exact(Lib.nDigits_unique 8 n (by omega) (by omega)).symm
 ·exact(Lib.nDigits_unique 9 n (by omega) (by omega)).symm
def zR:yL:=fun args h =>
 match args with
 |[.int .u64 n]=>if 1≤n∧n<10000000000 then some (.int .i64 (jQ n.toNat),h)else none
 |_=>none
theorem KP:Dg Tryz.prog aw 120 zR:=by
 intro bd bo dl fK args h v aa ah ak w dD ep c1 eA;unfold zR at ah;split at ah
 ·rename_i n;split at ah
  ·rename_i aM;simp only [Option.some.injEq,Prod.mk.injEq]at ah;obtain⟨rfl,rfl⟩:=ah;obtain⟨l⟩:=dD;simp only [bG]at eA;obtain⟨a,t,rfl,aS,rfl⟩:=eA;simp only [aK]at aS;subst aS;have v8:=fK.cN c1 fun _ af=>af
   refine⟨⟨Tryz.f120,_,by kernel_rfl,rfl⟩,?_⟩;have k:=Any.internal_strconv_numDigits TR n.toNat (by omega) (by omega) w v8.pow;rw [Int.toNat_of_nonneg (by omega)]at k;refine k.mono fun e bA bQ=> ?_
   obtain⟨he,hw⟩:=bQ;subst hw;exact⟨_,ak,he,fh.refl _ _,by simp only [aK];rw [KO _ (by omega)],ep,c1,Nat.le_refl _⟩
  ·cases ah
 ·cases ah
noncomputable def env:b4:= {cond:=aw,tl:=fun f=>if f=120 then some zR else none,D:=yH Tryz.prog,eqs:=[42],ext:=fun f=>if f=170 then some 0 else if f=133 then some 1 else none}
instance:j6 env.cond:=inferInstanceAs (j6 aw)
theorem bU:ho Tryz.prog env where
 hS:=dI.S2 _
 eqs:=S4 (by decide+kernel)
 names:=S3 (by decide+kernel)
 Jn:=fun f g h=>by
  simp only [env]at h;split at h
  ·rename_i e;subst e;simp only [Option.some.injEq]at h;subst h;exact KP
  ·cases h
 Jo :=fun f k h=>by
  simp only [env]at h;split at h
  ·rename_i e;subst e;simp only [Option.some.injEq]at h;subst h;exact⟨Tryz.f170,_,by kernel_rfl,by kernel_rfl,by kernel_rfl,by kernel_rfl,rfl⟩
  ·split at h
   ·rename_i e;subst e;simp only [Option.some.injEq]at h;subst h;exact⟨Tryz.f133,_,by kernel_rfl,by kernel_rfl,by kernel_rfl,by kernel_rfl,rfl⟩
   ·cases h
theorem mixed:Tryz.prog.follows .mixedOrders=true:=by decide+kernel
end Go.Proofs.YtddnafghiejcoaaGreatDoor
namespace Go.cH
noncomputable section
open Go.RowKit
inductive dh:Type 1 where
 |nil
 |aA (x:Hint) (r:dh)
 |aN (i:Nat) (y n:dh)
 |cases (i:Nat) (I:Prop) (y n:dh)
 |ex (i:Nat) {α:Type} (I:α→Prop) (f:α→dh)
 |skip (i:Nat) (r:dh)
def kv:List Prop→Prop→Prop
 |[],k=>k
 |I::r,k=>I∧kv r k
theorem lq:∀{l:List Prop}{k:Prop},kv l k→b0 l∧k
 |[],k,h=>⟨b0.nil,h⟩
 |I::r,k,h=>⟨b0.cons h.1 (lq h.2).1,(lq h.2).2⟩
abbrev lr:=o→j→dh→List hU→Prop
abbrev qU:=FuncId→List o→j→dh→(o→j→dh→Prop)→Prop
abbrev wy:=dj→bT→j→dh→Prop
def Eu(bf:Operand→o)(U:Op):Option (Prop×Bool) :=
 match U with
 |.binOp op t x y _ =>
  match bf x,bf y with
  |.int k a,.int fa b =>
   match decEq k fa with
   |isTrue _ =>
    match op with
    |.eql=>some (a=b,true)
    |.neq=>some (a=b,false)
    |.lss=>some (a<b,true)
    |.leq=>some (a≤b,true)
    |.gtr=>some (b<a,true)
    |.geq=>some (b≤a,true)
    |_=>none
   |isFalse _=>none
  |.str a,.str b =>
   match op with
   |.eql=>some (a=b,true)
   |.neq=>some (a=b,false)
   |_=>none
  |_,_=>none
 |_=>none
theorem KQ{E:b4}{bf:Operand→o}{U:Op}{I:Prop}{b:Bool}(k:Eu bf U=some (I,b))(call:dZ)(bh:Nat)(h:j):(I→bX E call bh bf h U=some (.bool b,h))∧(¬I→bX E call bh bf h U=some (.bool (!b),h)):=by
 cases U<;>simp only [Eu]at k<;>try (cases k;done)
 rename_i op t x y an;split at k
 ·rename_i aL a aQ c af bY;split at k
  ·rename_i ao _;subst ao;split at k<;>first|(cases k;done)|(simp only [Option.some.injEq,Prod.mk.injEq]at k)
   all_goals (obtain⟨rfl,rfl⟩:=k)
   all_goals (constructor<;>intro ac<;>simp [bX,af,bY,n6,ke,ac])
   all_goals omega
  ·cases k
 ·rename_i a c af bY;split at k<;>first|(cases k;done)|(simp only [Option.some.injEq,Prod.mk.injEq]at k)
  all_goals (obtain⟨rfl,rfl⟩:=k)
  all_goals (constructor<;>intro ac<;>simp [bX,af,bY,n6,vh,ac])
 ·cases k
inductive ev where
 |one (v:o) (h:j) (eL:List Prop)
 |or (I:Prop) (a b:ev)
 |some (v:o) (eL:List Prop) (I:j→Prop)
def ev.dr(P:Program)(cb:(Nat→Prop)→World→Prop)(f:FuncId)(args:List o)(h:j):ev→Prop
 |.one v aa eL=>b0 eL→aI P cb f args h v aa
 |.or I a b=>(I→ev.dr P cb f args h a)∧(¬I→ev.dr P cb f args h b)
 |.some v eL I=>b0 eL→ ∃aa,aI P cb f args h v aa∧I aa
abbrev e9:=FuncId→Option (List o→j→Option ev)
def eP(P:Program)(cb:(Nat→Prop)→World→Prop)(S:e9):Prop:= ∀f g,S f=some g→ ∀args h a,g args h=some a→a.dr P cb f args h
def KR:e9:=fun _=>none
theorem gL{P:Program}{cb:(Nat→Prop)→World→Prop} :eP P cb KR:=fun _ _ h=>by cases h
def e9.add(S:e9)(f:FuncId)(g:List o→j→Option ev):e9:=fun k=>_root_.cond (Nat.beq k f) (some g) (S k)
theorem eP.add{P:Program}{cb:(Nat→Prop)→World→Prop}{S:e9}(k:eP P cb S){f:FuncId}{g:List o→j→Option ev}(ah:∀args h a,g args h=some a→a.dr P cb f args h):eP P cb (S.add f g):=by
 intro gb dA a6;unfold e9.add at a6;rcases nx gb f with ⟨e,dT⟩|⟨e,dT⟩
 ·rw [dT,cond_true]at a6;simp only [Option.some.injEq]at a6;subst a6;subst e;exact ah
 ·rw [dT,cond_false]at a6;exact k gb dA a6
def aJ(l:List UInt8):List o:=l.map fun b=> .int .u8 b.toNat
def strOf(l:List o):List UInt8:=(bytesOf l).getD []
def a8(l:List o)(i:Nat):Int:=match l[i]? with|some (.int _ n)=>n|_=>0
def Ev(E:b4)(draw:Bool)(ops:Array Oper)(aj i:Nat)(bf:Operand→o)(h:j)(U:Op):Option (o×j×List Prop) :=
 match U with
 |.convert s d x =>
  match bf x with
  |.slice (some a) n c =>
   match E.D s,E.D d,h.get a.id with
   |some nk,some ft,some b =>
    match nk.kind,ft.kind with
    |.slice e,.string =>
     match E.D e with
     |some gW =>
      match gW.kind with
      |.int .u8 =>
       cond (Nat.beq a.bP 0&&Nat.beq a.es 1&&(!draw || (k9 ops i || iU ops aj i bf (.convert s d x))))
        (some (.str (strOf ((b.bi.drop a.idx).take n)),h,[a.R=b.R,a.idx+n≤b.bi.length,∃l,(b.bi.drop a.idx).take n=aJ l])) none
      |_=>none
     |none=>none
    |_,_=>none
   |_,_,_=>none
  |_=>none
 |.load t x =>
  match bf x with
  |.ptr (some a) =>
   match E.D t,h.get a.id with
   |some d,some b =>
    match d.kind with
    |.int k =>
     cond (Nat.beq a.bP 0&&Nat.beq d.size 1)
      (some (.int k (a8 b.bi a.idx),h,[a.R=b.R,b.bi[a.idx]? =some (.int k (a8 b.bi a.idx))]++cond draw (iH ops aj i bf h U h) [])) none
    |_=>none
   |_,_=>none
  |_=>none
 |_=>none
theorem zS:∀(l:List UInt8),bytesOf (aJ l)=some l
 |[]=>rfl
 |b::r=>by have:=zS r;unfold aJ at this;simp only [aJ,List.map_cons,bytesOf,this,Option.map_some];simp
theorem iZ(l:List UInt8):strOf (aJ l)=l:=by unfold strOf;rw [zS];rfl
theorem TS{P :Program}{E:b4}{draw:Bool}{ops:Array Oper}{aj i:Nat}{bf:Operand→o}{h aa:j}{U:Op}{v:o}{eL:List Prop}(k:Ev E draw ops aj i bf h U=some (v,aa,eL))(ac:b0 eL)(call:dZ):kT E call ops draw aj i bf h U=some (v,aa):=by
 cases U<;>simp only [Ev]at k<;>try (cases k;done)
 case convert s d x =>
  split at k
  ·rename_i a n c af;split at k
   ·rename_i nk ft b aq aD ah;split at k
    ·rename_i e gg cw;split at k
     ·rename_i gW he;split at k
      ·rename_i lg;cases aC:(Nat.beq a.bP 0&&Nat.beq a.es 1&&(!draw || (k9 ops i || iU ops aj i bf (.convert s d x))))with
       |false=>rw [aC]at k;cases k
       |true =>
        rw [aC,cond_true]at k;simp only [Option.some.injEq,Prod.mk.injEq]at k;obtain⟨rfl,rfl,rfl⟩:=k;simp only [Bool.and_eq_true]at aC;have dK:=Nat.eq_of_beq_eq_true aC.1.1;have dL:=Nat.eq_of_beq_eq_true aC.1.2;have eU:a.R=b.R:=ac.head;have ik:a.idx+n≤b.bi.length:=ac.tail.head;obtain⟨l,oz⟩:∃l,(b.bi.drop a.idx).take n=aJ l:=ac.tail.tail.head;have lb:b.cE a.R=b.bi.length:=by rw [eU];simp [J.cE]
        have fC:eW 1 (.slice (some a) n c) h=some (aJ l):=by
         by_cases aM:n=0
         ·subst aM;simp only [eW,dK,dL,if_true,ah];rw [←oz];simp
         ·simp only [eW,dK,dL,if_true,ah];rw [if_neg aM,if_pos ⟨by rw [lb];exact ik,ik⟩,oz]
        refine Ee E ?_ ?_ ?_
        ·simp only [bX,af,vl,aq,aD];rfl
        ·simp only [eB,af,oa,aq,aD,gg,cw,he,lg,fC,zS,Option.map_some];rw [oz,iZ]
        ·intro tA;refine⟨rfl,?_⟩;have:=aC.2;rw [tA]at this;simpa using this
      ·cases k
     ·cases k
    ·cases k
   ·cases k
  ·cases k
 case load t x =>
  split at k
  ·rename_i a af;split at k
   ·rename_i d b aD ah;split at k
    ·rename_i lL ao;cases aC:(Nat.beq a.bP 0&&Nat.beq d.size 1)with
     |false=>rw [aC]at k;cases k
     |true =>
      rw [aC,cond_true]at k;simp only [Option.some.injEq,Prod.mk.injEq]at k;obtain⟨rfl,rfl,rfl⟩:=k;simp only [Bool.and_eq_true]at aC;have dK:=Nat.eq_of_beq_eq_true aC.1;have eU:a.R=b.R:=ac.head;have ik:b.bi[a.idx]? =some (.int lL (a8 b.bi a.idx)):=ac.tail.head;refine jP E ?_ ac.tail.tail;have cM:=(List.getElem?_eq_some_iff.1 ik).1
      have fC:b.elem? a.R a.idx=some (.int lL (a8 b.bi a.idx)):=by unfold J.elem?;rw [if_pos (by rw [eU];simpa [J.cE]using cM)];exact ik
      simp only [bX,af,cj,aD,ah,fC,ao,j0.isAgg,iR,dK,if_true,Option.map_some,Bool.false_eq_true,if_false]
    ·cases k
   ·cases k
  ·cases k
section
variable(P:Program)(E:b4)(S:e9)
def zT(draw:Bool)(ops:Array Oper)(aj i:Nat)(F:bT)(h:j)(U:Op):Option (o×j×List Prop×List hU) :=
 match U with
 |.call c =>
  match c.callee with
  |.value f =>
   match bR F f with
   |.func (.func g) cV bn =>
    match S g with
    |some sz =>
     match sz (cV++c.args.toList.map (bR F)++bn) h with
     |some (.one v aa eL)=>some (v,aa,eL++cond draw (iH ops aj i (bR F) h U aa) [],[⟨g,cV++c.args.toList.map (bR F)++bn,h,v,aa⟩])
     |_=>none
    |none=>none
   |_=>none
  |_=>match oA E draw ops aj i F h U []with|some (v,aa,_,bn,bl)=>some (v,aa,bn,bl)|none=>none
 |_=>match oA E draw ops aj i F h U []with|some (v,aa,_,bn,bl)=>some (v,aa,bn,bl)|none=>none
def pB(draw:Bool)(ops:Array Oper)(aj i:Nat)(F:bT)(U:Op)(g:FuncId)(args:List o)(h:j)(K:lr):ev→dh→Prop
 |.one v aa eL,aq=>kv (eL++cond draw (iH ops aj i (bR F) h U aa) []) (K v aa aq [⟨g,args,h,v,aa⟩])
 |.or I a b,.aN _ y n=>(I→pB draw ops aj i F U g args h K a y)∧(¬I→pB draw ops aj i F U g args h K b n)
 |.or _ _ _,_=>False
 |.some v eL I,aq=>kv eL (∀aa,I aa→kv (cond draw (iH ops aj i (bR F) h U aa) []) (K v aa aq [⟨g,args,h,v,aa⟩]))
def zU(F:bT)(h:j)(U:Op):Option (ev×FuncId×List o) :=
 match U with
 |.call c =>
  match c.callee with
  |.value f =>
   match bR F f with
   |.func (.func g) cV bn =>
    match S g with
    |some sz=>match sz (cV++c.args.toList.map (bR F)++bn) h with|some a=>some (a,g,cV++c.args.toList.map (bR F)++bn)|none=>none
    |none=>none
   |_=>none
  |_=>none
 |_=>none
def oD(draw:Bool)(ops:Array Oper)(aj i:Nat)(F:bT)(h:j)(U:Op)(aq:dh)(K:lr):Prop :=
 match zT E S draw ops aj i F h U with
 |some (v,aa,bn,bl)=>kv bn (K v aa aq bl)
 |none =>
  match zU S F h U with
  |some (.some v eL I,g,args)=>pB draw ops aj i F U g args h K (.some v eL I) aq
  |_=>False
def Ew(draw:Bool)(ops:Array Oper)(aj i:Nat)(F:bT)(h:j)(U:Op)(y n:dh)(K:lr):Prop :=
 match Eu (bR F) U with
 |some (I,b)=>(I→kv (cond draw (iH ops aj i (bR F) h U h) []) (K (.bool b) h y []))∧(¬I→kv (cond draw (iH ops aj i (bR F) h U h) []) (K (.bool (!b)) h n []))
 |none =>
  match zT E S draw ops aj i F h U with
  |some (.bool b,aa,bn,bl)=>kv bn ((b=true→K (.bool true) aa y bl)∧(b=false→K (.bool false) aa n bl))
  |_=>False
def Ex(draw:Bool)(ops:Array Oper)(aj i:Nat)(F:bT)(h:j)(U:Op)(C:Nat)(y n:dh)(K:lr):Prop :=
 match zU S F h U with
 |some (.or I a b,g,args)=>pB draw ops aj i F U g args h K (.or I a b) (.aN C y n)
 |_=>Ew E S draw ops aj i F h U y n K
def Ey(fJ:qU)(draw:Bool)(ops:Array Oper)(aj i:Nat)(F:bT)(h:j)(U:Op)(x:Hint)(r:dh)(K:lr):Prop :=
 match x with
 |.enter _ =>
  match U with
  |.call c =>
   match c.callee with
   |.value f =>
    match bR F f with
    |.func (.func g) cV bn =>
     fJ g (cV++c.args.toList.map (bR F)++bn) h r fun v aa fG=>kv (cond draw (iH ops aj i (bR F) h U aa) []) (K v aa fG [⟨g,cV++c.args.toList.map (bR F)++bn,h,v,aa⟩])
    |_=>False
   |_=>False
  |_=>False
 |_ =>
  match wo P E (fun _ _ _ _=>none) draw ops aj i F h U x []with
  |some (v,aa,_,bn,bl)=>kv bn (K v aa r bl)
  |none=>match Ev E draw ops aj i (bR F) h U with|some (v,aa,bn)=>kv bn (K v aa r [])|none=>False
def oE(fJ:qU)(q:Nat)(ops:Array Oper)(draw:Bool)(aj i:Nat)(F:bT)(h:j)(U:Op)(K:lr):dh→Prop
 |.nil=>oD E S draw ops aj i F h U .nil K
 |.aA x r=>match x.at with|some C=>cond (Nat.beq (1000*q+i) C) (Ey P E fJ draw ops aj i F h U x r K) (oD E S draw ops aj i F h U (.aA x r) K)|none=>oD E S draw ops aj i F h U (.aA x r) K
 |.aN C y n=>cond (Nat.beq (1000*q+i) C) (Ex E S draw ops aj i F h U C y n K) (oD E S draw ops aj i F h U (.aN C y n) K)
 |.cases C I y n=>cond (Nat.beq (1000*q+i) C) ((I→oE fJ q ops draw aj i F h U K y)∧(¬I→oE fJ q ops draw aj i F h U K n)) (oD E S draw ops aj i F h U (.cases C I y n) K)
 |.ex C I f=>cond (Nat.beq (1000*q+i) C) ((∃x,I x)∧∀x,I x→oE fJ q ops draw aj i F h U K (f x)) (oD E S draw ops aj i F h U (.ex C I f) K)
 |.skip C r=>cond (Nat.beq (1000*q+i) C) (oD E S draw ops aj i F h U r K) (oD E S draw ops aj i F h U (.skip C r) K)
def sA(ops:Array Oper)(draw:Bool)(aj i:Nat)(F:bT)(h:j)(U:Op)(K:lr):Prop :=
 ∃v aa eK bl,K v aa eK bl∧(∀c∈bl,aI P E.cond c.f c.args c.h c.v c.aa)∧∀call:dZ,(∀c∈bl,c.holds call)→kT E call ops draw aj i (bR F) h U=some (v,aa)
def zV(fJ:qU):Prop:= ∀f args h aq K,fJ f args h aq K→ ∃v aa eK,aI P E.cond f args h v aa∧K v aa eK
variable {P E S}
theorem KS(cA:ho P E)(eY:P.follows .mixedOrders=true)(cq:eP P E.cond S){draw:Bool}{ops:Array Oper}{aj i:Nat}{F:bT}{h aa:j}{U:Op}{v:o}{bn:List Prop}{bl:List hU}(k:zT E S draw ops aj i F h U=some (v,aa,bn,bl))(ar:b0 bn) :
 (∀c∈bl,aI P E.cond c.f c.args c.h c.v c.aa)∧∀call:dZ,(∀c∈bl,c.holds call)→kT E call ops draw aj i (bR F) h U=some (v,aa):=by
 have plain:∀{r:Option (o×j×List Prop×List hU)},(match oA E draw ops aj i F h U []with|some (v,aa,_,bn,bl)=>some (v,aa,bn,bl)|none=>none)=some (v,aa,bn,bl) →
  (∀c∈bl,aI P E.cond c.f c.args c.h c.v c.aa)∧∀call:dZ,(∀c∈bl,c.holds call)→kT E call ops draw aj i (bR F) h U=some (v,aa):=by
  intro r k;split at k
  ·rename_i v1 p et dJ aL ac;simp only [Option.some.injEq,Prod.mk.injEq]at k;obtain⟨rfl,rfl,rfl,rfl⟩:=k;have ku:Eg P E (fun _ _ _ _=>none):=fun _ _ _ _ _ _ _ _ h=>by cases h
   have ei:pop P E (fun _ _ _ _=>none) 0 ops draw aj i F h U []=some (v1,p,et,dJ,aL):=ac;exact⟨Kw P E cA eY ku ei ar,fun call ao=>Kv P E ei ar ao⟩
  ·cases k
 unfold zT at k;split at k
 ·rename_i c;split at k
  ·rename_i f a6;split at k
   ·rename_i g cV so ah;split at k
    ·rename_i sz tC;split at k
     ·rename_i v1 p eL fV;simp only [Option.some.injEq,Prod.mk.injEq]at k;obtain⟨rfl,rfl,rfl,rfl⟩:=k;refine⟨fun c hm=> ?_,fun call ao=> ?_⟩
      ·rw [List.mem_singleton.1 hm];exact cq _ _ tC _ _ _ fV ar.left
      ·refine jP E ?_ ar.right;simp only [bX,a6,ah,n9];exact ao _ (List.mem_singleton.2 rfl)
     ·cases k
    ·cases k
   ·cases k
  ·exact plain (r:=none) k
 ·exact plain (r:=none) k
theorem Ez{draw:Bool}{ops:Array Oper}{aj i:Nat}{F:bT}{h:j}{c:Call}{f:Operand}(a6:c.callee=.value f){g:FuncId}{cV bn:List o}(ah:bR F f=.func (.func g) cV bn){K:lr} :
 ∀(a:ev)(aq:dh),a.dr P E.cond g (cV++c.args.toList.map (bR F)++bn) h→pB draw ops aj i F (.call c) g (cV++c.args.toList.map (bR F)++bn) h K a aq→sA P E ops draw aj i F h (.call c) K
 |.one v aa eL,aq,ok,k=>by
  obtain⟨ar,df⟩:=lq (by simpa only [pB]using k);refine⟨v,aa,aq,_,df,fun c hm=> ?_,fun call ao=> ?_⟩
  ·rw [List.mem_singleton.1 hm];exact ok ar.left
  ·refine jP E ?_ ar.right;simp only [bX,a6,ah,n9];exact ao _ (List.mem_singleton.2 rfl)
 |.some v eL I,aq,ok,k=>by
  obtain⟨ar,df⟩:=lq (by simpa only [pB]using k);obtain⟨aa,aD,ac⟩:=ok ar;obtain⟨kN,df⟩:=lq (df aa ac);refine⟨v,aa,aq,_,df,fun c hm=> ?_,fun call ao=> ?_⟩
  ·rw [List.mem_singleton.1 hm];exact aD
  ·refine jP E ?_ kN;simp only [bX,a6,ah,n9];exact ao _ (List.mem_singleton.2 rfl)
 |.or I a b,.aN C y n,ok,k=>by
  simp only [pB]at k;by_cases ac:I
  ·exact Ez a6 ah a y (ok.1 ac) (k.1 ac)
  ·exact Ez a6 ah b n (ok.2 ac) (k.2 ac)
 |.or I a b,.nil,ok,k=>k.elim
 |.or I a b,.aA _ _,ok,k=>k.elim
 |.or I a b,.cases _ _ _ _,ok,k=>k.elim
 |.or I a b,.ex _ _ _,ok,k=>k.elim
 |.or I a b,.skip _ _,ok,k=>k.elim
theorem KT(cq:eP P E.cond S){draw:Bool}{ops:Array Oper}{aj i:Nat}{F:bT}{h:j}{U:Op}{a:ev}{g:FuncId}{args:List o}(b7:zU S F h U=some (a,g,args)){K:lr}{aq:dh}(k:pB draw ops aj i F U g args h K a aq):sA P E ops draw aj i F h U K:=by
 unfold zU at b7;split at b7
 ·rename_i c;split at b7
  ·rename_i f a6;split at b7
   ·rename_i dA cV bn ah;split at b7
    ·rename_i sz tC;split at b7
     ·rename_i cz fV;simp only [Option.some.injEq,Prod.mk.injEq]at b7;obtain⟨rfl,rfl,rfl⟩:=b7;exact Ez a6 ah _ _ (cq _ _ tC _ _ _ fV) k
     ·cases b7
    ·cases b7
   ·cases b7
  ·cases b7
 ·cases b7
theorem qV(cA:ho P E)(eY:P.follows .mixedOrders=true)(cq:eP P E.cond S){draw:Bool}{ops:Array Oper}{aj i:Nat}{F:bT}{h:j}{U:Op}{aq:dh}{K:lr}(k:oD E S draw ops aj i F h U aq K):sA P E ops draw aj i F h U K:=by
 unfold oD at k;split at k
 ·rename_i v aa bn bl av;obtain⟨ar,df⟩:=lq k;obtain⟨aL,aQ⟩:=KS cA eY cq av ar;exact⟨v,aa,aq,bl,df,aL,aQ⟩
 ·split at k
  ·rename_i b7;exact KT cq b7 k
  ·exact k.elim
theorem TT(cA:ho P E)(eY:P.follows .mixedOrders=true)(cq:eP P E.cond S){draw:Bool}{ops:Array Oper}{aj i:Nat}{F:bT}{h:j}{U:Op}{y n:dh}{K:lr}(k:Ew E S draw ops aj i F h U y n K):sA P E ops draw aj i F h U K:=by
 unfold Ew at k;split at k
 ·rename_i I b av;by_cases ac:I
  ·obtain⟨ar,df⟩:=lq (k.1 ac);exact⟨_,_,_,_,df,fun c hm=>by simp at hm,fun call _=>jP E ((KQ av call (aj+i) h).1 ac) ar⟩
  ·obtain⟨ar,df⟩:=lq (k.2 ac);exact⟨_,_,_,_,df,fun c hm=>by simp at hm,fun call _=>jP E ((KQ av call (aj+i) h).2 ac) ar⟩
 ·split at k
  ·rename_i b aa bn bl av;obtain⟨ar,df⟩:=lq k;obtain⟨aL,aQ⟩:=KS cA eY cq av ar;cases b with
   |true=>exact⟨_,_,_,_,df.1 rfl,aL,aQ⟩
   |false=>exact⟨_,_,_,_,df.2 rfl,aL,aQ⟩
  ·exact k.elim
theorem TU(cA:ho P E)(eY:P.follows .mixedOrders=true)(cq:eP P E.cond S){draw:Bool}{ops:Array Oper}{aj i:Nat}{F:bT}{h:j}{U:Op}{C:Nat}{y n:dh}{K:lr}(k:Ex E S draw ops aj i F h U C y n K):sA P E ops draw aj i F h U K:=by
 unfold Ex at k;split at k
 ·rename_i b7;exact KT cq b7 k
 ·exact TT cA eY cq k
theorem TV(cA:ho P E)(eY:P.follows .mixedOrders=true)(cq:eP P E.cond S){fJ:qU}(ku:zV P E fJ){q:Nat}{draw:Bool}{ops:Array Oper}{aj i:Nat}{F:bT}{h:j}{U:Op}{x:Hint}(af:x.at=some (1000*q+i)){r:dh}{K:lr}(k:Ey P E fJ draw ops aj i F h U x r K) :
 sA P E ops draw aj i F h U K:=by
 unfold Ey at k;split at k
 ·split at k
  ·rename_i c;split at k
   ·rename_i f a6;split at k
    ·rename_i g cV bn ah;obtain⟨v,aa,eK,aD,df⟩:=ku _ _ _ _ _ k;obtain⟨ar,df⟩:=lq df;refine⟨v,aa,eK,_,df,fun c hm=> ?_,fun call ao=> ?_⟩
     ·rw [List.mem_singleton.1 hm];exact aD
     ·refine jP E ?_ ar;simp only [bX,a6,ah,n9];exact ao _ (List.mem_singleton.2 rfl)
    ·exact k.elim
   ·exact k.elim
  ·exact k.elim
 ·split at k
  ·rename_i v aa et bn bl ac;obtain⟨ar,df⟩:=lq k;have TW:Eg P E (fun _ _ _ _=>none):=fun _ _ _ _ _ _ _ _ h=>by cases h
   have ei:pop P E (fun _ _ _ _=>none) q ops draw aj i F h U [x]=some (v,aa,et,bn,bl):=by unfold pop;simp only [af];rw [beq_true rfl,cond_true];exact ac
   exact⟨v,aa,r,bl,df,Kw P E cA eY TW ei ar,fun call ao=>Kv P E ei ar ao⟩
  ·split at k
   ·rename_i v aa bn ac;obtain⟨ar,df⟩:=lq k;exact⟨v,aa,r,[],df,fun c hm=>by simp at hm,fun call _=>TS (P:=P) ac ar call⟩
   ·exact k.elim
theorem zW(cA:ho P E)(eY:P.follows .mixedOrders=true)(cq:eP P E.cond S){fJ:qU}(ku:zV P E fJ){q:Nat}{draw:Bool}{ops:Array Oper}{aj i:Nat}{F:bT}{h:j}{U:Op}{K:lr} :∀(aq:dh),oE P E S fJ q ops draw aj i F h U K aq→sA P E ops draw aj i F h U K
 |.nil,k=>qV cA eY cq k
 |.aA x r,k=>by
  simp only [oE]at k;split at k
  ·rename_i C aX;rcases nx (1000*q+i) C with ⟨e,dT⟩|⟨e,dT⟩
   ·rw [dT,cond_true]at k;exact TV cA eY cq ku (by rw [aX,e]) k
   ·rw [dT,cond_false]at k;exact qV cA eY cq k
  ·exact qV cA eY cq k
 |.aN C y n,k=>by
  simp only [oE]at k;rcases nx (1000*q+i) C with ⟨e,dT⟩|⟨e,dT⟩
  ·rw [dT,cond_true]at k;exact TU cA eY cq k
  ·rw [dT,cond_false]at k;exact qV cA eY cq k
 |.cases C I y n,k=>by
  simp only [oE]at k;rcases nx (1000*q+i) C with ⟨e,dT⟩|⟨e,dT⟩
  ·rw [dT,cond_true]at k;by_cases ac:I
   ·exact zW cA eY cq ku y (k.1 ac)
   ·exact zW cA eY cq ku n (k.2 ac)
  ·rw [dT,cond_false]at k;exact qV cA eY cq k
 |.ex C I f,k=>by
  simp only [oE]at k;rcases nx (1000*q+i) C with ⟨e,dT⟩|⟨e,dT⟩
  ·rw [dT,cond_true]at k;obtain⟨⟨x,af⟩,k⟩:=k;exact zW cA eY cq ku (f x) (k x af)
  ·rw [dT,cond_false]at k;exact qV cA eY cq k
 |.skip C r,k=>by
  simp only [oE]at k;rcases nx (1000*q+i) C with ⟨e,dT⟩|⟨e,dT⟩
  ·rw [dT,cond_true]at k;exact qV cA eY cq k
  ·rw [dT,cond_false]at k;exact qV cA eY cq k
variable(P E S)
def ua(fJ:qU)(q:Nat)(ops:Array Oper)(draw:Bool)(n aj:Nat):List Oper→Nat→bT→j→dh→List hU→(bT→j→dh→List hU→Prop)→Prop
 |[],_,F,h,aq,bl,K=>K F h aq bl
 |U::r,i,F,h,aq,bl,K =>
  cond (Eh n U)
  (match D7 ops F U with
  |some true=>cond (U.op.operands.toList.all (tS F)) (oE P E S fJ q ops draw aj i F h U.op (fun v aa eK aQ=>ua fJ q ops draw n aj r (i+1) (zH F U.dst v) aa eK (bl++aQ) K) aq) False
  |some false=>ua fJ q ops draw n aj r (i+1) (zH F U.dst gf) h aq bl K
  |none=>False) False
variable {P E S}
theorem EA(cA:ho P E)(eY:P.follows .mixedOrders=true)(cq:eP P E.cond S){fJ:qU}(ku:zV P E fJ){q:Nat}{ops:Array Oper}{draw:Bool}{n aj:Nat} :∀(l:List Oper)(i:Nat)(F:bT)(h:j)(aq:dh)(bl:List hU){K:bT→j→dh→List hU→Prop},(∀C,l[C]? =ops[i+C]?) →
 ua P E S fJ q ops draw n aj l i F h aq bl K→ ∃eu aa eK aQ,K eu aa eK (bl++aQ)∧(∀c∈aQ,aI P E.cond c.f c.args c.h c.v c.aa)∧∀call:dZ,(∀c∈aQ,c.holds call)→ ∀s:List o,s.length=n→Has F s→ ∃bK,bK.length=n∧Has eu bK ∧
  pA E call ops draw aj (List.range' i l.length) ⟨s,h⟩=some ⟨bK,aa⟩
 |[],i,F,h,aq,bl,K,aB,k=>⟨F,h,aq,[],by simpa [ua]using k,fun c hm=>by simp at hm,fun call _ s aM fE=>⟨s,aM,fE,by unfold pA;cases draw<;>rfl⟩⟩
 |U :: r, i,F,h,aq,bl,K,aB,k=>by
  have ai:ops[i]? =some U:=by have:=aB 0;simpa using this.symm
  have be:∀C,r[C]? =ops[i+1+C]? :=fun C=>by have:=aB (C+1);simp at this;rw [this];congr 1;omega
  simp only [ua]at k;cases aD:Eh n U with
  |false=>rw [aD]at k;exact k.elim
  |true =>
   rw [aD,cond_true]at k
   have KU:∀m,m=n→ ∀t,U.dst=some t→t<m:=by intro m hm t b7;unfold Eh at aD;rw [b7]at aD;rw [hm];exact Nat.blt_eq.mp aD
   rw [List.length_cons,List.range'_succ];split at k
   ·rename_i ah;cases gi:U.op.operands.toList.all (tS F)with
    |false=>rw [gi]at k;exact k.elim
    |true =>
     rw [gi,cond_true]at k;obtain⟨v,p,et,aL,df,nv,TX⟩:=zW cA eY cq ku aq k;obtain⟨eu,aa,eK,aQ,wz,sc,EB⟩:=EA cA eY cq ku r (i+1) _ _ _ _ be df;refine⟨eu,aa,eK,aL++aQ,by rw [←List.append_assoc];exact wz,fun c hm=>(List.mem_append.1 hm).elim (nv c) (sc c),fun call ao s aM fE=> ?_⟩;have qD:=TX call fun c hm=>ao c (by simp [hm])
     obtain⟨bK,bu,bC,sB⟩:=EB call (fun c hm=>ao c (by simp [hm])) (hR s U.dst v) (by rw [Kx];exact aM) (fE.set (KU s.length aM) v);refine⟨bK,bu,bC,?_⟩
     have zX:kT E call ops draw aj i (dd s) h U.op=some (v,p):=by
      rw [←qD];have oF:∀x∈U.op.operands.toList,dd s x=bR F x:=fun x af=>(fE.get (List.all_eq_true.1 gi x af)).symm
      have bm:∀bh,bX E call bh (dd s) h U.op=bX E call bh (bR F) h U.op:=fun bh=>JI oF
      have eS:kg (dd s) U.op=kg (bR F) U.op:=by cases jM:U.op<;>simp only [kg];rename_i t x;rw [jM]at oF;rw [oF x (by simp [Op.operands])]
      have iC:nl (dd s) U.op=nl (bR F) U.op:=by cases jM:U.op<;>simp only [nl];rename_i t x y;rw [jM]at oF;rw [oF x (by simp [Op.operands])]
      have vK:∀bh,eB E bh (dd s) h U.op=eB E bh (bR F) h U.op:=fun bh=>Tx E oF
      have zm:h5 (dd s) U.op=h5 (bR F) U.op:=by cases jM:U.op<;>simp only [h5];rename_i c;rw [jM]at oF;rw [tH (xs:=c.args) (fun x af=>oF x (by simp only [Op.operands,Call.operands,Array.toList_append,List.mem_append];exact .inr af))]
      have Dv:iU ops aj i (dd s) U.op=iU ops aj i (bR F) U.op:=by
       have:oe (dd s) U.op=oe (bR F) U.op:=by cases jM:U.op<;>simp only [oe];rename_i a b x;rw [jM]at oF;rw [oF x (by simp [Op.operands])]
       unfold iU;rw [this]
      unfold kT fx jm;simp only [bm,eS,iC,vK,zm,Dv]
     exact(TB E ai (Ko fE ah) zX).trans sB
   ·rename_i ah;obtain⟨eu,aa,eK,aQ,wz,sc,EB⟩:=EA cA eY cq ku r (i+1) _ _ _ _ be k;refine⟨eu,aa,eK,aQ,wz,sc,fun call ao s aM fE=> ?_⟩;obtain⟨bK,bu,bC,sB⟩:=EB call ao (hR s U.dst gf) (by rw [Kx];exact aM) (fE.set (KU s.length aM) gf);exact⟨bK,bu,bC,(TC E ai (Ko fE ah)).trans sB⟩
   ·exact k.elim
def zY(step:bT→j→dh→wy→Prop)(K:wy):Nat→bT→j→dh→Prop
 |0,_,_,_=>False
 |m+1,F,h,aq=>step F h aq fun e bb p et=>match e with|.normal=>zY step K m bb p et|e=>K e bb p et
def KV(D:dI)(dR:List ResultVar)(e:dj)(F:bT)(h aa:j)(K:o→Prop):Prop :=
 match e with
 |.normal=>match lY D F aa dR []with|some (l,bn)=>kv bn (cond (Nat.ble h.next aa.next) (K (mi l)) False)|none=>False
 |.ret=>match lY D F aa dR []with|some (l,bn)=>kv bn (cond (Nat.ble h.next aa.next) (K (mi l)) False)|none=>False
 |_=>False
variable(P E S)
def wA(ex:Nat→Nat→Code→bT→j→dh→wy→Prop):qU:=fun f args h aq K =>
 match P.funcs[f]? with
 |some fn =>
  match fn.body with
  |some c=>ex h.next (args.length+(fn.ntmps-args.length)) c (sp 0 args) h aq fun e F aa eK=>KV E.D fn.results.toList e F h aa fun v=>K v aa eK
  |none=>False
 |none=>False
def hs(cX:Nat→Nat→Code→bT→j→dj→bT→j→Prop):Nat→Nat→Nat→Option Code→Code→bT→j→dh→wy→Prop
 |0,_,_,_,_,_,_,_,_=>False
 |k + 1,base,n,some body,c,F,h,aq,K =>
  hs cX k base n none c F h aq fun e bb p et =>
   match e with
   |.goto l =>
    match findLabel body l with
    |some rest=>hs cX k base n (some body) rest bb p et K
    |none=>K (.goto l) bb p et
   |e=>K e bb p et
 |k + 1,base,n,none,c,F,h,aq,K =>
  match c with
  |.skip=>K .normal F h aq
  |.label _=>K .normal F h aq
  |.region q ops draw =>
   cond (Nat.ble base h.next&&(!draw || oc ops))
   (ua P E S (wA P E fun b m c F h aq K=>hs cX k b m none c F h aq K) q ops draw n h.next ops.toList 0 F {h with next:=h.next+ops.size} aq [] fun bb p et bl=>kv (zL bl) (K .normal bb p et)) False
  |.seq a b =>
   hs cX k base n none a F h aq fun e bb p et =>
    match e with
    |.normal=>hs cX k base n none b bb p et K
    |e=>K e bb p et
  |.cond x a b =>
   cond (tS F x)
   (match bR F x with
   |.bool true=>hs cX k base n none a F h aq K
   |.bool false=>hs cX k base n none b F h aq K
   |_=>False) False
  |.block id c =>
   hs cX k base n none c F h aq fun e bb p et =>
    match e with
    |.exit C=>K (cond (Nat.beq C id) .normal (.exit C)) bb p et
    |e=>K e bb p et
  |.loop c =>
   match aq with
   |.aA (.cN l) (.aA (.loop bb p e) r)=>cX base n (.loop c) (py F l) h e bb p∧K e bb p r
   |.aA (.loop bb p e) r=>cX base n (.loop c) F h e bb p∧K e bb p r
   |.aA (.rounds m) r=>zY (fun F h aq K=>hs cX k base n none c F h aq K) K m F h r
   |.cases _ I y ub=>(I→hs cX k base n none (.loop c) F h y K)∧(¬I→hs cX k base n none (.loop c) F h ub K)
   |.ex _ I f=>(∃x,I x)∧∀x,I x→hs cX k base n none (.loop c) F h (f x) K
   |_=>False
  |.scope c=>hs cX k base n (some c) c F h aq K
  |.goto l=>K (.goto l) F h aq
  |.exit id=>K (.exit id) F h aq
  |.ret=>K .ret F h aq
  |_=>False
variable {P E S}
theorem KW(cA:ho P E){f:FuncId}{fn:Func}{c:Code}(a6:P.funcs[f]? =some fn)(av:fn.body=some c){args:List o}{h aa:j}{e:dj}{eu:bT}{K:o→Prop}
 (be:cP P E.cond h.next (args.length+(fn.ntmps-args.length)) c (sp 0 args) h e eu aa) (k:KV E.D fn.results.toList e eu h aa K):∃v,aI P E.cond f args h v aa∧K v:=by
 have fin:(e=.normal∨e=.ret)→(match lY E.D eu aa fn.results.toList []with|some (l,bn)=>kv bn (cond (Nat.ble h.next aa.next) (K (mi l)) False)|none=>False)→ ∃v,aI P E.cond f args h v aa∧K v:=by
  intro he k;split at k
  ·rename_i l bn ac;obtain⟨ar,k⟩:=lq k;cases hle:Nat.ble h.next aa.next with
   |false=>rw [hle]at k;exact k.elim
   |true =>
    rw [hle,cond_true]at k;exact⟨_,aI.TF cA a6 av he be ac ar (Nat.le_of_ble_eq_true hle),k⟩
  ·exact k.elim
 cases e with
 |normal=>exact fin (.inl rfl) k
 |ret=>exact fin (.inr rfl) k
 |exit C=>exact k.elim
 |goto l=>exact k.elim
theorem KX(cA:ho P E)(eY:P.follows .mixedOrders=true)(cq:eP P E.cond S):∀(k:Nat){base n:Nat}(body:Option Code)(c:Code)(F:bT)(h:j)(aq:dh){K:wy},
 hs P E S (cP P E.cond) k base n body c F h aq K→ ∃e eu aa eK,kU P E.cond base n (sq P body c) F h e eu aa∧K e eu aa eK:=by
 intro k;induction k with
 |zero=>intro base n body c F h aq K ac;exact ac.elim
 |succ k ih =>
  intro base n body c F h aq K ac;cases body with
  |some body =>
   simp only [hs]at ac;obtain⟨e,bb,p,et,t1,ac⟩:=ih none c F h aq ac
   have pass:(∀l,e≠ .goto l)→kU P E.cond base n (sq P (some body) c) F h e bb p:=by
    intro bZ S bo cq gr eZ ak a w bm ao r Q eF;refine zq (t1 S bo cq gr eZ ak a w bm ao r _ fun bM cz bA eg fG=> ?_);have:=eF bM cz bA eg fG;cases e with
    |goto l=>exact absurd rfl (bZ l)
    |_=>exact this
   cases e with
   |goto l =>
    simp only at ac;cases aB:findLabel body l with
    |none =>
     rw [aB]at ac;refine⟨.goto l,bb,p,et,?_,ac⟩;intro S bo cq gr eZ ak a w bm ao r Q eF;refine zq (t1 S bo cq gr eZ ak a w bm ao r _ fun bM cz bA eg fG=> ?_);show qJ P body Q (.goto l) cz bA;simp only [qJ,aB];exact eF bM cz bA eg fG
    |some rest =>
     rw [aB]at ac;obtain⟨bC,ny,ae,uc,t2,ac⟩:=ih (some body) rest bb p et ac;refine⟨bC,ny,ae,uc,?_,ac⟩;intro S bo cq gr eZ ak a w bm ao r Q eF;refine zq (t1 S bo cq gr eZ ak a w bm ao r _ fun bM cz bA eg fG=> ?_);show qJ P body Q (.goto l) cz bA;simp only [qJ,aB];exact t2 S bo cq gr eZ bM cz bA bm eg fG Q eF
   |normal=>exact⟨_,bb,p,et,pass (fun l=>by simp),ac⟩
   |exit C=>exact⟨_,bb,p,et,pass (fun l=>by simp),ac⟩
   |ret=>exact⟨_,bb,p,et,pass (fun l=>by simp),ac⟩
  |none =>
   have stop:∀{b':dj},(∀(Q:Exit→Act→World→Prop)(a:Act)(w:World),Q (vY b') a w→c.wp P Q a w)→K b' F h aq→ ∃e eu aa eK,kU P E.cond base n (sq P none c) F h e eu aa∧K e eu aa eK:=by intro b' bm ac;refine⟨b',F,h,aq,?_,ac⟩;intro S bo cq gr eZ ak a w aD ao r Q eF;exact bm Q a w (eF ak a w ao r)
   cases c;case skip=>exact stop (b':= .normal) (fun _ _ _ aC=>wp_skip aC) ac
   case label l=>exact stop (b':= .normal) (fun _ _ _ aC=>wp_label aC) ac
   case goto l=>exact stop (b':= .goto l) (fun _ _ _ aC=>wp_goto aC) ac
   case exit id=>exact stop (b':= .exit id) (fun _ _ _ aC=>wp_exit aC) ac
   case ret=>exact stop (b':= .ret) (fun _ _ _ aC=>wp_ret aC) ac
   case region id ops draw =>
    simp only [hs]at ac;cases aD:(Nat.ble base h.next&&(!draw || oc ops))with
    |false=>rw [aD]at ac;exact ac.elim
    |true =>
     rw [aD,cond_true]at ac;simp only [Bool.and_eq_true,Bool.or_eq_true]at aD;obtain⟨av,aD⟩:=aD;have av:base≤h.next:=Nat.le_of_ble_eq_true av
     have aB:∀C:Nat,ops.toList[C]? =ops[0+C]? :=fun C=>by simp
     have ku:zV P E (wA P E fun b m c F h aq K=>hs P E S (cP P E.cond) k b m none c F h aq K):=by
      intro f args h aq K aC;unfold wA at aC;split at aC
      ·rename_i fn a6;split at aC
       ·rename_i c av;obtain⟨e,eu,aa,eK,t,aC⟩:=ih none c _ _ _ aC;obtain⟨v,aD,df⟩:=KW cA a6 av t aC;exact⟨v,aa,eK,aD,df⟩
       ·exact aC.elim
      ·exact aC.elim
     obtain⟨bb,p,et,aL,df,vC,km⟩:=EA cA eY cq ku ops.toList 0 F _ aq [] aB ac;rw [List.nil_append]at df;obtain⟨hl,df⟩:=lq df;refine⟨.normal,bb,p,et,?_,df⟩;intro S bo cq gr eZ ak a w bm ao ⟨s,aM,fE,r⟩ Q eF;obtain⟨bK,g1,g2,lP⟩:=km (qQ aL) (KB hl) s aM fE;have TY:List.range' 0 ops.toList.length=List.range ops.size:=by rw [List.range_eq_range',Array.length_toList]
     rw [TY]at lP
     have TZ:rS E (qQ aL) ops draw ⟨s,h⟩=some ⟨bK,p⟩:=by
      unfold rS;unfold pA at lP;cases draw with
      |false=>simpa using lP
      |true =>
       have aD:oc ops=true:=by simpa using aD
       simp only [if_true,aD];simpa using lP
     exact J2 cA cq (TD P E vC cq gr) eY r TZ fun cz bA bM dK dL gd=>eF bM cz bA (ao.trans (dK.mono av)) ⟨bK,g1,g2,dL⟩
   case seq x y =>
    simp only [hs]at ac;obtain⟨e,bb,p,et,t1,ac⟩:=ih none x F h aq ac
    have pass:e≠ .normal→kU P E.cond base n (sq P none (.seq x y)) F h e bb p:=by
     intro bZ S bo cq gr eZ ak a w bm ao r Q eF;refine wp_seq (t1 S bo cq gr eZ ak a w bm ao r _ fun bM cz bA eg fG=> ?_);have:=eF bM cz bA eg fG;cases e with
     |normal=>exact absurd rfl bZ
     |_=>exact this
    cases e with
    |normal =>
     obtain⟨bC,ny,ae,uc,t2,ac⟩:=ih none y bb p et ac;refine⟨bC,ny,ae,uc,?_,ac⟩;intro S bo cq gr eZ ak a w bm ao r Q eF;exact wp_seq (t1 S bo cq gr eZ ak a w bm ao r _ fun bM cz bA eg fG=>t2 S bo cq gr eZ bM cz bA bm eg fG Q eF)
    |exit C=>exact⟨_,bb,p,et,pass (by simp),ac⟩
    |goto l=>exact⟨_,bb,p,et,pass (by simp),ac⟩
    |ret=>exact⟨_,bb,p,et,pass (by simp),ac⟩
   case cond x y z =>
    simp only [hs]at ac;cases ao:tS F x with
    |false=>rw [ao]at ac;exact ac.elim
    |true =>
     rw [ao,cond_true]at ac
     have go:∀{q:Bool},bR F x=.bool q→hs P E S (cP P E.cond) k base n none (cond q y z) F h aq K→ ∃e eu aa eK,kU P E.cond base n (sq P none (.cond x y z)) F h e eu aa∧K e eu aa eK:=by
      intro q aC ac;obtain⟨e,bb,p,et,t1,ac⟩:=ih none (cond q y z) F h aq ac;refine⟨e,bb,p,et,?_,ac⟩;intro S bo cq gr eZ ak a w bm eg r Q eF;have hw:=t1 S bo cq gr eZ ak a w bm eg r Q eF;obtain⟨s,aM,fE,r⟩:=r;have af:=r.eval x;simp only at af;rw [←fE.get ao,aC]at af;simp only [aK]at af;cases q
      ·exact wp_cond_false af hw
      ·exact wp_cond_true af hw
     split at ac
     ·rename_i aC;exact go (q:=true) aC ac
     ·rename_i aC;exact go (q:=false) aC ac
     ·exact ac.elim
   case block id c =>
    simp only [hs]at ac;obtain⟨e,bb,p,et,t1,ac⟩:=ih none c F h aq ac
    have pass:(∀C,e≠ .exit C)→kU P E.cond base n (sq P none (.block id c)) F h e bb p:=by
     intro bZ S bo cq gr eZ ak a w bm ao r Q eF;refine wp_block (t1 S bo cq gr eZ ak a w bm ao r _ fun bM cz bA eg fG=> ?_);have:=eF bM cz bA eg fG;cases e with
     |exit C=>exact absurd rfl (bZ C)
     |_=>exact this
    cases e with
    |exit C =>
     refine⟨_,bb,p,et,?_,ac⟩;intro S bo cq gr eZ ak a w bm ao r Q eF;refine wp_block (t1 S bo cq gr eZ ak a w bm ao r _ fun bM cz bA eg fG=> ?_);have:=eF bM cz bA eg fG;simp only [vY,Exit.inBlock];rcases nx C id with ⟨aX,j7⟩|⟨aX,j7⟩
     ·rw [j7,cond_true]at this;rw [if_pos aX];exact this
     ·rw [j7,cond_false]at this;rw [if_neg aX];exact this
    |normal=>exact⟨_,bb,p,et,pass (fun C=>by simp),ac⟩
    |goto l=>exact⟨_,bb,p,et,pass (fun C=>by simp),ac⟩
    |ret=>exact⟨_,bb,p,et,pass (fun C=>by simp),ac⟩
   case loop c =>
    simp only [hs]at ac;split at ac
    ·rename_i l bb p bu fM;have af:kU P E.cond base n (sq P none (.loop c)) (py F l) h bu bb p:=ac.1;exact⟨_,_,_,_,af.pre (e0.facts fun t v a'=>wm a'),ac.2⟩
    ·exact⟨_,_,_,_,ac.1,ac.2⟩
    ·rename_i m r
     have key:∀(m:Nat)(F:bT)(h:j)(aq:dh),zY (fun F h aq K=>hs P E S (cP P E.cond) k base n none c F h aq K) K m F h aq→ ∃e eu aa eK,db P E.cond base n c F h e eu aa∧K e eu aa eK:=by
      intro m;induction m with
      |zero=>intro F h aq ac;exact ac.elim
      |succ m T0 =>
       intro F h aq ac;simp only [zY]at ac;obtain⟨e,bb,p,et,t1,ac⟩:=ih none c F h aq ac;cases e with
       |normal =>
        obtain⟨bC,ny,ae,uc,t2,ac⟩:=T0 bb p et ac;exact⟨bC,ny,ae,uc,db.step t1 t2,ac⟩
       |exit C=>exact⟨_,bb,p,et,db.last (by simp) t1,ac⟩
       |goto C=>exact⟨_,bb,p,et,db.last (by simp) t1,ac⟩
       |ret=>exact⟨_,bb,p,et,db.last (by simp) t1,ac⟩
     obtain⟨e,eu,aa,eK,t,df⟩:=key m F h r ac;exact⟨e,eu,aa,eK,cP.h' t,df⟩
    ·rename_i I y ub;by_cases aC:I
     ·exact ih none (.loop c) F h y (ac.1 aC)
     ·exact ih none (.loop c) F h ub (ac.2 aC)
    ·rename_i α I f;obtain⟨⟨x,af⟩,ac⟩:=ac;exact ih none (.loop c) F h (f x) (ac x af)
    ·exact ac.elim
   case scope c =>
    simp only [hs]at ac;obtain⟨e,bb,p,et,t1,ac⟩:=ih (some c) c F h aq ac;refine⟨e,bb,p,et,?_,ac⟩;intro S bo cq gr eZ ak a w bm ao r Q eF;exact J5 (t1 S bo cq gr eZ ak a w bm ao r Q eF)
   all_goals exact ac.elim
variable(P E S)
def KY(f:FuncId)(args:List o)(h:j)(aq:dh)(K:o→j→Prop):Prop :=
 wA P E (fun b m c F h aq K=>hs P E S (cP P E.cond) 1000 b m none c F h aq K) f args h aq fun v aa _=>K v aa
def T1(base n:Nat)(c:Code)(F:bT)(h:j)(aq:dh)(cN:List Nat)(K:dj→bT→j→Prop):Prop :=
 hs P E S (cP P E.cond) 1000 base n none c F h aq fun e eu aa _=>K e (py eu cN) aa
variable {P E S}
theorem cf(cA:ho P E)(eY:P.follows .mixedOrders=true)(cq:eP P E.cond S){f:FuncId}{args:List o}{h:j}{aq:dh}{K:o→j→Prop}{I:Prop}(e:KY P E S f args h aq K=I)(k:I):∃v aa,aI P E.cond f args h v aa∧K v aa:=by
 rw [←e]at k;unfold KY wA at k;split at k
 ·rename_i fn a6;split at k
  ·rename_i c av;obtain⟨e,eu,aa,eK,t,aC⟩:=KX cA eY cq 1000 none c _ _ _ k;obtain⟨v,aD,df⟩:=KW cA a6 av t aC;exact⟨v,aa,aD,df⟩
  ·exact k.elim
 ·exact k.elim
theorem hI(cA:ho P E)(eY:P.follows .mixedOrders=true)(cq:eP P E.cond S){base n:Nat}{c:Code}{F:bT}{h:j}{aq:dh}{cN:List Nat}{K:dj→bT→j→Prop}{I:Prop}(e:T1 P E S base n c F h aq cN K=I)(k:I) :
 ∃e eu aa,cP P E.cond base n c F h e eu aa∧K e eu aa:=by
 rw [←e]at k;obtain⟨e,eu,aa,eK,t,aC⟩:=KX cA eY cq 1000 none c _ _ _ k;exact⟨e,_,aa,t.post (e0.facts (bT.TE _ _)),aC⟩
end
end
end Go.cH
namespace Go.cH
abbrev ah(n:Nat)(r:dh):dh:= .aA (.go n) r
abbrev he(n:Nat)(r:dh):dh:= .aA (.enter n) r
abbrev aeY(a b x:Int):Prop:=a≤x∧x≤b
abbrev bF(a b:Nat)(I:Prop):Prop:=bif Nat.ble a b&&true then I else False
abbrev bN(a b:Nat)(I:Prop):Prop:=bif Nat.ble a b then I else False
end Go.cH
namespace Go.cH
noncomputable section
open Go.RowKit
mutual
theorem o.zZ{D:Nat→Prop}{r:Nat→Nat}(h:∀i,D i→r i=i):∀{v:o},cv D v→v.bc r=v
 |.ptr (some a),k=>by simp only [cv]at k;simp only [o.bc,bH.bc,h _ k]
 |.slice (some a) _ _,k=>by simp only [cv]at k;simp only [o.bc,bH.bc,h _ k]
 |.func fn f c,k=>by simp only [cv]at k;simp only [o.bc,o.wB h k.1,o.wB h k.2]
 |.iface t v,k=>by simp only [cv]at k;simp only [o.bc,o.zZ h k]
 |.agg bn,k=>by simp only [cv]at k;simp only [o.bc,o.wB h k]
 |.tuple cd,k=>by simp only [cv]at k;simp only [o.bc,o.wB h k]
 |.undef,_=>rfl
 |.bool _,_=>rfl
 |.int _ _,_=>rfl
 |.str _,_=>rfl
 |.ptr none,_=>rfl
 |.slice none _ _,_=>rfl
 |.nilFunc,_=>rfl
 |.nilIface,_=>rfl
theorem o.wB{D:Nat→Prop}{r:Nat→Nat}(h:∀i,D i→r i=i):∀{l:List o},fo D l→o.gz r l=l
 |[],_=>rfl
 |a::l,k=>by simp only [fo]at k;simp only [o.gz,o.zZ h k.1,o.wB h k.2]
end
def z1(D:Nat→Prop)(b:J):Prop:= ∀e∈b.bi,cv D e
theorem aI.closed{P:Program}{cb:(Nat→Prop)→World→Prop}[j6 cb]{f:FuncId}{args:List o}{aa:j}{v:o}{l c3:List J}(k:aI P cb f args (j.of l) v aa)(hlen:c3.length=l.length)(eT:(List.range c3.length).map aa.get=c3.map some)(a':cT v)
 (ar:∀b∈c3,z1 (fun i=>i<c3.length) b):aI P cb f args (j.of l) v (j.of c3):=by
 have l0:(hq 0 c3).map (·.1)=List.range c3.length:=by rw [Em,List.range_eq_range']
 rw [j.KH c3];refine k.KE (fun i=>i) v c3.length (hq 0 c3) ?_ (a'.1 _).symm ?_ ?_ ?_ ?_ (Nat.ble_eq.mpr ?_) (a'.e2 _) ?_
 ·have p:(hq 0 c3).map (fun I=>aa.get I.1)=((hq 0 c3).map (·.1)).map aa.get:=by rw [List.map_map];rfl
  have ae:(hq 0 c3).map (fun I=>some (I.2.bc fun i=>i))=((hq 0 c3).map (·.2)).map some:=by rw [List.map_map];exact List.map_congr_left fun I _=>by rw [J.st];rfl
  rw [p,ae,l0,wx,eT]
 ·rw [List.all_eq_true];intro I ac;have:I.1∈(hq 0 c3).map (·.1):=List.mem_map.2 ⟨I,ac,rfl⟩;rw [l0]at this;exact Nat.blt_eq.mpr (List.mem_range.1 this)
 ·rw [l0];rw [List.map_id'];exact List.nodup_range
 ·rw [List.all_eq_true,j.of_next];intro i al;have al:=List.mem_range.1 al;rw [l0,Bool.and_eq_true];exact⟨by simp;omega,beq_true rfl⟩
 ·rw [List.all_eq_true,j.of_next];intro I ac;have:I.1∈(hq 0 c3).map (·.1):=List.mem_map.2 ⟨I,ac,rfl⟩;rw [l0]at this;have cM:=List.mem_range.1 this;rw [Bool.or_eq_true];exact .inl (Nat.blt_eq.mpr (by omega))
 ·rw [j.of_next];omega
 ·rw [l0]
  have:∀(q:List (Nat×J)),(∀I∈q,z1 (fun i=>i<c3.length) I.2)→b0 (q.map fun I=> ∀e∈I.2.bi,cv (cB (List.range c3.length)) e):=by
   intro q;induction q with
   |nil=>intro _;exact b0.nil
   |cons I r ih =>
    intro aC;exact b0.cons (fun e he=>cv.mono (fun i al=>List.mem_range.2 al) (aC I (by simp) e he)) (ih fun I ac=>aC I (by simp [ac]))
  refine this _ fun I ac=>ar I.2 ?_
  have:I.2∈(hq 0 c3).map (·.2):=List.mem_map.2 ⟨I,ac,rfl⟩
  rwa [wx]at this
end
end Go.cH
namespace Go.cH
noncomputable section
open Go.RowKit
def KZ:List (Nat×J)→Option J
 |[]=>none
 |(k,b)::r=>_root_.cond (Nat.beq k 0) (some b) (KZ r)
def wC(U:Nat):List (Nat×J)→List (Nat×J)
 |[]=> []
 |(k,b)::r=>_root_.cond (Nat.beq k 0) (wC U r) (_root_.cond (Nat.beq (Nat.mod k 2) U) (((k- (2-U))/2,b)::wC U r) (wC U r))
def ofLT:Nat→List (Nat×J)→aU J
 |_,[]=> .nil
 |0,_=> .nil
 |d+1,l=> .node (KZ l) (ofLT d (wC 1 l)) (ofLT d (wC 0 l))
def j.au(n:Nat)(l:List (Nat×J)):j:=⟨n,ofLT 20 l⟩
def j.lay(H:j)(n:Nat)(l:List (Nat×J)):j:=l.foldl (fun h I=>h.set I.1 I.2) {H with next:=n}
theorem T2(l:List (Nat×J)):∀(h:j),(l.map (·.1)).Nodup→ ∀I∈l,(l.foldl (fun h I=>h.set I.1 I.2) h).get I.1=some I.2:=by
 induction l with
 |nil=>intro h _ I ac;cases ac
 |cons a r ih =>
  intro h aM I ac;simp only [List.map_cons,List.nodup_cons]at aM;rw [List.foldl_cons];rcases List.mem_cons.1 ac with rfl|ac
  ·have:∀(r:List (Nat×J)) (h:j),I.1 ∉ r.map (·.1)→(r.foldl (fun h I=>h.set I.1 I.2) h).get I.1=h.get I.1:=by
    intro r;induction r with
    |nil=>intro h _;rfl
    |cons b s DP =>
     intro h hm;simp only [List.map_cons,List.mem_cons,not_or]at hm;rw [List.foldl_cons,DP _ hm.2,j.e1 _ _ (Ne.symm hm.1)]
   rw [this r _ aM.1,j.gG]
  ·exact ih _ aM.2 I ac
theorem K0(l:List (Nat×J)):∀(h:j)(i:Nat),i ∉ l.map (·.1)→(l.foldl (fun h I=>h.set I.1 I.2) h).get i=h.get i:=by
 induction l with
 |nil=>intro h i _;rfl
 |cons I r ih =>
  intro h i al;simp only [List.map_cons,List.mem_cons,not_or]at al;rw [List.foldl_cons,ih _ i al.2,j.e1 _ _ (Ne.symm al.1)]
theorem K1(l:List (Nat×J)):∀(h:j),(l.foldl (fun h I=>h.set I.1 I.2) h).next=h.next:=by
 induction l with
 |nil=>intro h;rfl
 |cons I r ih=>intro h;rw [List.foldl_cons,ih];rfl
theorem sC{ids:List Nat}{n i:Nat}(h:i<ids.length):dH ids n i=ids[i]:=by simp [dH,List.getElem?_eq_getElem h]
theorem mF{ids:List Nat}{n i:Nat}(h:ids.length≤i):dH ids n i=n+(i-ids.length):=by simp [dH,List.getElem?_eq_none h]
theorem K2{ids:List Nat}{n:Nat}(aM:ids.Nodup)(cM:∀C∈ids,C<n){i C:Nat}(e:dH ids n i=dH ids n C):i=C:=by
 by_cases dJ:i<ids.length<;>by_cases ef:C<ids.length
 ·rw [sC dJ,sC ef]at e;exact(List.getElem_inj aM).1 e
 ·rw [sC dJ,mF (by omega)]at e;have:=cM _ (List.getElem_mem dJ);omega
 ·rw [sC ef,mF (by omega)]at e;have:=cM _ (List.getElem_mem ef);omega
 ·rw [mF (by omega),mF (by omega)]at e;omega
def aU.fW:aU J→List (Nat×J)
 |.nil=> []
 |.node v l r=>(match v with|some b=> [(0,b)]|none=> [])++((aU.fW l).map fun I=>(2*I.1+1,I.2))++((aU.fW r).map fun I=>(2*I.1+2,I.2))
theorem aU.T3(v:Option J)(l r:aU J)(k:Nat):(aU.node v l r).get k=_root_.cond (Nat.beq k 0) v (_root_.cond (Nat.beq (k%2) 1) (l.get (k/2)) (r.get (k/2-1))):=rfl
theorem aU.z6:∀(t:aU J)(k:Nat)(b:J),t.get k=some b→(k,b)∈aU.fW t
 |.nil,k,b,h=>by cases h
 |.node v l r,k,b,h=>by
  rw [aU.T3]at h;unfold aU.fW;rcases nx k 0 with ⟨e,dT⟩|⟨e,dT⟩
  ·rw [dT,cond_true]at h;subst h;subst e;simp
  ·rw [dT,cond_false]at h;rcases nx (k%2) 1 with ⟨f,gb⟩|⟨f,gb⟩
   ·rw [gb,cond_true]at h;have:=aU.z6 l _ _ h;refine List.mem_append_left _ (List.mem_append_right _ (List.mem_map.2 ⟨_,this,?_⟩));simp only [Prod.mk.injEq,and_true];omega
   ·rw [gb,cond_false]at h;have:=aU.z6 r _ _ h;refine List.mem_append_right _ (List.mem_map.2 ⟨_,this,?_⟩);simp only [Prod.mk.injEq,and_true];omega
theorem aU.EC:∀(t:aU J),((aU.fW t).map (·.1)).Nodup
 |.nil=>List.nodup_nil
 |.node v l r=>by
  unfold aU.fW;have p:=aU.EC l;have ae:=aU.EC r;have m1:(((aU.fW l).map fun I=>(2*I.1+1,I.2)).map (·.1))=((aU.fW l).map (·.1)).map fun k=>2*k+1:=by simp [List.map_map,Function.comp_def]
  have m2:(((aU.fW r).map fun I=>(2*I.1+2,I.2)).map (·.1))=((aU.fW r).map (·.1)).map fun k=>2*k+2:=by simp [List.map_map,Function.comp_def]
  rw [List.map_append,List.map_append,m1,m2]
  have inj:∀(l:List Nat)(c:Nat),l.Nodup→(l.map fun k=>2*k+c).Nodup:=by intro l c aB;rw [List.nodup_iff_pairwise_ne,List.pairwise_map];exact List.Pairwise.imp (fun rK e=>rK (by omega)) (List.nodup_iff_pairwise_ne.1 aB)
  rw [List.nodup_append,List.nodup_append];refine⟨⟨by cases v<;>simp,inj _ _ p,?_⟩,inj _ _ ae,?_⟩
  ·intro a aS b av e;obtain⟨k,_,rfl⟩:=List.mem_map.1 av;cases v with
   |none=>simp at aS
   |some x=>simp at aS;omega
  ·intro a aS b av e;obtain⟨k,_,rfl⟩:=List.mem_map.1 av;rcases List.mem_append.1 aS with aS|aS
   ·cases v with
    |none=>simp at aS
    |some x=>simp at aS;omega
   ·obtain⟨C,_,rfl⟩:=List.mem_map.1 aS;omega
theorem aI.place{P:Program}{cb:(Nat→Prop)→World→Prop}[j6 cb]{f:FuncId}{args:List o}{v:o}{l:List J}{aa:j}(k:aI P cb f args (j.of l) v aa)(qR:l.length≤aa.next)
 (av:∀b∈l,z1 (fun i=>i<l.length) b) (aS:fo (fun i=>i<l.length) args) {H:j} (ids:List Nat) (aM:ids.Nodup) (cM:∀C∈ids,C<H.next) (hlen:ids.length=l.length)
 (aB:∀i b,l[i]? =some b→H.get (dH ids H.next i)=some (b.bc (dH ids H.next))) :
 ∃aR,aI P cb f (args.map (o.bc (dH ids H.next))) H (v.bc (dH ids H.next)) aR∧aR.next=H.next+(aa.next-l.length)∧(∀i b,aa.get i=some b→aR.get (dH ids H.next i)=some (b.bc (dH ids H.next)))∧∀C,C<H.next→C ∉ ids→aR.get C=H.get C:=by
 let c3:=aU.fW aa.aT
 have h1:(c3.map (·.1)).Nodup:=aU.EC _
 let ub:=aa.next
 let r:=dH ids H.next
 have io:∀i C,r i=r C→i=C:=fun i C e=>K2 aM cM e
 let m:List (Nat×J):=c3.map fun I=>(r I.1,I.2.bc r)
 have K3:m.map (·.1)=(c3.map (·.1)).map r:=by simp [m,List.map_map,Function.comp_def]
 have T4:(m.map (·.1)).Nodup:=by rw [K3,List.nodup_iff_pairwise_ne,List.pairwise_map];exact List.Pairwise.imp (fun rK e=>rK (io _ _ e)) (List.nodup_iff_pairwise_ne.1 h1)
 have eT:∀I∈c3,(H.lay (H.next+(ub-l.length)) m).get (r I.1)=some (I.2.bc r):=by intro I ac;exact T2 m _ T4 (r I.1,I.2.bc r) (List.mem_map.2 ⟨I,ac,rfl⟩)
 have K4:∀C,C<H.next→(∀i,i<l.length→r i≠C)→C ∉ m.map (·.1):=by
  intro C aX bZ hm;rw [K3]at hm;obtain⟨i,_,e⟩:=List.mem_map.1 hm;by_cases c:i<l.length
  ·exact bZ i c e
  ·have:r i=H.next+(i-ids.length):=mF (by omega)
   omega
 refine⟨H.lay (H.next+(ub-l.length)) m,k.frame (r:=r) ⟨?_,?_,?_⟩ ?_ ?_ ?_ ?_ ?_,?_,fun i b ah=>eT (i,b) (aU.z6 _ _ _ ah),?_⟩
 ·intro i b ah;rw [j.eX]at ah;exact⟨by rw [j.of_next];exact(List.getElem?_eq_some_iff.1 ah).1,aB i b ah⟩
 ·intro i C _ _ e;exact io i C e
 ·intro i b ah e he;rw [j.eX]at ah;exact cv.mono (fun i al=>j.tZ.2 al) (av b (List.mem_of_getElem? ah) e he)
 ·exact fo.mono (fun i al=>j.tZ.2 al) aS
 ·intro i al;rw [j.of_next]at al;rw [j.of_next,←hlen];exact mF (by omega)
 ·intro i b ah _;exact eT (i,b) (aU.z6 _ _ _ ah)
 ·rw [j.of_next];unfold j.lay;rw [K1]
 ·intro C aX bZ;unfold j.lay;rw [K0 _ _ _ (K4 C aX fun i al=>bZ i (j.tZ.2 al))];rfl
 ·unfold j.lay;rw [K1]
 ·intro C aX hm;unfold j.lay;rw [K0 _ _ _ (K4 C aX fun i al e=>hm (by rw [←e];show dH ids H.next i∈ids;rw [sC (by omega)];exact List.getElem_mem _))];rfl
theorem aI.less{P:Program}{cb:(Nat→Prop)→World→Prop}{f:FuncId}{args:List o}{h ae aa:j}{v:o}(k:aI P cb f args ae v aa)(aM:h.next≤ae.next)(ah:∀i,i<h.next→ae.get i=h.get i):aI P cb f args h v aa :=
 fun S bo cq gr ak w dD ep c1 eA=>by obtain⟨g1,g2⟩:=k S bo cq gr ak w dD (ep.more aM ah) c1 eA;exact⟨g1,g2.mono fun e bA ⟨bp,bM,ap,a2,a3,a4,a5,su⟩=>⟨bp,bM,ap,a2.mono aM,a3,a4,a5,Nat.le_trans aM su⟩⟩
theorem aI.fk{P:Program}{cb:(Nat→Prop)→World→Prop}[j6 cb]{f:FuncId}{args:List o}{v:o}(k:∃v1 p,aI P cb f args ⟨0,.nil⟩ v1 p∧v1=v)(aS:o.oB args=true)(a':v.nz=true)(H:j):aI P cb f args H v H:=by
 obtain⟨v1,p,aD,rfl⟩:=k
 have gx:∀{l:List o},o.oB l=true→ ∀a∈l,cT a:=by
  intro l;induction l with
  |nil=>intro _ a aS;cases aS
  |cons x r ih =>
   intro aB a aS;simp only [o.oB,Bool.and_eq_true]at aB;rcases List.mem_cons.1 aS with rfl|hm
   ·exact cT.of aB.1
   ·exact ih aB.2 a hm
 exact aD.bare (gx aS) (cT.of a') H
def kw(g:List o→Option (o×List Prop)):List o→j→Option ev:=fun args h=>match g args with|some (v,eL)=>some (.one v h eL)|none=>none
theorem ls{P:Program}{cb:(Nat→Prop)→World→Prop}{f:FuncId}{g:List o→Option (o×List Prop)}(k:∀args v eL,g args=some (v,eL)→b0 eL→ ∀H,aI P cb f args H v H):∀args h a,kw g args h=some a→a.dr P cb f args h:=by
 intro args h a e;unfold kw at e;split at e
 ·rename_i u aeZ hu;simp only [Option.some.injEq]at e;subst e;exact fun ac=>k _ _ _ hu ac h
 ·cases e
end
end Go.cH
namespace Go.Keys
abbrev Bytes:=List UInt8
def lead(b:Nat):Nat×Nat×Nat :=
 if b<128 then(1,0,0)
 else if 194≤b∧b≤223 then(2,128,191)
 else if b=224 then(3,160,191)
 else if b=237 then(3,128,159)
 else if 225≤b∧b≤239 then(3,128,191)
 else if b=240 then(4,144,191)
 else if 241≤b∧b≤243 then(4,128,191)
 else if b=244 then(4,128,143)
 else(0,0,0)
def tail:Nat→Nat→Nat→Nat→Nat→Bytes→Nat×Nat×Bool
 |0,i,_,_,v,_=>(v,i,false)
 |_+1,i,_,_,_,[]=>(65533,i,true)
 |k+1,i,a7,al,v,c::r=>if c.toNat<a7∨al<c.toNat then(65533,i,false)else tail k (i+1) 128 191 (v*64+c.toNat%64) r
def first:Bytes→Nat×Nat×Bool
 |[]=>(0,0,false)
 |b::r =>
  if(lead b.toNat).1=0 then(65533,1,false)
  else if(lead b.toNat).1=1 then(b.toNat,1,false)
  else tail ((lead b.toNat).1-1) 1 (lead b.toNat).2.1 (lead b.toNat).2.2 (b.toNat%2^(7- (lead b.toNat).1)) r
structure bw where
 kind:Int
 code:Int:=0
 dX:Int:=0
 x:Int:=0
 y:Int:=0
 text:Bytes:=[]
 deriving DecidableEq
theorem K5(b:Nat):(lead b).1≤4:=by
 unfold lead
 repeat' split
 all_goals simp
end Go.Keys
namespace Go.Keys
def iI:Nat→Bytes→List Nat
 |0,_=> []
 |_+1,[]=> []
 |k+1,s=>(first s).1::iI k (s.drop (first s).2.1)
def ew(s:Bytes):List Nat:=iI s.length s
def u8(n:Nat):UInt8:=UInt8.ofNat n
def put(r:Nat):Bytes :=
 let r:=if 55296≤r∧r≤57343∨1114111<r then 65533 else r
 if r<128 then [u8 r]
 else if r<2048 then [u8 (192+r/64),u8 (128+r%64)]
 else if r<65536 then [u8 (224+r/4096),u8 (128+r/64%64),u8 (128+r%64)]
 else [u8 (240+r/262144),u8 (128+r/4096%64),u8 (128+r/64%64),u8 (128+r%64)]
def fX(l:List Nat):Bytes:=l.flatMap put
def valid(s:Bytes):Bool:=fX (ew s) == s
def ht:Nat→Bytes→List Nat×Bytes
 |0,_=>([],[])
 |_+1,[]=>([],[])
 |k+1,b::r =>
  if(first (b::r)).2.2 then([],b::r)
  else((first (b::r)).1::(ht k ((b::r).drop (first (b::r)).2.1)).1,(ht k ((b::r).drop (first (b::r)).2.1)).2)
def cg(hold:Bytes)(c:UInt8):List Nat×Bytes:=ht (hold.length+1) (hold++[c])
inductive pC where
 |ground|dw|dc|sequence|single|cC
 deriving DecidableEq
structure bI where
 b8:pC:= .ground
 kept:Bytes:=[]
 hold:Bytes:=[]
 az:Bytes:=[]
 deriving DecidableEq
def e4(c:Int)(m:Int:=0):bw:= {kind:=2,code:=c,dX:=m}
def gk(c:Int)(m:Int:=0):bw:= {kind:=1,code:=c,dX:=m}
def gM(s:Bytes):bw:= {kind:=7,text:=s}
def control(c:Nat):bw :=
 if c=13 then e4 1 else if c=9 then e4 2 else if c=127 then e4 3 else if c=0 then gk 32 4
 else if c<27 then gk (c+96) 4 else gk (c+64) 4
def tell(s:bI)(e:bw):bI×List bw:=({s with kept:=[],b8:= .ground},[e])
def at'(kept:Bytes):Nat:=match kept with|b::_=>if b=27 then 1 else 0 | []=>0
def hJ(s:bI)(c:UInt8)(no:bI→bI×List bw):bI×List bw :=
 let l:=(cg s.hold c).1
 let s1:= {s with hold:=(cg s.hold c).2,b8:= .dc}
 if s1.hold≠[]∧l=[]then({s1 with kept:=s.kept++[c]},[])
 else if l.length=1∧s.kept.length=at' s.kept∨valid (s.kept.drop (at' s.kept)++[c])=true then
  if valid ((s.kept++[c]).drop (at' s.kept))=true then tell s1 (gk (l.headD 0) (2*at' s.kept))
  else tell s1 (gM (s.kept++[c]))
 else no {s1 with hold:=[]}
def iq(s:bI)(c:UInt8)(no:bI→bI×List bw):bI×List bw :=
 if c.toNat<32∨c.toNat=127 then tell s (if s.kept=[]then control c.toNat else {control c.toNat with dX:=(control c.toNat).dX+2})
 else hJ s c no
def ground(s:bI)(c:UInt8):bI×List bw :=
 if c=27 then({s with kept:=[27],b8:= .dw},[])
 else iq s c fun s1=>tell s1 (gM s1.kept)
def bad(s:bI)(c:UInt8):bI×List bw :=
 ((ground (tell s (gM s.kept)).1 c).1,gM s.kept::(ground (tell s (gM s.kept)).1 c).2)
def dc(s:bI)(c:UInt8):bI×List bw:=hJ s c fun s1=>bad s1 c
def plain(s:bI)(c:UInt8):bI×List bw:=iq s c fun s1=>bad s1 c
def dw(s:bI)(c:UInt8):bI×List bw :=
 if c=27 then((ground (tell s (e4 4)).1 c).1,e4 4::(ground (tell s (e4 4)).1 c).2)
 else if c=91 then({s with kept:=s.kept++[c],b8:= .sequence},[])
 else if c=79 then({s with kept:=s.kept++[c],b8:= .single},[])
 else plain s c
def hK(c:Nat):Int :=
 if 65≤c∧c≤68 then 5+(c-65)else if c=72 then 9 else if c=70 then 10 else 0
def single(s:bI)(c:UInt8):bI×List bw :=
 if 0<hK c.toNat then tell s (e4 (hK c.toNat))
 else if 80≤c.toNat∧c.toNat≤83 then tell s (e4 (21+(c.toNat-80)))
 else if c.toNat=77 then tell s (e4 1)
 else((ground (tell s (gk 79 2)).1 c).1,gk 79 2::(ground (tell s (gk 79 2)).1 c).2)
def splitAt(sep:UInt8):Bytes→List Bytes
 |[]=> [[]]
 |b::r=>if b=sep then []::splitAt sep r else match splitAt sep r with|w::t=>(b::w)::t | []=> [[b]]
def digit(b:UInt8):Bool:=decide (48≤b.toNat)&&decide (b.toNat≤57)
def number(w:Bytes):Nat:=w.foldl (fun n b=>10*n+(b.toNat-48)) 0
def mG:List Bytes→Option (List Nat)
 |[]=>some []
 |w::r=>if w=[]∨9<w.length∨w.all digit=false then none else(mG r).map (number w:: ·)
def numbers(words:Bytes):Option (List Nat):=if words=[]then some []else mG (splitAt 59 words)
def j8(n:Nat):Int :=
 if n=1∨n=7 then 9 else if n=4∨n=8 then 10 else if n=2∨n=3 then 11+((n:Int)-2)else if n=5∨n=6 then 13+((n:Int)-5)
 else if 11≤n∧n≤15 then 21+((n:Int)-11)else if 17≤n∧n≤21 then 21+((n:Int)-12)else if n=23∨n=24 then 21+((n:Int)-13)else 0
def shown(r:Int):Bool:=decide (32≤r)&&decide (r≠127)&&decide (r≤1114111)&&(decide (r<55296) || decide (57343<r))
def eb(c:Nat)(m:Int):Option bw :=
 if c=13 then some (e4 1 m)else if c=9 then some (e4 2 m)else if c=127 then some (e4 3 m)else if c=27 then some (e4 4 m)
 else if 2097152<c∨shown c=false then none else some (gk c m)
def e5(words:Bytes)(c:Nat):Option bw :=
 match words with
 |60 ::rest =>
  match numbers rest with
  |some [aj,a1,aP] =>
   let held:=aj/4%8
   let b:=aj-4*held
   if a1<1∨4096<a1∨aP<1∨4096<aP then none
   else
    let e:bw:= {kind:=3,dX:=held,x:=(a1:Int)-1,y:=(aP:Int)-1}
    if c=109∧b≤3 then some {e with code:=3}
    else if c=77∧b≤2 then some {e with code:=b}
    else if c=77∧32≤b∧b≤35 then some {e with code:=6}
    else if c=77∧b=64 then some {e with code:=4}
    else if c=77∧b=65 then some {e with code:=5}
    else none
  |_=>none
 |_=>none
def told(words:Bytes)(c:UInt8):Option bw :=
 if c=82∨c=99∨c=110 then some {kind:=6,text:=words++[c]}
 else if c=77∨c=109 then e5 words c.toNat
 else
  match numbers words with
  |none=>none
  |some [] =>
   if c=90 then some (e4 2 1)else if c=73 then some {kind:=5,code:=1} else if c=79 then some {kind:=5}
   else if 0<hK c.toNat then some (e4 (hK c.toNat))else none
  |some (aj::r) =>
   let m:=match r with | [x]=>x|_=>1
   if 1<r.length∨m<1∨8<m then none
   else if 0<hK c.toNat∧aj=1∧r.length=1 then some (e4 (hK c.toNat) ((m:Int)-1))
   else if c=126∧0<j8 aj then some (e4 (j8 aj) ((m:Int)-1))
   else if c=117 then eb aj ((m:Int)-1)
   else none
def pD(words:Bytes):Bool:=words ==[50,48,48] || (words.dropWhile (· == 48) ==[50,48,48]&&decide (words.length≤9))
def done(s:bI)(words:Bytes)(c:UInt8):bI×List bw :=
 if c=126∧pD words=true then({s with kept:=[],b8:= .cC},[])
 else tell s ((told words c).getD (gM s.kept))
def sequence(s:bI)(c:UInt8):bI×List bw :=
 if 64≤c.toNat∧c.toNat≤126 then done {s with kept:=s.kept++[c]} (s.kept.drop 2) c
 else if c.toNat<32∨63<c.toNat∨48≤c.toNat∧(s.kept.getLastD 0).toNat<48 then bad s c
 else if s.kept.length+1=64 then tell {s with kept:=s.kept++[c]} (gM (s.kept++[c]))
 else({s with kept:=s.kept++[c]},[])
def dE:Bytes:=[27,91,50,48,49,126]
def shift:Nat→Bytes→Bytes→Bytes×Bytes
 |0,kept,az=>(kept,az)
 |_+1,[],az=>([],az)
 |k+1,b::r,az=>if(b::r).isPrefixOf dE then(b::r,az)else shift k r (if az.length<65536 then az++[b]else az)
def cC(s:bI)(c:UInt8):bI×List bw :=
 let I:=shift (s.kept.length+1) (s.kept++[c]) s.az
 if I.1.length=6 then tell {s with kept:=I.1,az:=[]} {kind:=4,text:=I.2}
 else({s with kept:=I.1,az:=I.2},[])
def step(s:bI)(c:UInt8):bI×List bw :=
 match s.b8 with
 |.ground=>ground s c
 |.dw=>dw s c
 |.dc=>dc s c
 |.sequence=>sequence s c
 |.single=>single s c
 |.cC=>cC s c
def ej:bI→Bytes→bI×List bw
 |s,[]=>(s,[])
 |s,c::r=>((ej (step s c).1 r).1,(step s c).2++(ej (step s c).1 r).2)
theorem K6(s:bI)(a b:Bytes):ej s (a++b)=((ej (ej s a).1 b).1,(ej s a).2++(ej (ej s a).1 b).2):=by
 induction a generalizing s with
 |nil=>simp [ej]
 |cons c r ih=>simp only [List.cons_append,ej,ih,List.append_assoc]
def held(s:bI):Nat:=s.az.length+s.kept.length
def flush(s:bI):bI×List bw :=
 if s.b8=.cC∨s.kept=[]then(s,[])
 else if s.kept=[27]then tell {s with hold:=[]} (e4 4)
 else if s.kept=[27,91]∨s.kept=[27,79]then tell {s with hold:=[]} (gk ((s.kept.getD 1 0).toNat) 2)
 else tell {s with hold:=[]} (gM s.kept)
end Go.Keys
namespace Go.Proofs.YtddnafghiejcoaaGreatDoor
open Go.cH Go.Keys
set_option maxRecDepth 1000000
theorem T5(b:Int)(ab:o→j→Prop)(aY:(b<128→ab (o.tuple [o.int .i64 (1),o.int .u8 (0),o.int .u8 (0)]) (j.au 9 []))∧(¬b<128→(194≤b→(b≤223→ab (o.tuple [o.int .i64 (2),o.int .u8 (128),o.int .u8 (191)]) (j.au 16 []))∧(¬b≤223→(b=224→ab (o.tuple [o.int .i64 (3),o.int .u8 (160),o.int .u8 (191)]) (j.au 19 []))∧(¬b=224→(b=237→ab (o.tuple [o.int .i64 (3),o.int .u8 (128),o.int .u8 (159)]) (j.au 22 []))∧(¬b=237→(225≤b→(b≤239→ab (o.tuple [o.int .i64 (3),o.int .u8 (128),o.int .u8 (191)]) (j.au 29 []))∧(¬b≤239→(b=240→ab (o.tuple [o.int .i64 (4),o.int .u8 (144),o.int .u8 (191)]) (j.au 32 []))∧(¬b=240→(241≤b→(b≤243→ab (o.tuple [o.int .i64 (4),o.int .u8 (128),o.int .u8 (191)]) (j.au 39 []))∧(¬b≤243→(b=244→ab (o.tuple [o.int .i64 (4),o.int .u8 (128),o.int .u8 (143)]) (j.au 42 []))∧(¬b=244→ab (o.tuple [o.int .i64 (0),o.int .u8 (0),o.int .u8 (0)]) (j.au 42 []))))∧(¬241≤b→(b=244→ab (o.tuple [o.int .i64 (4),o.int .u8 (128),o.int .u8 (143)]) (j.au 42 []))∧(¬b=244→ab (o.tuple [o.int .i64 (0),o.int .u8 (0),o.int .u8 (0)]) (j.au 42 []))))))∧(¬225≤b→(b=240→ab (o.tuple [o.int .i64 (4),o.int .u8 (144),o.int .u8 (191)]) (j.au 32 []))∧(¬b=240→(241≤b→(b≤243→ab (o.tuple [o.int .i64 (4),o.int .u8 (128),o.int .u8 (191)]) (j.au 39 []))∧(¬b≤243→(b=244→ab (o.tuple [o.int .i64 (4),o.int .u8 (128),o.int .u8 (143)]) (j.au 42 []))∧(¬b=244→ab (o.tuple [o.int .i64 (0),o.int .u8 (0),o.int .u8 (0)]) (j.au 42 []))))∧(¬241≤b→(b=244→ab (o.tuple [o.int .i64 (4),o.int .u8 (128),o.int .u8 (143)]) (j.au 42 []))∧(¬b=244→ab (o.tuple [o.int .i64 (0),o.int .u8 (0),o.int .u8 (0)]) (j.au 42 [])))))))))∧(¬194≤b→(b=224→ab (o.tuple [o.int .i64 (3),o.int .u8 (160),o.int .u8 (191)]) (j.au 19 []))∧(¬b=224→(b=237→ab (o.tuple [o.int .i64 (3),o.int .u8 (128),o.int .u8 (159)]) (j.au 22 []))∧(¬b=237→(225≤b→(b≤239→ab (o.tuple [o.int .i64 (3),o.int .u8 (128),o.int .u8 (191)]) (j.au 29 []))∧(¬b≤239→(b=240→ab (o.tuple [o.int .i64 (4),o.int .u8 (144),o.int .u8 (191)]) (j.au 32 []))∧(¬b=240→(241≤b→(b≤243→ab (o.tuple [o.int .i64 (4),o.int .u8 (128),o.int .u8 (191)]) (j.au 39 []))∧(¬b≤243→(b=244→ab (o.tuple [o.int .i64 (4),o.int .u8 (128),o.int .u8 (143)]) (j.au 42 []))∧(¬b=244→ab (o.tuple [o.int .i64 (0),o.int .u8 (0),o.int .u8 (0)]) (j.au 42 []))))∧(¬241≤b→(b=244→ab (o.tuple [o.int .i64 (4),o.int .u8 (128),o.int .u8 (143)]) (j.au 42 []))∧(¬b=244→ab (o.tuple [o.int .i64 (0),o.int .u8 (0),o.int .u8 (0)]) (j.au 42 []))))))∧(¬225≤b→(b=240→ab (o.tuple [o.int .i64 (4),o.int .u8 (144),o.int .u8 (191)]) (j.au 32 []))∧(¬b=240→(241≤b→(b≤243→ab (o.tuple [o.int .i64 (4),o.int .u8 (128),o.int .u8 (191)]) (j.au 39 []))∧(¬b≤243→(b=244→ab (o.tuple [o.int .i64 (4),o.int .u8 (128),o.int .u8 (143)]) (j.au 42 []))∧(¬b=244→ab (o.tuple [o.int .i64 (0),o.int .u8 (0),o.int .u8 (0)]) (j.au 42 []))))∧(¬241≤b→(b=244→ab (o.tuple [o.int .i64 (4),o.int .u8 (128),o.int .u8 (143)]) (j.au 42 []))∧(¬b=244→ab (o.tuple [o.int .i64 (0),o.int .u8 (0),o.int .u8 (0)]) (j.au 42 [])))))))))) :
 ∃v p,aI Tryz.prog aw 99 [.int .u8 b] (⟨0,.nil⟩) v p∧ab v p :=
 cf bU mixed gL (aq:= .aN 1001 .nil (.aN 3001 (.aN 3004 .nil (.aN 5001 .nil (.aN 7001 .nil (.aN 9001 (.aN 9004 .nil (.aN 11001 .nil (.aN 13001 (.aN 13004 .nil (.aN 15001 .nil .nil)) (.aN 15001 .nil .nil)))) (.aN 11001 .nil (.aN 13001 (.aN 13004 .nil (.aN 15001 .nil .nil)) (.aN 15001 .nil .nil))))))) (.aN 5001 .nil (.aN 7001 .nil (.aN 9001 (.aN 9004 .nil (.aN 11001 .nil (.aN 13001 (.aN 13004 .nil (.aN 15001 .nil .nil)) (.aN 15001 .nil .nil)))) (.aN 11001 .nil (.aN 13001 (.aN 13004 .nil (.aN 15001 .nil .nil)) (.aN 15001 .nil .nil)))))))) (by kernel_rfl) aY
def dn(b:Int):Int×Int×Int :=
 if b<128 then(1,0,0)else if 194≤b∧b≤223 then(2,128,191)else if b=224 then(3,160,191)else if b=237 then(3,128,159)else if 225≤b∧b≤239 then(3,128,191)
 else if b=240 then(4,144,191)else if 241≤b∧b≤243 then(4,128,191)else if b=244 then(4,128,143)else(0,0,0)
def nA(b:Int):o:= .tuple [.int .i64 (dn b).1,.int .u8 (dn b).2.1,.int .u8 (dn b).2.2]
theorem T6(b x y z:Int)(h:dn b=(x,y,z)):o.tuple [.int .i64 x,.int .u8 y,.int .u8 z]=nA b:=by unfold nA;rw [h]
theorem qW(b:Int)(H:j):aI Tryz.prog aw 99 [.int .u8 b] H (nA b) H:=by
 refine aI.fk (T5 b (fun v _=>v=nA b) ?_) rfl rfl H
 repeat' (first|apply And.intro|intro _)
 all_goals (refine T6 _ _ _ _ ?_;unfold dn;repeat' split)
 all_goals first|rfl|omega
theorem T7(c:Int)(ab:o→j→Prop)(aY:(c=65→(0≤c-65∧c-65≤255)∧(-2147483648≤c-65∧c-65≤2147483647)∧(-2147483648≤5+(c-65)∧5+(c-65)≤2147483647)∧ab (o.int .i32 (5+(c-65))) (j.au 9 []))∧(¬c=65→(c=66→(0≤c-65∧c-65≤255)∧(-2147483648≤c-65∧c-65≤2147483647)∧(-2147483648≤5+(c-65)∧5+(c-65)≤2147483647)∧ab (o.int .i32 (5+(c-65))) (j.au 11 []))∧(¬c=66→(c=67→(0≤c-65∧c-65≤255)∧(-2147483648≤c-65∧c-65≤2147483647)∧(-2147483648≤5+(c-65)∧5+(c-65)≤2147483647)∧ab (o.int .i32 (5+(c-65))) (j.au 13 []))∧(¬c=67→(c=68→(0≤c-65∧c-65≤255)∧(-2147483648≤c-65∧c-65≤2147483647)∧(-2147483648≤5+(c-65)∧5+(c-65)≤2147483647)∧ab (o.int .i32 (5+(c-65))) (j.au 15 []))∧(¬c=68→(c=72→ab (o.int .i32 (9)) (j.au 13 []))∧(¬c=72→(c=70→ab (o.int .i32 (10)) (j.au 15 []))∧(¬c=70→ab (o.int .i32 (0)) (j.au 15 [])))))))) :
 ∃v p,aI Tryz.prog aw 71 [.int .u8 c] (⟨0,.nil⟩) v p∧ab v p :=
 cf bU mixed gL (aq:= .aN 2000 (.aA (.go 6001) (.aA (.go 6002) (.aA (.go 6003) .nil))) (.aN 3000 (.aA (.go 6001) (.aA (.go 6002) (.aA (.go 6003) .nil))) (.aN 4000 (.aA (.go 6001) (.aA (.go 6002) (.aA (.go 6003) .nil))) (.aN 5000 (.aA (.go 6001) (.aA (.go 6002) (.aA (.go 6003) .nil))) (.aN 7000 .nil (.aN 9000 .nil .nil)))))) (by kernel_rfl) aY
def ha(c:Int):Int:=if 65≤c∧c≤68 then 5+(c-65)else if c=72 then 9 else if c=70 then 10 else 0
theorem T8(c:Int)(H:j):aI Tryz.prog aw 71 [.int .u8 c] H (.int .i32 (ha c)) H:=by
 refine aI.fk (T7 c (fun v _=>v=.int .i32 (ha c)) ?_) rfl rfl H
 repeat' (first|apply And.intro|intro _)
 all_goals first
  |omega
  |(refine congrArg (o.int .i32) ?_;unfold ha;repeat' split)
 all_goals omega
theorem T9(n:Int)(ab:o→j→Prop)(aY:(n=1→ab (o.int .i32 (9)) (j.au 9 []))∧(¬n=1→(n=7→ab (o.int .i32 (9)) (j.au 9 []))∧(¬n=7→(n=4→ab (o.int .i32 (10)) (j.au 16 []))∧(¬n=4→(n=8→ab (o.int .i32 (10)) (j.au 16 []))∧(¬n=8→(n=2→(-9223372036854775808≤n-2∧n-2≤9223372036854775807)∧(-2147483648≤n-2∧n-2≤2147483647)∧(-2147483648≤11+(n-2)∧11+(n-2)≤2147483647)∧ab (o.int .i32 (11+(n-2))) (j.au 27 []))∧(¬n=2→(n=3→(-9223372036854775808≤n-2∧n-2≤9223372036854775807)∧(-2147483648≤n-2∧n-2≤2147483647)∧(-2147483648≤11+(n-2)∧11+(n-2)≤2147483647)∧ab (o.int .i32 (11+(n-2))) (j.au 27 []))∧(¬n=3→(n=5→(-9223372036854775808≤n-5∧n-5≤9223372036854775807)∧(-2147483648≤n-5∧n-5≤2147483647)∧(-2147483648≤13+(n-5)∧13+(n-5)≤2147483647)∧ab (o.int .i32 (13+(n-5))) (j.au 34 []))∧(¬n=5→(n=6→(-9223372036854775808≤n-5∧n-5≤9223372036854775807)∧(-2147483648≤n-5∧n-5≤2147483647)∧(-2147483648≤13+(n-5)∧13+(n-5)≤2147483647)∧ab (o.int .i32 (13+(n-5))) (j.au 34 []))∧(¬n=6→(11≤n→(n≤15→(-9223372036854775808≤n-11∧n-11≤9223372036854775807)∧(-2147483648≤n-11∧n-11≤2147483647)∧(-2147483648≤21+(n-11)∧21+(n-11)≤2147483647)∧ab (o.int .i32 (21+(n-11))) (j.au 41 []))∧(¬n≤15→(17≤n→(n≤21→(-9223372036854775808≤n-12∧n-12≤9223372036854775807)∧(-2147483648≤n-12∧n-12≤2147483647)∧(-2147483648≤21+(n-12)∧21+(n-12)≤2147483647)∧ab (o.int .i32 (21+(n-12))) (j.au 48 []))∧(¬n≤21→(n=23→(-9223372036854775808≤n-13∧n-13≤9223372036854775807)∧(-2147483648≤n-13∧n-13≤2147483647)∧(-2147483648≤21+(n-13)∧21+(n-13)≤2147483647)∧ab (o.int .i32 (21+(n-13))) (j.au 55 []))∧(¬n=23→(n=24→(-9223372036854775808≤n-13∧n-13≤9223372036854775807)∧(-2147483648≤n-13∧n-13≤2147483647)∧(-2147483648≤21+(n-13)∧21+(n-13)≤2147483647)∧ab (o.int .i32 (21+(n-13))) (j.au 55 []))∧(¬n=24→ab (o.int .i32 (0)) (j.au 51 [])))))∧(¬17≤n→(n=23→(-9223372036854775808≤n-13∧n-13≤9223372036854775807)∧(-2147483648≤n-13∧n-13≤2147483647)∧(-2147483648≤21+(n-13)∧21+(n-13)≤2147483647)∧ab (o.int .i32 (21+(n-13))) (j.au 55 []))∧(¬n=23→(n=24→(-9223372036854775808≤n-13∧n-13≤9223372036854775807)∧(-2147483648≤n-13∧n-13≤2147483647)∧(-2147483648≤21+(n-13)∧21+(n-13)≤2147483647)∧ab (o.int .i32 (21+(n-13))) (j.au 55 []))∧(¬n=24→ab (o.int .i32 (0)) (j.au 51 []))))))∧(¬11≤n→(17≤n→(n≤21→(-9223372036854775808≤n-12∧n-12≤9223372036854775807)∧(-2147483648≤n-12∧n-12≤2147483647)∧(-2147483648≤21+(n-12)∧21+(n-12)≤2147483647)∧ab (o.int .i32 (21+(n-12))) (j.au 48 []))∧(¬n≤21→(n=23→(-9223372036854775808≤n-13∧n-13≤9223372036854775807)∧(-2147483648≤n-13∧n-13≤2147483647)∧(-2147483648≤21+(n-13)∧21+(n-13)≤2147483647)∧ab (o.int .i32 (21+(n-13))) (j.au 55 []))∧(¬n=23→(n=24→(-9223372036854775808≤n-13∧n-13≤9223372036854775807)∧(-2147483648≤n-13∧n-13≤2147483647)∧(-2147483648≤21+(n-13)∧21+(n-13)≤2147483647)∧ab (o.int .i32 (21+(n-13))) (j.au 55 []))∧(¬n=24→ab (o.int .i32 (0)) (j.au 51 [])))))∧(¬17≤n→(n=23→(-9223372036854775808≤n-13∧n-13≤9223372036854775807)∧(-2147483648≤n-13∧n-13≤2147483647)∧(-2147483648≤21+(n-13)∧21+(n-13)≤2147483647)∧ab (o.int .i32 (21+(n-13))) (j.au 55 []))∧(¬n=23→(n=24→(-9223372036854775808≤n-13∧n-13≤9223372036854775807)∧(-2147483648≤n-13∧n-13≤2147483647)∧(-2147483648≤21+(n-13)∧21+(n-13)≤2147483647)∧ab (o.int .i32 (21+(n-13))) (j.au 55 []))∧(¬n=24→ab (o.int .i32 (0)) (j.au 51 [])))))))))))))) :
 ∃v p,aI Tryz.prog aw 72 [.int .i64 n] (⟨0,.nil⟩) v p∧ab v p :=
 cf bU mixed gL (aq:= .aN 1001 .nil (.aN 1004 .nil (.aN 3001 .nil (.aN 3004 .nil (.aN 5001 (.aA (.go 6001) (.aA (.go 6002) (.aA (.go 6003) .nil))) (.aN 5004 (.aA (.go 6001) (.aA (.go 6002) (.aA (.go 6003) .nil))) (.aN 7001 (.aA (.go 8001) (.aA (.go 8002) (.aA (.go 8003) .nil))) (.aN 7004 (.aA (.go 8001) (.aA (.go 8002) (.aA (.go 8003) .nil))) (.aN 9001 (.aN 9004 (.aA (.go 10001) (.aA (.go 10002) (.aA (.go 10003) .nil))) (.aN 11001 (.aN 11004 (.aA (.go 12001) (.aA (.go 12002) (.aA (.go 12003) .nil))) (.aN 13001 (.aA (.go 14001) (.aA (.go 14002) (.aA (.go 14003) .nil))) (.aN 13004 (.aA (.go 14001) (.aA (.go 14002) (.aA (.go 14003) .nil))) .nil))) (.aN 13001 (.aA (.go 14001) (.aA (.go 14002) (.aA (.go 14003) .nil))) (.aN 13004 (.aA (.go 14001) (.aA (.go 14002) (.aA (.go 14003) .nil))) .nil)))) (.aN 11001 (.aN 11004 (.aA (.go 12001) (.aA (.go 12002) (.aA (.go 12003) .nil))) (.aN 13001 (.aA (.go 14001) (.aA (.go 14002) (.aA (.go 14003) .nil))) (.aN 13004 (.aA (.go 14001) (.aA (.go 14002) (.aA (.go 14003) .nil))) .nil))) (.aN 13001 (.aA (.go 14001) (.aA (.go 14002) (.aA (.go 14003) .nil))) (.aN 13004 (.aA (.go 14001) (.aA (.go 14002) (.aA (.go 14003) .nil))) .nil)))))))))))) (by kernel_rfl) aY
def hL(n:Int):Int :=
 if n=1∨n=7 then 9 else if n=4∨n=8 then 10 else if n=2∨n=3 then 11+(n-2)else if n=5∨n=6 then 13+(n-5)
 else if 11≤n∧n≤15 then 21+(n-11)else if 17≤n∧n≤21 then 21+(n-12)else if n=23∨n=24 then 21+(n-13)else 0
set_option maxHeartbeats 4000000 in
theorem T'(n:Int)(H:j):aI Tryz.prog aw 72 [.int .i64 n] H (.int .i32 (hL n)) H:=by
 refine aI.fk (T9 n (fun v _=>v=.int .i32 (hL n)) ?_) rfl rfl H
 repeat' (first|apply And.intro|intro _)
 all_goals first
  |omega
  |(refine congrArg (o.int .i32) ?_;unfold hL;repeat' split)
 all_goals omega
theorem Ua(r:Int)(ab:o→j→Prop)(aY:(32≤r→(r=127→ab (o.bool false) (j.au 20 []))∧(¬r=127→(r≤1114111→(r<55296→ab (o.bool true) (j.au 20 []))∧(¬r<55296→(57343<r→ab (o.bool true) (j.au 20 []))∧(¬57343<r→ab (o.bool false) (j.au 20 []))))∧(¬r≤1114111→ab (o.bool false) (j.au 20 []))))∧(¬32≤r→ab (o.bool false) (j.au 20 []))) :
 ∃v p,aI Tryz.prog aw 41 [.int .i32 r] (⟨0,.nil⟩) v p∧ab v p :=
 cf bU mixed gL (aq:= .aN 1001 (.aN 1004 .nil (.aN 1008 (.aN 1012 .nil (.aN 1015 .nil .nil)) .nil)) .nil) (by kernel_rfl) aY
theorem ED(r:Int)(H:j):aI Tryz.prog aw 41 [.int .i32 r] H (.bool (shown r)) H:=by
 refine aI.fk (Ua r (fun v _=>v=.bool (shown r)) ?_) rfl rfl H
 repeat' (first|apply And.intro|intro _)
 all_goals (refine congrArg o.bool ?_;simp [shown];try omega)
def di(e:bw):o:= .agg [.int .i8 e.kind,.int .i32 e.code,.int .u8 e.dX,.int .i64 e.x,.int .i64 e.y,.str e.text]
theorem Ub(c:Int)(ab:o→j→Prop)(aY:(c=13→ab (o.agg [o.int .i8 (2),o.int .i32 (1),o.int .u8 (0),o.int .i64 (0),o.int .i64 (0),o.str []]) (j.au 6 [(0,(J.made ([o.agg [o.int .i8 (2),o.int .i32 (1),o.int .u8 (0),o.int .i64 (0),o.int .i64 (0),o.str []]]) 6 true (some (42,6))))]))∧(¬c=13→(c=9→ab (o.agg [o.int .i8 (2),o.int .i32 (2),o.int .u8 (0),o.int .i64 (0),o.int .i64 (0),o.str []]) (j.au 8 [(0,(J.made ([o.agg [o.int .i8 (2),o.int .i32 (2),o.int .u8 (0),o.int .i64 (0),o.int .i64 (0),o.str []]]) 6 true (some (42,6))))]))∧(¬c=9→(c=127→ab (o.agg [o.int .i8 (2),o.int .i32 (3),o.int .u8 (0),o.int .i64 (0),o.int .i64 (0),o.str []]) (j.au 10 [(0,(J.made ([o.agg [o.int .i8 (2),o.int .i32 (3),o.int .u8 (0),o.int .i64 (0),o.int .i64 (0),o.str []]]) 6 true (some (42,6))))]))∧(¬c=127→(c=0→ab (o.agg [o.int .i8 (1),o.int .i32 (32),o.int .u8 (4),o.int .i64 (0),o.int .i64 (0),o.str []]) (j.au 12 [(0,(J.made ([o.agg [o.int .i8 (1),o.int .i32 (32),o.int .u8 (4),o.int .i64 (0),o.int .i64 (0),o.str []]]) 6 true (some (42,6))))]))∧(¬c=0→(c<27→(-2147483648≤c∧c≤2147483647)∧True∧ab (o.agg [o.int .i8 (1),o.int .i32 (cc .i32 c (96)),o.int .u8 (4),o.int .i64 (0),o.int .i64 (0),o.str []]) (j.au 17 [(0,(J.made ([o.agg [o.int .i8 (1),o.int .i32 (cc .i32 c (96)),o.int .u8 (4),o.int .i64 (0),o.int .i64 (0),o.str []]]) 6 true (some (42,6))))]))∧(¬c<27→(-2147483648≤c∧c≤2147483647)∧True∧ab (o.agg [o.int .i8 (1),o.int .i32 (cc .i32 c (64)),o.int .u8 (4),o.int .i64 (0),o.int .i64 (0),o.str []]) (j.au 17 [(0,(J.made ([o.agg [o.int .i8 (1),o.int .i32 (cc .i32 c (64)),o.int .u8 (4),o.int .i64 (0),o.int .i64 (0),o.str []]]) 6 true (some (42,6))))]))))))) :
 ∃v p,aI Tryz.prog aw 89 [.int .u8 c] (⟨0,.nil⟩) v p∧ab v p :=
 cf bU mixed gL (aq:= .aN 2000 .nil (.aN 4000 .nil (.aN 6000 .nil (.aN 8000 .nil (.aN 10001 (.aA (.go 11001) (.aA (.go 11002) .nil)) (.aA (.go 12001) (.aA (.go 12002) .nil))))))) (by kernel_rfl) aY
theorem Uc:∀n:Fin 27,0<n.val→cc .i32 (n.val:Int) 96=n.val+96:=by decide+kernel
theorem Ud:∀n:Fin 32,26<n.val→cc .i32 (n.val:Int) 64=n.val+64:=by decide+kernel
theorem Ue(c:Int)(ar:0≤c∧(c<32∨c=127))(js:c≠27)(H:j):aI Tryz.prog aw 89 [.int .u8 c] H (di (control c.toNat)) H:=by
 refine aI.fk (Ub c (fun v _=>v=di (control c.toNat)) ?_) rfl rfl H;obtain⟨n,rfl⟩:=Int.eq_ofNat_of_zero_le ar.1
 repeat' (first|apply And.intro|intro _)
 all_goals first
  |omega
  |exact trivial
  |skip
 all_goals simp only [Int.toNat_natCast]
 all_goals unfold Go.Keys.control
 all_goals repeat' split
 all_goals first
  |(exfalso;omega)
  |rfl
  |(have:=Uc ⟨n,by omega⟩ (by simp;omega);simp only at this;rw [this];rfl)
  |(have:=Ud ⟨n,by omega⟩ (by simp;omega);simp only at this;rw [this];rfl)
theorem Uf(b:Int):(dn b).1=0∨(dn b).1=1∨(dn b).1=2∨(dn b).1=3∨(dn b).1=4:=by
 unfold dn
 repeat' split
 all_goals simp
def EE:List o→j→Option ev:=fun a h =>
 match a with
 |[.int .u8 b]=>some (.or ((dn b).1=0) (.one (.tuple [.int .i64 0,.int .u8 (dn b).2.1,.int .u8 (dn b).2.2]) h []) (.or ((dn b).1=1) (.one (.tuple [.int .i64 1,.int .u8 (dn b).2.1,.int .u8 (dn b).2.2]) h [])
  (.or ((dn b).1=2) (.one (.tuple [.int .i64 2,.int .u8 (dn b).2.1,.int .u8 (dn b).2.2]) h []) (.or ((dn b).1=3) (.one (.tuple [.int .i64 3,.int .u8 (dn b).2.1,.int .u8 (dn b).2.2]) h []) (.one (.tuple [.int .i64 4,.int .u8 (dn b).2.1,.int .u8 (dn b).2.2]) h [])))))
 |_=>none
theorem Ug:∀args h a,EE args h=some a→a.dr Tryz.prog aw 99 args h:=by
 intro args h a e;unfold EE at e;split at e<;>first|(cases e;done)|skip
 rename_i b;simp only [Option.some.injEq]at e;subst e;have go:∀n,(dn b).1=n→aI Tryz.prog aw 99 [.int .u8 b] h (.tuple [.int .i64 n,.int .u8 (dn b).2.1,.int .u8 (dn b).2.2]) h:=fun n aM=>by rw [←aM];exact qW b h
 exact⟨fun e _=>go _ e,fun aj=>⟨fun e _=>go _ e,fun a1=>⟨fun e _=>go _ e,fun aP=>⟨fun e _=>go _ e,fun fi _=>go _ (by have:=Uf b;omega)⟩⟩⟩⟩
def pE:e9:=((((KR.add 99 EE).add 71 (kw fun a=>match a with | [.int .u8 b]=>some (.int .i32 (ha b),[])|_=>none)).add
 72 (kw fun a=>match a with | [.int .i64 b]=>some (.int .i32 (hL b),[])|_=>none)).add 41 (kw fun a=>match a with | [.int .i32 b]=>some (.bool (shown b),[])|_=>none)).add
 89 (kw fun a=>match a with | [.int .u8 b]=>some (di (control b.toNat),[0≤b∧(b<32∨b=127),b≠27])|_=>none)
theorem c7:eP Tryz.prog aw pE:=by
 refine((((gL.add Ug).add (ls ?_)).add (ls ?_)).add (ls ?_)).add (ls ?_)
 all_goals
  intro args v eL e ac H;split at e<;>first|(cases e;done)|skip
  simp only [Option.some.injEq,Prod.mk.injEq]at e;obtain⟨rfl,rfl⟩:=e
 ·exact T8 _ H
 ·exact T' _ H
 ·exact ED _ H
 ·exact Ue _ ac.head ac.tail.head H
abbrev hb(bE aL aQ bq n:Int)(an:Option (TypeId×Nat)):J:=J.made [.agg [.int .u8 bE,.int .u8 aL,.int .u8 aQ,.int .u8 bq,.int .i64 n]] 5 true an
abbrev gN(c:Int):J:=J.made [.int .u8 c] 1 true
abbrev c8(c:Int):J:=(J.made ([.int .u8 c]) 1 true)
abbrev pF:dh:=(ah 7001 (ah 7004 (.aA (.rounds 300) .nil)))
abbrev K7:J:=(J.made ([.slice (some ⟨19,0,0,0,1⟩) 1 1]) 1 true (some (34,1)))
abbrev qX(aL:Int)(aQ:Int)(bq:Int)(c:Int):o:=o.agg [.int .u8 c,.int .u8 aL,.int .u8 aQ,.int .u8 bq,.int .i64 1]
abbrev EF(bE:Int)(aL:Int)(aQ:Int)(bq:Int)(an:Option (TypeId×Nat)):J:=⟨[.agg [.int .u8 bE,.int .u8 aL,.int .u8 aQ,.int .u8 bq,.int .i64 0]],5,true,false,0,0,0,an⟩
abbrev nB(aL:Int)(aQ:Int)(bq:Int)(c:Int)(an:Option (TypeId×Nat)):J:=⟨[(qX aL aQ bq c)],5,true,false,0,0,0,an⟩
abbrev z7(aL:Int)(aQ:Int)(bq:Int)(c:Int)(an:Option (TypeId×Nat)):j:=(j.au 95 [(0,(nB aL aQ bq c an)),(1,(c8 c)),(5,J.made (List.replicate 0 (.int .u8 0)) 1 true),(15,K7),(19,J.made [.int .u8 c] 1 false (some (5,0)))])
theorem Uh(bE aL aQ bq c a7 al:Int)(an:Option (TypeId×Nat))(ab:o→j→Prop)(aY:(Prod.fst (dn c)=0→ab (.slice (some ⟨70,0,0,0,1⟩) 1 1) (j.au 81 [(0,(EF bE aL aQ bq an)),(1,(c8 c)),(5,J.made (List.replicate 0 (.int .u8 0)) 1 true),(15,(J.made ([.slice (some ⟨19,0,1,0,1⟩) 0 0]) 1 true (some (34,1)))),(19,J.made [.int .u8 c] 1 false (some (5,0))),(69,J.made [.int .i32 65533] 1 true),(70,J.made [.int .i32 65533] 1 false (some (21,0)))]))∧(¬Prod.fst (dn c)=0→(Prod.fst (dn c)=1→(-2147483648≤c∧c≤2147483647)∧ab (.slice (some ⟨74,0,0,0,1⟩) 1 1) (j.au 85 [(0,(EF bE aL aQ bq an)),(1,(c8 c)),(5,J.made (List.replicate 0 (.int .u8 0)) 1 true),(15,(J.made ([.slice (some ⟨19,0,1,0,1⟩) 0 0]) 1 true (some (34,1)))),(19,J.made [.int .u8 c] 1 false (some (5,0))),(73,J.made [.int .i32 c] 1 true),(74,J.made [.int .i32 c] 1 false (some (21,0)))]))∧(¬Prod.fst (dn c)=1→(Prod.fst (dn c)=2→(-2147483648≤c∧c≤2147483647)∧True∧ab (.slice none 0 0) (z7 aL aQ bq c an))∧(¬Prod.fst (dn c)=2→(Prod.fst (dn c)=3→(-2147483648≤c∧c≤2147483647)∧True∧ab (.slice none 0 0) (z7 aL aQ bq c an))∧(¬Prod.fst (dn c)=3→(-2147483648≤c∧c≤2147483647)∧True∧ab (.slice none 0 0) (z7 aL aQ bq c an)))))) :
 ∃v p,aI Tryz.prog aw 107 [.ptr (some ⟨0,0,0,0,5⟩),.slice (some ⟨1,0,0,0,1⟩) 1 1] (j.of [hb bE aL aQ bq 0 an,gN c]) v p∧ab v p :=
 cf bU mixed c7 (aq:= .aA (.rounds 300) (he 8003 (he 1001 (.aN 2001 .nil (.aN 2001 (ah 6001 .nil) (.aN 2001 pF (.aN 2001 pF pF))))))) (by kernel_rfl) aY
abbrev z8:o:=o.slice (some ⟨14,1,1,0,1⟩) 1 1
abbrev z':o:=o.slice (some ⟨14,1,2,0,1⟩) 0 0
abbrev ud:o:=o.slice (some ⟨104,0,0,0,1⟩) 1 1
abbrev oG:o:=o.slice (some ⟨104,1,0,0,1⟩) 2 2
abbrev sD(bE:Int)(aL:Int)(aQ:Int)(bq:Int):o:=o.agg [.int .u8 bE,.int .u8 aL,.int .u8 aQ,.int .u8 bq,.int .i64 0]
abbrev lu(bE:Int)(c:Int)(an:Option (TypeId×Nat)):J:=⟨[.int .u8 bE,.int .u8 c],1,false,false,1,0,1,some (5,0)⟩
abbrev pG(c:Int)(an:Option (TypeId×Nat)):J:=⟨[.int .i32 65533,.int .i32 c],1,false,false,1,0,1,some (21,0)⟩
abbrev pH(an:Option (TypeId×Nat)):J:=⟨[.int .i32 65533,.int .i32 65533],1,false,false,1,0,1,some (21,0)⟩
abbrev Aa:J:=(J.made ([z8]) 1 true (some (34,1)))
abbrev ue:J:=(J.made ([z']) 1 true (some (34,1)))
abbrev mH:dh:=(he 1001 (.aN 2001 .nil (.aN 2001 (ah 6001 .nil) (.aN 2001 pF (.aN 2001 pF pF)))))
abbrev hM(bE:Int)(aL:Int)(aQ:Int)(bq:Int)(an:Option (TypeId×Nat)):J:=⟨[(sD bE aL aQ bq)],5,true,false,0,0,0,an⟩
abbrev EG(bE:Int)(aL:Int)(aQ:Int)(bq:Int)(c:Int)(an:Option (TypeId×Nat)):j:=(j.au 61 [(0,(hM bE aL aQ bq an)),(1,(c8 c)),(5,J.made (List.replicate 0 (.int .u8 0)) 1 true),(14,(lu bE c an)),(15,(J.made ([.slice (some ⟨14,1,0,0,1⟩) 2 2]) 1 true (some (34,1))))])
abbrev uf(bE:Int)(aL:Int)(aQ:Int)(bq:Int)(c:Int)(an:Option (TypeId×Nat)):j:=(j.au 179 [(0,(nB aL aQ bq c an)),(1,(c8 c)),(5,J.made (List.replicate 0 (.int .u8 0)) 1 true),(14,(lu bE c an)),(15,Aa),(103,J.made [.int .i32 65533] 1 true),(104,J.made [.int .i32 65533] 1 false (some (21,0)))])
abbrev Ab(bE:Int)(aL:Int)(aQ:Int)(bq:Int)(c:Int)(an:Option (TypeId×Nat)):j:=(j.au 169 [(0,(hM bE aL aQ bq an)),(1,(c8 c)),(5,J.made (List.replicate 0 (.int .u8 0)) 1 true),(14,(lu bE c an)),(15,ue),(103,J.made [.int .i32 65533] 1 true),(104,(pG c an)),(157,J.made [.int .i32 c] 1 true)])
abbrev pI(bE:Int)(aL:Int)(aQ:Int)(bq:Int)(c:Int)(an:Option (TypeId×Nat)):j:=(j.au 165 [(0,(hM bE aL aQ bq an)),(1,(c8 c)),(5,J.made (List.replicate 0 (.int .u8 0)) 1 true),(14,(lu bE c an)),(15,ue),(103,J.made [.int .i32 65533] 1 true),(104,(pH an)),(153,J.made [.int .i32 65533] 1 true)])
abbrev Ac(bE:Int)(aL:Int)(aQ:Int)(bq:Int)(c:Int)(an:Option (TypeId×Nat))(ab:o→j→Prop):Prop:=(¬Prod.fst (dn c)=2→(Prod.fst (dn c)=3→(-2147483648≤c∧c≤2147483647)∧True∧ab (ud) (uf bE aL aQ bq c an))∧(¬Prod.fst (dn c)=3→(-2147483648≤c∧c≤2147483647)∧True∧ab (ud) (uf bE aL aQ bq c an)))
abbrev pJ(bE:Int)(aL:Int)(aQ:Int)(bq:Int)(c:Int)(an:Option (TypeId×Nat))(ab:o→j→Prop):Prop:=(¬Prod.fst (dn c)=0→(Prod.fst (dn c)=1→(-2147483648≤c∧c≤2147483647)∧ab (oG) (Ab bE aL aQ bq c an))∧(¬Prod.fst (dn c)=1→(Prod.fst (dn c)=2→(-2147483648≤c∧c≤2147483647)∧True∧ab (ud) (uf bE aL aQ bq c an))∧(Ac bE aL aQ bq c an ab)))
theorem Ui(bE aL aQ bq c a7 al:Int)(an:Option (TypeId×Nat))(ab:o→j→Prop)(aY:cW Tryz.prog aw 99 [.int .u8 bE] (EG bE aL aQ bq c an) (.tuple [.int .i64 2,.int .u8 a7,.int .u8 al]) (EG bE aL aQ bq c an)∧(-2147483648≤bE∧bE≤2147483647)∧True∧(c<a7→(Prod.fst (dn c)=0→ab (oG) (pI bE aL aQ bq c an))∧(pJ bE aL aQ bq c an ab))∧(¬c<a7→(al<c→(Prod.fst (dn c)=0→ab (oG) (pI bE aL aQ bq c an))∧(pJ bE aL aQ bq c an ab))∧(¬al<c→Int.NonNeg (6-0)∧True∧(-2147483648≤br .u8 c (63)∧br .u8 c (63)≤2147483647)∧True∧ab (.slice (some ⟨120,0,0,0,1⟩) 1 1) (j.au 131 [(0,(hM bE aL aQ bq an)),(1,(c8 c)),(5,J.made (List.replicate 0 (.int .u8 0)) 1 true),(14,(lu bE c an)),(15,ue),(119,J.made [.int .i32 (cc .i32 (e3 .i32 (br .i32 bE (31)) (6)) (br .u8 c (63)))] 1 true),(120,J.made [.int .i32 (cc .i32 (e3 .i32 (br .i32 bE (31)) (6)) (br .u8 c (63)))] 1 false (some (21,0)))])))) :
 ∃v p,aI Tryz.prog aw 107 [.ptr (some ⟨0,0,0,0,5⟩),.slice (some ⟨1,0,0,0,1⟩) 1 1] (j.of [hb bE aL aQ bq 1 an,gN c]) v p∧ab v p :=
 cf bU mixed c7 (aq:= .aA (.rounds 300) (he 8003 (he 1001 (.aA (.val 2001 (.tuple [.int .i64 2,.int .u8 a7,.int .u8 al])) (ah 7001 (ah 7004 (.aA (.rounds 300) (he 13002 (.aN 14002 (he 8003 mH) (.aN 14006 (he 8003 mH) (ah 17001 (ah 17003 (ah 17004 (ah 17005 .nil)))))))))))))) (by kernel_rfl) aY
abbrev qY:J:=(J.made ([.slice (some ⟨14,1,0,0,1⟩) 2 2]) 1 true (some (34,1)))
theorem Uj(bE aL aQ bq c a7 al:Int)(an:Option (TypeId×Nat))(ab:o→j→Prop)(aY:cW Tryz.prog aw 99 [.int .u8 bE] (j.au 61 [(0,(hM bE aL aQ bq an)),(1,(c8 c)),(5,J.made (List.replicate 0 (.int .u8 0)) 1 true),(14,(lu bE c an)),(15,qY)]) (.tuple [.int .i64 3,.int .u8 a7,.int .u8 al]) (j.au 61 [(0,(hM bE aL aQ bq an)),(1,(c8 c)),(5,J.made (List.replicate 0 (.int .u8 0)) 1 true),(14,(lu bE c an)),(15,qY)])∧(-2147483648≤bE∧bE≤2147483647)∧True∧(c<a7→(Prod.fst (dn c)=0→ab (oG) (pI bE aL aQ bq c an))∧(pJ bE aL aQ bq c an ab))∧(¬c<a7→(al<c→(Prod.fst (dn c)=0→ab (oG) (pI bE aL aQ bq c an))∧(pJ bE aL aQ bq c an ab))∧(¬al<c→Int.NonNeg (6-0)∧True∧(-2147483648≤br .u8 c (63)∧br .u8 c (63)≤2147483647)∧True∧ab (.slice none 0 0) (j.au 131 [(0,⟨[.agg [.int .u8 bE,.int .u8 c,.int .u8 aQ,.int .u8 bq,.int .i64 2]],5,true,false,0,0,0,an⟩),(1,(c8 c)),(5,J.made (List.replicate 0 (.int .u8 0)) 1 true),(14,(lu bE c an)),(15,qY)])))) :
 ∃v p,aI Tryz.prog aw 107 [.ptr (some ⟨0,0,0,0,5⟩),.slice (some ⟨1,0,0,0,1⟩) 1 1] (j.of [hb bE aL aQ bq 1 an,gN c]) v p∧ab v p :=
 cf bU mixed c7 (aq:= .aA (.rounds 300) (he 8003 (he 1001 (.aA (.val 2001 (.tuple [.int .i64 3,.int .u8 a7,.int .u8 al])) (ah 7001 (ah 7004 (.aA (.rounds 300) (he 13002 (.aN 14002 (he 8003 mH) (.aN 14006 (he 8003 mH) (ah 17001 (ah 17003 (ah 17004 (ah 17005 .nil)))))))))))))) (by kernel_rfl) aY
theorem Uk(bE aL aQ bq c a7 al:Int)(an:Option (TypeId×Nat))(ab:o→j→Prop)(aY:cW Tryz.prog aw 99 [.int .u8 bE] (j.au 61 [(0,(hM bE aL aQ bq an)),(1,(c8 c)),(5,J.made (List.replicate 0 (.int .u8 0)) 1 true),(14,(lu bE c an)),(15,qY)]) (.tuple [.int .i64 4,.int .u8 a7,.int .u8 al]) (j.au 61 [(0,(hM bE aL aQ bq an)),(1,(c8 c)),(5,J.made (List.replicate 0 (.int .u8 0)) 1 true),(14,(lu bE c an)),(15,qY)])∧(-2147483648≤bE∧bE≤2147483647)∧True∧(c<a7→(Prod.fst (dn c)=0→ab (oG) (pI bE aL aQ bq c an))∧(pJ bE aL aQ bq c an ab))∧(¬c<a7→(al<c→(Prod.fst (dn c)=0→ab (oG) (pI bE aL aQ bq c an))∧(pJ bE aL aQ bq c an ab))∧(¬al<c→Int.NonNeg (6-0)∧True∧(-2147483648≤br .u8 c (63)∧br .u8 c (63)≤2147483647)∧True∧ab (.slice none 0 0) (j.au 131 [(0,⟨[.agg [.int .u8 bE,.int .u8 c,.int .u8 aQ,.int .u8 bq,.int .i64 2]],5,true,false,0,0,0,an⟩),(1,(c8 c)),(5,J.made (List.replicate 0 (.int .u8 0)) 1 true),(14,(lu bE c an)),(15,qY)])))) :
 ∃v p,aI Tryz.prog aw 107 [.ptr (some ⟨0,0,0,0,5⟩),.slice (some ⟨1,0,0,0,1⟩) 1 1] (j.of [hb bE aL aQ bq 1 an,gN c]) v p∧ab v p :=
 cf bU mixed c7 (aq:= .aA (.rounds 300) (he 8003 (he 1001 (.aA (.val 2001 (.tuple [.int .i64 4,.int .u8 a7,.int .u8 al])) (ah 7001 (ah 7004 (.aA (.rounds 300) (he 13002 (.aN 14002 (he 8003 mH) (.aN 14006 (he 8003 mH) (ah 17001 (ah 17003 (ah 17004 (ah 17005 .nil)))))))))))))) (by kernel_rfl) aY
abbrev EH:o:=o.slice (some ⟨14,1,2,0,1⟩) 1 1
abbrev EI:o:=o.slice (some ⟨14,1,3,0,1⟩) 0 0
abbrev wD:o:=o.slice (some ⟨140,0,0,0,1⟩) 1 1
abbrev sE:o:=o.slice (some ⟨140,1,0,0,1⟩) 2 2
abbrev oH(bE:Int)(aL:Int)(c:Int)(an:Option (TypeId×Nat)):J:=⟨[.int .u8 bE,.int .u8 aL,.int .u8 c],1,false,false,1,0,2,some (5,0)⟩
abbrev EJ:J:=(J.made ([EH]) 1 true (some (34,1)))
abbrev wE:J:=(J.made ([EI]) 1 true (some (34,1)))
abbrev EK(bE:Int)(aL:Int)(aQ:Int)(bq:Int)(c:Int)(an:Option (TypeId×Nat)):j:=(j.au 61 [(0,(hM bE aL aQ bq an)),(1,(c8 c)),(5,J.made (List.replicate 0 (.int .u8 0)) 1 true),(14,(oH bE aL c an)),(15,(J.made ([.slice (some ⟨14,1,0,0,1⟩) 3 3]) 1 true (some (34,1))))])
abbrev wF(bE:Int)(aL:Int)(aQ:Int)(bq:Int)(c:Int)(an:Option (TypeId×Nat)):j:=(j.au 215 [(0,(nB aL aQ bq c an)),(1,(c8 c)),(5,J.made (List.replicate 0 (.int .u8 0)) 1 true),(14,(oH bE aL c an)),(15,EJ),(139,J.made [.int .i32 65533] 1 true),(140,J.made [.int .i32 65533] 1 false (some (21,0)))])
abbrev EL(bE:Int)(aL:Int)(aQ:Int)(bq:Int)(c:Int)(an:Option (TypeId×Nat)):j:=(j.au 205 [(0,(hM bE aL aQ bq an)),(1,(c8 c)),(5,J.made (List.replicate 0 (.int .u8 0)) 1 true),(14,(oH bE aL c an)),(15,wE),(139,J.made [.int .i32 65533] 1 true),(140,(pG c an)),(193,J.made [.int .i32 c] 1 true)])
abbrev ug(bE:Int)(aL:Int)(aQ:Int)(bq:Int)(c:Int)(an:Option (TypeId×Nat)):j:=(j.au 201 [(0,(hM bE aL aQ bq an)),(1,(c8 c)),(5,J.made (List.replicate 0 (.int .u8 0)) 1 true),(14,(oH bE aL c an)),(15,wE),(139,J.made [.int .i32 65533] 1 true),(140,(pH an)),(189,J.made [.int .i32 65533] 1 true)])
abbrev EM(bE:Int)(aL:Int)(aQ:Int)(bq:Int)(c:Int)(an:Option (TypeId×Nat))(ab:o→j→Prop):Prop:=(¬Prod.fst (dn c)=2→(Prod.fst (dn c)=3→(-2147483648≤c∧c≤2147483647)∧True∧ab (wD) (wF bE aL aQ bq c an))∧(¬Prod.fst (dn c)=3→(-2147483648≤c∧c≤2147483647)∧True∧ab (wD) (wF bE aL aQ bq c an)))
abbrev uh(bE:Int)(aL:Int)(aQ:Int)(bq:Int)(c:Int)(an:Option (TypeId×Nat))(ab:o→j→Prop):Prop:=(¬Prod.fst (dn c)=0→(Prod.fst (dn c)=1→(-2147483648≤c∧c≤2147483647)∧ab (sE) (EL bE aL aQ bq c an))∧(¬Prod.fst (dn c)=1→(Prod.fst (dn c)=2→(-2147483648≤c∧c≤2147483647)∧True∧ab (wD) (wF bE aL aQ bq c an))∧(EM bE aL aQ bq c an ab)))
theorem Ul(bE aL aQ bq c a7 al:Int)(an:Option (TypeId×Nat))(ab:o→j→Prop)(aY:cW Tryz.prog aw 99 [.int .u8 bE] (EK bE aL aQ bq c an) (.tuple [.int .i64 3,.int .u8 a7,.int .u8 al]) (EK bE aL aQ bq c an)∧(-2147483648≤bE∧bE≤2147483647)∧True∧some (o.bool (decide (aL<a7)))=some (o.bool false)∧some (o.bool (decide (aL>al)))=some (o.bool false)∧Int.NonNeg (6-0)∧True∧(-2147483648≤br .u8 aL (63)∧br .u8 aL (63)≤2147483647)∧True∧(c<128→(Prod.fst (dn c)=0→ab (sE) (ug bE aL aQ bq c an))∧(uh bE aL aQ bq c an ab))∧(¬c<128→(191<c→(Prod.fst (dn c)=0→ab (sE) (ug bE aL aQ bq c an))∧(uh bE aL aQ bq c an ab))∧(¬191<c→Int.NonNeg (6-0)∧True∧(-2147483648≤br .u8 c (63)∧br .u8 c (63)≤2147483647)∧True∧ab (.slice (some ⟨156,0,0,0,1⟩) 1 1) (j.au 167 [(0,(hM bE aL aQ bq an)),(1,(c8 c)),(5,J.made (List.replicate 0 (.int .u8 0)) 1 true),(14,(oH bE aL c an)),(15,wE),(155,J.made [.int .i32 (cc .i32 (e3 .i32 (cc .i32 (e3 .i32 (br .i32 bE (15)) (6)) (br .u8 aL (63))) (6)) (br .u8 c (63)))] 1 true),(156,J.made [.int .i32 (cc .i32 (e3 .i32 (cc .i32 (e3 .i32 (br .i32 bE (15)) (6)) (br .u8 aL (63))) (6)) (br .u8 c (63)))] 1 false (some (21,0)))])))) :
 ∃v p,aI Tryz.prog aw 107 [.ptr (some ⟨0,0,0,0,5⟩),.slice (some ⟨1,0,0,0,1⟩) 1 1] (j.of [hb bE aL aQ bq 2 an,gN c]) v p∧ab v p :=
 cf bU mixed c7 (aq:= .aA (.rounds 300) (he 8003 (he 1001 (.aA (.val 2001 (.tuple [.int .i64 3,.int .u8 a7,.int .u8 al])) (ah 7001 (ah 7004 (.aA (.rounds 300) (he 13002 (.aA (.val 14002 (.bool false)) (.aA (.val 14006 (.bool false)) (ah 17001 (ah 17003 (ah 17004 (ah 17005 (he 13002 (.aN 14002 (he 8003 mH) (.aN 14006 (he 8003 mH) (ah 17001 (ah 17003 (ah 17004 (ah 17005 .nil))))))))))))))))))))) (by kernel_rfl) aY
abbrev Ad:J:=(J.made ([.slice (some ⟨14,1,0,0,1⟩) 3 3]) 1 true (some (34,1)))
theorem Um(bE aL aQ bq c a7 al:Int)(an:Option (TypeId×Nat))(ab:o→j→Prop)(aY:cW Tryz.prog aw 99 [.int .u8 bE] (j.au 61 [(0,(hM bE aL aQ bq an)),(1,(c8 c)),(5,J.made (List.replicate 0 (.int .u8 0)) 1 true),(14,(oH bE aL c an)),(15,Ad)]) (.tuple [.int .i64 4,.int .u8 a7,.int .u8 al]) (j.au 61 [(0,(hM bE aL aQ bq an)),(1,(c8 c)),(5,J.made (List.replicate 0 (.int .u8 0)) 1 true),(14,(oH bE aL c an)),(15,Ad)])∧(-2147483648≤bE∧bE≤2147483647)∧True∧some (o.bool (decide (aL<a7)))=some (o.bool false)∧some (o.bool (decide (aL>al)))=some (o.bool false)∧Int.NonNeg (6-0)∧True∧(-2147483648≤br .u8 aL (63)∧br .u8 aL (63)≤2147483647)∧True∧(c<128→(Prod.fst (dn c)=0→ab (sE) (ug bE aL aQ bq c an))∧(uh bE aL aQ bq c an ab))∧(¬c<128→(191<c→(Prod.fst (dn c)=0→ab (sE) (ug bE aL aQ bq c an))∧(uh bE aL aQ bq c an ab))∧(¬191<c→Int.NonNeg (6-0)∧True∧(-2147483648≤br .u8 c (63)∧br .u8 c (63)≤2147483647)∧True∧ab (.slice none 0 0) (j.au 167 [(0,⟨[.agg [.int .u8 bE,.int .u8 aL,.int .u8 c,.int .u8 bq,.int .i64 3]],5,true,false,0,0,0,an⟩),(1,(c8 c)),(5,J.made (List.replicate 0 (.int .u8 0)) 1 true),(14,(oH bE aL c an)),(15,Ad)])))) :
 ∃v p,aI Tryz.prog aw 107 [.ptr (some ⟨0,0,0,0,5⟩),.slice (some ⟨1,0,0,0,1⟩) 1 1] (j.of [hb bE aL aQ bq 2 an,gN c]) v p∧ab v p :=
 cf bU mixed c7 (aq:= .aA (.rounds 300) (he 8003 (he 1001 (.aA (.val 2001 (.tuple [.int .i64 4,.int .u8 a7,.int .u8 al])) (ah 7001 (ah 7004 (.aA (.rounds 300) (he 13002 (.aA (.val 14002 (.bool false)) (.aA (.val 14006 (.bool false)) (ah 17001 (ah 17003 (ah 17004 (ah 17005 (he 13002 (.aN 14002 (he 8003 mH) (.aN 14006 (he 8003 mH) (ah 17001 (ah 17003 (ah 17004 (ah 17005 .nil))))))))))))))))))))) (by kernel_rfl) aY
abbrev K8:o:=o.slice (some ⟨14,1,3,0,1⟩) 1 1
abbrev K9:o:=o.slice (some ⟨14,1,4,0,1⟩) 0 0
abbrev Ae:o:=o.slice (some ⟨176,0,0,0,1⟩) 1 1
abbrev Af:o:=o.slice (some ⟨176,1,0,0,1⟩) 2 2
abbrev ui(bE:Int)(aL:Int)(aQ:Int)(c:Int)(an:Option (TypeId×Nat)):J:=⟨[.int .u8 bE,.int .u8 aL,.int .u8 aQ,.int .u8 c],1,false,false,1,0,3,some (5,0)⟩
abbrev K':J:=(J.made ([K8]) 1 true (some (34,1)))
abbrev Ag:J:=(J.made ([K9]) 1 true (some (34,1)))
abbrev EN(bE:Int)(aL:Int)(aQ:Int)(bq:Int)(c:Int)(an:Option (TypeId×Nat)):j:=(j.au 61 [(0,(hM bE aL aQ bq an)),(1,(c8 c)),(5,J.made (List.replicate 0 (.int .u8 0)) 1 true),(14,(ui bE aL aQ c an)),(15,(J.made ([.slice (some ⟨14,1,0,0,1⟩) 4 4]) 1 true (some (34,1))))])
abbrev Ah(bE:Int)(aL:Int)(aQ:Int)(bq:Int)(c:Int)(an:Option (TypeId×Nat)):j:=(j.au 251 [(0,(nB aL aQ bq c an)),(1,(c8 c)),(5,J.made (List.replicate 0 (.int .u8 0)) 1 true),(14,(ui bE aL aQ c an)),(15,K'),(175,J.made [.int .i32 65533] 1 true),(176,J.made [.int .i32 65533] 1 false (some (21,0)))])
abbrev La(bE:Int)(aL:Int)(aQ:Int)(bq:Int)(c:Int)(an:Option (TypeId×Nat)):j:=(j.au 241 [(0,(hM bE aL aQ bq an)),(1,(c8 c)),(5,J.made (List.replicate 0 (.int .u8 0)) 1 true),(14,(ui bE aL aQ c an)),(15,Ag),(175,J.made [.int .i32 65533] 1 true),(176,(pG c an)),(229,J.made [.int .i32 c] 1 true)])
abbrev EO(bE:Int)(aL:Int)(aQ:Int)(bq:Int)(c:Int)(an:Option (TypeId×Nat)):j:=(j.au 237 [(0,(hM bE aL aQ bq an)),(1,(c8 c)),(5,J.made (List.replicate 0 (.int .u8 0)) 1 true),(14,(ui bE aL aQ c an)),(15,Ag),(175,J.made [.int .i32 65533] 1 true),(176,(pH an)),(225,J.made [.int .i32 65533] 1 true)])
abbrev Lb(bE:Int)(aL:Int)(aQ:Int)(bq:Int)(c:Int)(an:Option (TypeId×Nat))(ab:o→j→Prop):Prop:=(¬Prod.fst (dn c)=2→(Prod.fst (dn c)=3→(-2147483648≤c∧c≤2147483647)∧True∧ab (Ae) (Ah bE aL aQ bq c an))∧(¬Prod.fst (dn c)=3→(-2147483648≤c∧c≤2147483647)∧True∧ab (Ae) (Ah bE aL aQ bq c an)))
abbrev EP(bE:Int)(aL:Int)(aQ:Int)(bq:Int)(c:Int)(an:Option (TypeId×Nat))(ab:o→j→Prop):Prop:=(¬Prod.fst (dn c)=0→(Prod.fst (dn c)=1→(-2147483648≤c∧c≤2147483647)∧ab (Af) (La bE aL aQ bq c an))∧(¬Prod.fst (dn c)=1→(Prod.fst (dn c)=2→(-2147483648≤c∧c≤2147483647)∧True∧ab (Ae) (Ah bE aL aQ bq c an))∧(Lb bE aL aQ bq c an ab)))
theorem Un(bE aL aQ bq c a7 al:Int)(an:Option (TypeId×Nat))(ab:o→j→Prop)(aY:cW Tryz.prog aw 99 [.int .u8 bE] (EN bE aL aQ bq c an) (.tuple [.int .i64 4,.int .u8 a7,.int .u8 al]) (EN bE aL aQ bq c an)∧(-2147483648≤bE∧bE≤2147483647)∧True∧some (o.bool (decide (aL<a7)))=some (o.bool false)∧some (o.bool (decide (aL>al)))=some (o.bool false)∧Int.NonNeg (6-0)∧True∧(-2147483648≤br .u8 aL (63)∧br .u8 aL (63)≤2147483647)∧True∧some (o.bool (decide (aQ<128)))=some (o.bool false)∧some (o.bool (decide (aQ>191)))=some (o.bool false)∧Int.NonNeg (6-0)∧True∧(-2147483648≤br .u8 aQ (63)∧br .u8 aQ (63)≤2147483647)∧True∧(c<128→(Prod.fst (dn c)=0→ab (Af) (EO bE aL aQ bq c an))∧(EP bE aL aQ bq c an ab))∧(¬c<128→(191<c→(Prod.fst (dn c)=0→ab (Af) (EO bE aL aQ bq c an))∧(EP bE aL aQ bq c an ab))∧(¬191<c→Int.NonNeg (6-0)∧True∧(-2147483648≤br .u8 c (63)∧br .u8 c (63)≤2147483647)∧True∧ab (.slice (some ⟨192,0,0,0,1⟩) 1 1) (j.au 203 [(0,(hM bE aL aQ bq an)),(1,(c8 c)),(5,J.made (List.replicate 0 (.int .u8 0)) 1 true),(14,(ui bE aL aQ c an)),(15,Ag),(191,J.made [.int .i32 (cc .i32 (e3 .i32 (cc .i32 (e3 .i32 (cc .i32 (e3 .i32 (br .i32 bE (7)) (6)) (br .u8 aL (63))) (6)) (br .u8 aQ (63))) (6)) (br .u8 c (63)))] 1 true),(192,J.made [.int .i32 (cc .i32 (e3 .i32 (cc .i32 (e3 .i32 (cc .i32 (e3 .i32 (br .i32 bE (7)) (6)) (br .u8 aL (63))) (6)) (br .u8 aQ (63))) (6)) (br .u8 c (63)))] 1 false (some (21,0)))])))) :
 ∃v p,aI Tryz.prog aw 107 [.ptr (some ⟨0,0,0,0,5⟩),.slice (some ⟨1,0,0,0,1⟩) 1 1] (j.of [hb bE aL aQ bq 3 an,gN c]) v p∧ab v p :=
 cf bU mixed c7 (aq:= .aA (.rounds 300) (he 8003 (he 1001 (.aA (.val 2001 (.tuple [.int .i64 4,.int .u8 a7,.int .u8 al])) (ah 7001 (ah 7004 (.aA (.rounds 300) (he 13002 (.aA (.val 14002 (.bool false)) (.aA (.val 14006 (.bool false)) (ah 17001 (ah 17003 (ah 17004 (ah 17005 (he 13002 (.aA (.val 14002 (.bool false)) (.aA (.val 14006 (.bool false)) (ah 17001 (ah 17003 (ah 17004 (ah 17005 (he 13002 (.aN 14002 (he 8003 mH) (.aN 14006 (he 8003 mH) (ah 17001 (ah 17003 (ah 17004 (ah 17005 .nil)))))))))))))))))))))))))))) (by kernel_rfl) aY
end Go.Proofs.YtddnafghiejcoaaGreatDoor
namespace Go.cH
theorem Uo:∀n:Fin 256,br .i32 (n.val:Int) 31=(n.val%32:Nat):=by decide+kernel
theorem Up:∀n:Fin 256,br .i32 (n.val:Int) 15=(n.val%16:Nat):=by decide+kernel
theorem Uq:∀n:Fin 256,br .i32 (n.val:Int) 7=(n.val%8:Nat):=by decide+kernel
theorem Ur:∀n:Fin 256,br .u8 (n.val:Int) 63=(n.val%64:Nat):=by decide+kernel
theorem Lc(b:UInt8):br .i32 (b.toNat:Int) 31=(b.toNat%32:Nat):=Uo ⟨b.toNat,b.toNat_lt⟩
theorem Ld(b:UInt8):br .i32 (b.toNat:Int) 15=(b.toNat%16:Nat):=Up ⟨b.toNat,b.toNat_lt⟩
theorem Le(b:UInt8):br .i32 (b.toNat:Int) 7=(b.toNat%8:Nat):=Uq ⟨b.toNat,b.toNat_lt⟩
theorem l1(b:UInt8):br .u8 (b.toNat:Int) 63=(b.toNat%64:Nat):=Ur ⟨b.toNat,b.toNat_lt⟩
theorem mI(a:Nat)(h:a<33554432):e3 .i32 (a:Int) 6=(a*64:Nat):=by unfold e3;rw [show min (Int.toNat 6) (IntKind.bits .i32)=6 by decide];rw [show((a:Int)*2^6)=(a*64:Nat)by push_cast;rfl];exact pz (k:= .i32) (by simp only [h9];omega)
theorem mJ(a x:Nat)(h:a<16777216)(af:x<64):cc .i32 ((a*64:Nat):Int) (x:Int)=(a*64+x:Nat):=by
 unfold cc
 have e:(BitVec.ofInt (IntKind.bits .i32) ((a*64:Nat):Int) ||| BitVec.ofInt (IntKind.bits .i32) (x:Int)).toNat=a*64+x:=by rw [show IntKind.bits .i32=32 by rfl,BitVec.ofInt_natCast,BitVec.ofInt_natCast,BitVec.toNat_or,BitVec.toNat_ofNat,BitVec.toNat_ofNat,Nat.mod_eq_of_lt (by omega),Nat.mod_eq_of_lt (by omega)];rw [show a*64=2^6*a by omega,←Nat.two_pow_add_eq_or_of_lt (by omega) a]
 rw [e];exact pz (k:= .i32) (by simp only [h9];omega)
end Go.cH
namespace Go.Proofs.YtddnafghiejcoaaGreatDoor
open Go.cH Go.Keys
set_option maxRecDepth 1000000
def Us(x:Nat×Nat×Nat):Int×Int×Int:=((x.1:Int),(x.2.1:Int),(x.2.2:Int))
theorem Ut(n:Nat):dn (n:Int)=Us (lead n):=by
 have ap:((n:Int)<128)=(n<128):=propext (by omega);have a2:(194≤(n:Int)∧(n:Int)≤223)=(194≤n∧n≤223):=propext (by omega);have a3:((n:Int)=224)=(n=224):=propext (by omega);have a4:((n:Int)=237)=(n=237):=propext (by omega);have a5:(225≤(n:Int)∧(n:Int)≤239)=(225≤n∧n≤239):=propext (by omega);have su:((n:Int)=240)=(n=240):=propext (by omega);have EQ:(241≤(n:Int)∧(n:Int)≤243)=(241≤n∧n≤243):=propext (by omega);have Uu:((n:Int)=244)=(n=244):=propext (by omega);unfold dn lead;simp only [ap,a2,a3,a4,a5,su,EQ,Uu];by_cases dJ:n<128
 ·simp only [if_pos dJ];rfl
 by_cases ef:194≤n∧n≤223
 ·simp only [if_neg dJ,if_pos ef];rfl
 by_cases fR:n=224
 ·simp only [if_neg dJ,if_neg ef,if_pos fR];rfl
 by_cases kP:n=237
 ·simp only [if_neg dJ,if_neg ef,if_neg fR,if_pos kP];rfl
 by_cases lT:225≤n∧n≤239
 ·simp only [if_neg dJ,if_neg ef,if_neg fR,if_neg kP,if_pos lT];rfl
 by_cases kp:n=240
 ·simp only [if_neg dJ,if_neg ef,if_neg fR,if_neg kP,if_neg lT,if_pos kp];rfl
 by_cases pq:241≤n∧n≤243
 ·simp only [if_neg dJ,if_neg ef,if_neg fR,if_neg kP,if_neg lT,if_neg kp,if_pos pq];rfl
 by_cases mq:n=244
 ·simp only [if_neg dJ,if_neg ef,if_neg fR,if_neg kP,if_neg lT,if_neg kp,if_neg pq,if_pos mq];rfl
 ·simp only [if_neg dJ,if_neg ef,if_neg fR,if_neg kP,if_neg lT,if_neg kp,if_neg pq,if_neg mq];rfl
theorem qZ(n:Nat):dn (n:Int)=(((lead n).1:Int),((lead n).2.1:Int),((lead n).2.2:Int)):=Ut n
theorem sF(b:UInt8):(dn (b.toNat:Int)).1=(lead b.toNat).1:=by rw [qZ]
theorem jR(n:Nat):(lead n).1=0∨(lead n).1=1∨(lead n).1=2∨(lead n).1=3∨(lead n).1=4:=by
 unfold lead
 repeat' split
 all_goals simp
def ca(h:Bytes)(i:Nat)(k:Int):Int:=match h[i]? with|some b=>b.toNat|none=>k
abbrev ch(h:Bytes)(bE aL aQ bq:Int)(an:Option (TypeId×Nat)):J:=hb (ca h 0 bE) (ca h 1 aL) (ca h 2 aQ) (ca h 3 bq) h.length an
abbrev wG(r:Nat):J:=J.made [.int .i32 r] 1 false (some (21,0))
abbrev wH(r s:Nat):J:= {bi:=[.int .i32 r,.int .i32 s],es:=1,exact:=false,ro:=false,R:=1,fQ:=0,gF:=1,an:=some (21,0)}
def mK(bE aL aQ bq c:Int)(an:Option (TypeId×Nat))(q:List Nat×Bytes)(v:o)(h:j):Prop :=
 h.get 0=some (ch q.2 bE aL aQ bq an)∧h.get 1=some (gN c) ∧
 match q.1 with
 |[]=>v=.slice none 0 0
 |[r]=> ∃C,2≤C∧v=.slice (some ⟨C,0,0,0,1⟩) 1 1∧h.get C=some (wG r)
 |[r,s]=> ∃C,2≤C∧v=.slice (some ⟨C,1,0,0,1⟩) 2 2∧h.get C=some (wH r s)
 |_=>False
theorem uj{bE aL aQ bq c:Int}{an:Option (TypeId×Nat)}{q:List Nat×Bytes}{ae:Bytes}(e:q=([],ae)){h:j}(bm:h.get 0=some (ch ae bE aL aQ bq an))(p:h.get 1=some (gN c)):mK bE aL aQ bq c an q (.slice none 0 0) h:=by subst e;exact⟨bm,p,rfl⟩
theorem fl{bE aL aQ bq c:Int}{an:Option (TypeId×Nat)}{q:List Nat×Bytes}{r:Nat}{ae:Bytes}(e:q=([r],ae)){h:j}{C:Nat}(aX:2≤C)(bm:h.get 0=some (ch ae bE aL aQ bq an))(p:h.get 1=some (gN c))(be:h.get C=some (wG r)) :
 mK bE aL aQ bq c an q (.slice (some ⟨C,0,0,0,1⟩) 1 1) h:=by
 subst e;exact⟨bm,p,C,aX,rfl,be⟩
theorem hV{bE aL aQ bq c:Int}{an:Option (TypeId×Nat)}{q:List Nat×Bytes}{r s:Nat}{ae:Bytes}(e:q=([r,s],ae)){h:j}{C:Nat}(aX:2≤C)(bm:h.get 0=some (ch ae bE aL aQ bq an))(p:h.get 1=some (gN c))(be:h.get C=some (wH r s)) :
 mK bE aL aQ bq c an q (.slice (some ⟨C,1,0,0,1⟩) 2 2) h:=by
 subst e;exact⟨bm,p,C,aX,rfl,be⟩
theorem dx(b:UInt8): -2147483648≤(b.toNat:Int)∧(b.toNat:Int)≤2147483647:=by have:=b.toNat_lt;omega
theorem i'(b:UInt8): -2147483648≤br .u8 (b.toNat:Int) 63∧br .u8 (b.toNat:Int) 63≤2147483647:=by rw [l1];omega
theorem lv(c:UInt8)(h:(lead c.toNat).1=0):cg [] c=([65533],[]):=by simp [cg,ht,first,h]
theorem lx(c:UInt8)(h:(lead c.toNat).1=1):cg [] c=([c.toNat],[]):=by simp [cg,ht,first,h]
theorem j9(b:UInt8)(r:Bytes)(n:Nat)(h:(lead b.toNat).1=n+2):first (b::r)=tail (n+1) 1 (lead b.toNat).2.1 (lead b.toNat).2.2 (b.toNat%2^(7- (n+2))) r:=by simp only [first,h];rw [if_neg (by omega),if_neg (by omega)];rfl
theorem ff(c:UInt8)(n:Nat)(h:(lead c.toNat).1=n+2):cg [] c=([],[c]):=by simp [cg,ht,j9 c [] n h,tail]
theorem Uv(c:UInt8)(bE aL aQ bq:Int)(an:Option (TypeId×Nat)) :
 ∃v p,aI Tryz.prog aw 107 [.ptr (some ⟨0,0,0,0,5⟩),.slice (some ⟨1,0,0,0,1⟩) 1 1] (j.of [hb bE aL aQ bq 0 an,gN c.toNat]) v p∧mK bE aL aQ bq c.toNat an (cg [] c) v p:=by
 refine Uh bE aL aQ bq c.toNat 0 0 an _ ?_
 delta z7 K7 c8 nB qX EF
 rw [sF]
 refine⟨fun e=>fl (lv c (by omega)) (by decide) rfl rfl rfl,fun aj=>⟨fun e=>⟨dx c,fl (lx c (by omega)) (by decide) rfl rfl rfl⟩,fun a1=>⟨fun e=>⟨dx c,trivial,uj (ff c 0 (by omega)) rfl rfl⟩,
  fun aP=>⟨fun e=>⟨dx c,trivial,uj (ff c 1 (by omega)) rfl rfl⟩,fun fi=>⟨dx c,trivial,uj (ff c 2 (by have:=jR c.toNat;omega)) rfl rfl⟩⟩⟩⟩⟩
theorem hW:Int.NonNeg (6-0):=(show(0:Int)≤6 by decide)
theorem uk(k:Nat):ht k []=([],[]):=by cases k<;>rfl
theorem Uw(k:Nat)(c:UInt8):ht (k+1) [c]=ht 1 [c]:=by
 have aD:∀n,1≤n→List.drop n [c]=[]:=fun n aM=>by rw [List.drop_eq_nil_iff];simpa using aM
 have aM:(first [c]).2.2=false→1≤(first [c]).2.1:=by
  intro h;by_cases bm:(lead c.toNat).1=0
  ·simp [first,bm]
  ·by_cases p:(lead c.toNat).1=1
   ·simp [first,p]
   ·rw [j9 c [] ((lead c.toNat).1-2) (by omega)]at h;simp [tail]at h
 simp only [ht];cases h:(first [c]).2.2 with
 |true=>simp
 |false=>simp only [Bool.false_eq_true,if_false];rw [aD _ (aM h),uk]
theorem ul(b:UInt8)(r:Bytes)(c:UInt8)(v:Nat)(av:first (b::r++[c])=(v,(b::r).length,false)):cg (b::r) c=(v::(cg [] c).1,(cg [] c).2):=by
 unfold cg;simp only [List.cons_append,List.length_cons,ht];have fw:first (b::(r++[c]))=(v,r.length+1,false):=av
 simp only [fw,Bool.false_eq_true,if_false,List.drop_succ_cons];rw [List.drop_left,Uw];rfl
theorem ER(b:UInt8)(r:Bytes)(c:UInt8)(v:Nat)(av:first (b::r++[c])=(v,(b::r).length+1,false)):cg (b::r) c=([v],[]):=by
 unfold cg;simp only [List.cons_append,List.length_cons,ht];have fw:first (b::(r++[c]))=(v,r.length+1+1,false):=av
 simp only [fw,Bool.false_eq_true,if_false,List.drop_succ_cons];rw [List.drop_eq_nil_of_le (by simp),uk]
theorem ES(b:UInt8)(r:Bytes)(c:UInt8)(av:(first (b::r++[c])).2.2=true):cg (b::r) c=([],b::r++[c]):=by unfold cg;simp only [List.cons_append,List.length_cons,ht];have fw:(first (b::(r++[c]))).2.2=true:=av;rw [if_pos fw]
theorem Ux(ay c:UInt8)(aL aQ bq:Int)(an:Option (TypeId×Nat))(aB:(lead ay.toNat).1=2) :
 ∃v p,aI Tryz.prog aw 107 [.ptr (some ⟨0,0,0,0,5⟩),.slice (some ⟨1,0,0,0,1⟩) 1 1] (j.of [hb ay.toNat aL aQ bq 1 an,gN c.toNat]) v p∧mK ay.toNat aL aQ bq c.toNat an (cg (ay:: []) c) v p:=by
 have a6:∀r,first (ay::r)=tail 1 1 (lead ay.toNat).2.1 (lead ay.toNat).2.2 (ay.toNat%2^(7-2)) r:=fun r=>j9 ay r 0 aB
 have dq:(c.toNat<(lead ay.toNat).2.1∨(lead ay.toNat).2.2<c.toNat)→cg (ay:: []) c=(65533::(cg [] c).1,(cg [] c).2):=fun ar=>ul _ _ _ _ (by rw [show(ay:: [])++[c]=ay:: [c]by rfl,a6];simp only [tail];rw [if_pos ar];rfl)
 have nC:¬(c.toNat<(lead ay.toNat).2.1∨(lead ay.toNat).2.2<c.toNat)→cg (ay:: []) c=([(ay.toNat%32)*64+c.toNat%64],[]):=fun ar=>ER _ _ _ _ (by rw [show(ay:: [])++[c]=ay:: [c]by rfl,a6];simp only [tail];rw [if_neg ar];rfl)
 have a':cc .i32 (e3 .i32 (br .i32 (ay.toNat:Int) 31) 6) (br .u8 (c.toNat:Int) 63)=(((ay.toNat%32)*64+c.toNat%64:Nat):Int):=by rw [Lc,l1 c,mI _ (by omega),mJ _ _ (by omega) (by omega)]
 refine Ui ay.toNat aL aQ bq c.toNat (lead ay.toNat).2.1 (lead ay.toNat).2.2 an _ ?_
 delta ue z' lu c8 hM sD pJ Ac uf Aa z8 nB qX ud Ab pG oG pI pH EG
 rw [sF];refine⟨⟨by have k:=fun H=>qW ay.toNat H;simp only [nA,qZ,aB]at k;exact k _⟩,dx ay,trivial,fun cM=> ?_,fun gh=>⟨fun ty=> ?_,fun hle=>⟨hW,trivial,i' c,trivial,fl (nC (by omega)) (by decide) rfl rfl (congrArg (fun x=>some (J.made [.int .i32 x] 1 false (some (21,0)))) a')⟩⟩⟩
 ·exact⟨fun e=>hV (by rw [dq (by omega),lv c (by omega)]) (by decide) rfl rfl rfl,fun aj=>⟨fun e=>⟨dx c,hV (by rw [dq (by omega),lx c (by omega)]) (by decide) rfl rfl rfl⟩,fun a1=>⟨fun e=>⟨dx c,trivial,fl (by rw [dq (by omega),ff c 0 (by omega)]) (by decide) rfl rfl rfl⟩,
   fun aP=>⟨fun e=>⟨dx c,trivial,fl (by rw [dq (by omega),ff c 1 (by omega)]) (by decide) rfl rfl rfl⟩,fun fi=>⟨dx c,trivial,fl (by rw [dq (by omega),ff c 2 (by have:=jR c.toNat;omega)]) (by decide) rfl rfl rfl⟩⟩⟩⟩⟩
 ·exact⟨fun e=>hV (by rw [dq (by omega),lv c (by omega)]) (by decide) rfl rfl rfl,fun aj=>⟨fun e=>⟨dx c,hV (by rw [dq (by omega),lx c (by omega)]) (by decide) rfl rfl rfl⟩,fun a1=>⟨fun e=>⟨dx c,trivial,fl (by rw [dq (by omega),ff c 0 (by omega)]) (by decide) rfl rfl rfl⟩,
   fun aP=>⟨fun e=>⟨dx c,trivial,fl (by rw [dq (by omega),ff c 1 (by omega)]) (by decide) rfl rfl rfl⟩,fun fi=>⟨dx c,trivial,fl (by rw [dq (by omega),ff c 2 (by have:=jR c.toNat;omega)]) (by decide) rfl rfl rfl⟩⟩⟩⟩⟩
theorem Uy(ay c:UInt8)(aL aQ bq:Int)(an:Option (TypeId×Nat))(aB:(lead ay.toNat).1=3) :
 ∃v p,aI Tryz.prog aw 107 [.ptr (some ⟨0,0,0,0,5⟩),.slice (some ⟨1,0,0,0,1⟩) 1 1] (j.of [hb ay.toNat aL aQ bq 1 an,gN c.toNat]) v p∧mK ay.toNat aL aQ bq c.toNat an (cg (ay:: []) c) v p:=by
 have a6:∀r,first (ay::r)=tail 2 1 (lead ay.toNat).2.1 (lead ay.toNat).2.2 (ay.toNat%2^(7-3)) r:=fun r=>j9 ay r 1 aB
 have dq:(c.toNat<(lead ay.toNat).2.1∨(lead ay.toNat).2.2<c.toNat)→cg (ay:: []) c=(65533::(cg [] c).1,(cg [] c).2):=fun ar=>ul _ _ _ _ (by rw [show(ay:: [])++[c]=ay:: [c]by rfl,a6];simp only [tail];rw [if_pos ar];rfl)
 have nC:¬(c.toNat<(lead ay.toNat).2.1∨(lead ay.toNat).2.2<c.toNat)→cg (ay:: []) c=([],ay:: []++[c]):=fun ar=>ES _ _ _ (by rw [show(ay:: [])++[c]=ay:: [c]by rfl,a6];simp only [tail];rw [if_neg ar])
 refine Uj ay.toNat aL aQ bq c.toNat (lead ay.toNat).2.1 (lead ay.toNat).2.2 an _ ?_
 delta qY lu c8 pJ Ac uf Aa z8 nB qX ud Ab pG ue z' hM sD oG pI pH
 rw [sF];refine⟨⟨by have k:=fun H=>qW ay.toNat H;simp only [nA,qZ,aB]at k;exact k _⟩,dx ay,trivial,fun cM=> ?_,fun gh=>⟨fun ty=> ?_,fun hle=>⟨hW,trivial,i' c,trivial,uj (nC (by omega)) rfl rfl⟩⟩⟩
 ·exact⟨fun e=>hV (by rw [dq (by omega),lv c (by omega)]) (by decide) rfl rfl rfl,fun aj=>⟨fun e=>⟨dx c,hV (by rw [dq (by omega),lx c (by omega)]) (by decide) rfl rfl rfl⟩,fun a1=>⟨fun e=>⟨dx c,trivial,fl (by rw [dq (by omega),ff c 0 (by omega)]) (by decide) rfl rfl rfl⟩,
   fun aP=>⟨fun e=>⟨dx c,trivial,fl (by rw [dq (by omega),ff c 1 (by omega)]) (by decide) rfl rfl rfl⟩,fun fi=>⟨dx c,trivial,fl (by rw [dq (by omega),ff c 2 (by have:=jR c.toNat;omega)]) (by decide) rfl rfl rfl⟩⟩⟩⟩⟩
 ·exact⟨fun e=>hV (by rw [dq (by omega),lv c (by omega)]) (by decide) rfl rfl rfl,fun aj=>⟨fun e=>⟨dx c,hV (by rw [dq (by omega),lx c (by omega)]) (by decide) rfl rfl rfl⟩,fun a1=>⟨fun e=>⟨dx c,trivial,fl (by rw [dq (by omega),ff c 0 (by omega)]) (by decide) rfl rfl rfl⟩,
   fun aP=>⟨fun e=>⟨dx c,trivial,fl (by rw [dq (by omega),ff c 1 (by omega)]) (by decide) rfl rfl rfl⟩,fun fi=>⟨dx c,trivial,fl (by rw [dq (by omega),ff c 2 (by have:=jR c.toNat;omega)]) (by decide) rfl rfl rfl⟩⟩⟩⟩⟩
theorem Uz(ay c:UInt8)(aL aQ bq:Int)(an:Option (TypeId×Nat))(aB:(lead ay.toNat).1=4) :
 ∃v p,aI Tryz.prog aw 107 [.ptr (some ⟨0,0,0,0,5⟩),.slice (some ⟨1,0,0,0,1⟩) 1 1] (j.of [hb ay.toNat aL aQ bq 1 an,gN c.toNat]) v p∧mK ay.toNat aL aQ bq c.toNat an (cg (ay:: []) c) v p:=by
 have a6:∀r,first (ay::r)=tail 3 1 (lead ay.toNat).2.1 (lead ay.toNat).2.2 (ay.toNat%2^(7-4)) r:=fun r=>j9 ay r 2 aB
 have dq:(c.toNat<(lead ay.toNat).2.1∨(lead ay.toNat).2.2<c.toNat)→cg (ay:: []) c=(65533::(cg [] c).1,(cg [] c).2):=fun ar=>ul _ _ _ _ (by rw [show(ay:: [])++[c]=ay:: [c]by rfl,a6];simp only [tail];rw [if_pos ar];rfl)
 have nC:¬(c.toNat<(lead ay.toNat).2.1∨(lead ay.toNat).2.2<c.toNat)→cg (ay:: []) c=([],ay:: []++[c]):=fun ar=>ES _ _ _ (by rw [show(ay:: [])++[c]=ay:: [c]by rfl,a6];simp only [tail];rw [if_neg ar])
 refine Uk ay.toNat aL aQ bq c.toNat (lead ay.toNat).2.1 (lead ay.toNat).2.2 an _ ?_
 delta qY lu c8 pJ Ac uf Aa z8 nB qX ud Ab pG ue z' hM sD oG pI pH
 rw [sF];refine⟨⟨by have k:=fun H=>qW ay.toNat H;simp only [nA,qZ,aB]at k;exact k _⟩,dx ay,trivial,fun cM=> ?_,fun gh=>⟨fun ty=> ?_,fun hle=>⟨hW,trivial,i' c,trivial,uj (nC (by omega)) rfl rfl⟩⟩⟩
 ·exact⟨fun e=>hV (by rw [dq (by omega),lv c (by omega)]) (by decide) rfl rfl rfl,fun aj=>⟨fun e=>⟨dx c,hV (by rw [dq (by omega),lx c (by omega)]) (by decide) rfl rfl rfl⟩,fun a1=>⟨fun e=>⟨dx c,trivial,fl (by rw [dq (by omega),ff c 0 (by omega)]) (by decide) rfl rfl rfl⟩,
   fun aP=>⟨fun e=>⟨dx c,trivial,fl (by rw [dq (by omega),ff c 1 (by omega)]) (by decide) rfl rfl rfl⟩,fun fi=>⟨dx c,trivial,fl (by rw [dq (by omega),ff c 2 (by have:=jR c.toNat;omega)]) (by decide) rfl rfl rfl⟩⟩⟩⟩⟩
 ·exact⟨fun e=>hV (by rw [dq (by omega),lv c (by omega)]) (by decide) rfl rfl rfl,fun aj=>⟨fun e=>⟨dx c,hV (by rw [dq (by omega),lx c (by omega)]) (by decide) rfl rfl rfl⟩,fun a1=>⟨fun e=>⟨dx c,trivial,fl (by rw [dq (by omega),ff c 0 (by omega)]) (by decide) rfl rfl rfl⟩,
   fun aP=>⟨fun e=>⟨dx c,trivial,fl (by rw [dq (by omega),ff c 1 (by omega)]) (by decide) rfl rfl rfl⟩,fun fi=>⟨dx c,trivial,fl (by rw [dq (by omega),ff c 2 (by have:=jR c.toNat;omega)]) (by decide) rfl rfl rfl⟩⟩⟩⟩⟩
theorem UA(ay ba c:UInt8)(aQ bq:Int)(an:Option (TypeId×Nat))(aB:(lead ay.toNat).1=3)(p:¬(ba.toNat<(lead ay.toNat).2.1∨(lead ay.toNat).2.2<ba.toNat)) :
 ∃v p,aI Tryz.prog aw 107 [.ptr (some ⟨0,0,0,0,5⟩),.slice (some ⟨1,0,0,0,1⟩) 1 1] (j.of [hb ay.toNat ba.toNat aQ bq 2 an,gN c.toNat]) v p∧mK ay.toNat ba.toNat aQ bq c.toNat an (cg (ay:: [ba]) c) v p:=by
 have a6:∀r,first (ay::r)=tail 2 1 (lead ay.toNat).2.1 (lead ay.toNat).2.2 (ay.toNat%2^(7-3)) r:=fun r=>j9 ay r 1 aB
 have dq:(c.toNat<128∨191<c.toNat)→cg (ay:: [ba]) c=(65533::(cg [] c).1,(cg [] c).2):=fun ar=>ul _ _ _ _ (by rw [show(ay:: [ba])++[c]=ay:: [ba,c]by rfl,a6];simp only [tail];rw [if_neg p,if_pos ar];rfl)
 have nC:¬(c.toNat<128∨191<c.toNat)→cg (ay:: [ba]) c=([((ay.toNat%16)*64+ba.toNat%64)*64+c.toNat%64],[]):=fun ar=>ER _ _ _ _ (by rw [show(ay:: [ba])++[c]=ay:: [ba,c]by rfl,a6];simp only [tail];rw [if_neg p,if_neg ar];rfl)
 have a':cc .i32 (e3 .i32 (cc .i32 (e3 .i32 (br .i32 (ay.toNat:Int) 15) 6) (br .u8 (ba.toNat:Int) 63)) 6) (br .u8 (c.toNat:Int) 63)=((((ay.toNat%16)*64+ba.toNat%64)*64+c.toNat%64:Nat):Int):=by rw [Ld,l1 ba,l1 c,mI _ (by omega),mJ _ _ (by omega) (by omega),mI _ (by omega),mJ _ _ (by omega) (by omega)]
 refine Ul ay.toNat ba.toNat aQ bq c.toNat (lead ay.toNat).2.1 (lead ay.toNat).2.2 an _ ?_
 delta wE EI oH c8 hM sD uh EM wF EJ EH nB qX wD EL pG sE ug pH EK
 rw [sF];refine⟨⟨by have k:=fun H=>qW ay.toNat H;simp only [nA,qZ,aB]at k;exact k _⟩,dx ay,trivial,okF (by omega),okF (by omega),hW,trivial,i' ba,trivial,fun cM=> ?_,fun gh=>⟨fun ty=> ?_,fun hle=>⟨hW,trivial,i' c,trivial,fl (nC (by omega)) (by decide) rfl rfl (congrArg (fun x=>some (J.made [.int .i32 x] 1 false (some (21,0)))) a')⟩⟩⟩
 ·exact⟨fun e=>hV (by rw [dq (by omega),lv c (by omega)]) (by decide) rfl rfl rfl,fun aj=>⟨fun e=>⟨dx c,hV (by rw [dq (by omega),lx c (by omega)]) (by decide) rfl rfl rfl⟩,fun a1=>⟨fun e=>⟨dx c,trivial,fl (by rw [dq (by omega),ff c 0 (by omega)]) (by decide) rfl rfl rfl⟩,
   fun aP=>⟨fun e=>⟨dx c,trivial,fl (by rw [dq (by omega),ff c 1 (by omega)]) (by decide) rfl rfl rfl⟩,fun fi=>⟨dx c,trivial,fl (by rw [dq (by omega),ff c 2 (by have:=jR c.toNat;omega)]) (by decide) rfl rfl rfl⟩⟩⟩⟩⟩
 ·exact⟨fun e=>hV (by rw [dq (by omega),lv c (by omega)]) (by decide) rfl rfl rfl,fun aj=>⟨fun e=>⟨dx c,hV (by rw [dq (by omega),lx c (by omega)]) (by decide) rfl rfl rfl⟩,fun a1=>⟨fun e=>⟨dx c,trivial,fl (by rw [dq (by omega),ff c 0 (by omega)]) (by decide) rfl rfl rfl⟩,
   fun aP=>⟨fun e=>⟨dx c,trivial,fl (by rw [dq (by omega),ff c 1 (by omega)]) (by decide) rfl rfl rfl⟩,fun fi=>⟨dx c,trivial,fl (by rw [dq (by omega),ff c 2 (by have:=jR c.toNat;omega)]) (by decide) rfl rfl rfl⟩⟩⟩⟩⟩
theorem UB(ay ba c:UInt8)(aQ bq:Int)(an:Option (TypeId×Nat))(aB:(lead ay.toNat).1=4)(p:¬(ba.toNat<(lead ay.toNat).2.1∨(lead ay.toNat).2.2<ba.toNat)) :
 ∃v p,aI Tryz.prog aw 107 [.ptr (some ⟨0,0,0,0,5⟩),.slice (some ⟨1,0,0,0,1⟩) 1 1] (j.of [hb ay.toNat ba.toNat aQ bq 2 an,gN c.toNat]) v p∧mK ay.toNat ba.toNat aQ bq c.toNat an (cg (ay:: [ba]) c) v p:=by
 have a6:∀r,first (ay::r)=tail 3 1 (lead ay.toNat).2.1 (lead ay.toNat).2.2 (ay.toNat%2^(7-4)) r:=fun r=>j9 ay r 2 aB
 have dq:(c.toNat<128∨191<c.toNat)→cg (ay:: [ba]) c=(65533::(cg [] c).1,(cg [] c).2):=fun ar=>ul _ _ _ _ (by rw [show(ay:: [ba])++[c]=ay:: [ba,c]by rfl,a6];simp only [tail];rw [if_neg p,if_pos ar];rfl)
 have nC:¬(c.toNat<128∨191<c.toNat)→cg (ay:: [ba]) c=([],ay:: [ba]++[c]):=fun ar=>ES _ _ _ (by rw [show(ay:: [ba])++[c]=ay:: [ba,c]by rfl,a6];simp only [tail];rw [if_neg p,if_neg ar])
 refine Um ay.toNat ba.toNat aQ bq c.toNat (lead ay.toNat).2.1 (lead ay.toNat).2.2 an _ ?_
 delta Ad oH c8 uh EM wF EJ EH nB qX wD EL pG wE EI hM sD sE ug pH
 rw [sF];refine⟨⟨by have k:=fun H=>qW ay.toNat H;simp only [nA,qZ,aB]at k;exact k _⟩,dx ay,trivial,okF (by omega),okF (by omega),hW,trivial,i' ba,trivial,fun cM=> ?_,fun gh=>⟨fun ty=> ?_,fun hle=>⟨hW,trivial,i' c,trivial,uj (nC (by omega)) rfl rfl⟩⟩⟩
 ·exact⟨fun e=>hV (by rw [dq (by omega),lv c (by omega)]) (by decide) rfl rfl rfl,fun aj=>⟨fun e=>⟨dx c,hV (by rw [dq (by omega),lx c (by omega)]) (by decide) rfl rfl rfl⟩,fun a1=>⟨fun e=>⟨dx c,trivial,fl (by rw [dq (by omega),ff c 0 (by omega)]) (by decide) rfl rfl rfl⟩,
   fun aP=>⟨fun e=>⟨dx c,trivial,fl (by rw [dq (by omega),ff c 1 (by omega)]) (by decide) rfl rfl rfl⟩,fun fi=>⟨dx c,trivial,fl (by rw [dq (by omega),ff c 2 (by have:=jR c.toNat;omega)]) (by decide) rfl rfl rfl⟩⟩⟩⟩⟩
 ·exact⟨fun e=>hV (by rw [dq (by omega),lv c (by omega)]) (by decide) rfl rfl rfl,fun aj=>⟨fun e=>⟨dx c,hV (by rw [dq (by omega),lx c (by omega)]) (by decide) rfl rfl rfl⟩,fun a1=>⟨fun e=>⟨dx c,trivial,fl (by rw [dq (by omega),ff c 0 (by omega)]) (by decide) rfl rfl rfl⟩,
   fun aP=>⟨fun e=>⟨dx c,trivial,fl (by rw [dq (by omega),ff c 1 (by omega)]) (by decide) rfl rfl rfl⟩,fun fi=>⟨dx c,trivial,fl (by rw [dq (by omega),ff c 2 (by have:=jR c.toNat;omega)]) (by decide) rfl rfl rfl⟩⟩⟩⟩⟩
theorem UC(ay ba bW c:UInt8)(bq:Int)(an:Option (TypeId×Nat))(aB:(lead ay.toNat).1=4)(p:¬(ba.toNat<(lead ay.toNat).2.1∨(lead ay.toNat).2.2<ba.toNat))(ae:¬(bW.toNat<128∨191<bW.toNat)) :
 ∃v p,aI Tryz.prog aw 107 [.ptr (some ⟨0,0,0,0,5⟩),.slice (some ⟨1,0,0,0,1⟩) 1 1] (j.of [hb ay.toNat ba.toNat bW.toNat bq 3 an,gN c.toNat]) v p∧mK ay.toNat ba.toNat bW.toNat bq c.toNat an (cg (ay:: [ba,bW]) c) v p:=by
 have a6:∀r,first (ay::r)=tail 3 1 (lead ay.toNat).2.1 (lead ay.toNat).2.2 (ay.toNat%2^(7-4)) r:=fun r=>j9 ay r 2 aB
 have dq:(c.toNat<128∨191<c.toNat)→cg (ay:: [ba,bW]) c=(65533::(cg [] c).1,(cg [] c).2):=fun ar=>ul _ _ _ _ (by rw [show(ay:: [ba,bW])++[c]=ay:: [ba,bW,c]by rfl,a6];simp only [tail];rw [if_neg p,if_neg ae,if_pos ar];rfl)
 have nC:¬(c.toNat<128∨191<c.toNat)→cg (ay:: [ba,bW]) c=([(((ay.toNat%8)*64+ba.toNat%64)*64+bW.toNat%64)*64+c.toNat%64],[]):=fun ar=>ER _ _ _ _ (by rw [show(ay:: [ba,bW])++[c]=ay:: [ba,bW,c]by rfl,a6];simp only [tail];rw [if_neg p,if_neg ae,if_neg ar];rfl)
 have a':cc .i32 (e3 .i32 (cc .i32 (e3 .i32 (cc .i32 (e3 .i32 (br .i32 (ay.toNat:Int) 7) 6) (br .u8 (ba.toNat:Int) 63)) 6) (br .u8 (bW.toNat:Int) 63)) 6) (br .u8 (c.toNat:Int) 63)=(((((ay.toNat%8)*64+ba.toNat%64)*64+bW.toNat%64)*64+c.toNat%64:Nat):Int):=by rw [Le,l1 ba,l1 bW,l1 c,mI _ (by omega),mJ _ _ (by omega) (by omega),mI _ (by omega),mJ _ _ (by omega) (by omega),mI _ (by omega),mJ _ _ (by omega) (by omega)]
 refine Un ay.toNat ba.toNat bW.toNat bq c.toNat (lead ay.toNat).2.1 (lead ay.toNat).2.2 an _ ?_
 delta Ag K9 ui c8 hM sD EP Lb Ah K' K8 nB qX Ae La pG Af EO pH EN
 rw [sF];refine⟨⟨by have k:=fun H=>qW ay.toNat H;simp only [nA,qZ,aB]at k;exact k _⟩,dx ay,trivial,okF (by omega),okF (by omega),hW,trivial,i' ba,trivial,okF (by omega),okF (by omega),hW,trivial,i' bW,trivial,fun cM=> ?_,fun gh=>⟨fun ty=> ?_,fun hle=>⟨hW,trivial,i' c,trivial,fl (nC (by omega)) (by decide) rfl rfl (congrArg (fun x=>some (J.made [.int .i32 x] 1 false (some (21,0)))) a')⟩⟩⟩
 ·exact⟨fun e=>hV (by rw [dq (by omega),lv c (by omega)]) (by decide) rfl rfl rfl,fun aj=>⟨fun e=>⟨dx c,hV (by rw [dq (by omega),lx c (by omega)]) (by decide) rfl rfl rfl⟩,fun a1=>⟨fun e=>⟨dx c,trivial,fl (by rw [dq (by omega),ff c 0 (by omega)]) (by decide) rfl rfl rfl⟩,
   fun aP=>⟨fun e=>⟨dx c,trivial,fl (by rw [dq (by omega),ff c 1 (by omega)]) (by decide) rfl rfl rfl⟩,fun fi=>⟨dx c,trivial,fl (by rw [dq (by omega),ff c 2 (by have:=jR c.toNat;omega)]) (by decide) rfl rfl rfl⟩⟩⟩⟩⟩
 ·exact⟨fun e=>hV (by rw [dq (by omega),lv c (by omega)]) (by decide) rfl rfl rfl,fun aj=>⟨fun e=>⟨dx c,hV (by rw [dq (by omega),lx c (by omega)]) (by decide) rfl rfl rfl⟩,fun a1=>⟨fun e=>⟨dx c,trivial,fl (by rw [dq (by omega),ff c 0 (by omega)]) (by decide) rfl rfl rfl⟩,
   fun aP=>⟨fun e=>⟨dx c,trivial,fl (by rw [dq (by omega),ff c 1 (by omega)]) (by decide) rfl rfl rfl⟩,fun fi=>⟨dx c,trivial,fl (by rw [dq (by omega),ff c 2 (by have:=jR c.toNat;omega)]) (by decide) rfl rfl rfl⟩⟩⟩⟩⟩
end Go.Proofs.YtddnafghiejcoaaGreatDoor
namespace Go.Keys
def Good(s:bI):Prop :=
 match s.b8 with
 |.ground=>s.kept=[]∧s.hold=[]∧s.az=[]
 |.dw=>s.kept=[27]∧s.hold=[]∧s.az=[]
 |.dc=>s.az=[]∧s.hold=s.kept.drop (at' s.kept)∧0<s.hold.length∧s.hold.length≤3∧(first s.hold).2.2=true
 |.sequence=>s.hold=[]∧s.az=[]∧2≤s.kept.length∧s.kept.length<64
 |.single=>s.hold=[]∧s.az=[]∧s.kept=[27,79]
 |.cC=>s.hold=[]∧s.kept.length<6∧s.kept.isPrefixOf dE=true∧s.az.length≤65536
theorem Lf:∀(k i a7 al v:Nat)(l:Bytes),(tail k i a7 al v l).2.2=true→l.length<k∧(tail k i a7 al v l).2.1=i+l.length
 |0,i,a7,al,v,l,h=>by simp [tail]at h
 |k+1,i,a7,al,v,[],h=>by simp [tail]
 |k +1,i,a7,al,v,c::r,h=>by
  simp only [tail]at h⊢;split at h
  ·simp at h
  ·rename_i ar;rw [if_neg ar];have:=Lf k (i+1) 128 191 (v*64+c.toNat%64) r h;simp only [List.length_cons];omega
theorem Lg:∀(k i a7 al v:Nat)(l:Bytes)(c:UInt8),(tail k i a7 al v l).2.2=true →
 (tail k i a7 al v (l++[c])).2.2=true∨((tail k i a7 al v (l++[c])).2.2=false∧(tail k i a7 al v (l++[c])).2.1=i+l.length+1)∨(tail k i a7 al v (l++[c]))=(65533,i+l.length,false)
 |0,i,a7,al,v,l,c,h=>by simp [tail]at h
 |k +1,i,a7,al,v,[],c,h=>by
  simp only [List.nil_append,tail,List.length_nil];split
  ·exact .inr (.inr rfl)
  ·cases k with
   |zero=>exact .inr (.inl ⟨rfl,rfl⟩)
   |succ k=>exact .inl rfl
 |k +1,i,a7,al,v,b::r,c,h=>by
  simp only [tail,List.cons_append]at h⊢;split at h
  ·simp at h
  ·rename_i ar;rw [if_neg ar];have:=Lg k (i+1) 128 191 (v*64+b.toNat%64) r c h;simp only [List.length_cons];have e:i+1+r.length=i+(r.length+1):=by omega
   rwa [e]at this
theorem um{h:Bytes}(ai:(first h).2.2=true):∃b r,h=b::r∧1<(lead b.toNat).1∧first h=tail ((lead b.toNat).1-1) 1 (lead b.toNat).2.1 (lead b.toNat).2.2 (b.toNat%2^(7- (lead b.toNat).1)) r:=by
 cases h with
 |nil=>simp [first]at ai
 |cons b r =>
  refine⟨b,r,rfl,?_⟩;by_cases bm:(lead b.toNat).1=0
  ·simp [first,bm]at ai
  ·by_cases p:(lead b.toNat).1=1
   ·simp [first,p]at ai
   ·exact⟨by omega,by simp only [first,if_neg bm,if_neg p]⟩
theorem Lh{h:Bytes}(ai:(first h).2.2=true):h.length≤3:=by obtain⟨b,r,rfl,aB,e⟩:=um ai;rw [e]at ai;have:=(Lf _ _ _ _ _ _ ai).1;have:=K5 b.toNat;simp only [List.length_cons];omega
theorem Li{h:Bytes}(ai:(first h).2.2=true)(c:UInt8) :
 (first (h++[c])).2.2=true∨((first (h++[c])).2.2=false∧(first (h++[c])).2.1=h.length+1)∨first (h++[c])=(65533,h.length,false):=by
 obtain⟨b,r,rfl,aB,e⟩:=um ai;rw [e]at ai;have k:=Lg _ _ _ _ _ _ c ai
 have bC:first (b::r++[c])=tail ((lead b.toNat).1-1) 1 (lead b.toNat).2.1 (lead b.toNat).2.2 (b.toNat%2^(7- (lead b.toNat).1)) (r++[c]):=by simp only [List.cons_append,first];rw [if_neg (by omega),if_neg (by omega)]
 rw [bC];have b2:1+r.length=(b::r).length:=by simp only [List.length_cons];omega
 rw [b2]at k;exact k
theorem UD(c:UInt8):((first [c]).2.2=true)∨((first [c]).2.2=false∧(first [c]).2.1=1):=by
 simp only [first];split
 ·exact .inr ⟨rfl,rfl⟩
 ·split
  ·exact .inr ⟨rfl,rfl⟩
  ·have h:(lead c.toNat).1-1≠0:=by omega
   obtain⟨k,ao⟩:=Nat.exists_eq_succ_of_ne_zero h;rw [ao];exact .inl rfl
theorem uk(k:Nat):ht k []=([],[]):=by cases k<;>rfl
theorem Lj{c:UInt8}{h:Bytes} :(h++[c]).drop (h.length+1)=[]:=by rw [List.drop_eq_nil_iff];simp
theorem UE{c:UInt8}{h:Bytes} :(h++[c]).drop h.length=[c]:=by rw [List.drop_append_of_le_length (Nat.le_refl _),List.drop_length];rfl
inductive UF(h:Bytes)(c:UInt8):Prop where
 |more (e:cg h c=([],h++[c])) (U:(first (h++[c])).2.2=true)
 |whole (r:Nat) (e:cg h c=([r],[]))
 |broken (l:List Nat) (t:Bytes) (e:cg h c=(65533::l,t)) (bm:h≠[]) (bC:first (h++[c])=(65533,h.length,false))
theorem Lk(h:Bytes)(c:UInt8)(ai:h=[]∨(first h).2.2=true):UF h c:=by
 have ex:∀x:Bytes,x≠[]→ ∀k,ht (k+1) x=if(first x).2.2 then([],x)else((first x).1::(ht k (x.drop (first x).2.1)).1,(ht k (x.drop (first x).2.1)).2):=by
  intro x af k;cases x with
  |nil=>exact absurd rfl af
  |cons b r=>rfl
 have bZ:h++[c]≠[]:=by simp
 have a6:cg h c=ht (h.length+1) (h++[c]):=rfl;rw [ex _ bZ]at a6;rcases ai with rfl|ai
 ·simp only [List.nil_append]at a6;rcases UD c with U|⟨U,n⟩
  ·rw [U,if_pos rfl]at a6;exact .more a6 U
  ·rw [U,if_neg (by simp),n]at a6;exact .whole (first [c]).1 (by rw [a6];simp [uk])
 ·rcases Li ai c with U|⟨U,n⟩|e
  ·rw [U,if_pos rfl]at a6;exact .more a6 U
  ·rw [U,if_neg (by simp),n,Lj,uk]at a6;exact .whole _ a6
  ·rw [e]at a6;simp only [if_neg (show ¬(false=true)by simp)]at a6;exact .broken _ _ a6 (by rintro rfl;simp [first]at ai) e
theorem Ll(r:Nat):1≤(put r).length:=by
 unfold put;simp only
 repeat' split
 all_goals simp
theorem ET:put 65533=[239,191,189]:=by decide
theorem UG{k n:Nat}{b:UInt8}{r:Bytes}(e:first (b::r)=(65533,n,false)):iI (k+1) (b::r)=65533::iI k ((b::r).drop n):=by simp only [iI,e]
theorem EU{h:Bytes}{c:UInt8}(ai:(first h).2.2=true)(e:first (h++[c])=(65533,h.length,false)):valid (h++[c])=false:=by
 have aB:=Lh ai;obtain⟨b,r,rfl,av,_⟩:=um ai
 have be:ew (b::r++[c])=65533::iI (r++[c]).length [c]:=by
  have dT:first (b::(r++[c]))=(65533,(b::r).length,false):=e
  show iI ((r++[c]).length+1) (b::(r++[c]))=_;rw [UG dT]
  congr 1
  have:(b::(r++[c])).drop (b::r).length=[c]:=UE (h:=b::r);rw [this]
 have UH:∃x,iI (r++[c]).length [c]=x::iI ((r++[c]).length-1) ([c].drop (first [c]).2.1):=by
  have:(r++[c]).length=r.length+1:=by simp
  rw [this];exact⟨_,rfl⟩
 obtain⟨x,af⟩:=UH;unfold valid;rw [be,af];rw [beq_eq_false_iff_ne];intro eq;simp only [fX,List.flatMap_cons,ET]at eq;have eC:=congrArg List.length eq;have I:=Ll x;simp only [List.length_append,List.length_cons,List.length_nil]at eC;simp only [List.length_cons]at aB;have oI:r.length=2:=by omega
 match r,oI with
 |[fM,jE],_ =>
  simp only [List.cons_append,List.nil_append,List.cons.injEq]at eq;obtain⟨rfl,rfl,rfl,_⟩:=eq;revert ai
  decide
theorem UI{k:Bytes}{c:UInt8}(h:k≠[]∨c≠27):at' (k++[c])=at' k:=by
 cases k with
 |nil =>
  rcases h with h|h
  ·exact absurd rfl h
  ·simp [at',h]
 |cons b r=>rfl
theorem EV(k:Bytes):at' k≤k.length:=by
 cases k with
 |nil=>simp [at']
 |cons b r=>simp only [at',List.length_cons];split<;>omega
theorem Lm(k:Bytes):at' k≤1:=by
 cases k with
 |nil=>simp [at']
 |cons b r=>simp only [at'];split<;>omega
theorem EW{s:bI}{c:UInt8}{no:bI→bI×List bw}(ac:s.az=[])(bQ:s.hold=s.kept.drop (at' s.kept))(ai:s.hold=[]∨(first s.hold).2.2=true)(ao:s.kept≠[]∨c≠27)(h7:∀s1:bI,s1.az=[]→s1.hold=[]→Good (no s1).1):Good (hJ s c no).1:=by
 have key:=Lk s.hold c ai;unfold hJ;simp only;cases key with
 |more e U =>
  rw [e];simp only [ne_eq,List.append_eq_nil_iff,List.cons_ne_self,and_false,not_false_eq_true,and_self,if_true];refine⟨ac,?_,by simp,?_,U⟩
  ·show s.hold++[c]=(s.kept++[c]).drop (at' (s.kept++[c]));rw [UI ao,bQ,List.drop_append_of_le_length (EV _)]
  ·exact Lh U
 |whole r e =>
  rw [e];simp only [ne_eq,not_true_eq_false,false_and,if_false];split
  ·split<;>exact⟨rfl,rfl,ac⟩
  ·exact h7 _ ac rfl
 |broken l t e bm bC =>
  rw [e]
  have a':valid (s.kept.drop (at' s.kept)++[c])=false:=by
   rw [←bQ];rcases ai with ai|ai
   ·exact absurd ai bm
   ·exact EU ai bC
  have jC:¬s.kept.length=at' s.kept:=by intro q;apply bm;rw [bQ,List.drop_eq_nil_iff];omega
  rw [if_neg (by simp),if_neg (by simp [a',jC])];exact h7 _ ac rfl
theorem q0{s:bI}{e:bw}(h:s.hold=[])(I:s.az=[]):Good (tell s e).1:=⟨rfl,h,I⟩
theorem Ai{s:bI}{c:UInt8}(ao:s.kept=[])(bQ:s.hold=[])(ac:s.az=[]):Good (ground s c).1:=by
 unfold ground;split
 ·exact⟨rfl,bQ,ac⟩
 ·rename_i ar;unfold iq;split
  ·exact q0 bQ ac
  ·exact EW ac (by rw [ao,bQ];rfl) (.inl bQ) (.inr ar) fun s1 a b=>q0 b a
theorem EX{s:bI}{c:UInt8}(bQ:s.hold=[])(ac:s.az=[]):Good (bad s c).1:=Ai rfl bQ ac
theorem UJ{s:bI}{c:UInt8}(ao:s.kept=[27])(bQ:s.hold=[])(ac:s.az=[]):Good (plain s c).1:=by
 unfold plain iq;split
 ·exact q0 bQ ac
 ·exact EW ac (by rw [ao,bQ];rfl) (.inl bQ) (.inl (by rw [ao];simp)) fun s1 a b=>EX b a
theorem Ln:∀(n:Nat)(k I:Bytes),k.length≤n→I.length≤65536→(shift n k I).1.isPrefixOf dE=true∧(shift n k I).2.length≤65536
 |0,k,I,h,ac=>by have:k=[]:=List.eq_nil_of_length_eq_zero (by omega);subst this;exact⟨by simp [shift],ac⟩
 |n+1,[],I,h,ac=>by simp [shift,ac]
 |n +1,b::r,I,h,ac=>by
  simp only [shift];split
  ·exact⟨‹_›,ac⟩
  ·refine Ln n r _ (by simp only [List.length_cons]at h;omega) ?_;split
   ·simp;omega
   ·exact ac
theorem UK{k:Bytes}(h:k.isPrefixOf dE=true):k.length≤6:=by rw [List.isPrefixOf_iff_prefix]at h;exact h.length_le
theorem q1{s:bI}(c:UInt8)(h:Good s):Good (step s c).1:=by
 obtain⟨b8,kept,hold,az⟩:=s;unfold step;cases b8 with
 |ground=>exact Ai h.1 h.2.1 h.2.2
 |dw =>
  obtain⟨p,ae,bg⟩:=h;simp only at p ae bg⊢;unfold dw;split
  ·exact Ai rfl ae bg
  ·split
   ·exact⟨ae,bg,by simp [p],by simp [p]⟩
   ·split
    ·rename_i ar;exact⟨ae,bg,by simp [p,ar]⟩
    ·exact UJ p ae bg
 |dc =>
  obtain⟨p,ae,bg,bO,bJ⟩:=h;simp only at p ae bg bO bJ⊢;have ao:kept≠[]:=by rintro rfl;rw [ae]at bg;simp at bg
  exact EW p ae (.inr bJ) (.inl ao) fun s1 a b=>EX b a
 |sequence =>
  obtain⟨p,ae,bg,bO⟩:=h;simp only at p ae bg bO⊢;unfold sequence;split
  ·unfold done;split
   ·exact⟨p,by simp,by simp,by simp [ae]⟩
   ·exact q0 p ae
  ·split
   ·exact EX p ae
   ·split
    ·exact q0 p ae
    ·refine⟨p,ae,?_,?_⟩
     ·show 2≤(kept++[c]).length;simp;omega
     ·show(kept++[c]).length<64;simp only at *;simp;omega
 |single =>
  obtain⟨p,ae,bg⟩:=h;simp only at p ae bg⊢;unfold single;split
  ·exact q0 p ae
  ·split
   ·exact q0 p ae
   ·split
    ·exact q0 p ae
    ·exact Ai rfl p ae
 |cC =>
  obtain⟨p,ae,bg,bO⟩:=h;simp only at p ae bg bO⊢;unfold cC;simp only;have k:=Ln (kept.length+1) (kept++[c]) az (by simp) bO;split
  ·exact⟨rfl,p,rfl⟩
  ·have:=UK k.1;exact⟨p,by show(shift _ _ _).1.length<6;omega,k.1,k.2⟩
theorem Aj:∀(b:Bytes){s:bI},Good s→Good (ej s b).1
 |[],s,h=>h
 |c::r,s,h=>Aj r (q1 c h)
end Go.Keys
namespace Go.Keys
theorem EY{s:bI}{c:UInt8}{no:bI→bI×List bw}{k:Nat}(ao:1≤k)(h:∀s1,(no s1).2.length≤k):(hJ s c no).2.length≤k:=by
 unfold hJ;simp only;split
 ·simp
 ·split
  ·split<;>(simp only [tell,List.length_cons,List.length_nil];omega)
  ·exact h _
theorem Ak(s:bI)(c:UInt8):(ground s c).2.length≤1:=by
 unfold ground;split
 ·simp
 ·unfold iq;split
  ·simp [tell]
  ·exact EY (by decide) fun s1=>by simp [tell]
theorem EZ(s:bI)(c:UInt8):(bad s c).2.length≤2:=by unfold bad;simp only [List.length_cons];have:=Ak (tell s (gM s.kept)).1 c;omega
theorem UL(s:bI)(c:UInt8):(plain s c).2.length≤2:=by
 unfold plain iq;split
 ·simp [tell]
 ·exact EY (by decide) fun s1=>EZ s1 c
theorem Lo(s:bI)(c:UInt8):(step s c).2.length≤2:=by
 unfold step;split
 ·have:=Ak s c;omega
 ·unfold dw;split
  ·simp only [List.length_cons];have:=Ak (tell s (e4 4)).1 c;omega
  ·split
   ·simp
   ·split
    ·simp
    ·exact UL s c
 ·exact EY (by decide) fun s1=>EZ s1 c
 ·unfold sequence;split
  ·unfold done;split<;>simp [tell]
  ·split
   ·exact EZ s c
   ·split<;>simp [tell]
 ·unfold single;split
  ·simp [tell]
  ·split
   ·simp [tell]
   ·split
    ·simp [tell]
    ·simp only [List.length_cons];have:=Ak (tell s (gk 79 2)).1 c;omega
 ·unfold cC;simp only;split<;>simp [tell]
theorem Lp:∀(b:Bytes)(s:bI),(ej s b).2.length≤2*b.length
 |[],s=>by simp [ej]
 |c::r,s=>by simp only [ej,List.length_append,List.length_cons];have p:=Lo s c;have ae:=Lp r (step s c).1;omega
theorem UM{s:bI}(h:Good s):Good (flush s).1:=by
 obtain⟨b8,kept,hold,az⟩:=s;unfold flush;split
 ·exact h
 ·rename_i aM
  have ac:az=[]:=by
   cases b8 with
   |ground=>exact h.2.2
   |dw=>exact h.2.2
   |dc=>exact h.1
   |sequence=>exact h.2.1
   |single=>exact h.2.1
   |cC=>exact absurd (.inl rfl) aM
  split
  ·exact⟨rfl,rfl,ac⟩
  ·split<;>exact⟨rfl,rfl,ac⟩
end Go.Keys
namespace Go.Proofs.YtddnafghiejcoaaGreatDoor
open Go.cH Go.Keys
set_option maxRecDepth 1000000
theorem UN(ab:o→j→Prop)(aY:ab (.tuple [.int .i32 0,.int .i64 0]) (j.au 7 [(0,J.made [.str []] 1 true (some (9,1)))])) :
 ∃v p,aI Tryz.prog aw 54 [.str []] (⟨0,.nil⟩) v p∧ab v p :=
 cf bU mixed c7 (aq:= .nil) (by kernel_rfl) aY
theorem UO(ay:UInt8)(r:Bytes)(a7 al:Int)(ab:o→j→Prop)(aY:cW Tryz.prog aw 99 [.int .u8 (↑(UInt8.toNat ay):Int)] (j.au 36 [(0,J.made [.str (ay::r)] 1 true (some (9,1)))]) (.tuple [.int .i64 0,.int .u8 a7,.int .u8 al]) (j.au 36 [(0,J.made [.str (ay::r)] 1 true (some (9,1)))])∧ab (.tuple [.int .i32 65533,.int .i64 1]) (j.au 45 [(0,J.made [.str (ay::r)] 1 true (some (9,1)))])) :
 ∃v p,aI Tryz.prog aw 54 [.str (ay::r)] (⟨0,.nil⟩) v p∧ab v p :=
 cf bU mixed c7 (aq:=he 3003 (he 1001 (.aA (.val 2001 (.tuple [.int .i64 0,.int .u8 a7,.int .u8 al])) .nil))) (by kernel_rfl) aY
theorem UP(ay:UInt8)(r:Bytes)(a7 al:Int)(ab:o→j→Prop)(aY:cW Tryz.prog aw 99 [.int .u8 (↑(UInt8.toNat ay):Int)] (j.au 36 [(0,J.made [.str (ay::r)] 1 true (some (9,1)))]) (.tuple [.int .i64 1,.int .u8 a7,.int .u8 al]) (j.au 36 [(0,J.made [.str (ay::r)] 1 true (some (9,1)))])∧(-2147483648≤(↑(UInt8.toNat ay):Int)∧(↑(UInt8.toNat ay):Int)≤2147483647)∧ab (.tuple [.int .i32 (↑(UInt8.toNat ay):Int),.int .i64 1]) (j.au 49 [(0,J.made [.str (ay::r)] 1 true (some (9,1)))])) :
 ∃v p,aI Tryz.prog aw 54 [.str (ay::r)] (⟨0,.nil⟩) v p∧ab v p :=
 cf bU mixed c7 (aq:=he 3003 (he 1001 (.aA (.val 2001 (.tuple [.int .i64 1,.int .u8 a7,.int .u8 al])) (ah 6001 .nil)))) (by kernel_rfl) aY
theorem UQ(ay:UInt8)(a7 al:Int)(ab:o→j→Prop)(aY:cW Tryz.prog aw 99 [.int .u8 (↑(UInt8.toNat ay):Int)] (j.au 36 [(0,J.made [.str [ay]] 1 true (some (9,1)))]) (.tuple [.int .i64 2,.int .u8 a7,.int .u8 al]) (j.au 36 [(0,J.made [.str [ay]] 1 true (some (9,1)))])∧(-2147483648≤(↑(UInt8.toNat ay):Int)∧(↑(UInt8.toNat ay):Int)≤2147483647)∧True∧ab (.tuple [.int .i32 65533,.int .i64 1]) (j.au 61 [(0,J.made [.str [ay]] 1 true (some (9,1)))])) :
 ∃v p,aI Tryz.prog aw 54 [.str ([ay])] (⟨0,.nil⟩) v p∧ab v p :=
 cf bU mixed c7 (aq:=he 3003 (he 1001 (.aA (.val 2001 (.tuple [.int .i64 2,.int .u8 a7,.int .u8 al])) pF))) (by kernel_rfl) aY
theorem UR(ay ba:UInt8)(r:Bytes)(a7 al:Int)(ab:o→j→Prop)(aY:cW Tryz.prog aw 99 [.int .u8 (↑(UInt8.toNat ay):Int)] (j.au 36 [(0,J.made [.str (ay::ba::r)] 1 true (some (9,1)))]) (.tuple [.int .i64 2,.int .u8 a7,.int .u8 al]) (j.au 36 [(0,J.made [.str (ay::ba::r)] 1 true (some (9,1)))])∧(-2147483648≤(↑(UInt8.toNat ay):Int)∧(↑(UInt8.toNat ay):Int)≤2147483647)∧True∧((↑(UInt8.toNat ba):Int)<a7→ab (.tuple [.int .i32 65533,.int .i64 1]) (j.au 78 [(0,J.made [.str (ay::ba::r)] 1 true (some (9,1)))]))∧(¬(↑(UInt8.toNat ba):Int)<a7→(al<(↑(UInt8.toNat ba):Int)→ab (.tuple [.int .i32 65533,.int .i64 1]) (j.au 78 [(0,J.made [.str (ay::ba::r)] 1 true (some (9,1)))]))∧(¬al<(↑(UInt8.toNat ba):Int)→Int.NonNeg (6-0)∧True∧(-2147483648≤br .u8 (↑(UInt8.toNat ba):Int) (63)∧br .u8 (↑(UInt8.toNat ba):Int) (63)≤2147483647)∧True∧ab (.tuple [.int .i32 (cc .i32 (e3 .i32 (br .i32 (↑(UInt8.toNat ay):Int) (31)) (6)) (br .u8 (↑(UInt8.toNat ba):Int) (63))),.int .i64 2]) (j.au 94 [(0,J.made [.str (ay::ba::r)] 1 true (some (9,1)))])))) :
 ∃v p,aI Tryz.prog aw 54 [.str (ay::ba::r)] (⟨0,.nil⟩) v p∧ab v p :=
 cf bU mixed c7 (aq:=he 3003 (he 1001 (.aA (.val 2001 (.tuple [.int .i64 2,.int .u8 a7,.int .u8 al])) (ah 7001 (ah 7004 (.aA (.rounds 300) (he 13002 (.aN 14002 .nil (.aN 14006 .nil (ah 17001 (ah 17003 (ah 17004 (ah 17005 .nil))))))))))))) (by kernel_rfl) aY
theorem US(ay:UInt8)(a7 al:Int)(ab:o→j→Prop)(aY:cW Tryz.prog aw 99 [.int .u8 (↑(UInt8.toNat ay):Int)] (j.au 36 [(0,J.made [.str [ay]] 1 true (some (9,1)))]) (.tuple [.int .i64 3,.int .u8 a7,.int .u8 al]) (j.au 36 [(0,J.made [.str [ay]] 1 true (some (9,1)))])∧(-2147483648≤(↑(UInt8.toNat ay):Int)∧(↑(UInt8.toNat ay):Int)≤2147483647)∧True∧ab (.tuple [.int .i32 65533,.int .i64 1]) (j.au 61 [(0,J.made [.str [ay]] 1 true (some (9,1)))])) :
 ∃v p,aI Tryz.prog aw 54 [.str ([ay])] (⟨0,.nil⟩) v p∧ab v p :=
 cf bU mixed c7 (aq:=he 3003 (he 1001 (.aA (.val 2001 (.tuple [.int .i64 3,.int .u8 a7,.int .u8 al])) pF))) (by kernel_rfl) aY
theorem UT(ay ba:UInt8)(a7 al:Int)(ab:o→j→Prop)(aY:cW Tryz.prog aw 99 [.int .u8 (↑(UInt8.toNat ay):Int)] (j.au 36 [(0,J.made [.str [ay,ba]] 1 true (some (9,1)))]) (.tuple [.int .i64 3,.int .u8 a7,.int .u8 al]) (j.au 36 [(0,J.made [.str [ay,ba]] 1 true (some (9,1)))])∧(-2147483648≤(↑(UInt8.toNat ay):Int)∧(↑(UInt8.toNat ay):Int)≤2147483647)∧True∧((↑(UInt8.toNat ba):Int)<a7→ab (.tuple [.int .i32 65533,.int .i64 1]) (j.au 78 [(0,J.made [.str [ay,ba]] 1 true (some (9,1)))]))∧(¬(↑(UInt8.toNat ba):Int)<a7→(al<(↑(UInt8.toNat ba):Int)→ab (.tuple [.int .i32 65533,.int .i64 1]) (j.au 78 [(0,J.made [.str [ay,ba]] 1 true (some (9,1)))]))∧(¬al<(↑(UInt8.toNat ba):Int)→Int.NonNeg (6-0)∧True∧(-2147483648≤br .u8 (↑(UInt8.toNat ba):Int) (63)∧br .u8 (↑(UInt8.toNat ba):Int) (63)≤2147483647)∧True∧ab (.tuple [.int .i32 65533,.int .i64 2]) (j.au 96 [(0,J.made [.str [ay,ba]] 1 true (some (9,1)))])))) :
 ∃v p,aI Tryz.prog aw 54 [.str ([ay,ba])] (⟨0,.nil⟩) v p∧ab v p :=
 cf bU mixed c7 (aq:=he 3003 (he 1001 (.aA (.val 2001 (.tuple [.int .i64 3,.int .u8 a7,.int .u8 al])) (ah 7001 (ah 7004 (.aA (.rounds 300) (he 13002 (.aN 14002 .nil (.aN 14006 .nil (ah 17001 (ah 17003 (ah 17004 (ah 17005 .nil))))))))))))) (by kernel_rfl) aY
theorem UU(ay ba bW:UInt8)(r:Bytes)(a7 al:Int)(ab:o→j→Prop)(aY:cW Tryz.prog aw 99 [.int .u8 (↑(UInt8.toNat ay):Int)] (j.au 36 [(0,J.made [.str (ay::ba::bW::r)] 1 true (some (9,1)))]) (.tuple [.int .i64 3,.int .u8 a7,.int .u8 al]) (j.au 36 [(0,J.made [.str (ay::ba::bW::r)] 1 true (some (9,1)))])∧(-2147483648≤(↑(UInt8.toNat ay):Int)∧(↑(UInt8.toNat ay):Int)≤2147483647)∧True∧((↑(UInt8.toNat ba):Int)<a7→ab (.tuple [.int .i32 65533,.int .i64 1]) (j.au 78 [(0,J.made [.str (ay::ba::bW::r)] 1 true (some (9,1)))]))∧(¬(↑(UInt8.toNat ba):Int)<a7→(al<(↑(UInt8.toNat ba):Int)→ab (.tuple [.int .i32 65533,.int .i64 1]) (j.au 78 [(0,J.made [.str (ay::ba::bW::r)] 1 true (some (9,1)))]))∧(¬al<(↑(UInt8.toNat ba):Int)→Int.NonNeg (6-0)∧True∧(-2147483648≤br .u8 (↑(UInt8.toNat ba):Int) (63)∧br .u8 (↑(UInt8.toNat ba):Int) (63)≤2147483647)∧True∧((↑(UInt8.toNat bW):Int)<128→ab (.tuple [.int .i32 65533,.int .i64 2]) (j.au 113 [(0,J.made [.str (ay::ba::bW::r)] 1 true (some (9,1)))]))∧(¬(↑(UInt8.toNat bW):Int)<128→(191<(↑(UInt8.toNat bW):Int)→ab (.tuple [.int .i32 65533,.int .i64 2]) (j.au 113 [(0,J.made [.str (ay::ba::bW::r)] 1 true (some (9,1)))]))∧(¬191<(↑(UInt8.toNat bW):Int)→Int.NonNeg (6-0)∧True∧(-2147483648≤br .u8 (↑(UInt8.toNat bW):Int) (63)∧br .u8 (↑(UInt8.toNat bW):Int) (63)≤2147483647)∧True∧ab (.tuple [.int .i32 (cc .i32 (e3 .i32 (cc .i32 (e3 .i32 (br .i32 (↑(UInt8.toNat ay):Int) (15)) (6)) (br .u8 (↑(UInt8.toNat ba):Int) (63))) (6)) (br .u8 (↑(UInt8.toNat bW):Int) (63))),.int .i64 3]) (j.au 129 [(0,J.made [.str (ay::ba::bW::r)] 1 true (some (9,1)))])))))) :
 ∃v p,aI Tryz.prog aw 54 [.str (ay::ba::bW::r)] (⟨0,.nil⟩) v p∧ab v p :=
 cf bU mixed c7 (aq:=he 3003 (he 1001 (.aA (.val 2001 (.tuple [.int .i64 3,.int .u8 a7,.int .u8 al])) (ah 7001 (ah 7004 (.aA (.rounds 300) (he 13002 (.aN 14002 .nil (.aN 14006 .nil (ah 17001 (ah 17003 (ah 17004 (ah 17005 (he 13002 (.aN 14002 .nil (.aN 14006 .nil (ah 17001 (ah 17003 (ah 17004 (ah 17005 .nil)))))))))))))))))))) (by kernel_rfl) aY
theorem UW(ay:UInt8)(a7 al:Int)(ab:o→j→Prop)(aY:cW Tryz.prog aw 99 [.int .u8 (↑(UInt8.toNat ay):Int)] (j.au 36 [(0,J.made [.str [ay]] 1 true (some (9,1)))]) (.tuple [.int .i64 4,.int .u8 a7,.int .u8 al]) (j.au 36 [(0,J.made [.str [ay]] 1 true (some (9,1)))])∧(-2147483648≤(↑(UInt8.toNat ay):Int)∧(↑(UInt8.toNat ay):Int)≤2147483647)∧True∧ab (.tuple [.int .i32 65533,.int .i64 1]) (j.au 61 [(0,J.made [.str [ay]] 1 true (some (9,1)))])) :
 ∃v p,aI Tryz.prog aw 54 [.str ([ay])] (⟨0,.nil⟩) v p∧ab v p :=
 cf bU mixed c7 (aq:=he 3003 (he 1001 (.aA (.val 2001 (.tuple [.int .i64 4,.int .u8 a7,.int .u8 al])) pF))) (by kernel_rfl) aY
theorem UX(ay ba:UInt8)(a7 al:Int)(ab:o→j→Prop)(aY:cW Tryz.prog aw 99 [.int .u8 (↑(UInt8.toNat ay):Int)] (j.au 36 [(0,J.made [.str [ay,ba]] 1 true (some (9,1)))]) (.tuple [.int .i64 4,.int .u8 a7,.int .u8 al]) (j.au 36 [(0,J.made [.str [ay,ba]] 1 true (some (9,1)))])∧(-2147483648≤(↑(UInt8.toNat ay):Int)∧(↑(UInt8.toNat ay):Int)≤2147483647)∧True∧((↑(UInt8.toNat ba):Int)<a7→ab (.tuple [.int .i32 65533,.int .i64 1]) (j.au 78 [(0,J.made [.str [ay,ba]] 1 true (some (9,1)))]))∧(¬(↑(UInt8.toNat ba):Int)<a7→(al<(↑(UInt8.toNat ba):Int)→ab (.tuple [.int .i32 65533,.int .i64 1]) (j.au 78 [(0,J.made [.str [ay,ba]] 1 true (some (9,1)))]))∧(¬al<(↑(UInt8.toNat ba):Int)→Int.NonNeg (6-0)∧True∧(-2147483648≤br .u8 (↑(UInt8.toNat ba):Int) (63)∧br .u8 (↑(UInt8.toNat ba):Int) (63)≤2147483647)∧True∧ab (.tuple [.int .i32 65533,.int .i64 2]) (j.au 96 [(0,J.made [.str [ay,ba]] 1 true (some (9,1)))])))) :
 ∃v p,aI Tryz.prog aw 54 [.str ([ay,ba])] (⟨0,.nil⟩) v p∧ab v p :=
 cf bU mixed c7 (aq:=he 3003 (he 1001 (.aA (.val 2001 (.tuple [.int .i64 4,.int .u8 a7,.int .u8 al])) (ah 7001 (ah 7004 (.aA (.rounds 300) (he 13002 (.aN 14002 .nil (.aN 14006 .nil (ah 17001 (ah 17003 (ah 17004 (ah 17005 .nil))))))))))))) (by kernel_rfl) aY
theorem UY(ay ba bW:UInt8)(a7 al:Int)(ab:o→j→Prop)(aY:cW Tryz.prog aw 99 [.int .u8 (↑(UInt8.toNat ay):Int)] (j.au 36 [(0,J.made [.str [ay,ba,bW]] 1 true (some (9,1)))]) (.tuple [.int .i64 4,.int .u8 a7,.int .u8 al]) (j.au 36 [(0,J.made [.str [ay,ba,bW]] 1 true (some (9,1)))])∧(-2147483648≤(↑(UInt8.toNat ay):Int)∧(↑(UInt8.toNat ay):Int)≤2147483647)∧True∧((↑(UInt8.toNat ba):Int)<a7→ab (.tuple [.int .i32 65533,.int .i64 1]) (j.au 78 [(0,J.made [.str [ay,ba,bW]] 1 true (some (9,1)))]))∧(¬(↑(UInt8.toNat ba):Int)<a7→(al<(↑(UInt8.toNat ba):Int)→ab (.tuple [.int .i32 65533,.int .i64 1]) (j.au 78 [(0,J.made [.str [ay,ba,bW]] 1 true (some (9,1)))]))∧(¬al<(↑(UInt8.toNat ba):Int)→Int.NonNeg (6-0)∧True∧(-2147483648≤br .u8 (↑(UInt8.toNat ba):Int) (63)∧br .u8 (↑(UInt8.toNat ba):Int) (63)≤2147483647)∧True∧((↑(UInt8.toNat bW):Int)<128→ab (.tuple [.int .i32 65533,.int .i64 2]) (j.au 113 [(0,J.made [.str [ay,ba,bW]] 1 true (some (9,1)))]))∧(¬(↑(UInt8.toNat bW):Int)<128→(191<(↑(UInt8.toNat bW):Int)→ab (.tuple [.int .i32 65533,.int .i64 2]) (j.au 113 [(0,J.made [.str [ay,ba,bW]] 1 true (some (9,1)))]))∧(¬191<(↑(UInt8.toNat bW):Int)→Int.NonNeg (6-0)∧True∧(-2147483648≤br .u8 (↑(UInt8.toNat bW):Int) (63)∧br .u8 (↑(UInt8.toNat bW):Int) (63)≤2147483647)∧True∧ab (.tuple [.int .i32 65533,.int .i64 3]) (j.au 131 [(0,J.made [.str [ay,ba,bW]] 1 true (some (9,1)))])))))) :
 ∃v p,aI Tryz.prog aw 54 [.str ([ay,ba,bW])] (⟨0,.nil⟩) v p∧ab v p :=
 cf bU mixed c7 (aq:=he 3003 (he 1001 (.aA (.val 2001 (.tuple [.int .i64 4,.int .u8 a7,.int .u8 al])) (ah 7001 (ah 7004 (.aA (.rounds 300) (he 13002 (.aN 14002 .nil (.aN 14006 .nil (ah 17001 (ah 17003 (ah 17004 (ah 17005 (he 13002 (.aN 14002 .nil (.aN 14006 .nil (ah 17001 (ah 17003 (ah 17004 (ah 17005 .nil)))))))))))))))))))) (by kernel_rfl) aY
theorem UZ(ay ba bW fj:UInt8)(r:Bytes)(a7 al:Int)(ab:o→j→Prop)(aY:cW Tryz.prog aw 99 [.int .u8 (↑(UInt8.toNat ay):Int)] (j.au 36 [(0,J.made [.str (ay::ba::bW::fj::r)] 1 true (some (9,1)))]) (.tuple [.int .i64 4,.int .u8 a7,.int .u8 al]) (j.au 36 [(0,J.made [.str (ay::ba::bW::fj::r)] 1 true (some (9,1)))])∧(-2147483648≤(↑(UInt8.toNat ay):Int)∧(↑(UInt8.toNat ay):Int)≤2147483647)∧True∧((↑(UInt8.toNat ba):Int)<a7→ab (.tuple [.int .i32 65533,.int .i64 1]) (j.au 78 [(0,J.made [.str (ay::ba::bW::fj::r)] 1 true (some (9,1)))]))∧(¬(↑(UInt8.toNat ba):Int)<a7→(al<(↑(UInt8.toNat ba):Int)→ab (.tuple [.int .i32 65533,.int .i64 1]) (j.au 78 [(0,J.made [.str (ay::ba::bW::fj::r)] 1 true (some (9,1)))]))∧(¬al<(↑(UInt8.toNat ba):Int)→Int.NonNeg (6-0)∧True∧(-2147483648≤br .u8 (↑(UInt8.toNat ba):Int) (63)∧br .u8 (↑(UInt8.toNat ba):Int) (63)≤2147483647)∧True∧((↑(UInt8.toNat bW):Int)<128→ab (.tuple [.int .i32 65533,.int .i64 2]) (j.au 113 [(0,J.made [.str (ay::ba::bW::fj::r)] 1 true (some (9,1)))]))∧(¬(↑(UInt8.toNat bW):Int)<128→(191<(↑(UInt8.toNat bW):Int)→ab (.tuple [.int .i32 65533,.int .i64 2]) (j.au 113 [(0,J.made [.str (ay::ba::bW::fj::r)] 1 true (some (9,1)))]))∧(¬191<(↑(UInt8.toNat bW):Int)→Int.NonNeg (6-0)∧True∧(-2147483648≤br .u8 (↑(UInt8.toNat bW):Int) (63)∧br .u8 (↑(UInt8.toNat bW):Int) (63)≤2147483647)∧True∧((↑(UInt8.toNat fj):Int)<128→ab (.tuple [.int .i32 65533,.int .i64 3]) (j.au 148 [(0,J.made [.str (ay::ba::bW::fj::r)] 1 true (some (9,1)))]))∧(¬(↑(UInt8.toNat fj):Int)<128→(191<(↑(UInt8.toNat fj):Int)→ab (.tuple [.int .i32 65533,.int .i64 3]) (j.au 148 [(0,J.made [.str (ay::ba::bW::fj::r)] 1 true (some (9,1)))]))∧(¬191<(↑(UInt8.toNat fj):Int)→Int.NonNeg (6-0)∧True∧(-2147483648≤br .u8 (↑(UInt8.toNat fj):Int) (63)∧br .u8 (↑(UInt8.toNat fj):Int) (63)≤2147483647)∧True∧ab (.tuple [.int .i32 (cc .i32 (e3 .i32 (cc .i32 (e3 .i32 (cc .i32 (e3 .i32 (br .i32 (↑(UInt8.toNat ay):Int) (7)) (6)) (br .u8 (↑(UInt8.toNat ba):Int) (63))) (6)) (br .u8 (↑(UInt8.toNat bW):Int) (63))) (6)) (br .u8 (↑(UInt8.toNat fj):Int) (63))),.int .i64 4]) (j.au 164 [(0,J.made [.str (ay::ba::bW::fj::r)] 1 true (some (9,1)))])))))))) :
 ∃v p,aI Tryz.prog aw 54 [.str (ay::ba::bW::fj::r)] (⟨0,.nil⟩) v p∧ab v p :=
 cf bU mixed c7 (aq:=he 3003 (he 1001 (.aA (.val 2001 (.tuple [.int .i64 4,.int .u8 a7,.int .u8 al])) (ah 7001 (ah 7004 (.aA (.rounds 300) (he 13002 (.aN 14002 .nil (.aN 14006 .nil (ah 17001 (ah 17003 (ah 17004 (ah 17005 (he 13002 (.aN 14002 .nil (.aN 14006 .nil (ah 17001 (ah 17003 (ah 17004 (ah 17005 (he 13002 (.aN 14002 .nil (.aN 14006 .nil (ah 17001 (ah 17003 (ah 17004 (ah 17005 .nil))))))))))))))))))))))))))) (by kernel_rfl) aY
def gO(s:Bytes):o:= .tuple [.int .i32 ((first s).1:Int),.int .i64 ((first s).2.1:Int)]
theorem gl{s:Bytes}{a k:Nat}{x:Bool}(h:first s=(a,k,x)){cz fa:Int}(aS:cz=a)(ao:fa=k):o.tuple [.int .i32 cz,.int .i64 fa]=gO s:=by unfold gO;rw [h,aS,ao]
theorem U0(H:j):aI Tryz.prog aw 54 [.str []] H (gO []) H:=aI.fk (UN (fun v _=>v=gO []) rfl) rfl rfl H
theorem nD(b:UInt8)(n:Nat)(h:(lead b.toNat).1=n)(H:j):aI Tryz.prog aw 99 [.int .u8 (b.toNat:Int)] H (.tuple [.int .i64 (n:Int),.int .u8 ((lead b.toNat).2.1:Int),.int .u8 ((lead b.toNat).2.2:Int)]) H:=by have k:=qW b.toNat H;simp only [nA,qZ,h]at k;exact k
theorem U1(ay:UInt8)(r:Bytes)(aB:(lead ay.toNat).1=0)(H:j):aI Tryz.prog aw 54 [.str (ay::r)] H (gO (ay::r)) H:=by refine aI.fk (UO ay r (lead ay.toNat).2.1 (lead ay.toNat).2.2 (fun v _=>v=gO (ay::r)) ?_) rfl rfl H;exact⟨⟨nD ay 0 aB _⟩,gl (show first (ay::r)=(65533,1,false)by simp [first,aB]) rfl rfl⟩
theorem U2(ay:UInt8)(r:Bytes)(aB:(lead ay.toNat).1=1)(H:j):aI Tryz.prog aw 54 [.str (ay::r)] H (gO (ay::r)) H:=by refine aI.fk (UP ay r (lead ay.toNat).2.1 (lead ay.toNat).2.2 (fun v _=>v=gO (ay::r)) ?_) rfl rfl H;exact⟨⟨nD ay 1 aB _⟩,dx ay,gl (show first (ay::r)=(ay.toNat,1,false)by simp [first,aB]) rfl rfl⟩
theorem U3(ay:UInt8)(aB:(lead ay.toNat).1=2)(H:j):aI Tryz.prog aw 54 [.str (ay:: [])] H (gO (ay:: [])) H:=by
 refine aI.fk (UQ ay (lead ay.toNat).2.1 (lead ay.toNat).2.2 (fun v _=>v=gO (ay:: [])) ?_) rfl rfl H;have a6:∀r,first (ay::r)=tail 1 1 (lead ay.toNat).2.1 (lead ay.toNat).2.2 (ay.toNat%2^(7-2)) r:=fun r=>j9 ay r 0 aB
 have hN:first (ay:: [])=(65533,1,true):=by rw [a6];rfl
 exact⟨⟨nD ay 2 aB _⟩,dx ay,trivial,gl hN rfl rfl⟩
theorem U4(ay ba:UInt8)(r:Bytes)(aB:(lead ay.toNat).1=2)(H:j):aI Tryz.prog aw 54 [.str (ay::ba::r)] H (gO (ay::ba::r)) H:=by
 refine aI.fk (UR ay ba r (lead ay.toNat).2.1 (lead ay.toNat).2.2 (fun v _=>v=gO (ay::ba::r)) ?_) rfl rfl H;have a6:∀r,first (ay::r)=tail 1 1 (lead ay.toNat).2.1 (lead ay.toNat).2.2 (ay.toNat%2^(7-2)) r:=fun r=>j9 ay r 0 aB
 have j':∀(ar:ba.toNat<(lead ay.toNat).2.1∨(lead ay.toNat).2.2<ba.toNat),first (ay::ba::r)=(65533,1,false):=fun ar=>by rw [a6];simp only [tail];rw [if_pos ar]
 have hN:∀(p:¬(ba.toNat<(lead ay.toNat).2.1∨(lead ay.toNat).2.2<ba.toNat)),first (ay::ba::r)=((ay.toNat%32)*64+ba.toNat%64,2,false):=fun p=>by rw [a6];simp only [tail];rw [if_neg p]
 have a':cc .i32 (e3 .i32 (br .i32 (ay.toNat:Int) 31) 6) (br .u8 (ba.toNat:Int) 63)=(((ay.toNat%32)*64+ba.toNat%64:Nat):Int):=by rw [Lc,l1 ba,mI _ (by omega),mJ _ _ (by omega) (by omega)]
 exact⟨⟨nD ay 2 aB _⟩,dx ay,trivial,⟨fun ap=>gl (j' (by omega)) rfl rfl,fun wI=>⟨fun dJ=>gl (j' (by omega)) rfl rfl,fun d1=>⟨hW,trivial,i' ba,trivial,gl (hN (by omega)) a' rfl⟩⟩⟩⟩
theorem U5(ay:UInt8)(aB:(lead ay.toNat).1=3)(H:j):aI Tryz.prog aw 54 [.str (ay:: [])] H (gO (ay:: [])) H:=by
 refine aI.fk (US ay (lead ay.toNat).2.1 (lead ay.toNat).2.2 (fun v _=>v=gO (ay:: [])) ?_) rfl rfl H;have a6:∀r,first (ay::r)=tail 2 1 (lead ay.toNat).2.1 (lead ay.toNat).2.2 (ay.toNat%2^(7-3)) r:=fun r=>j9 ay r 1 aB
 have hN:first (ay:: [])=(65533,1,true):=by rw [a6];rfl
 exact⟨⟨nD ay 3 aB _⟩,dx ay,trivial,gl hN rfl rfl⟩
theorem U6(ay ba:UInt8)(aB:(lead ay.toNat).1=3)(H:j):aI Tryz.prog aw 54 [.str (ay::ba:: [])] H (gO (ay::ba:: [])) H:=by
 refine aI.fk (UT ay ba (lead ay.toNat).2.1 (lead ay.toNat).2.2 (fun v _=>v=gO (ay::ba:: [])) ?_) rfl rfl H;have a6:∀r,first (ay::r)=tail 2 1 (lead ay.toNat).2.1 (lead ay.toNat).2.2 (ay.toNat%2^(7-3)) r:=fun r=>j9 ay r 1 aB
 have j':∀(ar:ba.toNat<(lead ay.toNat).2.1∨(lead ay.toNat).2.2<ba.toNat),first (ay::ba:: [])=(65533,1,false):=fun ar=>by rw [a6];simp only [tail];rw [if_pos ar]
 have hN:∀(p:¬(ba.toNat<(lead ay.toNat).2.1∨(lead ay.toNat).2.2<ba.toNat)),first (ay::ba:: [])=(65533,2,true):=fun p=>by rw [a6];simp only [tail];rw [if_neg p]
 exact⟨⟨nD ay 3 aB _⟩,dx ay,trivial,⟨fun ap=>gl (j' (by omega)) rfl rfl,fun wI=>⟨fun dJ=>gl (j' (by omega)) rfl rfl,fun d1=>⟨hW,trivial,i' ba,trivial,gl (hN (by omega)) rfl rfl⟩⟩⟩⟩
theorem U7(ay ba bW:UInt8)(r:Bytes)(aB:(lead ay.toNat).1=3)(H:j):aI Tryz.prog aw 54 [.str (ay::ba::bW::r)] H (gO (ay::ba::bW::r)) H:=by
 refine aI.fk (UU ay ba bW r (lead ay.toNat).2.1 (lead ay.toNat).2.2 (fun v _=>v=gO (ay::ba::bW::r)) ?_) rfl rfl H;have a6:∀r,first (ay::r)=tail 2 1 (lead ay.toNat).2.1 (lead ay.toNat).2.2 (ay.toNat%2^(7-3)) r:=fun r=>j9 ay r 1 aB
 have j':∀(ar:ba.toNat<(lead ay.toNat).2.1∨(lead ay.toNat).2.2<ba.toNat),first (ay::ba::bW::r)=(65533,1,false):=fun ar=>by rw [a6];simp only [tail];rw [if_pos ar]
 have q2:∀(p:¬(ba.toNat<(lead ay.toNat).2.1∨(lead ay.toNat).2.2<ba.toNat)) (ar:bW.toNat<128∨191<bW.toNat),first (ay::ba::bW::r)=(65533,2,false):=fun p ar=>by rw [a6];simp only [tail];rw [if_neg p,if_pos ar]
 have hN:∀(p:¬(ba.toNat<(lead ay.toNat).2.1∨(lead ay.toNat).2.2<ba.toNat)) (ae:¬(bW.toNat<128∨191<bW.toNat)),first (ay::ba::bW::r)=(((ay.toNat%16)*64+ba.toNat%64)*64+bW.toNat%64,3,false):=fun p ae=>by rw [a6];simp only [tail];rw [if_neg p,if_neg ae]
 have a':cc .i32 (e3 .i32 (cc .i32 (e3 .i32 (br .i32 (ay.toNat:Int) 15) 6) (br .u8 (ba.toNat:Int) 63)) 6) (br .u8 (bW.toNat:Int) 63)=((((ay.toNat%16)*64+ba.toNat%64)*64+bW.toNat%64:Nat):Int):=by rw [Ld,l1 ba,l1 bW,mI _ (by omega),mJ _ _ (by omega) (by omega),mI _ (by omega),mJ _ _ (by omega) (by omega)]
 exact⟨⟨nD ay 3 aB _⟩,dx ay,trivial,⟨fun ap=>gl (j' (by omega)) rfl rfl,fun wI=>⟨fun dJ=>gl (j' (by omega)) rfl rfl,fun d1=>⟨hW,trivial,i' ba,trivial,⟨fun a2=>gl (q2 (by omega) (by omega)) rfl rfl,fun Lq=>⟨fun ef=>gl (q2 (by omega) (by omega)) rfl rfl,fun d2=>⟨hW,trivial,i' bW,trivial,gl (hN (by omega) (by omega)) a' rfl⟩⟩⟩⟩⟩⟩⟩
theorem U8(ay:UInt8)(aB:(lead ay.toNat).1=4)(H:j):aI Tryz.prog aw 54 [.str (ay:: [])] H (gO (ay:: [])) H:=by
 refine aI.fk (UW ay (lead ay.toNat).2.1 (lead ay.toNat).2.2 (fun v _=>v=gO (ay:: [])) ?_) rfl rfl H;have a6:∀r,first (ay::r)=tail 3 1 (lead ay.toNat).2.1 (lead ay.toNat).2.2 (ay.toNat%2^(7-4)) r:=fun r=>j9 ay r 2 aB
 have hN:first (ay:: [])=(65533,1,true):=by rw [a6];rfl
 exact⟨⟨nD ay 4 aB _⟩,dx ay,trivial,gl hN rfl rfl⟩
theorem U9(ay ba:UInt8)(aB:(lead ay.toNat).1=4)(H:j):aI Tryz.prog aw 54 [.str (ay::ba:: [])] H (gO (ay::ba:: [])) H:=by
 refine aI.fk (UX ay ba (lead ay.toNat).2.1 (lead ay.toNat).2.2 (fun v _=>v=gO (ay::ba:: [])) ?_) rfl rfl H;have a6:∀r,first (ay::r)=tail 3 1 (lead ay.toNat).2.1 (lead ay.toNat).2.2 (ay.toNat%2^(7-4)) r:=fun r=>j9 ay r 2 aB
 have j':∀(ar:ba.toNat<(lead ay.toNat).2.1∨(lead ay.toNat).2.2<ba.toNat),first (ay::ba:: [])=(65533,1,false):=fun ar=>by rw [a6];simp only [tail];rw [if_pos ar]
 have hN:∀(p:¬(ba.toNat<(lead ay.toNat).2.1∨(lead ay.toNat).2.2<ba.toNat)),first (ay::ba:: [])=(65533,2,true):=fun p=>by rw [a6];simp only [tail];rw [if_neg p]
 exact⟨⟨nD ay 4 aB _⟩,dx ay,trivial,⟨fun ap=>gl (j' (by omega)) rfl rfl,fun wI=>⟨fun dJ=>gl (j' (by omega)) rfl rfl,fun d1=>⟨hW,trivial,i' ba,trivial,gl (hN (by omega)) rfl rfl⟩⟩⟩⟩
theorem U'(ay ba bW:UInt8)(aB:(lead ay.toNat).1=4)(H:j):aI Tryz.prog aw 54 [.str (ay::ba::bW:: [])] H (gO (ay::ba::bW:: [])) H:=by
 refine aI.fk (UY ay ba bW (lead ay.toNat).2.1 (lead ay.toNat).2.2 (fun v _=>v=gO (ay::ba::bW:: [])) ?_) rfl rfl H;have a6:∀r,first (ay::r)=tail 3 1 (lead ay.toNat).2.1 (lead ay.toNat).2.2 (ay.toNat%2^(7-4)) r:=fun r=>j9 ay r 2 aB
 have j':∀(ar:ba.toNat<(lead ay.toNat).2.1∨(lead ay.toNat).2.2<ba.toNat),first (ay::ba::bW:: [])=(65533,1,false):=fun ar=>by rw [a6];simp only [tail];rw [if_pos ar]
 have q2:∀(p:¬(ba.toNat<(lead ay.toNat).2.1∨(lead ay.toNat).2.2<ba.toNat)) (ar:bW.toNat<128∨191<bW.toNat),first (ay::ba::bW:: [])=(65533,2,false):=fun p ar=>by rw [a6];simp only [tail];rw [if_neg p,if_pos ar]
 have hN:∀(p:¬(ba.toNat<(lead ay.toNat).2.1∨(lead ay.toNat).2.2<ba.toNat)) (ae:¬(bW.toNat<128∨191<bW.toNat)),first (ay::ba::bW:: [])=(65533,3,true):=fun p ae=>by rw [a6];simp only [tail];rw [if_neg p,if_neg ae]
 exact⟨⟨nD ay 4 aB _⟩,dx ay,trivial,⟨fun ap=>gl (j' (by omega)) rfl rfl,fun wI=>⟨fun dJ=>gl (j' (by omega)) rfl rfl,fun d1=>⟨hW,trivial,i' ba,trivial,⟨fun a2=>gl (q2 (by omega) (by omega)) rfl rfl,fun Lq=>⟨fun ef=>gl (q2 (by omega) (by omega)) rfl rfl,fun d2=>⟨hW,trivial,i' bW,trivial,gl (hN (by omega) (by omega)) rfl rfl⟩⟩⟩⟩⟩⟩⟩
theorem Va(ay ba bW fj:UInt8)(r:Bytes)(aB:(lead ay.toNat).1=4)(H:j):aI Tryz.prog aw 54 [.str (ay::ba::bW::fj::r)] H (gO (ay::ba::bW::fj::r)) H:=by
 refine aI.fk (UZ ay ba bW fj r (lead ay.toNat).2.1 (lead ay.toNat).2.2 (fun v _=>v=gO (ay::ba::bW::fj::r)) ?_) rfl rfl H;have a6:∀r,first (ay::r)=tail 3 1 (lead ay.toNat).2.1 (lead ay.toNat).2.2 (ay.toNat%2^(7-4)) r:=fun r=>j9 ay r 2 aB
 have j':∀(ar:ba.toNat<(lead ay.toNat).2.1∨(lead ay.toNat).2.2<ba.toNat),first (ay::ba::bW::fj::r)=(65533,1,false):=fun ar=>by rw [a6];simp only [tail];rw [if_pos ar]
 have q2:∀(p:¬(ba.toNat<(lead ay.toNat).2.1∨(lead ay.toNat).2.2<ba.toNat)) (ar:bW.toNat<128∨191<bW.toNat),first (ay::ba::bW::fj::r)=(65533,2,false):=fun p ar=>by rw [a6];simp only [tail];rw [if_neg p,if_pos ar]
 have Lr:∀(p:¬(ba.toNat<(lead ay.toNat).2.1∨(lead ay.toNat).2.2<ba.toNat)) (ae:¬(bW.toNat<128∨191<bW.toNat)) (ar:fj.toNat<128∨191<fj.toNat),first (ay::ba::bW::fj::r)=(65533,3,false):=fun p ae ar=>by rw [a6];simp only [tail];rw [if_neg p,if_neg ae,if_pos ar]
 have hN:∀(p:¬(ba.toNat<(lead ay.toNat).2.1∨(lead ay.toNat).2.2<ba.toNat)) (ae:¬(bW.toNat<128∨191<bW.toNat)) (bg:¬(fj.toNat<128∨191<fj.toNat)),first (ay::ba::bW::fj::r)=((((ay.toNat%8)*64+ba.toNat%64)*64+bW.toNat%64)*64+fj.toNat%64,4,false):=fun p ae bg=>by rw [a6];simp only [tail];rw [if_neg p,if_neg ae,if_neg bg]
 have a':cc .i32 (e3 .i32 (cc .i32 (e3 .i32 (cc .i32 (e3 .i32 (br .i32 (ay.toNat:Int) 7) 6) (br .u8 (ba.toNat:Int) 63)) 6) (br .u8 (bW.toNat:Int) 63)) 6) (br .u8 (fj.toNat:Int) 63)=(((((ay.toNat%8)*64+ba.toNat%64)*64+bW.toNat%64)*64+fj.toNat%64:Nat):Int):=by rw [Le,l1 ba,l1 bW,l1 fj,mI _ (by omega),mJ _ _ (by omega) (by omega),mI _ (by omega),mJ _ _ (by omega) (by omega),mI _ (by omega),mJ _ _ (by omega) (by omega)]
 exact⟨⟨nD ay 4 aB _⟩,dx ay,trivial,⟨fun ap=>gl (j' (by omega)) rfl rfl,fun wI=>⟨fun dJ=>gl (j' (by omega)) rfl rfl,fun d1=>⟨hW,trivial,i' ba,trivial,⟨fun a2=>gl (q2 (by omega) (by omega)) rfl rfl,fun Lq=>⟨fun ef=>gl (q2 (by omega) (by omega)) rfl rfl,fun d2=>⟨hW,trivial,i' bW,trivial,⟨fun a3=>gl (Lr (by omega) (by omega) (by omega)) rfl rfl,fun ae0=>⟨fun fR=>gl (Lr (by omega) (by omega) (by omega)) rfl rfl,fun d3=>⟨hW,trivial,i' fj,trivial,gl (hN (by omega) (by omega) (by omega)) a' rfl⟩⟩⟩⟩⟩⟩⟩⟩⟩⟩
theorem Vb(s:Bytes)(H:j):aI Tryz.prog aw 54 [.str s] H (gO s) H:=by
 match s with
 |[]=>exact U0 H
 |ay::t =>
  rcases jR ay.toNat with h|h|h|h|h
  ·exact U1 ay t h H
  ·exact U2 ay t h H
  ·match t with
   |[]=>exact U3 ay h H
   |ba::r=>exact U4 ay ba r h H
  ·match t with
   |[]=>exact U5 ay h H
   |[ba]=>exact U6 ay ba h H
   |ba::bW::r=>exact U7 ay ba bW r h H
  ·match t with
   |[]=>exact U8 ay h H
   |[ba]=>exact U9 ay ba h H
   |[ba,bW]=>exact U' ay ba bW h H
   |ba::bW::fj::r=>exact Va ay ba bW fj r h H
def Ls:List o→j→Option ev:=kw fun a=>match a with | [.str s]=>some (gO s,[])|_=>none
theorem Vc:∀args h a,Ls args h=some a→a.dr Tryz.prog aw 54 args h:=by
 refine ls ?_;intro args v eL e ac H;split at e<;>first|(cases e;done)|skip
 simp only [Option.some.injEq,Prod.mk.injEq]at e;obtain⟨rfl,rfl⟩:=e;exact Vb _ H
abbrev hc(l:List o)(v f:Nat):J:= {bi:=l,es:=1,exact:=false,ro:=false,R:=v,fQ:=0,gF:=f,an:=some (21,0)}
noncomputable def Vd:e9:=pE.add 54 Ls
theorem E0:eP Tryz.prog aw Vd:=c7.add Vc
theorem Lt(s:Bytes)(ab:dj→bT→j→Prop)(aY:(0<(↑(List.length s):Int)→(-9223372036854775808≤0+(↑(Prod.fst (Prod.snd (first (List.drop 0 (List.take (List.length s) s))))):Int)∧0+(↑(Prod.fst (Prod.snd (first (List.drop 0 (List.take (List.length s) s))))):Int)≤9223372036854775807)∧ab .normal [(0,.str s),(3,.slice (some ⟨16,0,0,0,1⟩) 1 1),(4,.int .i64 (0+(↑(Prod.fst (Prod.snd (first (List.drop 0 (List.take (List.length s) s))))):Int)))] (j.au 22 [(15,J.made [.int .i32 (↑(Prod.fst (first (List.drop 0 (List.take (List.length s) s)))):Int)] 1 true),(16,J.made [.int .i32 (↑(Prod.fst (first (List.drop 0 (List.take (List.length s) s)))):Int)] 1 false (some (21,0)))]))∧(¬0<(↑(List.length s):Int)→ab (.exit 0) [(0,.str s),(3,.slice none 0 0),(4,.int .i64 0)] (j.au 4 []))) :
 ∃e bb p,cP Tryz.prog aw 0 26 (c4 Tryz.prog 150 0) [(0,.str s),(3,.slice none 0 0),(4,.int .i64 0)] (⟨0,.nil⟩) e bb p∧ab e bb p :=
 hI bU mixed E0 (aq:= .aN 3003 (ah 6002 .nil) .nil) (cN:=[0,3,4]) (by kernel_rfl) aY
theorem E1(s:Bytes)(i v f n:Nat)(l:List o)(ab:dj→bT→j→Prop)(aY:((i:Int)<(↑(List.length s):Int)→(0≤(i:Int)∧(i:Int)≤(↑(List.length s):Int))∧(v=v∧0+n=List.length l∧n<n+1∧(n+1+(n+1)/4+512)*4≤281474976710656∧n+1<4611686018427387904)∧(-9223372036854775808≤(i:Int)+(↑(Prod.fst (Prod.snd (first (List.drop i s)))):Int)∧(i:Int)+(↑(Prod.fst (Prod.snd (first (List.drop i s)))):Int)≤9223372036854775807)∧ab .normal [(0,.str s),(3,.slice (some {id:=16,R:=v+1,idx:=0,bP:=0,es:=1}) (n+1) (n+1)),(4,.int .i64 ((i:Int)+(↑(Prod.fst (Prod.snd (first (List.drop i s)))):Int)))] (j.au 42 [(16,⟨l++[.int .i32 (↑(Prod.fst (first (List.drop i s))):Int)],1,false,false,v+1,0,if 0=v then List.length l else min f (List.length l),some (21,0)⟩),(35,J.made [.int .i32 (↑(Prod.fst (first (List.drop i s))):Int)] 1 true)]))∧(¬(i:Int)<(↑(List.length s):Int)→ab (.exit 0) [(0,.str s),(3,.slice (some ⟨16,v,0,0,1⟩) n n),(4,.int .i64 (i:Int))] (j.au 24 [(16,⟨l,1,false,false,v,0,f,some (21,0)⟩)]))) :
 ∃e bb p,cP Tryz.prog aw 0 26 (c4 Tryz.prog 150 0) [(0,.str s),(3,.slice (some ⟨16,v,0,0,1⟩) n n),(4,.int .i64 i)] (j.rows 20 [(16,hc l v f)]) e bb p∧ab e bb p :=
 hI bU mixed E0 (aq:= .aN 3003 (ah 4002 (ah 5003 (ah 6002 .nil))) .nil) (cN:=[0,3,4]) (by kernel_rfl) aY
theorem Lu(s:Bytes)(dS e':o)(aa:j)(ab:o→j→Prop)(aY:cP Tryz.prog aw 0 26 (Code.loop (c4 Tryz.prog 150 0)) [(0,.str s),(3,.slice none 0 0),(4,.int .i64 0)] (j.au 3 []) (.exit 0) [(0,.str s),(3,dS),(4,e')] aa∧ab dS (j.mk (aa.next+2) (j.aT aa))) :
 ∃v p,aI Tryz.prog aw 150 [.str s] (⟨0,.nil⟩) v p∧ab v p :=
 cf bU mixed E0 (aq:= .aA (.cN [0,3,4]) (.aA (.loop [(0,.str s),(3,dS),(4,e')] aa (.exit 0)) .nil)) (by kernel_rfl) aY
end Go.Proofs.YtddnafghiejcoaaGreatDoor
namespace Go.Keys
theorem Lv:∀(k i a7 al v:Nat)(l:Bytes),i≤(tail k i a7 al v l).2.1∧(tail k i a7 al v l).2.1≤i+l.length
 |0,i,a7,al,v,l=>by simp [tail]
 |k+1,i,a7,al,v,[]=>by simp [tail]
 |k +1,i,a7,al,v,c::r=>by
  simp only [tail];split
  ·simp
  ·have:=Lv k (i+1) 128 191 (v*64+c.toNat%64) r;simp only [List.length_cons];omega
theorem wJ{s:Bytes}(h:s≠[]):1≤(first s).2.1∧(first s).2.1≤s.length:=by
 cases s with
 |nil=>exact absurd rfl h
 |cons b r =>
  simp only [first];split
  ·simp
  ·split
   ·simp
   ·have:=Lv ((lead b.toNat).1-1) 1 (lead b.toNat).2.1 (lead b.toNat).2.2 (b.toNat%2^(7- (lead b.toNat).1)) r;simp only [List.length_cons];omega
theorem Lw:∀(k fa:Nat)(s:Bytes),s.length≤k→s.length≤fa→iI k s=iI fa s
 |0,0,s,_,_=>rfl
 |0,fa+1,[],_,_=>rfl
 |0,fa+1,b::r,h,_=>by simp at h
 |k+1,0,[],_,_=>rfl
 |k+1,0,b::r,_,h=>by simp at h
 |k+1,fa+1,[],_,_=>rfl
 |k+1,fa+1,b::r,h,aa=>by simp only [iI];have:=(wJ (s:=b::r) (by simp)).1;rw [Lw k fa _ (by simp only [List.length_drop,List.length_cons]at *; omega) (by simp only [List.length_drop,List.length_cons]at *; omega)]
theorem Al:ew []=[]:=rfl
theorem Am{s:Bytes}(h:s≠[]):ew s=(first s).1::ew (s.drop (first s).2.1):=by
 cases s with
 |nil=>exact absurd rfl h
 |cons b r =>
  have:=(wJ (s:=b::r) (by simp)).1;unfold ew;simp only [List.length_cons,iI];rw [Lw r.length _ _ (by simp only [List.length_drop,List.length_cons];omega) (Nat.le_refl _)]
theorem Lx:∀(n:Nat)(s:Bytes),s.length≤n→(ew s).length≤s.length
 |0,s,h=>by have:s=[]:=List.eq_nil_of_length_eq_zero (by omega);subst this;simp [Al]
 |n +1,s,h=>by
  by_cases aq:s=[]
  ·subst aq;simp [Al]
  ·rw [Am aq];have a6:=wJ aq;have:=Lx n (s.drop (first s).2.1) (by simp only [List.length_drop];omega);simp only [List.length_cons];simp only [List.length_drop]at this;omega
end Go.Keys
namespace Go.Proofs.YtddnafghiejcoaaGreatDoor
open Go.cH Go.Keys
set_option maxRecDepth 1000000
def dR(l:List Nat):List o:=l.map fun(n:Nat)=>o.int .i32 n
theorem Ly(l:List Nat):(dR l).length=l.length:=by simp [dR]
def jS(n:Nat):Nat:=if n=1 then 0 else 1
abbrev mL(l:List Nat):J:=hc (dR l) (l.length-1) (jS l.length)
abbrev nE(s:Bytes)(l i:Nat):bT:=[(0,.str s),(3,.slice (some ⟨16,l-1,0,0,1⟩) l l),(4,.int .i64 (i:Nat))]
theorem Ve{n l c:Nat} :cv (Go.cH.cB [16]) (.slice (some ⟨16,n,0,0,1⟩) l c):=(by show(16:Nat)∈ [16];simp)
theorem q3(l:List Nat):∀e∈dR l,cT e:=cT.ints l .i32 fun(n:Nat)=>(n:Int)
theorem Lz(s:Bytes)(l i:Nat)(h:j)(b:J)(av:dt b)(ah:h.get 16=some b):e0 0 26 (nE s l i) h (nE s l i) (j.rows 20 [(16,b)]) :=
 e0.drop (K:=20) (l:=[(16,b)]) (by simp [ah]) rfl rfl (by rfl) (by
  refine b0.cons trivial (b0.cons Ve (b0.cons trivial b0.nil))) (by
  refine b0.cons (fun e he=>(av e he).e2 _) b0.nil)
theorem Vf(s:Bytes)(aq:s.length<2^40):∀(k i:Nat)(L:List Nat),s.length-i≤k→i≤s.length→1≤L.length→L.length≤i→ ∃aa,
 db Tryz.prog aw 0 26 (c4 Tryz.prog 150 0) (nE s L.length i) (j.rows 20 [(16,mL L)]) (.exit 0) (nE s (L++ew (s.drop i)).length s.length) aa∧aa.get 16=some (mL (L++ew (s.drop i))):=by
 intro k;induction k with
 |zero =>
  intro i L ao al p dG;obtain⟨e,bb,p,be,rfl,rfl,rfl⟩:=E1 s i (L.length-1) (jS L.length) L.length (dR L) (fun e bb p=>e=.exit 0∧bb=nE s L.length i∧p=j.au 24 [(16,mL L)]) ⟨fun h=>by omega,fun _=>⟨rfl,rfl,rfl⟩⟩;have:i=s.length:=by omega
  subst this;rw [List.drop_length,Al,List.append_nil];exact⟨_,db.last (by simp) be,by kernel_rfl⟩
 |succ k ih =>
  intro i L ao al p dG;by_cases ar:i<s.length
  ·have bZ:s.drop i≠[]:=by rw [Ne,List.drop_eq_nil_iff];omega
   have a6:=wJ bZ;rw [List.length_drop]at a6
   obtain⟨e,bb,ae,be,rfl,rfl,ah⟩:=E1 s i (L.length-1) (jS L.length) L.length (dR L) (fun e bb ae=>e=.normal∧bb=nE s (L.length+1) (i+(first (s.drop i)).2.1)∧ae.get 16=some (mL (L++[(first (s.drop i)).1]))) (by
    refine⟨fun _=>⟨⟨by omega,by omega⟩,⟨rfl,by rw [Ly];omega,by omega,by omega,by omega⟩,⟨by omega,by omega⟩,rfl,?_,?_⟩,fun h=>by omega⟩
    ·unfold nE;rw [show L.length+1-1=L.length-1+1 by omega];rfl
    ·have bu:dR (L++[(first (s.drop i)).1])=dR L++[o.int .i32 ((first (s.drop i)).1:Int)]:=by simp [dR]
     have bC:(L++[(first (s.drop i)).1]).length-1=L.length-1+1:=by simp;omega
     have b2:jS (L++[(first (s.drop i)).1]).length=if 0=L.length-1 then(dR L).length else min (jS L.length) (dR L).length:=by
      rw [Ly];unfold jS;simp only [List.length_append,List.length_cons,List.length_nil];by_cases dJ:L.length=1
      ·rw [if_neg (by omega),if_pos (by omega)];omega
      ·rw [if_neg (by omega),if_neg (by omega),if_neg dJ];omega
     show some _=some (hc _ _ _)
     rw [bu,bC,b2])
   obtain⟨aa,aB,E2⟩:=ih (i+(first (s.drop i)).2.1) (L++[(first (s.drop i)).1]) (by omega) (by omega) (by simp) (by simp;omega)
   have cp:(L++[(first (s.drop i)).1])++ew (s.drop (i+(first (s.drop i)).2.1))=L++ew (s.drop i):=by rw [Am bZ,List.drop_drop];simp
   rw [cp]at aB E2;have ia:(L++[(first (s.drop i)).1]).length=L.length+1:=by simp
   rw [show nE s (L++[(first (s.drop i)).1]).length (i+(first (s.drop i)).2.1)=nE s (L.length+1) (i+(first (s.drop i)).2.1)by rw [ia]]at aB;exact⟨aa,db.round be (Lz s _ _ _ (mL (L++[(first (s.drop i)).1])) (q3 _) ah) aB,E2⟩
  ·obtain⟨e,bb,p,be,rfl,rfl,rfl⟩:=E1 s i (L.length-1) (jS L.length) L.length (dR L) (fun e bb p=>e=.exit 0∧bb=nE s L.length i∧p=j.au 24 [(16,mL L)]) ⟨fun h=>by omega,fun _=>⟨rfl,rfl,rfl⟩⟩;have:i=s.length:=by omega
   subst this;rw [List.drop_length,Al,List.append_nil];exact⟨_,db.last (by simp) be,by kernel_rfl⟩
theorem Vg(H:j):aI Tryz.prog aw 150 [.str []] H (.slice none 0 0) H:=by refine aI.fk (Lu [] (.slice none 0 0) (.int .i64 0) (j.au 4 []) (fun v _=>v=.slice none 0 0) ⟨?_,rfl⟩) rfl rfl H;refine cP.h' ?_;obtain⟨e,bb,p,be,rfl,rfl,rfl⟩:=Lt [] (fun e bb p=>e=.exit 0∧bb=[(0,o.str []),(3,o.slice none 0 0),(4,o.int .i64 0)]∧p=j.au 4 []) ⟨fun h=>by simp at h,fun _=>⟨rfl,rfl,rfl⟩⟩;exact(db.last (by simp) be).pre (e0.drop (K:=0) (l:=[]) rfl (by decide) (by decide) (by rfl) (b0.cons trivial (b0.cons trivial (b0.cons trivial b0.nil))) b0.nil)
theorem Vh(s:Bytes)(aq:s.length<2^40)(bm:s≠[])(H:j):aI Tryz.prog aw 150 [.str s] H (.slice (some ⟨H.next,(ew s).length-1,0,0,1⟩) (ew s).length (ew s).length) (H.hp [] [mL (ew s)]):=by
 have a6:=wJ bm;have ii:0<s.length:=List.length_pos_iff.2 bm;have b':List.drop 0 (List.take s.length s)=s:=by simp
 obtain⟨e,bb,p,be,rfl,rfl,iJ⟩:=Lt s (fun e bb p=>e=.normal∧bb=nE s 1 (first s).2.1∧p.get 16=some (mL [(first s).1])) (by
  rw [b']
  exact⟨fun _=>⟨⟨by omega,by omega⟩,rfl,by rw [show(0:Int)+((first s).2.1:Int)=(((first s).2.1:Nat):Int)by omega],rfl⟩,fun h=>by omega⟩)
 obtain⟨aa,aB,ah⟩:=Vf s aq s.length (first s).2.1 [(first s).1] (by omega) a6.2 (by simp) (by simpa using a6.1);rw [show [(first s).1]++ew (s.drop (first s).2.1)=ew s from(Am bm).symm]at aB ah;have dG:=(db.round be (Lz s 1 (first s).2.1 p (mL [(first s).1]) (q3 _) iJ) aB).pre (e0.drop (h:=j.au 3 []) (K:=0) (l:=[]) rfl (by decide) (by decide) (by rfl) (b0.cons trivial (b0.cons trivial (b0.cons trivial b0.nil))) b0.nil);obtain⟨v,ae,aD,rfl,jt⟩:=Lu s (.slice (some ⟨16,(ew s).length-1,0,0,1⟩) (ew s).length (ew s).length) (.int .i64 (s.length:Nat)) aa (fun v ae=>v=.slice (some ⟨16,(ew s).length-1,0,0,1⟩) (ew s).length (ew s).length∧ae.get 16=some (mL (ew s))) ⟨cP.h' dG,rfl,ah⟩;exact aI.Eo (l:=[]) (gv:=mL (ew s)) aD (fun b av=>by cases av) (q3 _) rfl jt (by simp) (by exact⟨trivial,trivial⟩) [] List.nodup_nil (fun C aX=>by cases aX) rfl
end Go.Proofs.YtddnafghiejcoaaGreatDoor
