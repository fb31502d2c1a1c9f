/-
  Parts of the proof of KeysEach.
-/
import Derived.Test.YtddnafghiejcoaaGreatDoorRows
import Derived.Shelf.Strconv.Itoa1
import Derived.Shelf.Strings.Fields
import Derived.Test.YtddnafghiejcoaaGreatDoorKKeysEachB
set_option linter.unusedVariables false
set_option linter.unusedSimpArgs false
namespace Go.cM
noncomputable section
open Go.RowKit
def j.rows(n:Nat)(l:List (Nat×R)):j:=l.foldl (fun h I=>h.set I.1 I.2) ⟨n,.nil⟩
theorem j.Uq(l:List (Nat×R)):∀(h:j)(i:Nat)(b:R),(l.foldl (fun h I=>h.set I.1 I.2) h).get i=some b→h.get i=some b∨(i,b)∈l:=by
 induction l with
 |nil=>intro h i b k;exact .inl k
 |cons I r ih =>
  intro h i b k;rcases ih _ i b k with k|k
  ·rw [j.kP]at k;split at k
   ·rename_i e;simp only [Option.some.injEq]at k;exact .inr (by rw [←e,←k];exact List.mem_cons_self ..)
   ·exact .inl k
  ·exact .inr (by simp [k])
theorem j.Ur(l:List (Nat×R)):∀(h:j)(i:Nat),(In h i∨i∈l.map (·.1))→In (l.foldl (fun h I=>h.set I.1 I.2) h) i:=by
 induction l with
 |nil=>intro h i k;rcases k with k|k;exact k;simp at k
 |cons I r ih =>
  intro h i k;refine ih _ i ?_;by_cases e:I.1=i
  ·left;unfold In;rw [j.kP,if_pos e];rfl
  ·rcases k with k|k
   ·left;unfold In;rw [j.kP,if_neg e];exact k
   ·simp only [List.map_cons,List.mem_cons]at k;rcases k with k|k
    ·exact absurd k.symm e
    ·exact .inr k
theorem j.Us(l:List (Nat×R)):∀(h:j),(l.foldl (fun h I=>h.set I.1 I.2) h).next=h.next:=by
 induction l with
 |nil=>intro h;rfl
 |cons I r ih=>intro h;rw [List.foldl_cons,ih];rfl
@[simp] theorem j.Ak(n : Nat)(l : List (Nat × R)) : (j.rows n l).next = n := j.Us _ _
theorem j.sR{n:Nat}{l:List (Nat×R)}{i:Nat}{b:R}(h:(j.rows n l).get i=some b):(i,b)∈l:=by
 rcases j.Uq l _ i b h with k|k
 ·cases k
 ·exact k
theorem j.uz{n:Nat}{l:List (Nat×R)}{i:Nat}(h:i∈l.map (·.1)):In (j.rows n l) i:=j.Ur l _ i (.inr h)
theorem j.uA{n:Nat}{l:List (Nat×R)}{i:Nat}(h:In (j.rows n l) i):i∈l.map (·.1):=by obtain⟨b,au⟩:=Option.isSome_iff_exists.1 h;exact List.mem_map.2 ⟨_,j.sR au,rfl⟩
mutual
theorem o.sS:∀(v:o),v.bc (fun i=>i)=v
 |.ptr (some a)=>rfl
 |.slice (some a) _ _=>rfl
 |.func fn f c=>by simp only [o.bc,o.Al]
 |.iface t v=>by simp only [o.bc,o.sS v]
 |.agg bp=>by simp only [o.bc,o.Al]
 |.tuple ci=>by simp only [o.bc,o.Al]
 |.undef=>rfl
 |.bool _=>rfl
 |.int _ _=>rfl
 |.str _=>rfl
 |.ptr none=>rfl
 |.slice none _ _=>rfl
 |.nilFunc=>rfl
 |.nilIface=>rfl
theorem o.Al:∀(l:List o),o.gK (fun i=>i) l=l
 |[]=>rfl
 |a::l=>by simp only [o.gK,o.sS a,o.Al l]
end
theorem R.sS(b:R):b.bc (fun i=>i)=b:=by
 unfold R.bc
 have:b.bi.map (o.bc fun i=>i)=b.bi:=by
  conv=>rhs;rw [←List.map_id b.bi]
  exact List.map_congr_left fun e he=>o.sS e
 rw [this]
def dl(b:R):Prop:= ∀e∈b.bi,cR e
theorem dl.bc{b:R}(h:dl b)(r:Nat→Nat):b.bc r=b:=by
 unfold R.bc
 have:b.bi.map (o.bc r)=b.bi:=by
  conv=>rhs;rw [←List.map_id b.bi]
  exact List.map_congr_left fun e he=>(h e he).1 r
 rw [this]
theorem dl.e1{b:R}(h:dl b)(D:Nat→Prop):∀e∈b.bi,cA D e:=fun e he=>cA.mono (fun _ k=>k.elim) (h e he).2
theorem cR.ints{α:Type}(l:List α)(k:IntKind)(f:α→Int):∀e∈l.map (fun x=>o.int k (f x)),cR e:=by intro e he;obtain⟨x,_,rfl⟩:=List.mem_map.1 he;exact cR.int k _
theorem cR.e1{v:o}(h:cR v)(D:Nat→Prop):cA D v:=cA.mono (fun _ k=>k.elim) h.2
def cL(l:List Nat):Nat→Prop:=fun i=>i∈l
theorem eV.drop{base n:Nat}{F:bP}{h:j}{K:Nat}{l:List (Nat×R)}(az:l.map (fun I=>h.get I.1)=l.map (fun I=>some I.2))(dj:l.all (fun I=>Nat.blt I.1 K)=true)
 (au:(List.range base).all (fun i=>(l.map (·.1)).contains i)=true) (aS:F.all (fun I=>Nat.blt I.1 n)=true) (fI:bZ (F.map fun I=>cA (cL (l.map (·.1))) I.2))
 (av:bZ (l.map fun I=> ∀e∈I.2.bi,cA (cL (l.map (·.1))) e)):eV base n F h F (j.rows K l):=by
 have e0:∀i b,(j.rows K l).get i=some b→i<K∧h.get i=some b:=by intro i b k;have hm:=j.sR k;refine⟨Nat.blt_eq.mp (List.all_eq_true.1 dj _ hm),?_⟩;obtain⟨C,aV,e⟩:=List.mem_iff_getElem.1 hm;have p:=congrArg (fun(x:List (Option R))=>x[C]?) az;simp only [List.getElem?_map,List.getElem?_eq_getElem aV,Option.map_some,e,Option.some.injEq]at p;exact p
 have re:∀{v:o},cA (cL (l.map (·.1))) v→cA (In (j.rows K l)) v:=cA.mono fun i ak=>j.uz ak
 refine eV.bc (r:=fun i=>i) ⟨fun i b k=>⟨by rw [j.Ak];exact(e0 i b k).1,by rw [R.sS];exact(e0 i b k).2⟩,fun i C _ _ e=>e,?_⟩ ?_ ?_ ?_ ?_
 ·intro i b k e he;have hm:=j.sR k;exact re (av _ (List.mem_map.2 ⟨_,hm,rfl⟩) e he)
 ·intro t v bg
  have hm:(t,v)∈F:=by
   clear aS fI
   induction F with
   |nil=>cases bg
   |cons I r ih =>
    obtain⟨k,u⟩:=I;rw [kY]at bg;split at bg
    ·rename_i e;simp only [Option.some.injEq]at bg;subst e;subst bg;simp
    ·exact List.mem_cons_of_mem _ (ih bg)
  exact⟨Nat.blt_eq.mp (List.all_eq_true.1 aS _ hm),by rw [o.sS];exact bg,re (fI _ (List.mem_map.2 ⟨_,hm,rfl⟩))⟩
 ·intro i ak _;exact j.uz (by simpa using List.all_eq_true.1 au i (List.mem_range.2 ak))
 ·intro i _ _;rfl
 ·intro i _ k;exact k
theorem aI.Ll{P:Program}{cf:(Nat→Prop)→World→Prop}[j7 cf]{f:FuncId}{args:List o}{h aa:j}{v:o}(k:aI P cf f args h v aa)(r:Nat→Nat)(v2:o)(K:Nat)(l:List (Nat×R))
 (az:l.map (fun I=>aa.get (r I.1))=l.map (fun I=>some (I.2.bc r))) (bg:v=v2.bc r) (dj:l.all (fun I=>Nat.blt I.1 K)=true) (bb:((l.map (·.1)).map r).Nodup)
 (au:(List.range h.next).all (fun i=>(l.map (·.1)).contains i&&Nat.beq (r i) i)=true) (ff:l.all (fun I=>Nat.blt I.1 h.next || Nat.ble h.next (r I.1))=true) (aS:Nat.ble h.next K=true)
 (wW:cA (cL (l.map (·.1))) v2) (av:bZ (l.map fun I=> ∀e∈I.2.bi,cA (cL (l.map (·.1))) e)):aI P cf f args h v2 (j.rows K l):=by
 have e0:∀i b,(j.rows K l).get i=some b→i<K∧aa.get (r i)=some (b.bc r):=by intro i b k;have hm:=j.sR k;refine⟨Nat.blt_eq.mp (List.all_eq_true.1 dj _ hm),?_⟩;obtain⟨C,aV,e⟩:=List.mem_iff_getElem.1 hm;have p:=congrArg (fun(x:List (Option R))=>x[C]?) az;simp only [List.getElem?_map,List.getElem?_eq_getElem aV,Option.map_some,e,Option.some.injEq]at p;exact p
 have re:∀{v:o},cA (cL (l.map (·.1))) v→cA (In (j.rows K l)) v:=cA.mono fun i ak=>j.uz ak
 refine k.bc (r:=r) ⟨fun i b k=>⟨by rw [j.Ak];exact(e0 i b k).1,(e0 i b k).2⟩,?_,?_⟩ bg (re wW) ?_ ?_ ?_ (by rw [j.Ak];exact Nat.le_of_ble_eq_true aS)
 ·intro i C ak aV e;have ak:=j.uA ak;have aV:=j.uA aV;obtain⟨a,aT,rfl⟩:=List.mem_iff_getElem.1 ak;obtain⟨b,fs,rfl⟩:=List.mem_iff_getElem.1 aV;have p:((l.map (·.1)).map r)[a]'(by simpa using aT)=((l.map (·.1)).map r)[b]'(by simpa using fs):=by simpa using e
  have:=(List.getElem_inj bb).1 p;subst this;rfl
 ·intro i b k e he;have hm:=j.sR k;exact re (av _ (List.mem_map.2 ⟨_,hm,rfl⟩) e he)
 ·intro i ak _;have:=List.all_eq_true.1 au i (List.mem_range.2 ak);simp only [Bool.and_eq_true]at this;exact j.uz (by simpa using this.1)
 ·intro i ak _;have:=List.all_eq_true.1 au i (List.mem_range.2 ak);simp only [Bool.and_eq_true]at this;exact Nat.eq_of_beq_eq_true this.2
 ·intro i ak cQ;have ak:=j.uA ak;obtain⟨I,hm,rfl⟩:=List.mem_map.1 ak;have:=List.all_eq_true.1 ff I hm;simp only [Bool.or_eq_true]at this;rcases this with p|p
  ·exact Nat.blt_eq.mp p
  ·have:=Nat.le_of_ble_eq_true p;omega
def j.o4:Nat→List R→j→j
 |_,[],h=>h
 |i,b::r,h=>j.o4 (i+1) r (h.set i b)
def j.of(l:List R):j:=j.o4 0 l ⟨l.length,.nil⟩
theorem j.Am:∀(l:List R)(i:Nat)(h:j)(C:Nat),(j.o4 i l h).get C=if i≤C∧C<i+l.length then l[C-i]? else h.get C
 |[],i,h,C=>by simp only [j.o4,List.length_nil];rw [if_neg (by omega)]
 |b ::r,i,h,C=>by
  simp only [j.o4,j.Am r,List.length_cons,j.kP];by_cases e:i=C
  ·subst e;rw [if_neg (by omega),if_pos rfl,if_pos (by omega)];simp
  ·by_cases c:i+1≤C∧C<i+1+r.length
   ·rw [if_pos c,if_pos (by omega),show C-i=(C- (i+1))+1 by omega];simp
   ·rw [if_neg c,if_neg e,if_neg (by omega)]
theorem j.ES:∀(l:List R)(i:Nat)(h:j),(j.o4 i l h).next=h.next
 |[],i,h=>rfl
 |b::r,i,h=>by simp only [j.o4,j.ES r];rfl
@[simp] theorem j.of_next(l : List R) : (j.of l).next = l.length := j.ES _ _ _
theorem j.e3(l:List R)(C:Nat):(j.of l).get C=l[C]? :=by
 unfold j.of;rw [j.Am];split
 ·simp
 ·rw [List.getElem?_eq_none (by omega)];rfl
theorem j.uB{l:List R}{C:Nat} :In (j.of l) C↔C<l.length:=by unfold In;rw [j.e3];simp
def dJ(ids:List Nat)(n:Nat)(i:Nat):Nat :=
 match ids[i]? with
 |some C=>C
 |none=>n+(i-ids.length)
def j.mf:List Nat→List R→j→j
 |C::ids,b::r,h=>j.mf ids r (h.set C b)
 |[],r,h=>j.o4 h.next r {h with next:=h.next+r.length}
 |_::_,[],h=>h
def j.hx(h:j)(ids:List Nat)(l:List R):j:=j.mf ids l h
theorem j.ET:∀(ids:List Nat)(l:List R)(h:j),ids.length≤l.length→(j.mf ids l h).next=h.next+(l.length-ids.length)
 |[],l,h,_=>by simp [j.mf,j.ES]
 |C::ids,[],h,k=>by simp at k
 |C::ids,b::r,h,k=>by simp only [j.mf];rw [j.ET ids r _ (by simpa using k)];simp
theorem j.wX:∀(ids:List Nat)(l:List R)(h:j)(C:Nat),ids.length≤l.length→C<h.next→C ∉ ids→(j.mf ids l h).get C=h.get C
 |[],l,h,C,_,aV,_=>by simp only [j.mf];rw [j.Am,if_neg (by omega)];rfl
 |i::ids,[],h,C,k,_,_=>by simp at k
 |i::ids,b::r,h,C,k,aV,hm=>by simp only [List.mem_cons,not_or]at hm;simp only [j.mf];rw [j.wX ids r (h.set i b) C (by simpa using k) aV hm.2,j.fl _ _ (Ne.symm hm.1)]
theorem j.EU:∀(ids:List Nat)(l:List R)(h:j)(i:Nat),ids.length≤l.length→ids.Nodup→(∀C∈ids,C<h.next)→i<l.length→(j.mf ids l h).get (dJ ids h.next i)=l[i]?
 |[],l,h,i,_,_,_,ak=>by simp only [j.mf,dJ,List.getElem?_nil,List.length_nil,Nat.sub_zero];rw [j.Am,if_pos (by omega)];congr 1;omega
 |C::ids,[],h,i,k,_,_,_=>by simp at k
 |C ::ids,b::r,h,i,k,h5,cQ,ak=>by
  simp only [List.nodup_cons]at h5;simp only [j.mf];cases i with
  |zero =>
   simp only [dJ,List.getElem?_cons_zero];rw [j.wX ids r (h.set C b) C (by simpa using k) (cQ C (by simp)) h5.1,j.hJ]
  |succ i =>
   have e:dJ (C::ids) h.next (i+1)=dJ ids (h.set C b).next i:=by
    simp only [dJ,List.getElem?_cons_succ,List.length_cons,j.RD];cases ids[i]? with
    |some x=>rfl
    |none=>simp only;omega
   rw [e,j.EU ids r (h.set C b) i (by simpa using k) h5.2 (fun x ae=>cQ x (by simp [ae])) (by simpa using ak)];simp
theorem aI.up{P:Program}{cf:(Nat→Prop)→World→Prop}[j7 cf]{f:FuncId}{args:List o}{v:o}{l c5:List R}(k:aI P cf f args (j.of l) v (j.of c5))(au:∀b∈l,dl b)(fs:∀b∈c5,dl b)(l6:l.length≤c5.length)(aT:fw (fun i=>i<l.length) args)
 {H aP:j} (ids:List Nat) (aS:ids.Nodup) (cQ:∀C∈ids,C<H.next) (az:ids.map H.get=l.map some) (q8:aP.next=H.next+(c5.length-l.length)) (sn:∀i,i<c5.length→aP.get (dJ ids H.next i)=c5[i]?)
 (jr:∀C,C<H.next→C ∉ ids→aP.get C=H.get C):aI P cf f (args.map (o.bc (dJ ids H.next))) H (v.bc (dJ ids H.next)) aP:=by
 have hlen:ids.length=l.length:=by have:=congrArg List.length az;simpa using this
 have tZ:∀i (ak:i<ids.length),dJ ids H.next i=ids[i]:=fun i ak=>by simp [dJ,List.getElem?_eq_getElem ak]
 refine k.frame (r:=dJ ids H.next) ⟨?_,?_,?_⟩ ?_ ?_ ?_ ?_ ?_
 ·intro i b ag;rw [j.e3]at ag;have ak:=(List.getElem?_eq_some_iff.1 ag).1;refine⟨by rw [j.of_next];exact ak,?_⟩;rw [(au b (List.mem_of_getElem? ag)).bc,tZ i (by omega)];have p:=congrArg (fun(x:List (Option R))=>x[i]?) az;simp only [List.getElem?_map,List.getElem?_eq_getElem (show i<ids.length by omega),Option.map_some,ag,Option.some.injEq]at p;exact p
 ·intro i C ak aV e;rw [j.uB]at ak aV;rw [tZ i (by omega),tZ C (by omega)]at e;exact(List.getElem_inj aS).1 e
 ·intro i b ag e he;rw [j.e3]at ag;exact(au b (List.mem_of_getElem? ag) e he).e1 _
 ·exact fw.mono (fun i ak=>j.uB.2 ak) aT
 ·intro i ak;rw [j.of_next]at ak;simp only [dJ,List.getElem?_eq_none (show ids.length≤i by omega),j.of_next,hlen]
 ·intro i b ag _;rw [j.e3]at ag;rw [(fs b (List.mem_of_getElem? ag)).bc,sn i (List.getElem?_eq_some_iff.1 ag).1,ag]
 ·rw [q8];simp
 ·intro C aV b1;refine jr C aV fun hm=> ?_
  obtain⟨i,ak,e⟩:=List.mem_iff_getElem.1 hm;exact b1 i (j.uB.2 (by omega)) (by rw [tZ i ak];exact e)
theorem aI.Ut{P:Program}{cf:(Nat→Prop)→World→Prop}[j7 cf]{f:FuncId}{args:List o}{v:o}{l:List R}(k:aI P cf f args (j.of l) v (j.of l))(au:∀b∈l,dl b)(aT:fw (fun i=>i<l.length) args)
 {H:j} (ids:List Nat) (aS:ids.Nodup) (cQ:∀C∈ids,C<H.next) (az:ids.map H.get=l.map some):aI P cf f (args.map (o.bc (dJ ids H.next))) H (v.bc (dJ ids H.next)) H:=by
 have hlen:ids.length=l.length:=by have:=congrArg List.length az;simpa using this
 refine k.up au au (Nat.le_refl _) aT ids aS cQ az (by simp) (fun i ak=> ?_) fun _ _ _=>rfl
 have p:=congrArg (fun(x:List (Option R))=>x[i]?) az;simp only [List.getElem?_map,List.getElem?_eq_getElem (show i<ids.length by omega),List.getElem?_eq_getElem ak,Option.map_some,Option.some.injEq]at p;simp only [dJ,List.getElem?_eq_getElem (show i<ids.length by omega),p,List.getElem?_eq_getElem ak]
theorem aI.Uu{P:Program}{cf:(Nat→Prop)→World→Prop}[j7 cf]{f:FuncId}{args:List o}{v:o}{l c5:List R}(k:aI P cf f args (j.of l) v (j.of c5))(au:∀b∈l,dl b)(fs:∀b∈c5,dl b)(l6:l.length≤c5.length)(aT:fw (fun i=>i<l.length) args)
 {H:j} (ids:List Nat) (aS:ids.Nodup) (cQ:∀C∈ids,C<H.next) (az:ids.map H.get=l.map some):aI P cf f (args.map (o.bc (dJ ids H.next))) H (v.bc (dJ ids H.next)) (H.hx ids c5):=by
 have hlen:ids.length=l.length:=by have:=congrArg List.length az;simpa using this
 refine k.up au fs l6 aT ids aS cQ az ?_ ?_ ?_
 ·rw [←hlen];exact j.ET ids c5 H (by omega)
 ·intro i ak;exact j.EU ids c5 H i (by omega) aS cQ ak
 ·intro C aV hm;exact j.wX ids c5 H C (by omega) aV hm
theorem aI.Lm{P:Program}{cf:(Nat→Prop)→World→Prop}[j7 cf]{f:FuncId}{args:List o}{v:o}{l ck:List R}(k:aI P cf f args (j.of l) v (j.of (l++ck)))(au:∀b∈l,dl b)(fs:∀b∈ck,dl b)(aT:fw (fun i=>i<l.length) args)
 {H:j} (ids:List Nat) (aS:ids.Nodup) (cQ:∀C∈ids,C<H.next) (az:ids.map H.get=l.map some):aI P cf f (args.map (o.bc (dJ ids H.next))) H (v.bc (dJ ids H.next)) (H.hx [] ck):=by
 have hlen:ids.length=l.length:=by have:=congrArg List.length az;simpa using this
 refine k.up au (fun b hm=>(List.mem_append.1 hm).elim (au b) (fs b)) (by simp) aT ids aS cQ az ?_ ?_ ?_
 ·show(j.mf [] ck H).next=_
  rw [j.ET [] ck H (by simp)];simp
 ·intro i ak;show(j.mf [] ck H).get _=_;by_cases c:i<ids.length
  ·have p:=congrArg (fun(x:List (Option R))=>x[i]?) az;simp only [List.getElem?_map,List.getElem?_eq_getElem c,List.getElem?_eq_getElem (show i<l.length by omega),Option.map_some,Option.some.injEq]at p;simp only [dJ,List.getElem?_eq_getElem c];rw [j.wX [] ck H _ (by simp) (cQ _ (List.getElem_mem c)) (by simp),p,List.getElem?_append_left (by omega),List.getElem?_eq_getElem (show i<l.length by omega)]
  ·have e:dJ ids H.next i=dJ [] H.next (i-ids.length):=by simp [dJ,List.getElem?_eq_none (show ids.length≤i by omega)]
   rw [List.length_append]at ak;rw [e,j.EU [] ck H (i-ids.length) (by simp) (by simp) (by simp) (by omega),List.getElem?_append_right (by omega),hlen]
 ·intro C aV hm;exact j.wX [] ck H C (by simp) aV (by simp)
def hy:Nat→List R→List (Nat×R)
 |_,[]=> []
 |i,b::r=>(i,b)::hy (i+1) r
theorem j.Ln:∀(l:List R)(i:Nat)(h:j),j.o4 i l h=(hy i l).foldl (fun h I=>h.set I.1 I.2) h
 |[],i,h=>rfl
 |b::r,i,h=>by simp only [j.o4,hy,List.foldl_cons];exact j.Ln r _ _
theorem j.Lo(l:List R):j.of l=j.rows l.length (hy 0 l):=j.Ln _ _ _
theorem EV:∀(l:List R)(i:Nat),(hy i l).map (·.1)=List.range' i l.length
 |[],i=>rfl
 |b::r,i=>by simp only [hy,List.map_cons,EV r,List.length_cons,List.range'_succ]
theorem wY:∀(l:List R)(i:Nat),(hy i l).map (·.2)=l
 |[],i=>rfl
 |b::r,i=>by simp only [hy,List.map_cons,wY r]
theorem List.Nodup.Uv{f:Nat→Nat}{n:Nat}(h:∀a∈List.range n,∀b∈List.range n,f a=f b→a=b):((List.range n).map f).Nodup:=by rw [List.nodup_iff_pairwise_ne,List.pairwise_map];refine List.Pairwise.imp_of_mem ?_ (List.nodup_range (n:=n));intro a b aT au b1 e;exact b1 (h a aT b au e)
def gC(k:Nat)(hz:List Nat)(i:Nat):Nat:=if i<k then i else(hz[i-k]?).getD 0
theorem aI.fin{P:Program}{cf:(Nat→Prop)→World→Prop}[j7 cf]{f:FuncId}{args:List o}{aa:j}{v:o}{l:List R}(k:aI P cf f args (j.of l) v aa)(hz:List Nat)(c5:List R)(v2:o)(fs:∀b∈c5,dl b)
 (hlen:c5.length=l.length+hz.length) (e0:(List.range c5.length).map (fun i=>aa.get (gC l.length hz i))=c5.map some) (bg:v=v2.bc (gC l.length hz)) (wW:cA (fun i=>i<c5.length) v2)
 (EW:hz.all (fun C=>Nat.ble l.length C)=true) (h5:hz.Nodup):aI P cf f args (j.of l) v2 (j.of c5):=by
 have mg:(hy 0 c5).map (·.1)=List.range c5.length:=by rw [EV,List.range_eq_range']
 have gr:∀C∈hz,l.length≤C:=fun C aV=>Nat.le_of_ble_eq_true (List.all_eq_true.1 EW C aV)
 have kT:∀i,l.length≤i→i<c5.length→ ∃(h:i-l.length<hz.length),gC l.length hz i=hz[i-l.length]:=by
  intro i p ad;have bd:i-l.length<hz.length:=by omega
  exact⟨bd,by simp only [gC,if_neg (show ¬i<l.length by omega),List.getElem?_eq_getElem bd,Option.getD_some]⟩
 rw [j.Lo c5];refine k.Ll (gC l.length hz) v2 c5.length (hy 0 c5) ?_ bg ?_ ?_ ?_ ?_ (Nat.ble_eq.mpr ?_) ?_ ?_
 ·have p:(hy 0 c5).map (fun I=>aa.get (gC l.length hz I.1))=((hy 0 c5).map (·.1)).map (fun i=>aa.get (gC l.length hz i)):=by rw [List.map_map];rfl
  have ad:(hy 0 c5).map (fun I=>some (I.2.bc (gC l.length hz)))=((hy 0 c5).map (·.2)).map (fun b=>some (b.bc (gC l.length hz))):=by rw [List.map_map];rfl
  rw [p,ad,mg,wY,e0];exact List.map_congr_left fun b hm=>by rw [(fs b hm).bc]
 ·rw [List.all_eq_true];intro I ac;have:I.1∈(hy 0 c5).map (·.1):=List.mem_map.2 ⟨I,ac,rfl⟩;rw [mg]at this;exact Nat.blt_eq.mpr (List.mem_range.1 this)
 ·rw [mg];refine List.Nodup.Uv ?_;intro a aT b au e;have aT:=List.mem_range.1 aT;have au:=List.mem_range.1 au;by_cases dG:a<l.length<;>by_cases ee:b<l.length
  ·simpa [gC,dG,ee]using e
  ·obtain⟨bd,bS⟩:=kT b (by omega) au;rw [bS,show gC l.length hz a=a by simp [gC,dG]]at e;have:=gr _ (List.getElem_mem bd);omega
  ·obtain⟨bd,bS⟩:=kT a (by omega) aT;rw [bS,show gC l.length hz b=b by simp [gC,ee]]at e;have:=gr _ (List.getElem_mem bd);omega
  ·obtain⟨bd,bS⟩:=kT a (by omega) aT;obtain⟨bI,dx⟩:=kT b (by omega) au;rw [bS,dx]at e;have:=(List.getElem_inj h5).1 e;omega
 ·rw [List.all_eq_true,j.of_next];intro i ak;have ak:=List.mem_range.1 ak;rw [mg,Bool.and_eq_true];exact⟨by simp;omega,beq_true (by simp [gC,ak])⟩
 ·rw [List.all_eq_true,j.of_next];intro I ac;have:I.1∈(hy 0 c5).map (·.1):=List.mem_map.2 ⟨I,ac,rfl⟩;rw [mg]at this;have cQ:=List.mem_range.1 this;rw [Bool.or_eq_true];by_cases c:I.1<l.length
  ·exact .inl (Nat.blt_eq.mpr c)
  ·obtain⟨bd,bS⟩:=kT I.1 (by omega) cQ;exact .inr (Nat.ble_eq.mpr (by rw [bS];exact gr _ (List.getElem_mem bd)))
 ·rw [j.of_next];omega
 ·rw [mg];exact cA.mono (fun i ak=>List.mem_range.2 ak) wW
 ·intro I ac;obtain⟨q,aD,rfl⟩:=List.mem_map.1 ac;intro e he;exact(fs q.2 (by have:q.2∈(hy 0 c5).map (·.2):=List.mem_map.2 ⟨q,aD,rfl⟩;rwa [wY]at this) e he).e1 _
theorem aI.pure{P:Program}{cf:(Nat→Prop)→World→Prop}[j7 cf]{f:FuncId}{args:List o}{aa:j}{v:o}{l:List R}(k:aI P cf f args (j.of l) v aa)(au:∀b∈l,dl b)(e0:(List.range l.length).map aa.get=l.map some)(bg:cR v)
 (aT:fw (fun i=>i<l.length) args) {H:j} (ids:List Nat) (aS:ids.Nodup) (cQ:∀C∈ids,C<H.next) (az:ids.map H.get=l.map some):aI P cf f (args.map (o.bc (dJ ids H.next))) H v H:=by
 have aM:=k.fin [] l v au (by simp) (by
  rw [←e0]
  exact List.map_congr_left fun i ak=>by rw [show gC l.length [] i=i by simp [gC,List.mem_range.1 ak]]) (bg.1 _).symm (bg.e1 _) rfl (by simp)
 have aR:=aM.Ut au aT ids aS cQ az
 rwa [bg.1]at aR
theorem aI.EX{P:Program}{cf:(Nat→Prop)→World→Prop}[j7 cf]{f:FuncId}{args:List o}{aa:j}{C es n c J:Nat}{l:List R}{ej:R}(k:aI P cf f args (j.of l) (.slice (some ⟨C,J,0,0,es⟩) n c) aa)(au:∀b∈l,dl b)(uC:dl ej)
 (e0:(List.range l.length).map aa.get=l.map some) (ff:aa.get C=some ej) (aV:l.length≤C) (aT:fw (fun i=>i<l.length) args) {H:j} (ids:List Nat) (aS:ids.Nodup) (cQ:∀C∈ids,C<H.next) (az:ids.map H.get=l.map some) :
 aI P cf f (args.map (o.bc (dJ ids H.next))) H (.slice (some ⟨H.next,J,0,0,es⟩) n c) (H.hx [] [ej]):=by
 have hlen:ids.length=l.length:=by have:=congrArg List.length az;simpa using this
 have aM:=k.fin [C] (l++[ej]) (.slice (some ⟨l.length,J,0,0,es⟩) n c) (fun b hm=>(List.mem_append.1 hm).elim (au b) (fun h=>by rw [List.mem_singleton.1 h];exact uC)) (by simp) (by
  rw [List.length_append,List.length_singleton,List.range_succ,List.map_append,List.map_append]
  congr 1
  ·rw [←e0];exact List.map_congr_left fun i ak=>by rw [show gC l.length [C] i=i by simp [gC,List.mem_range.1 ak]]
  ·simp [gC,ff]) (by simp [o.bc,bG.bc,gC]) (by simp [cA]) (by simp [aV]) (by simp)
 have aR:=aM.Lm au (fun b hm=>by rw [List.mem_singleton.1 hm];exact uC) aT ids aS cQ az
 have e:(o.slice (some ⟨l.length,J,0,0,es⟩) n c).bc (dJ ids H.next)=.slice (some ⟨H.next,J,0,0,es⟩) n c:=by simp only [o.bc,bG.bc,dJ,List.getElem?_eq_none (show ids.length≤l.length by omega),hlen,Nat.sub_self,Nat.add_zero]
 rwa [e]at aR
theorem c4.more{al:Map}{S:Nat→Prop}{h ad:j}{w:World}(r:c4 al S h w)(aS:h.next≤ad.next)(ag:∀i,i<h.next→ad.get i=h.get i):c4 al S ad w where
 dD i v I ac:=by obtain⟨p,b,aM,aR⟩:=r.dD i v I ac;exact⟨Nat.lt_of_lt_of_le p aS,b,by rw [ag i p];exact aM,aR⟩
 apart:=r.apart
 same:=r.same
theorem aI.pad{P:Program}{cf:(Nat→Prop)→World→Prop}[j7 cf]{f:FuncId}{args:List o}{h aa ad:j}{v:o}(k:aI P cf f args h v aa)(aS:aa.next≤ad.next)(ag:∀i,i<aa.next→ad.get i=aa.get i):aI P cf f args h v ad :=
 fun S br cJ gB al w dF eU cE ed=>by obtain⟨g1,g2⟩:=k S br cJ gB al w dF eU cE ed;exact⟨g1,g2.mono fun e bC ⟨bt,bN,ao,a2,a3,a4,a5,mh⟩=>⟨bt,bN,ao,a2,a3,a4.more aS ag,a5,Nat.le_trans mh aS⟩⟩
def uD(ab:Option bG)(n c id J off es:Nat):Prop:=ab=some ⟨id,J,off,0,es⟩∨(ab=none∧n=0∧c=0)
theorem uD.index{ab:Option bG}{n c id J off es:Nat}(h:uD ab n c id J off es){D:dL}{t e:TypeId}{d cT:qH}(aC:D t=some d)(ap:d.kind=.slice e)(ae:D e=some cT)(cw:es=cT.size){k:IntKind}{i:Int}(bm:0≤i)(ak:i<n) :
 r9 D t (.slice ab n c) (.int k i)=some (.ptr (some ⟨id,J,off+i.toNat,0,es⟩)):=by
 rcases h with rfl|⟨_,rfl,_⟩
 ·simp only [r9,aC,ap,ae];rw [if_pos ⟨bm,ak,cw,trivial⟩]
 ·omega
theorem uD.back{ab:Option bG}{n c id J off es:Nat}(h:uD ab n c id J off es){Lp:Nat}{r:Nat→Nat}(bb:r Lp=id):(o.slice (ab.map fun a=> {a with id:=Lp}) n c).bc r=.slice ab n c:=by
 rcases h with rfl|⟨rfl,p,ad⟩
 ·simp [o.bc,bG.bc,bb]
 ·rfl
structure rf(D:dL)(t e:TypeId)(c2 lB:Nat):Prop where
 aq:∃d cT,D t=some d∧d.kind=.slice e∧D e=some cT∧cT.size=c2∧cT.bytes=lB∧0<c2∧cT.r'=true
section
variable {E:b5}{t e:TypeId}{c2 lB bh:Nat}{h:j}{x:o}{new:List o}
theorem sT(an:rf E.D t e c2 lB)(s:o):fZ E .append #[t,t] [s,x] bh h=hp E.D t s x bh h:=by obtain⟨d,cT,p,ad,bd,rfl,rfl,bS,bI⟩:=an.aq;simp only [fZ,List.getElem?_toArray,List.getElem?_cons_zero,List.getElem?_cons_succ,p,ad]
theorem Uw(an:rf E.D t e c2 lB)(ae:e2 c2 x h=some new)(b1:new≠[])(au:(new.length+new.length/4+512)*lB≤2^48)(az:new.length<2^62) :
 fZ E .append #[t,t] [.slice none 0 0,x] bh h=some (j5 bh c2 new.length new.length,h.set bh (.made new c2 false (some (e,0)))):=by
 rw [sT an];obtain⟨d,cT,p,ad,bd,rfl,rfl,bS,bI⟩:=an.aq;have aS:¬0+new.length=0:=by rw [Nat.zero_add];intro c;exact b1 (List.eq_nil_of_length_eq_zero c)
 simp only [hp,p,ad,bd,ae];rw [if_pos ⟨bS,by simpa using au,by simpa using az,bI⟩];rw [if_neg aS,if_pos ⟨trivial,trivial⟩,Nat.zero_add]
theorem Lq(an:rf E.D t e c2 lB)(ae:e2 c2 x h=some new)(b1:new≠[]){a:bG}{len cap:Nat}{b:R}(au:((len+new.length)+(len+new.length)/4+512)*lB≤2^48)(az:len+new.length<2^62)
 (ag:h.get a.id=some b) (cw:a.es=c2∧a.bR=0) (oT:¬len+new.length≤cap) (dx:b.exact=false) (cP:b.ro=false) (cy:a.J=b.J) (fA:a.idx+len=b.bi.length) (nH:b.aq=none∨b.aq=some (e,0)) :
 fZ E .append #[t,t] [.slice (some a) len cap,x] bh h=some (.slice (some {a with J:=a.J+1}) (len+new.length) (len+new.length),h.set a.id (b.grow new)):=by
 rw [sT an];obtain⟨d,cT,p,ad,bd,rfl,rfl,bS,bI⟩:=an.aq;simp only [hp,p,ad,bd,ae];rw [if_pos ⟨bS,au,az,bI⟩];rw [if_pos cw];simp only [ag];rw [if_neg oT,if_neg (by rw [dx];simp),if_pos ⟨cP,cy,fA,b1,nH⟩]
theorem Ux(an:rf E.D t e c2 lB)(ae:e2 c2 x h=some new){a:bG}{len cap:Nat}{b:R}{old:List o}(au:((len+new.length)+(len+new.length)/4+512)*lB≤2^48)(az:len+new.length<2^62)
 (ag:h.get a.id=some b) (cw:a.es=c2∧a.bR=0) (oT:¬len+new.length≤cap) (dx:b.exact=true) (ai:e2 c2 (.slice (some a) len cap) h=some old) :
 fZ E .append #[t,t] [.slice (some a) len cap,x] bh h=some (j5 bh c2 (len+new.length) (len+new.length),h.set bh (.made (old++new) c2 false (some (e,0)))):=by
 rw [sT an];obtain⟨d,cT,p,ad,bd,rfl,rfl,bS,bI⟩:=an.aq;simp only [hp,p,ad,bd,ae];rw [if_pos ⟨bS,au,az,bI⟩];rw [if_pos cw];simp only [ag];rw [if_neg oT,if_pos dx];simp only [ai]
theorem EY(an:rf E.D t e c2 lB)(ae:e2 c2 x h=some []){ab:Option bG}{len cap:Nat}{b:R}(au:(len+len/4+512)*lB≤2^48)(az:len<2^62)
 (ag:∀a,ab=some a→h.get a.id=some b∧a.es=c2∧a.bR=0) (oT:len≤cap) (aS:ab=none→len=0):fZ E .append #[t,t] [.slice ab len cap,x] bh h=some (.slice ab len cap,h):=by
 rw [sT an];obtain⟨d,cT,p,ad,bd,rfl,rfl,bS,bI⟩:=an.aq;simp only [hp,p,ad,bd,ae];rw [if_pos ⟨bS,by simpa using au,by simpa using az,bI⟩];cases ab with
 |none=>have:=aS rfl;subst this;simp
 |some a =>
  obtain⟨aM,aR⟩:=ag a rfl;simp only;rw [if_pos aR];simp only [aM];rw [if_pos (by simpa using oT),if_pos trivial];simp
end
theorem cN.round{P:Program}{cf:(Nat→Prop)→World→Prop}{base n:Nat}{c:Code}{F aW nT:bP}{h p jH ad:j}{e:dc}(aM:cx P cf base n c F h .normal aW p)(i:eV base n aW p aW jH)(aR:cN P cf base n c aW jH e nT ad):cN P cf base n c F h e nT ad :=
 cN.step (aM.post i) aR
end
end Go.cM
namespace Go.Proofs.YtddnafghiejcoaaGreatDoor
open Go.cM Go.Shelf
set_option maxRecDepth 1000000
def Lr:Ren where
 f:=fun x=>if x=129 then 136 else if x=284 then 120 else if x=317 then 135 else if x=318 then 137 else 0
 t:=fun x=>if x=0 then 0 else if x=3 then 3 else if x=4 then 4 else if x=5 then 5 else if x=9 then 9 else if x=46 then 108 else if x=53 then 151 else if x=212 then 179 else 0
 g:=fun x=>if x=17 then 5 else 0
theorem Uy:Lays.n284 Tryz.prog Lr:=by constructor;all_goals first|kernel_rfl|(intro w;kernel_rfl)
theorem Uz:LaysM.n284 Tryz.prog Lr:=by constructor;all_goals first|exact Uy|kernel_rfl
end Go.Proofs.YtddnafghiejcoaaGreatDoor
namespace Go.Proofs.YtddnafghiejcoaaGreatDoor
open Go.cM
set_option maxRecDepth 1000000
structure aw(be:Nat→Prop)(w:World):Prop where
 I:be 5
 pow:Lib.TabIs Tryz.prog w "internal/strconv.uint64pow10" .u64 Lib.pow10Tab
 q:be 0
 EZ:Lib.TabIs Tryz.prog w "strings.asciiSpace" .u8 Lib.asciiSpaceTab
 s:be 3
 Ls:∃sU sV,w.cell? ⟨3,0,none⟩=some (.iface sU sV)
 r:be 4
 Lt:∃sU sV,w.cell? ⟨4,0,none⟩=some (.iface sU sV)
 x:be 2
 fR:∃m,w.cell? ⟨2,0,none⟩=some (.int .i64 m)
theorem E0:Tryz.prog.globalNamed "internal/strconv.uint64pow10" =some 5:=by kernel_rfl
theorem E1:Tryz.prog.globalNamed "strings.asciiSpace" =some 0:=by kernel_rfl
theorem Lu{w bC:World}{n:String}{g:Nat}{k:IntKind}{t:List Int}(ag:Tryz.prog.globalNamed n=some g)(au:bC.heap[g]? =w.heap[g]?)(h:Lib.TabIs Tryz.prog w n k t):Lib.TabIs Tryz.prog bC n k t:=by unfold Lib.TabIs World.var? at h⊢;rw [ag]at h⊢;simp only [Option.bind_some]at h⊢;rw [au];exact h
theorem aw.cs{be wF:Nat→Prop}{br w:World}(h:aw be br)(an:Go.cM.Safe be br w)(aS:∀x,be x→wF x):aw wF w where
 I:=aS _ h.I
 pow:=Lu E0 (an.block _ h.I) h.pow
 q:=aS _ h.q
 EZ:=Lu E1 (an.block _ h.q) h.EZ
 s:=aS _ h.s
 Ls:=by obtain⟨sU,sV,e⟩:=h.Ls;exact⟨sU,sV,by rw [World.cell?_of_block (an.block _ h.s)];exact e⟩
 r:=aS _ h.r
 Lt:=by obtain⟨sU,sV,e⟩:=h.Lt;exact⟨sU,sV,by rw [World.cell?_of_block (an.block _ h.r)];exact e⟩
 x:=aS _ h.x
 fR:=by obtain⟨m,e⟩:=h.fR;exact⟨m,by rw [World.cell?_of_block (an.block _ h.x)];exact e⟩
instance:j7 aw where
 mono _ fQ an aS:=fQ.cs an aS
def jR(n:Nat):Nat :=
 if n<10 then 1 else if n<100 then 2 else if n<1000 then 3 else if n<10000 then 4 else if n<100000 then 5 else if n<1000000 then 6 else if n<10000000 then 7 else if n<100000000 then 8 else if n<1000000000 then 9 else 10
theorem Lv(n:Nat)(h:n<10000000000):jR n=Lib.nDigits n:=by
 unfold jR
 repeat' split
 ·exact(Lib.nDigits_small ‹_›).symm
 ·exact(Lib.nDigits_unique 1 n (by omega) (by omega)).symm
 ·exact(Lib.nDigits_unique 2 n (by omega) (by omega)).symm
 ·exact(Lib.nDigits_unique 3 n (by omega) (by omega)).symm
 ·exact(Lib.nDigits_unique 4 n (by omega) (by omega)).symm
 ·exact(Lib.nDigits_unique 5 n (by omega) (by omega)).symm
 ·exact(Lib.nDigits_unique 6 n (by omega) (by omega)).symm
 ·exact(Lib.nDigits_unique 7 n (by omega) (by omega)).symm
 ·exact(Lib.nDigits_unique 8 n (by omega) (by omega)).symm
 ·exact(Lib.nDigits_unique 9 n (by omega) (by omega)).symm
def An:za:=fun args h =>
 match args with
 |[.int .u64 n]=>if 1≤n∧n<10000000000 then some (.int .i64 (jR n.toNat),h)else none
 |_=>none
theorem Lw:DN Tryz.prog aw 120 An:=by
 intro be br dn fQ args h v aa ag al w dF eU cE ed;unfold An at ag;split at ag
 ·rename_i n;split at ag
  ·rename_i aS;simp only [Option.some.injEq,Prod.mk.injEq]at ag;obtain⟨rfl,rfl⟩:=ag;obtain⟨l⟩:=dF;simp only [bH]at ed;obtain⟨a,t,rfl,aT,rfl⟩:=ed;simp only [aN]at aT;subst aT;have wG:=fQ.cs cE fun _ ae=>ae
   refine⟨⟨Tryz.f120,_,by kernel_rfl,rfl⟩,?_⟩;have k:=Any.internal_strconv_numDigits Uz n.toNat (by omega) (by omega) w wG.pow;rw [Int.toNat_of_nonneg (by omega)]at k;refine k.mono fun e bC bW=> ?_
   obtain⟨he,hw⟩:=bW;subst hw;exact⟨_,al,he,fk.refl _ _,by simp only [aN];rw [Lv _ (by omega)],eU,cE,Nat.le_refl _⟩
  ·cases ag
 ·cases ag
noncomputable def env:b5:= {cond:=aw,tL:=fun f=>if f=120 then some An else none,D:=y7 Tryz.prog,eqs:=[42],ext:=fun f=>if f=170 then some 0 else if f=133 then some 1 else none}
instance:j7 env.cond:=inferInstanceAs (j7 aw)
theorem bQ:hv Tryz.prog env where
 hV:=dL.TK _
 eqs:=TM (by decide+kernel)
 names:=TL (by decide+kernel)
 J5:=fun f g h=>by
  simp only [env]at h;split at h
  ·rename_i e;subst e;simp only [Option.some.injEq]at h;subst h;exact Lw
  ·cases h
 J6 :=fun f k h=>by
  simp only [env]at h;split at h
  ·rename_i e;subst e;simp only [Option.some.injEq]at h;subst h;exact⟨Tryz.f170,_,by kernel_rfl,by kernel_rfl,by kernel_rfl,by kernel_rfl,rfl⟩
  ·split at h
   ·rename_i e;subst e;simp only [Option.some.injEq]at h;subst h;exact⟨Tryz.f133,_,by kernel_rfl,by kernel_rfl,by kernel_rfl,by kernel_rfl,rfl⟩
   ·cases h
theorem mixed:Tryz.prog.follows .mixedOrders=true:=by decide+kernel
end Go.Proofs.YtddnafghiejcoaaGreatDoor
namespace Go.cM
noncomputable section
open Go.RowKit
inductive dk:Type 1 where
 |nil
 |aA (x:Hint) (r:dk)
 |aK (i:Nat) (y n:dk)
 |cases (i:Nat) (I:Prop) (y n:dk)
 |ex (i:Nat) {α:Type} (I:α→Prop) (f:α→dk)
 |skip (i:Nat) (r:dk)
def kz:List Prop→Prop→Prop
 |[],k=>k
 |I::r,k=>I∧kz r k
theorem lC:∀{l:List Prop}{k:Prop},kz l k→bZ l∧k
 |[],k,h=>⟨bZ.nil,h⟩
 |I::r,k,h=>⟨bZ.cons h.1 (lC h.2).1,(lC h.2).2⟩
abbrev lD:=o→j→dk→List hX→Prop
abbrev rh:=FuncId→List o→j→dk→(o→j→dk→Prop)→Prop
abbrev wZ:=dc→bP→j→dk→Prop
def E2(bf:Operand→o)(ab:Op):Option (Prop×Bool) :=
 match ab with
 |.binOp op t x y _ =>
  match bf x,bf y with
  |.int k a,.int fy b =>
   match decEq k fy with
   |isTrue _ =>
    match op with
    |.eql=>some (a=b,true)
    |.neq=>some (a=b,false)
    |.lss=>some (a<b,true)
    |.leq=>some (a≤b,true)
    |.gtr=>some (b<a,true)
    |.geq=>some (b≤a,true)
    |_=>none
   |isFalse _=>none
  |.str a,.str b =>
   match op with
   |.eql=>some (a=b,true)
   |.neq=>some (a=b,false)
   |_=>none
  |_,_=>none
 |_=>none
theorem Lx{E:b5}{bf:Operand→o}{ab:Op}{I:Prop}{b:Bool}(k:E2 bf ab=some (I,b))(call:dX)(bh:Nat)(h:j):(I→b0 E call bh bf h ab=some (.bool b,h))∧(¬I→b0 E call bh bf h ab=some (.bool (!b),h)):=by
 cases ab<;>simp only [E2]at k<;>try (cases k;done)
 rename_i op t x y aq;split at k
 ·rename_i aM a aR c ae bY;split at k
  ·rename_i ap _;subst ap;split at k<;>first|(cases k;done)|(simp only [Option.some.injEq,Prod.mk.injEq]at k)
   all_goals (obtain⟨rfl,rfl⟩:=k)
   all_goals (constructor<;>intro ac<;>simp [b0,ae,bY,ld,kj,ac])
   all_goals omega
  ·cases k
 ·rename_i a c ae bY;split at k<;>first|(cases k;done)|(simp only [Option.some.injEq,Prod.mk.injEq]at k)
  all_goals (obtain⟨rfl,rfl⟩:=k)
  all_goals (constructor<;>intro ac<;>simp [b0,ae,bY,ld,vL,ac])
 ·cases k
inductive eC where
 |one (v:o) (h:j) (e5:List Prop)
 |or (I:Prop) (a b:eC)
 |some (v:o) (e5:List Prop) (I:j→Prop)
def eC.dw(P:Program)(cf:(Nat→Prop)→World→Prop)(f:FuncId)(args:List o)(h:j):eC→Prop
 |.one v aa e5=>bZ e5→aI P cf f args h v aa
 |.or I a b=>(I→eC.dw P cf f args h a)∧(¬I→eC.dw P cf f args h b)
 |.some v e5 I=>bZ e5→ ∃aa,aI P cf f args h v aa∧I aa
abbrev fc:=FuncId→Option (List o→j→Option eC)
def eW(P:Program)(cf:(Nat→Prop)→World→Prop)(S:fc):Prop:= ∀f g,S f=some g→ ∀args h a,g args h=some a→a.dw P cf f args h
def Ly:fc:=fun _=>none
theorem gU{P:Program}{cf:(Nat→Prop)→World→Prop} :eW P cf Ly:=fun _ _ h=>by cases h
def fc.add(S:fc)(f:FuncId)(g:List o→j→Option eC):fc:=fun k=>_root_.cond (Nat.beq k f) (some g) (S k)
theorem eW.add{P:Program}{cf:(Nat→Prop)→World→Prop}{S:fc}(k:eW P cf S){f:FuncId}{g:List o→j→Option eC}(ag:∀args h a,g args h=some a→a.dw P cf f args h):eW P cf (S.add f g):=by
 intro gk dv a8;unfold fc.add at a8;rcases nS gk f with ⟨e,dT⟩|⟨e,dT⟩
 ·rw [dT,cond_true]at a8;simp only [Option.some.injEq]at a8;subst a8;subst e;exact ag
 ·rw [dT,cond_false]at a8;exact k gk dv a8
def aL(l:List UInt8):List o:=l.map fun b=> .int .u8 b.toNat
def strOf(l:List o):List UInt8:=(bytesOf l).getD []
def a'(l:List o)(i:Nat):Int:=match l[i]? with|some (.int _ n)=>n|_=>0
def E3(E:b5)(draw:Bool)(ops:Array Oper)(aj i:Nat)(bf:Operand→o)(h:j)(ab:Op):Option (o×j×List Prop) :=
 match ab with
 |.convert s d x =>
  match bf x with
  |.slice (some a) n c =>
   match E.D s,E.D d,h.get a.id with
   |some nE,some fM,some b =>
    match nE.kind,fM.kind with
    |.slice e,.string =>
     match E.D e with
     |some hc =>
      match hc.kind with
      |.int .u8 =>
       cond (Nat.beq a.bR 0&&Nat.beq a.es 1&&(!draw || (lh ops i || iR ops aj i bf (.convert s d x))))
        (some (.str (strOf ((b.bi.drop a.idx).take n)),h,[a.J=b.J,a.idx+n≤b.bi.length,∃l,(b.bi.drop a.idx).take n=aL l])) none
      |_=>none
     |none=>none
    |_,_=>none
   |_,_,_=>none
  |_=>none
 |.load t x =>
  match bf x with
  |.ptr (some a) =>
   match E.D t,h.get a.id with
   |some d,some b =>
    match d.kind with
    |.int k =>
     cond (Nat.beq a.bR 0&&Nat.beq d.size 1)
      (some (.int k (a' b.bi a.idx),h,[a.J=b.J,b.bi[a.idx]? =some (.int k (a' b.bi a.idx))]++cond draw (iH ops aj i bf h ab h) [])) none
    |_=>none
   |_,_=>none
  |_=>none
 |_=>none
theorem Ao:∀(l:List UInt8),bytesOf (aL l)=some l
 |[]=>rfl
 |b::r=>by have:=Ao r;unfold aL at this;simp only [aL,List.map_cons,bytesOf,this,Option.map_some];simp
theorem iX(l:List UInt8):strOf (aL l)=l:=by unfold strOf;rw [Ao];rfl
theorem UA{P :Program}{E:b5}{draw:Bool}{ops:Array Oper}{aj i:Nat}{bf:Operand→o}{h aa:j}{ab:Op}{v:o}{e5:List Prop}(k:E3 E draw ops aj i bf h ab=some (v,aa,e5))(ac:bZ e5)(call:dX):k0 E call ops draw aj i bf h ab=some (v,aa):=by
 cases ab<;>simp only [E3]at k<;>try (cases k;done)
 case convert s d x =>
  split at k
  ·rename_i a n c ae;split at k
   ·rename_i nE fM b an aC ag;split at k
    ·rename_i e gq cB;split at k
     ·rename_i hc he;split at k
      ·rename_i lp;cases aD:(Nat.beq a.bR 0&&Nat.beq a.es 1&&(!draw || (lh ops i || iR ops aj i bf (.convert s d x))))with
       |false=>rw [aD]at k;cases k
       |true =>
        rw [aD,cond_true]at k;simp only [Option.some.injEq,Prod.mk.injEq]at k;obtain⟨rfl,rfl,rfl⟩:=k;simp only [Bool.and_eq_true]at aD;have dH:=Nat.eq_of_beq_eq_true aD.1.1;have dy:=Nat.eq_of_beq_eq_true aD.1.2;have fv:a.J=b.J:=ac.head;have kv:a.idx+n≤b.bi.length:=ac.tail.head;obtain⟨l,Ae⟩:∃l,(b.bi.drop a.idx).take n=aL l:=ac.tail.tail.head;have lk:b.cO a.J=b.bi.length:=by rw [fv];simp [R.cO]
        have fu:e2 1 (.slice (some a) n c) h=some (aL l):=by
         by_cases aS:n=0
         ·subst aS;simp only [e2,dH,dy,if_true,ag];rw [←Ae];simp
         ·simp only [e2,dH,dy,if_true,ag];rw [if_neg aS,if_pos ⟨by rw [lk];exact kv,kv⟩,Ae]
        refine EN E ?_ ?_ ?_
        ·simp only [b0,ae,vP,an,aC];rfl
        ·simp only [eO,ae,oG,an,aC,gq,cB,he,lp,fu,Ao,Option.map_some];rw [Ae,iX]
        ·intro ub;refine⟨rfl,?_⟩;have:=aD.2;rw [ub]at this;simpa using this
      ·cases k
     ·cases k
    ·cases k
   ·cases k
  ·cases k
 case load t x =>
  split at k
  ·rename_i a ae;split at k
   ·rename_i d b aC ag;split at k
    ·rename_i l2 ap;cases aD:(Nat.beq a.bR 0&&Nat.beq d.size 1)with
     |false=>rw [aD]at k;cases k
     |true =>
      rw [aD,cond_true]at k;simp only [Option.some.injEq,Prod.mk.injEq]at k;obtain⟨rfl,rfl,rfl⟩:=k;simp only [Bool.and_eq_true]at aD;have dH:=Nat.eq_of_beq_eq_true aD.1;have fv:a.J=b.J:=ac.head;have kv:b.bi[a.idx]? =some (.int l2 (a' b.bi a.idx)):=ac.tail.head;refine jQ E ?_ ac.tail.tail;have cQ:=(List.getElem?_eq_some_iff.1 kv).1
      have fu:b.elem? a.J a.idx=some (.int l2 (a' b.bi a.idx)):=by unfold R.elem?;rw [if_pos (by rw [fv];simpa [R.cO]using cQ)];exact kv
      simp only [b0,ae,cj,aC,ag,fu,ap,kh.isAgg,iD,dH,if_true,Option.map_some,Bool.false_eq_true,if_false]
    ·cases k
   ·cases k
  ·cases k
section
variable(P:Program)(E:b5)(S:fc)
def Ap(draw:Bool)(ops:Array Oper)(aj i:Nat)(F:bP)(h:j)(ab:Op):Option (o×j×List Prop×List hX) :=
 match ab with
 |.call c =>
  match c.callee with
  |.value f =>
   match bU F f with
   |.func (.func g) b4 bp =>
    match S g with
    |some w0 =>
     match w0 (b4++c.args.toList.map (bU F)++bp) h with
     |some (.one v aa e5)=>some (v,aa,e5++cond draw (iH ops aj i (bU F) h ab aa) [],[⟨g,b4++c.args.toList.map (bU F)++bp,h,v,aa⟩])
     |_=>none
    |none=>none
   |_=>none
  |_=>match o2 E draw ops aj i F h ab []with|some (v,aa,_,bp,bo)=>some (v,aa,bp,bo)|none=>none
 |_=>match o2 E draw ops aj i F h ab []with|some (v,aa,_,bp,bo)=>some (v,aa,bp,bo)|none=>none
def p3(draw:Bool)(ops:Array Oper)(aj i:Nat)(F:bP)(ab:Op)(g:FuncId)(args:List o)(h:j)(K:lD):eC→dk→Prop
 |.one v aa e5,an=>kz (e5++cond draw (iH ops aj i (bU F) h ab aa) []) (K v aa an [⟨g,args,h,v,aa⟩])
 |.or I a b,.aK _ y n=>(I→p3 draw ops aj i F ab g args h K a y)∧(¬I→p3 draw ops aj i F ab g args h K b n)
 |.or _ _ _,_=>False
 |.some v e5 I,an=>kz e5 (∀aa,I aa→kz (cond draw (iH ops aj i (bU F) h ab aa) []) (K v aa an [⟨g,args,h,v,aa⟩]))
def Aq(F:bP)(h:j)(ab:Op):Option (eC×FuncId×List o) :=
 match ab with
 |.call c =>
  match c.callee with
  |.value f =>
   match bU F f with
   |.func (.func g) b4 bp =>
    match S g with
    |some w0=>match w0 (b4++c.args.toList.map (bU F)++bp) h with|some a=>some (a,g,b4++c.args.toList.map (bU F)++bp)|none=>none
    |none=>none
   |_=>none
  |_=>none
 |_=>none
def o5(draw:Bool)(ops:Array Oper)(aj i:Nat)(F:bP)(h:j)(ab:Op)(an:dk)(K:lD):Prop :=
 match Ap E S draw ops aj i F h ab with
 |some (v,aa,bp,bo)=>kz bp (K v aa an bo)
 |none =>
  match Aq S F h ab with
  |some (.some v e5 I,g,args)=>p3 draw ops aj i F ab g args h K (.some v e5 I) an
  |_=>False
def E4(draw:Bool)(ops:Array Oper)(aj i:Nat)(F:bP)(h:j)(ab:Op)(y n:dk)(K:lD):Prop :=
 match E2 (bU F) ab with
 |some (I,b)=>(I→kz (cond draw (iH ops aj i (bU F) h ab h) []) (K (.bool b) h y []))∧(¬I→kz (cond draw (iH ops aj i (bU F) h ab h) []) (K (.bool (!b)) h n []))
 |none =>
  match Ap E S draw ops aj i F h ab with
  |some (.bool b,aa,bp,bo)=>kz bp ((b=true→K (.bool true) aa y bo)∧(b=false→K (.bool false) aa n bo))
  |_=>False
def E5(draw:Bool)(ops:Array Oper)(aj i:Nat)(F:bP)(h:j)(ab:Op)(C:Nat)(y n:dk)(K:lD):Prop :=
 match Aq S F h ab with
 |some (.or I a b,g,args)=>p3 draw ops aj i F ab g args h K (.or I a b) (.aK C y n)
 |_=>E4 E S draw ops aj i F h ab y n K
def E6(fO:rh)(draw:Bool)(ops:Array Oper)(aj i:Nat)(F:bP)(h:j)(ab:Op)(x:Hint)(r:dk)(K:lD):Prop :=
 match x with
 |.enter _ =>
  match ab with
  |.call c =>
   match c.callee with
   |.value f =>
    match bU F f with
    |.func (.func g) b4 bp =>
     fO g (b4++c.args.toList.map (bU F)++bp) h r fun v aa fL=>kz (cond draw (iH ops aj i (bU F) h ab aa) []) (K v aa fL [⟨g,b4++c.args.toList.map (bU F)++bp,h,v,aa⟩])
    |_=>False
   |_=>False
  |_=>False
 |_ =>
  match wT P E (fun _ _ _ _=>none) draw ops aj i F h ab x []with
  |some (v,aa,_,bp,bo)=>kz bp (K v aa r bo)
  |none=>match E3 E draw ops aj i (bU F) h ab with|some (v,aa,bp)=>kz bp (K v aa r [])|none=>False
def o6(fO:rh)(q:Nat)(ops:Array Oper)(draw:Bool)(aj i:Nat)(F:bP)(h:j)(ab:Op)(K:lD):dk→Prop
 |.nil=>o5 E S draw ops aj i F h ab .nil K
 |.aA x r=>match x.at with|some C=>cond (Nat.beq (1000*q+i) C) (E6 P E fO draw ops aj i F h ab x r K) (o5 E S draw ops aj i F h ab (.aA x r) K)|none=>o5 E S draw ops aj i F h ab (.aA x r) K
 |.aK C y n=>cond (Nat.beq (1000*q+i) C) (E5 E S draw ops aj i F h ab C y n K) (o5 E S draw ops aj i F h ab (.aK C y n) K)
 |.cases C I y n=>cond (Nat.beq (1000*q+i) C) ((I→o6 fO q ops draw aj i F h ab K y)∧(¬I→o6 fO q ops draw aj i F h ab K n)) (o5 E S draw ops aj i F h ab (.cases C I y n) K)
 |.ex C I f=>cond (Nat.beq (1000*q+i) C) ((∃x,I x)∧∀x,I x→o6 fO q ops draw aj i F h ab K (f x)) (o5 E S draw ops aj i F h ab (.ex C I f) K)
 |.skip C r=>cond (Nat.beq (1000*q+i) C) (o5 E S draw ops aj i F h ab r K) (o5 E S draw ops aj i F h ab (.skip C r) K)
def sW(ops:Array Oper)(draw:Bool)(aj i:Nat)(F:bP)(h:j)(ab:Op)(K:lD):Prop :=
 ∃v aa ez bo,K v aa ez bo∧(∀c∈bo,aI P E.cond c.f c.args c.h c.v c.aa)∧∀call:dX,(∀c∈bo,c.holds call)→k0 E call ops draw aj i (bU F) h ab=some (v,aa)
def Ar(fO:rh):Prop:= ∀f args h an K,fO f args h an K→ ∃v aa ez,aI P E.cond f args h v aa∧K v aa ez
variable {P E S}
theorem Lz(cH:hv P E)(e4:P.follows .mixedOrders=true)(cJ:eW P E.cond S){draw:Bool}{ops:Array Oper}{aj i:Nat}{F:bP}{h aa:j}{ab:Op}{v:o}{bp:List Prop}{bo:List hX}(k:Ap E S draw ops aj i F h ab=some (v,aa,bp,bo))(av:bZ bp) :
 (∀c∈bo,aI P E.cond c.f c.args c.h c.v c.aa)∧∀call:dX,(∀c∈bo,c.holds call)→k0 E call ops draw aj i (bU F) h ab=some (v,aa):=by
 have plain:∀{r:Option (o×j×List Prop×List hX)},(match o2 E draw ops aj i F h ab []with|some (v,aa,_,bp,bo)=>some (v,aa,bp,bo)|none=>none)=some (v,aa,bp,bo) →
  (∀c∈bo,aI P E.cond c.f c.args c.h c.v c.aa)∧∀call:dX,(∀c∈bo,c.holds call)→k0 E call ops draw aj i (bU F) h ab=some (v,aa):=by
  intro r k;split at k
  ·rename_i v1 p eA dG aM ac;simp only [Option.some.injEq,Prod.mk.injEq]at k;obtain⟨rfl,rfl,rfl,rfl⟩:=k;have ky:EP P E (fun _ _ _ _=>none):=fun _ _ _ _ _ _ _ _ h=>by cases h
   have eo:pop P E (fun _ _ _ _=>none) 0 ops draw aj i F h ab []=some (v1,p,eA,dG,aM):=ac;exact⟨Ld P E cH e4 ky eo av,fun call ap=>Lc P E eo av ap⟩
  ·cases k
 unfold Ap at k;split at k
 ·rename_i c;split at k
  ·rename_i f a8;split at k
   ·rename_i g b4 sN ag;split at k
    ·rename_i w0 ud;split at k
     ·rename_i v1 p e5 gd;simp only [Option.some.injEq,Prod.mk.injEq]at k;obtain⟨rfl,rfl,rfl,rfl⟩:=k;refine⟨fun c hm=> ?_,fun call ap=> ?_⟩
      ·rw [List.mem_singleton.1 hm];exact cJ _ _ ud _ _ _ gd av.left
      ·refine jQ E ?_ av.right;simp only [b0,a8,ag,oE];exact ap _ (List.mem_singleton.2 rfl)
     ·cases k
    ·cases k
   ·cases k
  ·exact plain (r:=none) k
 ·exact plain (r:=none) k
theorem E7{draw:Bool}{ops:Array Oper}{aj i:Nat}{F:bP}{h:j}{c:Call}{f:Operand}(a8:c.callee=.value f){g:FuncId}{b4 bp:List o}(ag:bU F f=.func (.func g) b4 bp){K:lD} :
 ∀(a:eC)(an:dk),a.dw P E.cond g (b4++c.args.toList.map (bU F)++bp) h→p3 draw ops aj i F (.call c) g (b4++c.args.toList.map (bU F)++bp) h K a an→sW P E ops draw aj i F h (.call c) K
 |.one v aa e5,an,ok,k=>by
  obtain⟨av,dj⟩:=lC (by simpa only [p3]using k);refine⟨v,aa,an,_,dj,fun c hm=> ?_,fun call ap=> ?_⟩
  ·rw [List.mem_singleton.1 hm];exact ok av.left
  ·refine jQ E ?_ av.right;simp only [b0,a8,ag,oE];exact ap _ (List.mem_singleton.2 rfl)
 |.some v e5 I,an,ok,k=>by
  obtain⟨av,dj⟩:=lC (by simpa only [p3]using k);obtain⟨aa,aC,ac⟩:=ok av;obtain⟨jp,dj⟩:=lC (dj aa ac);refine⟨v,aa,an,_,dj,fun c hm=> ?_,fun call ap=> ?_⟩
  ·rw [List.mem_singleton.1 hm];exact aC
  ·refine jQ E ?_ jp;simp only [b0,a8,ag,oE];exact ap _ (List.mem_singleton.2 rfl)
 |.or I a b,.aK C y n,ok,k=>by
  simp only [p3]at k;by_cases ac:I
  ·exact E7 a8 ag a y (ok.1 ac) (k.1 ac)
  ·exact E7 a8 ag b n (ok.2 ac) (k.2 ac)
 |.or I a b,.nil,ok,k=>k.elim
 |.or I a b,.aA _ _,ok,k=>k.elim
 |.or I a b,.cases _ _ _ _,ok,k=>k.elim
 |.or I a b,.ex _ _ _,ok,k=>k.elim
 |.or I a b,.skip _ _,ok,k=>k.elim
theorem LA(cJ:eW P E.cond S){draw:Bool}{ops:Array Oper}{aj i:Nat}{F:bP}{h:j}{ab:Op}{a:eC}{g:FuncId}{args:List o}(bX:Aq S F h ab=some (a,g,args)){K:lD}{an:dk}(k:p3 draw ops aj i F ab g args h K a an):sW P E ops draw aj i F h ab K:=by
 unfold Aq at bX;split at bX
 ·rename_i c;split at bX
  ·rename_i f a8;split at bX
   ·rename_i dv b4 bp ag;split at bX
    ·rename_i w0 ud;split at bX
     ·rename_i cG gd;simp only [Option.some.injEq,Prod.mk.injEq]at bX;obtain⟨rfl,rfl,rfl⟩:=bX;exact E7 a8 ag _ _ (cJ _ _ ud _ _ _ gd) k
     ·cases bX
    ·cases bX
   ·cases bX
  ·cases bX
 ·cases bX
theorem ri(cH:hv P E)(e4:P.follows .mixedOrders=true)(cJ:eW P E.cond S){draw:Bool}{ops:Array Oper}{aj i:Nat}{F:bP}{h:j}{ab:Op}{an:dk}{K:lD}(k:o5 E S draw ops aj i F h ab an K):sW P E ops draw aj i F h ab K:=by
 unfold o5 at k;split at k
 ·rename_i v aa bp bo au;obtain⟨av,dj⟩:=lC k;obtain⟨aM,aR⟩:=Lz cH e4 cJ au av;exact⟨v,aa,an,bo,dj,aM,aR⟩
 ·split at k
  ·rename_i bX;exact LA cJ bX k
  ·exact k.elim
theorem UB(cH:hv P E)(e4:P.follows .mixedOrders=true)(cJ:eW P E.cond S){draw:Bool}{ops:Array Oper}{aj i:Nat}{F:bP}{h:j}{ab:Op}{y n:dk}{K:lD}(k:E4 E S draw ops aj i F h ab y n K):sW P E ops draw aj i F h ab K:=by
 unfold E4 at k;split at k
 ·rename_i I b au;by_cases ac:I
  ·obtain⟨av,dj⟩:=lC (k.1 ac);exact⟨_,_,_,_,dj,fun c hm=>by simp at hm,fun call _=>jQ E ((Lx au call (aj+i) h).1 ac) av⟩
  ·obtain⟨av,dj⟩:=lC (k.2 ac);exact⟨_,_,_,_,dj,fun c hm=>by simp at hm,fun call _=>jQ E ((Lx au call (aj+i) h).2 ac) av⟩
 ·split at k
  ·rename_i b aa bp bo au;obtain⟨av,dj⟩:=lC k;obtain⟨aM,aR⟩:=Lz cH e4 cJ au av;cases b with
   |true=>exact⟨_,_,_,_,dj.1 rfl,aM,aR⟩
   |false=>exact⟨_,_,_,_,dj.2 rfl,aM,aR⟩
  ·exact k.elim
theorem UC(cH:hv P E)(e4:P.follows .mixedOrders=true)(cJ:eW P E.cond S){draw:Bool}{ops:Array Oper}{aj i:Nat}{F:bP}{h:j}{ab:Op}{C:Nat}{y n:dk}{K:lD}(k:E5 E S draw ops aj i F h ab C y n K):sW P E ops draw aj i F h ab K:=by
 unfold E5 at k;split at k
 ·rename_i bX;exact LA cJ bX k
 ·exact UB cH e4 cJ k
theorem UD(cH:hv P E)(e4:P.follows .mixedOrders=true)(cJ:eW P E.cond S){fO:rh}(ky:Ar P E fO){q:Nat}{draw:Bool}{ops:Array Oper}{aj i:Nat}{F:bP}{h:j}{ab:Op}{x:Hint}(ae:x.at=some (1000*q+i)){r:dk}{K:lD}(k:E6 P E fO draw ops aj i F h ab x r K) :
 sW P E ops draw aj i F h ab K:=by
 unfold E6 at k;split at k
 ·split at k
  ·rename_i c;split at k
   ·rename_i f a8;split at k
    ·rename_i g b4 bp ag;obtain⟨v,aa,ez,aC,dj⟩:=ky _ _ _ _ _ k;obtain⟨av,dj⟩:=lC dj;refine⟨v,aa,ez,_,dj,fun c hm=> ?_,fun call ap=> ?_⟩
     ·rw [List.mem_singleton.1 hm];exact aC
     ·refine jQ E ?_ av;simp only [b0,a8,ag,oE];exact ap _ (List.mem_singleton.2 rfl)
    ·exact k.elim
   ·exact k.elim
  ·exact k.elim
 ·split at k
  ·rename_i v aa eA bp bo ac;obtain⟨av,dj⟩:=lC k;have UE:EP P E (fun _ _ _ _=>none):=fun _ _ _ _ _ _ _ _ h=>by cases h
   have eo:pop P E (fun _ _ _ _=>none) q ops draw aj i F h ab [x]=some (v,aa,eA,bp,bo):=by unfold pop;simp only [ae];rw [beq_true rfl,cond_true];exact ac
   exact⟨v,aa,r,bo,dj,Ld P E cH e4 UE eo av,fun call ap=>Lc P E eo av ap⟩
  ·split at k
   ·rename_i v aa bp ac;obtain⟨av,dj⟩:=lC k;exact⟨v,aa,r,[],dj,fun c hm=>by simp at hm,fun call _=>UA (P:=P) ac av call⟩
   ·exact k.elim
theorem As(cH:hv P E)(e4:P.follows .mixedOrders=true)(cJ:eW P E.cond S){fO:rh}(ky:Ar P E fO){q:Nat}{draw:Bool}{ops:Array Oper}{aj i:Nat}{F:bP}{h:j}{ab:Op}{K:lD} :∀(an:dk),o6 P E S fO q ops draw aj i F h ab K an→sW P E ops draw aj i F h ab K
 |.nil,k=>ri cH e4 cJ k
 |.aA x r,k=>by
  simp only [o6]at k;split at k
  ·rename_i C aV;rcases nS (1000*q+i) C with ⟨e,dT⟩|⟨e,dT⟩
   ·rw [dT,cond_true]at k;exact UD cH e4 cJ ky (by rw [aV,e]) k
   ·rw [dT,cond_false]at k;exact ri cH e4 cJ k
  ·exact ri cH e4 cJ k
 |.aK C y n,k=>by
  simp only [o6]at k;rcases nS (1000*q+i) C with ⟨e,dT⟩|⟨e,dT⟩
  ·rw [dT,cond_true]at k;exact UC cH e4 cJ k
  ·rw [dT,cond_false]at k;exact ri cH e4 cJ k
 |.cases C I y n,k=>by
  simp only [o6]at k;rcases nS (1000*q+i) C with ⟨e,dT⟩|⟨e,dT⟩
  ·rw [dT,cond_true]at k;by_cases ac:I
   ·exact As cH e4 cJ ky y (k.1 ac)
   ·exact As cH e4 cJ ky n (k.2 ac)
  ·rw [dT,cond_false]at k;exact ri cH e4 cJ k
 |.ex C I f,k=>by
  simp only [o6]at k;rcases nS (1000*q+i) C with ⟨e,dT⟩|⟨e,dT⟩
  ·rw [dT,cond_true]at k;obtain⟨⟨x,ae⟩,k⟩:=k;exact As cH e4 cJ ky (f x) (k x ae)
  ·rw [dT,cond_false]at k;exact ri cH e4 cJ k
 |.skip C r,k=>by
  simp only [o6]at k;rcases nS (1000*q+i) C with ⟨e,dT⟩|⟨e,dT⟩
  ·rw [dT,cond_true]at k;exact ri cH e4 cJ k
  ·rw [dT,cond_false]at k;exact ri cH e4 cJ k
variable(P E S)
def uE(fO:rh)(q:Nat)(ops:Array Oper)(draw:Bool)(n aj:Nat):List Oper→Nat→bP→j→dk→List hX→(bP→j→dk→List hX→Prop)→Prop
 |[],_,F,h,an,bo,K=>K F h an bo
 |ab::r,i,F,h,an,bo,K =>
  cond (EQ n ab)
  (match EF ops F ab with
  |some true=>cond (ab.op.operands.toList.all (uu F)) (o6 P E S fO q ops draw aj i F h ab.op (fun v aa ez aR=>uE fO q ops draw n aj r (i+1) (Ac F ab.dst v) aa ez (bo++aR) K) an) False
  |some false=>uE fO q ops draw n aj r (i+1) (Ac F ab.dst gp) h an bo K
  |none=>False) False
variable {P E S}
theorem E8(cH:hv P E)(e4:P.follows .mixedOrders=true)(cJ:eW P E.cond S){fO:rh}(ky:Ar P E fO){q:Nat}{ops:Array Oper}{draw:Bool}{n aj:Nat} :∀(l:List Oper)(i:Nat)(F:bP)(h:j)(an:dk)(bo:List hX){K:bP→j→dk→List hX→Prop},(∀C,l[C]? =ops[i+C]?) →
 uE P E S fO q ops draw n aj l i F h an bo K→ ∃eB aa ez aR,K eB aa ez (bo++aR)∧(∀c∈aR,aI P E.cond c.f c.args c.h c.v c.aa)∧∀call:dX,(∀c∈aR,c.holds call)→ ∀s:List o,s.length=n→Has F s→ ∃bL,bL.length=n∧Has eB bL ∧
  p2 E call ops draw aj (List.range' i l.length) ⟨s,h⟩=some ⟨bL,aa⟩
 |[],i,F,h,an,bo,K,az,k=>⟨F,h,an,[],by simpa [uE]using k,fun c hm=>by simp at hm,fun call _ s aS fI=>⟨s,aS,fI,by unfold p2;cases draw<;>rfl⟩⟩
 |ab :: r, i,F,h,an,bo,K,az,k=>by
  have ai:ops[i]? =some ab:=by have:=az 0;simpa using this.symm
  have bb:∀C,r[C]? =ops[i+1+C]? :=fun C=>by have:=az (C+1);simp at this;rw [this];congr 1;omega
  simp only [uE]at k;cases aC:EQ n ab with
  |false=>rw [aC]at k;exact k.elim
  |true =>
   rw [aC,cond_true]at k
   have LB:∀m,m=n→ ∀t,ab.dst=some t→t<m:=by intro m hm t bX;unfold EQ at aC;rw [bX]at aC;rw [hm];exact Nat.blt_eq.mp aC
   rw [List.length_cons,List.range'_succ];split at k
   ·rename_i ag;cases hr:ab.op.operands.toList.all (uu F)with
    |false=>rw [hr]at k;exact k.elim
    |true =>
     rw [hr,cond_true]at k;obtain⟨v,p,eA,aM,dj,nP,UF⟩:=As cH e4 cJ ky an k;obtain⟨eB,aa,ez,aR,w1,mb,E9⟩:=E8 cH e4 cJ ky r (i+1) _ _ _ _ bb dj;refine⟨eB,aa,ez,aM++aR,by rw [←List.append_assoc];exact w1,fun c hm=>(List.mem_append.1 hm).elim (nP c) (mb c),fun call ap s aS fI=> ?_⟩;have q1:=UF call fun c hm=>ap c (by simp [hm])
     obtain⟨bL,bn,bs,mX⟩:=E9 call (fun c hm=>ap c (by simp [hm])) (hS s ab.dst v) (by rw [Le];exact aS) (fI.set (LB s.length aS) v);refine⟨bL,bn,bs,?_⟩
     have At:k0 E call ops draw aj i (di s) h ab.op=some (v,p):=by
      rw [←q1];have o7:∀x∈ab.op.operands.toList,di s x=bU F x:=fun x ae=>(fI.get (List.all_eq_true.1 hr x ae)).symm
      have bm:∀bh,b0 E call bh (di s) h ab.op=b0 E call bh (bU F) h ab.op:=fun bh=>Kp o7
      have eZ:kl (di s) ab.op=kl (bU F) ab.op:=by cases jN:ab.op<;>simp only [kl];rename_i t x;rw [jN]at o7;rw [o7 x (by simp [Op.operands])]
      have iF:nF (di s) ab.op=nF (bU F) ab.op:=by cases jN:ab.op<;>simp only [nF];rename_i t x y;rw [jN]at o7;rw [o7 x (by simp [Op.operands])]
      have wk:∀bh,eO E bh (di s) h ab.op=eO E bh (bU F) h ab.op:=fun bh=>Uf E o7
      have zL:h' (di s) ab.op=h' (bU F) ab.op:=by cases jN:ab.op<;>simp only [h'];rename_i c;rw [jN]at o7;rw [ug (xs:=c.args) (fun x ae=>o7 x (by simp only [Op.operands,Call.operands,Array.toList_append,List.mem_append];exact .inr ae))]
      have D3:iR ops aj i (di s) ab.op=iR ops aj i (bU F) ab.op:=by
       have:oK (di s) ab.op=oK (bU F) ab.op:=by cases jN:ab.op<;>simp only [oK];rename_i a b x;rw [jN]at o7;rw [o7 x (by simp [Op.operands])]
       unfold iR;rw [this]
      unfold k0 fD jk;simp only [bm,eZ,iF,wk,zL,D3]
     exact(Uj E ai (K6 fI ag) At).trans mX
   ·rename_i ag;obtain⟨eB,aa,ez,aR,w1,mb,E9⟩:=E8 cH e4 cJ ky r (i+1) _ _ _ _ bb k;refine⟨eB,aa,ez,aR,w1,mb,fun call ap s aS fI=> ?_⟩;obtain⟨bL,bn,bs,mX⟩:=E9 call ap (hS s ab.dst gp) (by rw [Le];exact aS) (fI.set (LB s.length aS) gp);exact⟨bL,bn,bs,(Uk E ai (K6 fI ag)).trans mX⟩
   ·exact k.elim
def Au(step:bP→j→dk→wZ→Prop)(K:wZ):Nat→bP→j→dk→Prop
 |0,_,_,_=>False
 |m+1,F,h,an=>step F h an fun e aW p eA=>match e with|.normal=>Au step K m aW p eA|e=>K e aW p eA
def LC(D:dL)(dR:List ResultVar)(e:dc)(F:bP)(h aa:j)(K:o→Prop):Prop :=
 match e with
 |.normal=>match me D F aa dR []with|some (l,bp)=>kz bp (cond (Nat.ble h.next aa.next) (K (mF l)) False)|none=>False
 |.ret=>match me D F aa dR []with|some (l,bp)=>kz bp (cond (Nat.ble h.next aa.next) (K (mF l)) False)|none=>False
 |_=>False
variable(P E S)
def w2(ex:Nat→Nat→Code→bP→j→dk→wZ→Prop):rh:=fun f args h an K =>
 match P.funcs[f]? with
 |some fn =>
  match fn.body with
  |some c=>ex h.next (args.length+(fn.ntmps-args.length)) c (sO 0 args) h an fun e F aa ez=>LC E.D fn.results.toList e F h aa fun v=>K v aa ez
  |none=>False
 |none=>False
def hA(cY:Nat→Nat→Code→bP→j→dc→bP→j→Prop):Nat→Nat→Nat→Option Code→Code→bP→j→dk→wZ→Prop
 |0,_,_,_,_,_,_,_,_=>False
 |k + 1,base,n,some body,c,F,h,an,K =>
  hA cY k base n none c F h an fun e aW p eA =>
   match e with
   |.goto l =>
    match findLabel body l with
    |some rest=>hA cY k base n (some body) rest aW p eA K
    |none=>K (.goto l) aW p eA
   |e=>K e aW p eA
 |k + 1,base,n,none,c,F,h,an,K =>
  match c with
  |.skip=>K .normal F h an
  |.label _=>K .normal F h an
  |.region q ops draw =>
   cond (Nat.ble base h.next&&(!draw || oI ops))
   (uE P E S (w2 P E fun b m c F h an K=>hA cY k b m none c F h an K) q ops draw n h.next ops.toList 0 F {h with next:=h.next+ops.size} an [] fun aW p eA bo=>kz (Ah bo) (K .normal aW p eA)) False
  |.seq a b =>
   hA cY k base n none a F h an fun e aW p eA =>
    match e with
    |.normal=>hA cY k base n none b aW p eA K
    |e=>K e aW p eA
  |.cond x a b =>
   cond (uu F x)
   (match bU F x with
   |.bool true=>hA cY k base n none a F h an K
   |.bool false=>hA cY k base n none b F h an K
   |_=>False) False
  |.block id c =>
   hA cY k base n none c F h an fun e aW p eA =>
    match e with
    |.exit C=>K (cond (Nat.beq C id) .normal (.exit C)) aW p eA
    |e=>K e aW p eA
  |.loop c =>
   match an with
   |.aA (.cs l) (.aA (.loop aW p e) r)=>cY base n (.loop c) (p0 F l) h e aW p∧K e aW p r
   |.aA (.loop aW p e) r=>cY base n (.loop c) F h e aW p∧K e aW p r
   |.aA (.rounds m) r=>Au (fun F h an K=>hA cY k base n none c F h an K) K m F h r
   |.cases _ I y uF=>(I→hA cY k base n none (.loop c) F h y K)∧(¬I→hA cY k base n none (.loop c) F h uF K)
   |.ex _ I f=>(∃x,I x)∧∀x,I x→hA cY k base n none (.loop c) F h (f x) K
   |_=>False
  |.scope c=>hA cY k base n (some c) c F h an K
  |.goto l=>K (.goto l) F h an
  |.exit id=>K (.exit id) F h an
  |.ret=>K .ret F h an
  |_=>False
variable {P E S}
theorem LD(cH:hv P E){f:FuncId}{fn:Func}{c:Code}(a8:P.funcs[f]? =some fn)(au:fn.body=some c){args:List o}{h aa:j}{e:dc}{eB:bP}{K:o→Prop}
 (bb:cx P E.cond h.next (args.length+(fn.ntmps-args.length)) c (sO 0 args) h e eB aa) (k:LC E.D fn.results.toList e eB h aa K):∃v,aI P E.cond f args h v aa∧K v:=by
 have fin:(e=.normal∨e=.ret)→(match me E.D eB aa fn.results.toList []with|some (l,bp)=>kz bp (cond (Nat.ble h.next aa.next) (K (mF l)) False)|none=>False)→ ∃v,aI P E.cond f args h v aa∧K v:=by
  intro he k;split at k
  ·rename_i l bp ac;obtain⟨av,k⟩:=lC k;cases hle:Nat.ble h.next aa.next with
   |false=>rw [hle]at k;exact k.elim
   |true =>
    rw [hle,cond_true]at k;exact⟨_,aI.Un cH a8 au he bb ac av (Nat.le_of_ble_eq_true hle),k⟩
  ·exact k.elim
 cases e with
 |normal=>exact fin (.inl rfl) k
 |ret=>exact fin (.inr rfl) k
 |exit C=>exact k.elim
 |goto l=>exact k.elim
theorem LF(cH:hv P E)(e4:P.follows .mixedOrders=true)(cJ:eW P E.cond S):∀(k:Nat){base n:Nat}(body:Option Code)(c:Code)(F:bP)(h:j)(an:dk){K:wZ},
 hA P E S (cx P E.cond) k base n body c F h an K→ ∃e eB aa ez,k1 P E.cond base n (sP P body c) F h e eB aa∧K e eB aa ez:=by
 intro k;induction k with
 |zero=>intro base n body c F h an K ac;exact ac.elim
 |succ k ih =>
  intro base n body c F h an K ac;cases body with
  |some body =>
   simp only [hA]at ac;obtain⟨e,aW,p,eA,t1,ac⟩:=ih none c F h an ac
   have pass:(∀l,e≠ .goto l)→k1 P E.cond base n (sP P (some body) c) F h e aW p:=by
    intro b1 S br cJ gB e6 al a w bm ap r Q eI;refine zQ (t1 S br cJ gB e6 al a w bm ap r _ fun bN cG bC dY fL=> ?_);have:=eI bN cG bC dY fL;cases e with
    |goto l=>exact absurd rfl (b1 l)
    |_=>exact this
   cases e with
   |goto l =>
    simp only at ac;cases az:findLabel body l with
    |none =>
     rw [az]at ac;refine⟨.goto l,aW,p,eA,?_,ac⟩;intro S br cJ gB e6 al a w bm ap r Q eI;refine zQ (t1 S br cJ gB e6 al a w bm ap r _ fun bN cG bC dY fL=> ?_);show q6 P body Q (.goto l) cG bC;simp only [q6,az];exact eI bN cG bC dY fL
    |some rest =>
     rw [az]at ac;obtain⟨bs,nT,ad,w3,t2,ac⟩:=ih (some body) rest aW p eA ac;refine⟨bs,nT,ad,w3,?_,ac⟩;intro S br cJ gB e6 al a w bm ap r Q eI;refine zQ (t1 S br cJ gB e6 al a w bm ap r _ fun bN cG bC dY fL=> ?_);show q6 P body Q (.goto l) cG bC;simp only [q6,az];exact t2 S br cJ gB e6 bN cG bC bm dY fL Q eI
   |normal=>exact⟨_,aW,p,eA,pass (fun l=>by simp),ac⟩
   |exit C=>exact⟨_,aW,p,eA,pass (fun l=>by simp),ac⟩
   |ret=>exact⟨_,aW,p,eA,pass (fun l=>by simp),ac⟩
  |none =>
   have stop:∀{ca:dc},(∀(Q:Exit→Act→World→Prop)(a:Act)(w:World),Q (wD ca) a w→c.wp P Q a w)→K ca F h an→ ∃e eB aa ez,k1 P E.cond base n (sP P none c) F h e eB aa∧K e eB aa ez:=by intro ca bm ac;refine⟨ca,F,h,an,?_,ac⟩;intro S br cJ gB e6 al a w aC ap r Q eI;exact bm Q a w (eI al a w ap r)
   cases c;case skip=>exact stop (ca:= .normal) (fun _ _ _ aD=>wp_skip aD) ac
   case label l=>exact stop (ca:= .normal) (fun _ _ _ aD=>wp_label aD) ac
   case goto l=>exact stop (ca:= .goto l) (fun _ _ _ aD=>wp_goto aD) ac
   case exit id=>exact stop (ca:= .exit id) (fun _ _ _ aD=>wp_exit aD) ac
   case ret=>exact stop (ca:= .ret) (fun _ _ _ aD=>wp_ret aD) ac
   case region id ops draw =>
    simp only [hA]at ac;cases aC:(Nat.ble base h.next&&(!draw || oI ops))with
    |false=>rw [aC]at ac;exact ac.elim
    |true =>
     rw [aC,cond_true]at ac;simp only [Bool.and_eq_true,Bool.or_eq_true]at aC;obtain⟨au,aC⟩:=aC;have au:base≤h.next:=Nat.le_of_ble_eq_true au
     have az:∀C:Nat,ops.toList[C]? =ops[0+C]? :=fun C=>by simp
     have ky:Ar P E (w2 P E fun b m c F h an K=>hA P E S (cx P E.cond) k b m none c F h an K):=by
      intro f args h an K aD;unfold w2 at aD;split at aD
      ·rename_i fn a8;split at aD
       ·rename_i c au;obtain⟨e,eB,aa,ez,t,aD⟩:=ih none c _ _ _ aD;obtain⟨v,aC,dj⟩:=LD cH a8 au t aD;exact⟨v,aa,ez,aC,dj⟩
       ·exact aD.elim
      ·exact aD.elim
     obtain⟨aW,p,eA,aM,dj,st,kr⟩:=E8 cH e4 cJ ky ops.toList 0 F _ an [] az ac;rw [List.nil_append]at dj;obtain⟨hs,dj⟩:=lC dj;refine⟨.normal,aW,p,eA,?_,dj⟩;intro S br cJ gB e6 al a w bm ap ⟨s,aS,fI,r⟩ Q eI;obtain⟨bL,g1,g2,l5⟩:=kr (rc aM) (Li hs) s aS fI;have UG:List.range' 0 ops.toList.length=List.range ops.size:=by rw [List.range_eq_range',Array.length_toList]
     rw [UG]at l5
     have UH:sd E (rc aM) ops draw ⟨s,h⟩=some ⟨bL,p⟩:=by
      unfold sd;unfold p2 at l5;cases draw with
      |false=>simpa using l5
      |true =>
       have aC:oI ops=true:=by simpa using aC
       simp only [if_true,aC];simpa using l5
     exact KJ cH cJ (Ul P E st cJ gB) e4 r UH fun cG bC bN dH dy gy=>eI bN cG bC (ap.trans (dH.mono au)) ⟨bL,g1,g2,dy⟩
   case seq x y =>
    simp only [hA]at ac;obtain⟨e,aW,p,eA,t1,ac⟩:=ih none x F h an ac
    have pass:e≠ .normal→k1 P E.cond base n (sP P none (.seq x y)) F h e aW p:=by
     intro b1 S br cJ gB e6 al a w bm ap r Q eI;refine wp_seq (t1 S br cJ gB e6 al a w bm ap r _ fun bN cG bC dY fL=> ?_);have:=eI bN cG bC dY fL;cases e with
     |normal=>exact absurd rfl b1
     |_=>exact this
    cases e with
    |normal =>
     obtain⟨bs,nT,ad,w3,t2,ac⟩:=ih none y aW p eA ac;refine⟨bs,nT,ad,w3,?_,ac⟩;intro S br cJ gB e6 al a w bm ap r Q eI;exact wp_seq (t1 S br cJ gB e6 al a w bm ap r _ fun bN cG bC dY fL=>t2 S br cJ gB e6 bN cG bC bm dY fL Q eI)
    |exit C=>exact⟨_,aW,p,eA,pass (by simp),ac⟩
    |goto l=>exact⟨_,aW,p,eA,pass (by simp),ac⟩
    |ret=>exact⟨_,aW,p,eA,pass (by simp),ac⟩
   case cond x y z =>
    simp only [hA]at ac;cases ap:uu F x with
    |false=>rw [ap]at ac;exact ac.elim
    |true =>
     rw [ap,cond_true]at ac
     have go:∀{q:Bool},bU F x=.bool q→hA P E S (cx P E.cond) k base n none (cond q y z) F h an K→ ∃e eB aa ez,k1 P E.cond base n (sP P none (.cond x y z)) F h e eB aa∧K e eB aa ez:=by
      intro q aD ac;obtain⟨e,aW,p,eA,t1,ac⟩:=ih none (cond q y z) F h an ac;refine⟨e,aW,p,eA,?_,ac⟩;intro S br cJ gB e6 al a w bm dY r Q eI;have hw:=t1 S br cJ gB e6 al a w bm dY r Q eI;obtain⟨s,aS,fI,r⟩:=r;have ae:=r.eval x;simp only at ae;rw [←fI.get ap,aD]at ae;simp only [aN]at ae;cases q
      ·exact wp_cond_false ae hw
      ·exact wp_cond_true ae hw
     split at ac
     ·rename_i aD;exact go (q:=true) aD ac
     ·rename_i aD;exact go (q:=false) aD ac
     ·exact ac.elim
   case block id c =>
    simp only [hA]at ac;obtain⟨e,aW,p,eA,t1,ac⟩:=ih none c F h an ac
    have pass:(∀C,e≠ .exit C)→k1 P E.cond base n (sP P none (.block id c)) F h e aW p:=by
     intro b1 S br cJ gB e6 al a w bm ap r Q eI;refine wp_block (t1 S br cJ gB e6 al a w bm ap r _ fun bN cG bC dY fL=> ?_);have:=eI bN cG bC dY fL;cases e with
     |exit C=>exact absurd rfl (b1 C)
     |_=>exact this
    cases e with
    |exit C =>
     refine⟨_,aW,p,eA,?_,ac⟩;intro S br cJ gB e6 al a w bm ap r Q eI;refine wp_block (t1 S br cJ gB e6 al a w bm ap r _ fun bN cG bC dY fL=> ?_);have:=eI bN cG bC dY fL;simp only [wD,Exit.inBlock];rcases nS C id with ⟨aV,j9⟩|⟨aV,j9⟩
     ·rw [j9,cond_true]at this;rw [if_pos aV];exact this
     ·rw [j9,cond_false]at this;rw [if_neg aV];exact this
    |normal=>exact⟨_,aW,p,eA,pass (fun C=>by simp),ac⟩
    |goto l=>exact⟨_,aW,p,eA,pass (fun C=>by simp),ac⟩
    |ret=>exact⟨_,aW,p,eA,pass (fun C=>by simp),ac⟩
   case loop c =>
    simp only [hA]at ac;split at ac
    ·rename_i l aW p bn fT;have ae:k1 P E.cond base n (sP P none (.loop c)) (p0 F l) h bn aW p:=ac.1;exact⟨_,_,_,_,ae.pre (eV.facts fun t v bg=>wS bg),ac.2⟩
    ·exact⟨_,_,_,_,ac.1,ac.2⟩
    ·rename_i m r
     have key:∀(m:Nat)(F:bP)(h:j)(an:dk),Au (fun F h an K=>hA P E S (cx P E.cond) k base n none c F h an K) K m F h an→ ∃e eB aa ez,cN P E.cond base n c F h e eB aa∧K e eB aa ez:=by
      intro m;induction m with
      |zero=>intro F h an ac;exact ac.elim
      |succ m UI =>
       intro F h an ac;simp only [Au]at ac;obtain⟨e,aW,p,eA,t1,ac⟩:=ih none c F h an ac;cases e with
       |normal =>
        obtain⟨bs,nT,ad,w3,t2,ac⟩:=UI aW p eA ac;exact⟨bs,nT,ad,w3,cN.step t1 t2,ac⟩
       |exit C=>exact⟨_,aW,p,eA,cN.last (by simp) t1,ac⟩
       |goto C=>exact⟨_,aW,p,eA,cN.last (by simp) t1,ac⟩
       |ret=>exact⟨_,aW,p,eA,cN.last (by simp) t1,ac⟩
     obtain⟨e,eB,aa,ez,t,dj⟩:=key m F h r ac;exact⟨e,eB,aa,ez,cx.gL t,dj⟩
    ·rename_i I y uF;by_cases aD:I
     ·exact ih none (.loop c) F h y (ac.1 aD)
     ·exact ih none (.loop c) F h uF (ac.2 aD)
    ·rename_i α I f;obtain⟨⟨x,ae⟩,ac⟩:=ac;exact ih none (.loop c) F h (f x) (ac x ae)
    ·exact ac.elim
   case scope c =>
    simp only [hA]at ac;obtain⟨e,aW,p,eA,t1,ac⟩:=ih (some c) c F h an ac;refine⟨e,aW,p,eA,?_,ac⟩;intro S br cJ gB e6 al a w bm ap r Q eI;exact KM (t1 S br cJ gB e6 al a w bm ap r Q eI)
   all_goals exact ac.elim
variable(P E S)
def LG(f:FuncId)(args:List o)(h:j)(an:dk)(K:o→j→Prop):Prop :=
 w2 P E (fun b m c F h an K=>hA P E S (cx P E.cond) 1000 b m none c F h an K) f args h an fun v aa _=>K v aa
def UJ(base n:Nat)(c:Code)(F:bP)(h:j)(an:dk)(cs:List Nat)(K:dc→bP→j→Prop):Prop :=
 hA P E S (cx P E.cond) 1000 base n none c F h an fun e eB aa _=>K e (p0 eB cs) aa
variable {P E S}
theorem cb(cH:hv P E)(e4:P.follows .mixedOrders=true)(cJ:eW P E.cond S){f:FuncId}{args:List o}{h:j}{an:dk}{K:o→j→Prop}{I:Prop}(e:LG P E S f args h an K=I)(k:I):∃v aa,aI P E.cond f args h v aa∧K v aa:=by
 rw [←e]at k;unfold LG w2 at k;split at k
 ·rename_i fn a8;split at k
  ·rename_i c au;obtain⟨e,eB,aa,ez,t,aD⟩:=LF cH e4 cJ 1000 none c _ _ _ k;obtain⟨v,aC,dj⟩:=LD cH a8 au t aD;exact⟨v,aa,aC,dj⟩
  ·exact k.elim
 ·exact k.elim
theorem gm(cH:hv P E)(e4:P.follows .mixedOrders=true)(cJ:eW P E.cond S){base n:Nat}{c:Code}{F:bP}{h:j}{an:dk}{cs:List Nat}{K:dc→bP→j→Prop}{I:Prop}(e:UJ P E S base n c F h an cs K=I)(k:I) :
 ∃e eB aa,cx P E.cond base n c F h e eB aa∧K e eB aa:=by
 rw [←e]at k;obtain⟨e,eB,aa,ez,t,aD⟩:=LF cH e4 cJ 1000 none c _ _ _ k;exact⟨e,_,aa,t.post (eV.facts (bP.Um _ _)),aD⟩
end
end
end Go.cM
namespace Go.cM
abbrev ag(n:Nat)(r:dk):dk:= .aA (.go n) r
abbrev he(n:Nat)(r:dk):dk:= .aA (.enter n) r
abbrev afR(a b x:Int):Prop:=a≤x∧x≤b
abbrev bF(a b:Nat)(I:Prop):Prop:=bif Nat.ble a b&&true then I else False
abbrev bK(a b:Nat)(I:Prop):Prop:=bif Nat.ble a b then I else False
end Go.cM
namespace Go.cM
noncomputable section
open Go.RowKit
mutual
theorem o.Av{D:Nat→Prop}{r:Nat→Nat}(h:∀i,D i→r i=i):∀{v:o},cA D v→v.bc r=v
 |.ptr (some a),k=>by simp only [cA]at k;simp only [o.bc,bG.bc,h _ k]
 |.slice (some a) _ _,k=>by simp only [cA]at k;simp only [o.bc,bG.bc,h _ k]
 |.func fn f c,k=>by simp only [cA]at k;simp only [o.bc,o.w4 h k.1,o.w4 h k.2]
 |.iface t v,k=>by simp only [cA]at k;simp only [o.bc,o.Av h k]
 |.agg bp,k=>by simp only [cA]at k;simp only [o.bc,o.w4 h k]
 |.tuple ci,k=>by simp only [cA]at k;simp only [o.bc,o.w4 h k]
 |.undef,_=>rfl
 |.bool _,_=>rfl
 |.int _ _,_=>rfl
 |.str _,_=>rfl
 |.ptr none,_=>rfl
 |.slice none _ _,_=>rfl
 |.nilFunc,_=>rfl
 |.nilIface,_=>rfl
theorem o.w4{D:Nat→Prop}{r:Nat→Nat}(h:∀i,D i→r i=i):∀{l:List o},fw D l→o.gK r l=l
 |[],_=>rfl
 |a::l,k=>by simp only [fw]at k;simp only [o.gK,o.Av h k.1,o.w4 h k.2]
end
def Aw(D:Nat→Prop)(b:R):Prop:= ∀e∈b.bi,cA D e
theorem aI.closed{P:Program}{cf:(Nat→Prop)→World→Prop}[j7 cf]{f:FuncId}{args:List o}{aa:j}{v:o}{l c5:List R}(k:aI P cf f args (j.of l) v aa)(hlen:c5.length=l.length)(e0:(List.range c5.length).map aa.get=c5.map some)(bg:cR v)
 (av:∀b∈c5,Aw (fun i=>i<c5.length) b):aI P cf f args (j.of l) v (j.of c5):=by
 have mg:(hy 0 c5).map (·.1)=List.range c5.length:=by rw [EV,List.range_eq_range']
 rw [j.Lo c5];refine k.Ll (fun i=>i) v c5.length (hy 0 c5) ?_ (bg.1 _).symm ?_ ?_ ?_ ?_ (Nat.ble_eq.mpr ?_) (bg.e1 _) ?_
 ·have p:(hy 0 c5).map (fun I=>aa.get I.1)=((hy 0 c5).map (·.1)).map aa.get:=by rw [List.map_map];rfl
  have ad:(hy 0 c5).map (fun I=>some (I.2.bc fun i=>i))=((hy 0 c5).map (·.2)).map some:=by rw [List.map_map];exact List.map_congr_left fun I _=>by rw [R.sS];rfl
  rw [p,ad,mg,wY,e0]
 ·rw [List.all_eq_true];intro I ac;have:I.1∈(hy 0 c5).map (·.1):=List.mem_map.2 ⟨I,ac,rfl⟩;rw [mg]at this;exact Nat.blt_eq.mpr (List.mem_range.1 this)
 ·rw [mg];rw [List.map_id'];exact List.nodup_range
 ·rw [List.all_eq_true,j.of_next];intro i ak;have ak:=List.mem_range.1 ak;rw [mg,Bool.and_eq_true];exact⟨by simp;omega,beq_true rfl⟩
 ·rw [List.all_eq_true,j.of_next];intro I ac;have:I.1∈(hy 0 c5).map (·.1):=List.mem_map.2 ⟨I,ac,rfl⟩;rw [mg]at this;have cQ:=List.mem_range.1 this;rw [Bool.or_eq_true];exact .inl (Nat.blt_eq.mpr (by omega))
 ·rw [j.of_next];omega
 ·rw [mg]
  have:∀(q:List (Nat×R)),(∀I∈q,Aw (fun i=>i<c5.length) I.2)→bZ (q.map fun I=> ∀e∈I.2.bi,cA (cL (List.range c5.length)) e):=by
   intro q;induction q with
   |nil=>intro _;exact bZ.nil
   |cons I r ih =>
    intro aD;exact bZ.cons (fun e he=>cA.mono (fun i ak=>List.mem_range.2 ak) (aD I (by simp) e he)) (ih fun I ac=>aD I (by simp [ac]))
  refine this _ fun I ac=>av I.2 ?_
  have:I.2∈(hy 0 c5).map (·.2):=List.mem_map.2 ⟨I,ac,rfl⟩
  rwa [wY]at this
end
end Go.cM
namespace Go.cM
noncomputable section
open Go.RowKit
def LH:List (Nat×R)→Option R
 |[]=>none
 |(k,b)::r=>_root_.cond (Nat.beq k 0) (some b) (LH r)
def w5(ab:Nat):List (Nat×R)→List (Nat×R)
 |[]=> []
 |(k,b)::r=>_root_.cond (Nat.beq k 0) (w5 ab r) (_root_.cond (Nat.beq (Nat.mod k 2) ab) (((k- (2-ab))/2,b)::w5 ab r) (w5 ab r))
def ofLT:Nat→List (Nat×R)→aU R
 |_,[]=> .nil
 |0,_=> .nil
 |d+1,l=> .node (LH l) (ofLT d (w5 1 l)) (ofLT d (w5 0 l))
def j.ar(n:Nat)(l:List (Nat×R)):j:=⟨n,ofLT 20 l⟩
def j.lay(H:j)(n:Nat)(l:List (Nat×R)):j:=l.foldl (fun h I=>h.set I.1 I.2) {H with next:=n}
theorem UK(l:List (Nat×R)):∀(h:j),(l.map (·.1)).Nodup→ ∀I∈l,(l.foldl (fun h I=>h.set I.1 I.2) h).get I.1=some I.2:=by
 induction l with
 |nil=>intro h _ I ac;cases ac
 |cons a r ih =>
  intro h aS I ac;simp only [List.map_cons,List.nodup_cons]at aS;rw [List.foldl_cons];rcases List.mem_cons.1 ac with rfl|ac
  ·have:∀(r:List (Nat×R)) (h:j),I.1 ∉ r.map (·.1)→(r.foldl (fun h I=>h.set I.1 I.2) h).get I.1=h.get I.1:=by
    intro r;induction r with
    |nil=>intro h _;rfl
    |cons b s Em =>
     intro h hm;simp only [List.map_cons,List.mem_cons,not_or]at hm;rw [List.foldl_cons,Em _ hm.2,j.fl _ _ (Ne.symm hm.1)]
   rw [this r _ aS.1,j.hJ]
  ·exact ih _ aS.2 I ac
theorem LI(l:List (Nat×R)):∀(h:j)(i:Nat),i ∉ l.map (·.1)→(l.foldl (fun h I=>h.set I.1 I.2) h).get i=h.get i:=by
 induction l with
 |nil=>intro h i _;rfl
 |cons I r ih =>
  intro h i ak;simp only [List.map_cons,List.mem_cons,not_or]at ak;rw [List.foldl_cons,ih _ i ak.2,j.fl _ _ (Ne.symm ak.1)]
theorem LJ(l:List (Nat×R)):∀(h:j),(l.foldl (fun h I=>h.set I.1 I.2) h).next=h.next:=by
 induction l with
 |nil=>intro h;rfl
 |cons I r ih=>intro h;rw [List.foldl_cons,ih];rfl
theorem sX{ids:List Nat}{n i:Nat}(h:i<ids.length):dJ ids n i=ids[i]:=by simp [dJ,List.getElem?_eq_getElem h]
theorem mY{ids:List Nat}{n i:Nat}(h:ids.length≤i):dJ ids n i=n+(i-ids.length):=by simp [dJ,List.getElem?_eq_none h]
theorem LK{ids:List Nat}{n:Nat}(aS:ids.Nodup)(cQ:∀C∈ids,C<n){i C:Nat}(e:dJ ids n i=dJ ids n C):i=C:=by
 by_cases dG:i<ids.length<;>by_cases ee:C<ids.length
 ·rw [sX dG,sX ee]at e;exact(List.getElem_inj aS).1 e
 ·rw [sX dG,mY (by omega)]at e;have:=cQ _ (List.getElem_mem dG);omega
 ·rw [sX ee,mY (by omega)]at e;have:=cQ _ (List.getElem_mem ee);omega
 ·rw [mY (by omega),mY (by omega)]at e;omega
def aU.gf:aU R→List (Nat×R)
 |.nil=> []
 |.node v l r=>(match v with|some b=> [(0,b)]|none=> [])++((aU.gf l).map fun I=>(2*I.1+1,I.2))++((aU.gf r).map fun I=>(2*I.1+2,I.2))
theorem aU.UL(v:Option R)(l r:aU R)(k:Nat):(aU.node v l r).get k=_root_.cond (Nat.beq k 0) v (_root_.cond (Nat.beq (k%2) 1) (l.get (k/2)) (r.get (k/2-1))):=rfl
theorem aU.Ax:∀(t:aU R)(k:Nat)(b:R),t.get k=some b→(k,b)∈aU.gf t
 |.nil,k,b,h=>by cases h
 |.node v l r,k,b,h=>by
  rw [aU.UL]at h;unfold aU.gf;rcases nS k 0 with ⟨e,dT⟩|⟨e,dT⟩
  ·rw [dT,cond_true]at h;subst h;subst e;simp
  ·rw [dT,cond_false]at h;rcases nS (k%2) 1 with ⟨f,gk⟩|⟨f,gk⟩
   ·rw [gk,cond_true]at h;have:=aU.Ax l _ _ h;refine List.mem_append_left _ (List.mem_append_right _ (List.mem_map.2 ⟨_,this,?_⟩));simp only [Prod.mk.injEq,and_true];omega
   ·rw [gk,cond_false]at h;have:=aU.Ax r _ _ h;refine List.mem_append_right _ (List.mem_map.2 ⟨_,this,?_⟩);simp only [Prod.mk.injEq,and_true];omega
theorem aU.E':∀(t:aU R),((aU.gf t).map (·.1)).Nodup
 |.nil=>List.nodup_nil
 |.node v l r=>by
  unfold aU.gf;have p:=aU.E' l;have ad:=aU.E' r;have m1:(((aU.gf l).map fun I=>(2*I.1+1,I.2)).map (·.1))=((aU.gf l).map (·.1)).map fun k=>2*k+1:=by simp [List.map_map,Function.comp_def]
  have m2:(((aU.gf r).map fun I=>(2*I.1+2,I.2)).map (·.1))=((aU.gf r).map (·.1)).map fun k=>2*k+2:=by simp [List.map_map,Function.comp_def]
  rw [List.map_append,List.map_append,m1,m2]
  have inj:∀(l:List Nat)(c:Nat),l.Nodup→(l.map fun k=>2*k+c).Nodup:=by intro l c az;rw [List.nodup_iff_pairwise_ne,List.pairwise_map];exact List.Pairwise.imp (fun r7 e=>r7 (by omega)) (List.nodup_iff_pairwise_ne.1 az)
  rw [List.nodup_append,List.nodup_append];refine⟨⟨by cases v<;>simp,inj _ _ p,?_⟩,inj _ _ ad,?_⟩
  ·intro a aT b au e;obtain⟨k,_,rfl⟩:=List.mem_map.1 au;cases v with
   |none=>simp at aT
   |some x=>simp at aT;omega
  ·intro a aT b au e;obtain⟨k,_,rfl⟩:=List.mem_map.1 au;rcases List.mem_append.1 aT with aT|aT
   ·cases v with
    |none=>simp at aT
    |some x=>simp at aT;omega
   ·obtain⟨C,_,rfl⟩:=List.mem_map.1 aT;omega
theorem aI.place{P:Program}{cf:(Nat→Prop)→World→Prop}[j7 cf]{f:FuncId}{args:List o}{v:o}{l:List R}{aa:j}(k:aI P cf f args (j.of l) v aa)(lA:l.length≤aa.next)
 (au:∀b∈l,Aw (fun i=>i<l.length) b) (aT:fw (fun i=>i<l.length) args) {H:j} (ids:List Nat) (aS:ids.Nodup) (cQ:∀C∈ids,C<H.next) (hlen:ids.length=l.length)
 (az:∀i b,l[i]? =some b→H.get (dJ ids H.next i)=some (b.bc (dJ ids H.next))) :
 ∃aP,aI P cf f (args.map (o.bc (dJ ids H.next))) H (v.bc (dJ ids H.next)) aP∧aP.next=H.next+(aa.next-l.length)∧(∀i b,aa.get i=some b→aP.get (dJ ids H.next i)=some (b.bc (dJ ids H.next)))∧∀C,C<H.next→C ∉ ids→aP.get C=H.get C:=by
 let c5:=aU.gf aa.aJ
 have h5:(c5.map (·.1)).Nodup:=aU.E' _
 let uF:=aa.next
 let r:=dJ ids H.next
 have iw:∀i C,r i=r C→i=C:=fun i C e=>LK aS cQ e
 let m:List (Nat×R):=c5.map fun I=>(r I.1,I.2.bc r)
 have LL:m.map (·.1)=(c5.map (·.1)).map r:=by simp [m,List.map_map,Function.comp_def]
 have UM:(m.map (·.1)).Nodup:=by rw [LL,List.nodup_iff_pairwise_ne,List.pairwise_map];exact List.Pairwise.imp (fun r7 e=>r7 (iw _ _ e)) (List.nodup_iff_pairwise_ne.1 h5)
 have e0:∀I∈c5,(H.lay (H.next+(uF-l.length)) m).get (r I.1)=some (I.2.bc r):=by intro I ac;exact UK m _ UM (r I.1,I.2.bc r) (List.mem_map.2 ⟨I,ac,rfl⟩)
 have LM:∀C,C<H.next→(∀i,i<l.length→r i≠C)→C ∉ m.map (·.1):=by
  intro C aV b1 hm;rw [LL]at hm;obtain⟨i,_,e⟩:=List.mem_map.1 hm;by_cases c:i<l.length
  ·exact b1 i c e
  ·have:r i=H.next+(i-ids.length):=mY (by omega)
   omega
 refine⟨H.lay (H.next+(uF-l.length)) m,k.frame (r:=r) ⟨?_,?_,?_⟩ ?_ ?_ ?_ ?_ ?_,?_,fun i b ag=>e0 (i,b) (aU.Ax _ _ _ ag),?_⟩
 ·intro i b ag;rw [j.e3]at ag;exact⟨by rw [j.of_next];exact(List.getElem?_eq_some_iff.1 ag).1,az i b ag⟩
 ·intro i C _ _ e;exact iw i C e
 ·intro i b ag e he;rw [j.e3]at ag;exact cA.mono (fun i ak=>j.uB.2 ak) (au b (List.mem_of_getElem? ag) e he)
 ·exact fw.mono (fun i ak=>j.uB.2 ak) aT
 ·intro i ak;rw [j.of_next]at ak;rw [j.of_next,←hlen];exact mY (by omega)
 ·intro i b ag _;exact e0 (i,b) (aU.Ax _ _ _ ag)
 ·rw [j.of_next];unfold j.lay;rw [LJ]
 ·intro C aV b1;unfold j.lay;rw [LI _ _ _ (LM C aV fun i ak=>b1 i (j.uB.2 ak))];rfl
 ·unfold j.lay;rw [LJ]
 ·intro C aV hm;unfold j.lay;rw [LI _ _ _ (LM C aV fun i ak e=>hm (by rw [←e];show dJ ids H.next i∈ids;rw [sX (by omega)];exact List.getElem_mem _))];rfl
theorem aI.less{P:Program}{cf:(Nat→Prop)→World→Prop}{f:FuncId}{args:List o}{h ad aa:j}{v:o}(k:aI P cf f args ad v aa)(aS:h.next≤ad.next)(ag:∀i,i<h.next→ad.get i=h.get i):aI P cf f args h v aa :=
 fun S br cJ gB al w dF eU cE ed=>by obtain⟨g1,g2⟩:=k S br cJ gB al w dF (eU.more aS ag) cE ed;exact⟨g1,g2.mono fun e bC ⟨bt,bN,ao,a2,a3,a4,a5,mh⟩=>⟨bt,bN,ao,a2.mono aS,a3,a4,a5,Nat.le_trans aS mh⟩⟩
theorem aI.fm{P:Program}{cf:(Nat→Prop)→World→Prop}[j7 cf]{f:FuncId}{args:List o}{v:o}(k:∃v1 p,aI P cf f args ⟨0,.nil⟩ v1 p∧v1=v)(aT:o.o3 args=true)(bg:v.nU=true)(H:j):aI P cf f args H v H:=by
 obtain⟨v1,p,aC,rfl⟩:=k
 have gH:∀{l:List o},o.o3 l=true→ ∀a∈l,cR a:=by
  intro l;induction l with
  |nil=>intro _ a aT;cases aT
  |cons x r ih =>
   intro az a aT;simp only [o.o3,Bool.and_eq_true]at az;rcases List.mem_cons.1 aT with rfl|hm
   ·exact cR.of az.1
   ·exact ih az.2 a hm
 exact aC.bare (gH aT) (cR.of bg) H
def kA(g:List o→Option (o×List Prop)):List o→j→Option eC:=fun args h=>match g args with|some (v,e5)=>some (.one v h e5)|none=>none
theorem lE{P:Program}{cf:(Nat→Prop)→World→Prop}{f:FuncId}{g:List o→Option (o×List Prop)}(k:∀args v e5,g args=some (v,e5)→bZ e5→ ∀H,aI P cf f args H v H):∀args h a,kA g args h=some a→a.dw P cf f args h:=by
 intro args h a e;unfold kA at e;split at e
 ·rename_i u afS hu;simp only [Option.some.injEq]at e;subst e;exact fun ac=>k _ _ _ hu ac h
 ·cases e
end
end Go.cM
namespace Go.Keys
abbrev Bytes:=List UInt8
def lead(b:Nat):Nat×Nat×Nat :=
 if b<128 then(1,0,0)
 else if 194≤b∧b≤223 then(2,128,191)
 else if b=224 then(3,160,191)
 else if b=237 then(3,128,159)
 else if 225≤b∧b≤239 then(3,128,191)
 else if b=240 then(4,144,191)
 else if 241≤b∧b≤243 then(4,128,191)
 else if b=244 then(4,128,143)
 else(0,0,0)
def tail:Nat→Nat→Nat→Nat→Nat→Bytes→Nat×Nat×Bool
 |0,i,_,_,v,_=>(v,i,false)
 |_+1,i,_,_,_,[]=>(65533,i,true)
 |k+1,i,a1,ak,v,c::r=>if c.toNat<a1∨ak<c.toNat then(65533,i,false)else tail k (i+1) 128 191 (v*64+c.toNat%64) r
def first:Bytes→Nat×Nat×Bool
 |[]=>(0,0,false)
 |b::r =>
  if(lead b.toNat).1=0 then(65533,1,false)
  else if(lead b.toNat).1=1 then(b.toNat,1,false)
  else tail ((lead b.toNat).1-1) 1 (lead b.toNat).2.1 (lead b.toNat).2.2 (b.toNat%2^(7- (lead b.toNat).1)) r
structure bj where
 kind:Int
 code:Int:=0
 dW:Int:=0
 x:Int:=0
 y:Int:=0
 text:Bytes:=[]
 deriving DecidableEq
theorem LN(b:Nat):(lead b).1≤4:=by
 unfold lead
 repeat' split
 all_goals simp
end Go.Keys
namespace Go.Keys
def js:Nat→Bytes→List Nat
 |0,_=> []
 |_+1,[]=> []
 |k+1,s=>(first s).1::js k (s.drop (first s).2.1)
def eJ(s:Bytes):List Nat:=js s.length s
def u8(n:Nat):UInt8:=UInt8.ofNat n
def put(r:Nat):Bytes :=
 let r:=if 55296≤r∧r≤57343∨1114111<r then 65533 else r
 if r<128 then [u8 r]
 else if r<2048 then [u8 (192+r/64),u8 (128+r%64)]
 else if r<65536 then [u8 (224+r/4096),u8 (128+r/64%64),u8 (128+r%64)]
 else [u8 (240+r/262144),u8 (128+r/4096%64),u8 (128+r/64%64),u8 (128+r%64)]
def gn(l:List Nat):Bytes:=l.flatMap put
def valid(s:Bytes):Bool:=gn (eJ s) == s
def hB:Nat→Bytes→List Nat×Bytes
 |0,_=>([],[])
 |_+1,[]=>([],[])
 |k+1,b::r =>
  if(first (b::r)).2.2 then([],b::r)
  else((first (b::r)).1::(hB k ((b::r).drop (first (b::r)).2.1)).1,(hB k ((b::r).drop (first (b::r)).2.1)).2)
def cl(hold:Bytes)(c:UInt8):List Nat×Bytes:=hB (hold.length+1) (hold++[c])
inductive mZ where
 |ground|du|dd|sequence|single|cW
 deriving DecidableEq
structure bO where
 cp:mZ:= .ground
 kept:Bytes:=[]
 hold:Bytes:=[]
 aB:Bytes:=[]
 deriving DecidableEq
def eR(c:Int)(m:Int:=0):bj:= {kind:=2,code:=c,dW:=m}
def fe(c:Int)(m:Int:=0):bj:= {kind:=1,code:=c,dW:=m}
def gV(s:Bytes):bj:= {kind:=7,text:=s}
def control(c:Nat):bj :=
 if c=13 then eR 1 else if c=9 then eR 2 else if c=127 then eR 3 else if c=0 then fe 32 4
 else if c<27 then fe (c+96) 4 else fe (c+64) 4
def tell(s:bO)(e:bj):bO×List bj:=({s with kept:=[],cp:= .ground},[e])
def at'(kept:Bytes):Nat:=match kept with|b::_=>if b=27 then 1 else 0 | []=>0
def gD(s:bO)(c:UInt8)(no:bO→bO×List bj):bO×List bj :=
 let l:=(cl s.hold c).1
 let s1:= {s with hold:=(cl s.hold c).2,cp:= .dd}
 if s1.hold≠[]∧l=[]then({s1 with kept:=s.kept++[c]},[])
 else if l.length=1∧s.kept.length=at' s.kept∨valid (s.kept.drop (at' s.kept)++[c])=true then
  if valid ((s.kept++[c]).drop (at' s.kept))=true then tell s1 (fe (l.headD 0) (2*at' s.kept))
  else tell s1 (gV (s.kept++[c]))
 else no {s1 with hold:=[]}
def ix(s:bO)(c:UInt8)(no:bO→bO×List bj):bO×List bj :=
 if c.toNat<32∨c.toNat=127 then tell s (if s.kept=[]then control c.toNat else {control c.toNat with dW:=(control c.toNat).dW+2})
 else gD s c no
def ground(s:bO)(c:UInt8):bO×List bj :=
 if c=27 then({s with kept:=[27],cp:= .du},[])
 else ix s c fun s1=>tell s1 (gV s1.kept)
def bad(s:bO)(c:UInt8):bO×List bj :=
 ((ground (tell s (gV s.kept)).1 c).1,gV s.kept::(ground (tell s (gV s.kept)).1 c).2)
def dd(s:bO)(c:UInt8):bO×List bj:=gD s c fun s1=>bad s1 c
def plain(s:bO)(c:UInt8):bO×List bj:=ix s c fun s1=>bad s1 c
def du(s:bO)(c:UInt8):bO×List bj :=
 if c=27 then((ground (tell s (eR 4)).1 c).1,eR 4::(ground (tell s (eR 4)).1 c).2)
 else if c=91 then({s with kept:=s.kept++[c],cp:= .sequence},[])
 else if c=79 then({s with kept:=s.kept++[c],cp:= .single},[])
 else plain s c
def gE(c:Nat):Int :=
 if 65≤c∧c≤68 then 5+(c-65)else if c=72 then 9 else if c=70 then 10 else 0
def single(s:bO)(c:UInt8):bO×List bj :=
 if 0<gE c.toNat then tell s (eR (gE c.toNat))
 else if 80≤c.toNat∧c.toNat≤83 then tell s (eR (21+(c.toNat-80)))
 else if c.toNat=77 then tell s (eR 1)
 else((ground (tell s (fe 79 2)).1 c).1,fe 79 2::(ground (tell s (fe 79 2)).1 c).2)
def splitAt(sep:UInt8):Bytes→List Bytes
 |[]=> [[]]
 |b::r=>if b=sep then []::splitAt sep r else match splitAt sep r with|w::t=>(b::w)::t | []=> [[b]]
def digit(b:UInt8):Bool:=decide (48≤b.toNat)&&decide (b.toNat≤57)
def number(w:Bytes):Nat:=w.foldl (fun n b=>10*n+(b.toNat-48)) 0
def lF:List Bytes→Option (List Nat)
 |[]=>some []
 |w::r=>if w=[]∨9<w.length∨w.all digit=false then none else(lF r).map (number w:: ·)
def numbers(words:Bytes):Option (List Nat):=if words=[]then some []else lF (splitAt 59 words)
def iI(n:Nat):Int :=
 if n=1∨n=7 then 9 else if n=4∨n=8 then 10 else if n=2∨n=3 then 11+((n:Int)-2)else if n=5∨n=6 then 13+((n:Int)-5)
 else if 11≤n∧n≤15 then 21+((n:Int)-11)else if 17≤n∧n≤21 then 21+((n:Int)-12)else if n=23∨n=24 then 21+((n:Int)-13)else 0
def shown(r:Int):Bool:=decide (32≤r)&&decide (r≠127)&&decide (r≤1114111)&&(decide (r<55296) || decide (57343<r))
def dM(c:Nat)(m:Int):Option bj :=
 if c=13 then some (eR 1 m)else if c=9 then some (eR 2 m)else if c=127 then some (eR 3 m)else if c=27 then some (eR 4 m)
 else if 2097152<c∨shown c=false then none else some (fe c m)
def e9(words:Bytes)(c:Nat):Option bj :=
 match words with
 |60 ::rest =>
  match numbers rest with
  |some [aj,a6,aO] =>
   let held:=aj/4%8
   let b:=aj-4*held
   if a6<1∨4096<a6∨aO<1∨4096<aO then none
   else
    let e:bj:= {kind:=3,dW:=held,x:=(a6:Int)-1,y:=(aO:Int)-1}
    if c=109∧b≤3 then some {e with code:=3}
    else if c=77∧b≤2 then some {e with code:=b}
    else if c=77∧32≤b∧b≤35 then some {e with code:=6}
    else if c=77∧b=64 then some {e with code:=4}
    else if c=77∧b=65 then some {e with code:=5}
    else none
  |_=>none
 |_=>none
def told(words:Bytes)(c:UInt8):Option bj :=
 if c=82∨c=99∨c=110 then some {kind:=6,text:=words++[c]}
 else if c=77∨c=109 then e9 words c.toNat
 else
  match numbers words with
  |none=>none
  |some [] =>
   if c=90 then some (eR 2 1)else if c=73 then some {kind:=5,code:=1} else if c=79 then some {kind:=5}
   else if 0<gE c.toNat then some (eR (gE c.toNat))else none
  |some (aj::r) =>
   let m:=match r with | [x]=>x|_=>1
   if 1<r.length∨m<1∨8<m then none
   else if 0<gE c.toNat∧aj=1∧r.length=1 then some (eR (gE c.toNat) ((m:Int)-1))
   else if c=126∧0<iI aj then some (eR (iI aj) ((m:Int)-1))
   else if c=117 then dM aj ((m:Int)-1)
   else none
def j'(words:Bytes):Bool:=words ==[50,48,48] || (words.dropWhile (· == 48) ==[50,48,48]&&decide (words.length≤9))
def done(s:bO)(words:Bytes)(c:UInt8):bO×List bj :=
 if c=126∧j' words=true then({s with kept:=[],cp:= .cW},[])
 else tell s ((told words c).getD (gV s.kept))
def sequence(s:bO)(c:UInt8):bO×List bj :=
 if 64≤c.toNat∧c.toNat≤126 then done {s with kept:=s.kept++[c]} (s.kept.drop 2) c
 else if c.toNat<32∨63<c.toNat∨48≤c.toNat∧(s.kept.getLastD 0).toNat<48 then bad s c
 else if s.kept.length+1=64 then tell {s with kept:=s.kept++[c]} (gV (s.kept++[c]))
 else({s with kept:=s.kept++[c]},[])
def ea:Bytes:=[27,91,50,48,49,126]
def shift:Nat→Bytes→Bytes→Bytes×Bytes
 |0,kept,aB=>(kept,aB)
 |_+1,[],aB=>([],aB)
 |k+1,b::r,aB=>if(b::r).isPrefixOf ea then(b::r,aB)else shift k r (if aB.length<65536 then aB++[b]else aB)
def cW(s:bO)(c:UInt8):bO×List bj :=
 let I:=shift (s.kept.length+1) (s.kept++[c]) s.aB
 if I.1.length=6 then tell {s with kept:=I.1,aB:=[]} {kind:=4,text:=I.2}
 else({s with kept:=I.1,aB:=I.2},[])
def step(s:bO)(c:UInt8):bO×List bj :=
 match s.cp with
 |.ground=>ground s c
 |.du=>du s c
 |.dd=>dd s c
 |.sequence=>sequence s c
 |.single=>single s c
 |.cW=>cW s c
def dh:bO→Bytes→bO×List bj
 |s,[]=>(s,[])
 |s,c::r=>((dh (step s c).1 r).1,(step s c).2++(dh (step s c).1 r).2)
theorem w6(s:bO)(a b:Bytes):dh s (a++b)=((dh (dh s a).1 b).1,(dh s a).2++(dh (dh s a).1 b).2):=by
 induction a generalizing s with
 |nil=>simp [dh]
 |cons c r ih=>simp only [List.cons_append,dh,ih,List.append_assoc]
def held(s:bO):Nat:=s.aB.length+s.kept.length
def flush(s:bO):bO×List bj :=
 if s.cp=.cW∨s.kept=[]then(s,[])
 else if s.kept=[27]then tell {s with hold:=[]} (eR 4)
 else if s.kept=[27,91]∨s.kept=[27,79]then tell {s with hold:=[]} (fe ((s.kept.getD 1 0).toNat) 2)
 else tell {s with hold:=[]} (gV s.kept)
end Go.Keys
namespace Go.Proofs.YtddnafghiejcoaaGreatDoor
open Go.cM Go.Keys
set_option maxRecDepth 1000000
theorem UN(b:Int)(U:o→j→Prop)(aY:(b<128→U (o.tuple [o.int .i64 (1),o.int .u8 (0),o.int .u8 (0)]) (j.ar 9 []))∧(¬b<128→(194≤b→(b≤223→U (o.tuple [o.int .i64 (2),o.int .u8 (128),o.int .u8 (191)]) (j.ar 16 []))∧(¬b≤223→(b=224→U (o.tuple [o.int .i64 (3),o.int .u8 (160),o.int .u8 (191)]) (j.ar 19 []))∧(¬b=224→(b=237→U (o.tuple [o.int .i64 (3),o.int .u8 (128),o.int .u8 (159)]) (j.ar 22 []))∧(¬b=237→(225≤b→(b≤239→U (o.tuple [o.int .i64 (3),o.int .u8 (128),o.int .u8 (191)]) (j.ar 29 []))∧(¬b≤239→(b=240→U (o.tuple [o.int .i64 (4),o.int .u8 (144),o.int .u8 (191)]) (j.ar 32 []))∧(¬b=240→(241≤b→(b≤243→U (o.tuple [o.int .i64 (4),o.int .u8 (128),o.int .u8 (191)]) (j.ar 39 []))∧(¬b≤243→(b=244→U (o.tuple [o.int .i64 (4),o.int .u8 (128),o.int .u8 (143)]) (j.ar 42 []))∧(¬b=244→U (o.tuple [o.int .i64 (0),o.int .u8 (0),o.int .u8 (0)]) (j.ar 42 []))))∧(¬241≤b→(b=244→U (o.tuple [o.int .i64 (4),o.int .u8 (128),o.int .u8 (143)]) (j.ar 42 []))∧(¬b=244→U (o.tuple [o.int .i64 (0),o.int .u8 (0),o.int .u8 (0)]) (j.ar 42 []))))))∧(¬225≤b→(b=240→U (o.tuple [o.int .i64 (4),o.int .u8 (144),o.int .u8 (191)]) (j.ar 32 []))∧(¬b=240→(241≤b→(b≤243→U (o.tuple [o.int .i64 (4),o.int .u8 (128),o.int .u8 (191)]) (j.ar 39 []))∧(¬b≤243→(b=244→U (o.tuple [o.int .i64 (4),o.int .u8 (128),o.int .u8 (143)]) (j.ar 42 []))∧(¬b=244→U (o.tuple [o.int .i64 (0),o.int .u8 (0),o.int .u8 (0)]) (j.ar 42 []))))∧(¬241≤b→(b=244→U (o.tuple [o.int .i64 (4),o.int .u8 (128),o.int .u8 (143)]) (j.ar 42 []))∧(¬b=244→U (o.tuple [o.int .i64 (0),o.int .u8 (0),o.int .u8 (0)]) (j.ar 42 [])))))))))∧(¬194≤b→(b=224→U (o.tuple [o.int .i64 (3),o.int .u8 (160),o.int .u8 (191)]) (j.ar 19 []))∧(¬b=224→(b=237→U (o.tuple [o.int .i64 (3),o.int .u8 (128),o.int .u8 (159)]) (j.ar 22 []))∧(¬b=237→(225≤b→(b≤239→U (o.tuple [o.int .i64 (3),o.int .u8 (128),o.int .u8 (191)]) (j.ar 29 []))∧(¬b≤239→(b=240→U (o.tuple [o.int .i64 (4),o.int .u8 (144),o.int .u8 (191)]) (j.ar 32 []))∧(¬b=240→(241≤b→(b≤243→U (o.tuple [o.int .i64 (4),o.int .u8 (128),o.int .u8 (191)]) (j.ar 39 []))∧(¬b≤243→(b=244→U (o.tuple [o.int .i64 (4),o.int .u8 (128),o.int .u8 (143)]) (j.ar 42 []))∧(¬b=244→U (o.tuple [o.int .i64 (0),o.int .u8 (0),o.int .u8 (0)]) (j.ar 42 []))))∧(¬241≤b→(b=244→U (o.tuple [o.int .i64 (4),o.int .u8 (128),o.int .u8 (143)]) (j.ar 42 []))∧(¬b=244→U (o.tuple [o.int .i64 (0),o.int .u8 (0),o.int .u8 (0)]) (j.ar 42 []))))))∧(¬225≤b→(b=240→U (o.tuple [o.int .i64 (4),o.int .u8 (144),o.int .u8 (191)]) (j.ar 32 []))∧(¬b=240→(241≤b→(b≤243→U (o.tuple [o.int .i64 (4),o.int .u8 (128),o.int .u8 (191)]) (j.ar 39 []))∧(¬b≤243→(b=244→U (o.tuple [o.int .i64 (4),o.int .u8 (128),o.int .u8 (143)]) (j.ar 42 []))∧(¬b=244→U (o.tuple [o.int .i64 (0),o.int .u8 (0),o.int .u8 (0)]) (j.ar 42 []))))∧(¬241≤b→(b=244→U (o.tuple [o.int .i64 (4),o.int .u8 (128),o.int .u8 (143)]) (j.ar 42 []))∧(¬b=244→U (o.tuple [o.int .i64 (0),o.int .u8 (0),o.int .u8 (0)]) (j.ar 42 [])))))))))) :
 ∃v p,aI Tryz.prog aw 99 [.int .u8 b] (⟨0,.nil⟩) v p∧U v p :=
 cb bQ mixed gU (an:= .aK 1001 .nil (.aK 3001 (.aK 3004 .nil (.aK 5001 .nil (.aK 7001 .nil (.aK 9001 (.aK 9004 .nil (.aK 11001 .nil (.aK 13001 (.aK 13004 .nil (.aK 15001 .nil .nil)) (.aK 15001 .nil .nil)))) (.aK 11001 .nil (.aK 13001 (.aK 13004 .nil (.aK 15001 .nil .nil)) (.aK 15001 .nil .nil))))))) (.aK 5001 .nil (.aK 7001 .nil (.aK 9001 (.aK 9004 .nil (.aK 11001 .nil (.aK 13001 (.aK 13004 .nil (.aK 15001 .nil .nil)) (.aK 15001 .nil .nil)))) (.aK 11001 .nil (.aK 13001 (.aK 13004 .nil (.aK 15001 .nil .nil)) (.aK 15001 .nil .nil)))))))) (by kernel_rfl) aY
def dq(b:Int):Int×Int×Int :=
 if b<128 then(1,0,0)else if 194≤b∧b≤223 then(2,128,191)else if b=224 then(3,160,191)else if b=237 then(3,128,159)else if 225≤b∧b≤239 then(3,128,191)
 else if b=240 then(4,144,191)else if 241≤b∧b≤243 then(4,128,191)else if b=244 then(4,128,143)else(0,0,0)
def nV(b:Int):o:= .tuple [.int .i64 (dq b).1,.int .u8 (dq b).2.1,.int .u8 (dq b).2.2]
theorem UO(b x y z:Int)(h:dq b=(x,y,z)):o.tuple [.int .i64 x,.int .u8 y,.int .u8 z]=nV b:=by unfold nV;rw [h]
theorem rj(b:Int)(H:j):aI Tryz.prog aw 99 [.int .u8 b] H (nV b) H:=by
 refine aI.fm (UN b (fun v _=>v=nV b) ?_) rfl rfl H
 repeat' (first|apply And.intro|intro _)
 all_goals (refine UO _ _ _ _ ?_;unfold dq;repeat' split)
 all_goals first|rfl|omega
theorem UP(c:Int)(U:o→j→Prop)(aY:(c=65→(0≤c-65∧c-65≤255)∧(-2147483648≤c-65∧c-65≤2147483647)∧(-2147483648≤5+(c-65)∧5+(c-65)≤2147483647)∧U (o.int .i32 (5+(c-65))) (j.ar 9 []))∧(¬c=65→(c=66→(0≤c-65∧c-65≤255)∧(-2147483648≤c-65∧c-65≤2147483647)∧(-2147483648≤5+(c-65)∧5+(c-65)≤2147483647)∧U (o.int .i32 (5+(c-65))) (j.ar 11 []))∧(¬c=66→(c=67→(0≤c-65∧c-65≤255)∧(-2147483648≤c-65∧c-65≤2147483647)∧(-2147483648≤5+(c-65)∧5+(c-65)≤2147483647)∧U (o.int .i32 (5+(c-65))) (j.ar 13 []))∧(¬c=67→(c=68→(0≤c-65∧c-65≤255)∧(-2147483648≤c-65∧c-65≤2147483647)∧(-2147483648≤5+(c-65)∧5+(c-65)≤2147483647)∧U (o.int .i32 (5+(c-65))) (j.ar 15 []))∧(¬c=68→(c=72→U (o.int .i32 (9)) (j.ar 13 []))∧(¬c=72→(c=70→U (o.int .i32 (10)) (j.ar 15 []))∧(¬c=70→U (o.int .i32 (0)) (j.ar 15 [])))))))) :
 ∃v p,aI Tryz.prog aw 71 [.int .u8 c] (⟨0,.nil⟩) v p∧U v p :=
 cb bQ mixed gU (an:= .aK 2000 (.aA (.go 6001) (.aA (.go 6002) (.aA (.go 6003) .nil))) (.aK 3000 (.aA (.go 6001) (.aA (.go 6002) (.aA (.go 6003) .nil))) (.aK 4000 (.aA (.go 6001) (.aA (.go 6002) (.aA (.go 6003) .nil))) (.aK 5000 (.aA (.go 6001) (.aA (.go 6002) (.aA (.go 6003) .nil))) (.aK 7000 .nil (.aK 9000 .nil .nil)))))) (by kernel_rfl) aY
def hi(c:Int):Int:=if 65≤c∧c≤68 then 5+(c-65)else if c=72 then 9 else if c=70 then 10 else 0
theorem UQ(c:Int)(H:j):aI Tryz.prog aw 71 [.int .u8 c] H (.int .i32 (hi c)) H:=by
 refine aI.fm (UP c (fun v _=>v=.int .i32 (hi c)) ?_) rfl rfl H
 repeat' (first|apply And.intro|intro _)
 all_goals first
  |omega
  |(refine congrArg (o.int .i32) ?_;unfold hi;repeat' split)
 all_goals omega
theorem UR(n:Int)(U:o→j→Prop)(aY:(n=1→U (o.int .i32 (9)) (j.ar 9 []))∧(¬n=1→(n=7→U (o.int .i32 (9)) (j.ar 9 []))∧(¬n=7→(n=4→U (o.int .i32 (10)) (j.ar 16 []))∧(¬n=4→(n=8→U (o.int .i32 (10)) (j.ar 16 []))∧(¬n=8→(n=2→(-9223372036854775808≤n-2∧n-2≤9223372036854775807)∧(-2147483648≤n-2∧n-2≤2147483647)∧(-2147483648≤11+(n-2)∧11+(n-2)≤2147483647)∧U (o.int .i32 (11+(n-2))) (j.ar 27 []))∧(¬n=2→(n=3→(-9223372036854775808≤n-2∧n-2≤9223372036854775807)∧(-2147483648≤n-2∧n-2≤2147483647)∧(-2147483648≤11+(n-2)∧11+(n-2)≤2147483647)∧U (o.int .i32 (11+(n-2))) (j.ar 27 []))∧(¬n=3→(n=5→(-9223372036854775808≤n-5∧n-5≤9223372036854775807)∧(-2147483648≤n-5∧n-5≤2147483647)∧(-2147483648≤13+(n-5)∧13+(n-5)≤2147483647)∧U (o.int .i32 (13+(n-5))) (j.ar 34 []))∧(¬n=5→(n=6→(-9223372036854775808≤n-5∧n-5≤9223372036854775807)∧(-2147483648≤n-5∧n-5≤2147483647)∧(-2147483648≤13+(n-5)∧13+(n-5)≤2147483647)∧U (o.int .i32 (13+(n-5))) (j.ar 34 []))∧(¬n=6→(11≤n→(n≤15→(-9223372036854775808≤n-11∧n-11≤9223372036854775807)∧(-2147483648≤n-11∧n-11≤2147483647)∧(-2147483648≤21+(n-11)∧21+(n-11)≤2147483647)∧U (o.int .i32 (21+(n-11))) (j.ar 41 []))∧(¬n≤15→(17≤n→(n≤21→(-9223372036854775808≤n-12∧n-12≤9223372036854775807)∧(-2147483648≤n-12∧n-12≤2147483647)∧(-2147483648≤21+(n-12)∧21+(n-12)≤2147483647)∧U (o.int .i32 (21+(n-12))) (j.ar 48 []))∧(¬n≤21→(n=23→(-9223372036854775808≤n-13∧n-13≤9223372036854775807)∧(-2147483648≤n-13∧n-13≤2147483647)∧(-2147483648≤21+(n-13)∧21+(n-13)≤2147483647)∧U (o.int .i32 (21+(n-13))) (j.ar 55 []))∧(¬n=23→(n=24→(-9223372036854775808≤n-13∧n-13≤9223372036854775807)∧(-2147483648≤n-13∧n-13≤2147483647)∧(-2147483648≤21+(n-13)∧21+(n-13)≤2147483647)∧U (o.int .i32 (21+(n-13))) (j.ar 55 []))∧(¬n=24→U (o.int .i32 (0)) (j.ar 51 [])))))∧(¬17≤n→(n=23→(-9223372036854775808≤n-13∧n-13≤9223372036854775807)∧(-2147483648≤n-13∧n-13≤2147483647)∧(-2147483648≤21+(n-13)∧21+(n-13)≤2147483647)∧U (o.int .i32 (21+(n-13))) (j.ar 55 []))∧(¬n=23→(n=24→(-9223372036854775808≤n-13∧n-13≤9223372036854775807)∧(-2147483648≤n-13∧n-13≤2147483647)∧(-2147483648≤21+(n-13)∧21+(n-13)≤2147483647)∧U (o.int .i32 (21+(n-13))) (j.ar 55 []))∧(¬n=24→U (o.int .i32 (0)) (j.ar 51 []))))))∧(¬11≤n→(17≤n→(n≤21→(-9223372036854775808≤n-12∧n-12≤9223372036854775807)∧(-2147483648≤n-12∧n-12≤2147483647)∧(-2147483648≤21+(n-12)∧21+(n-12)≤2147483647)∧U (o.int .i32 (21+(n-12))) (j.ar 48 []))∧(¬n≤21→(n=23→(-9223372036854775808≤n-13∧n-13≤9223372036854775807)∧(-2147483648≤n-13∧n-13≤2147483647)∧(-2147483648≤21+(n-13)∧21+(n-13)≤2147483647)∧U (o.int .i32 (21+(n-13))) (j.ar 55 []))∧(¬n=23→(n=24→(-9223372036854775808≤n-13∧n-13≤9223372036854775807)∧(-2147483648≤n-13∧n-13≤2147483647)∧(-2147483648≤21+(n-13)∧21+(n-13)≤2147483647)∧U (o.int .i32 (21+(n-13))) (j.ar 55 []))∧(¬n=24→U (o.int .i32 (0)) (j.ar 51 [])))))∧(¬17≤n→(n=23→(-9223372036854775808≤n-13∧n-13≤9223372036854775807)∧(-2147483648≤n-13∧n-13≤2147483647)∧(-2147483648≤21+(n-13)∧21+(n-13)≤2147483647)∧U (o.int .i32 (21+(n-13))) (j.ar 55 []))∧(¬n=23→(n=24→(-9223372036854775808≤n-13∧n-13≤9223372036854775807)∧(-2147483648≤n-13∧n-13≤2147483647)∧(-2147483648≤21+(n-13)∧21+(n-13)≤2147483647)∧U (o.int .i32 (21+(n-13))) (j.ar 55 []))∧(¬n=24→U (o.int .i32 (0)) (j.ar 51 [])))))))))))))) :
 ∃v p,aI Tryz.prog aw 72 [.int .i64 n] (⟨0,.nil⟩) v p∧U v p :=
 cb bQ mixed gU (an:= .aK 1001 .nil (.aK 1004 .nil (.aK 3001 .nil (.aK 3004 .nil (.aK 5001 (.aA (.go 6001) (.aA (.go 6002) (.aA (.go 6003) .nil))) (.aK 5004 (.aA (.go 6001) (.aA (.go 6002) (.aA (.go 6003) .nil))) (.aK 7001 (.aA (.go 8001) (.aA (.go 8002) (.aA (.go 8003) .nil))) (.aK 7004 (.aA (.go 8001) (.aA (.go 8002) (.aA (.go 8003) .nil))) (.aK 9001 (.aK 9004 (.aA (.go 10001) (.aA (.go 10002) (.aA (.go 10003) .nil))) (.aK 11001 (.aK 11004 (.aA (.go 12001) (.aA (.go 12002) (.aA (.go 12003) .nil))) (.aK 13001 (.aA (.go 14001) (.aA (.go 14002) (.aA (.go 14003) .nil))) (.aK 13004 (.aA (.go 14001) (.aA (.go 14002) (.aA (.go 14003) .nil))) .nil))) (.aK 13001 (.aA (.go 14001) (.aA (.go 14002) (.aA (.go 14003) .nil))) (.aK 13004 (.aA (.go 14001) (.aA (.go 14002) (.aA (.go 14003) .nil))) .nil)))) (.aK 11001 (.aK 11004 (.aA (.go 12001) (.aA (.go 12002) (.aA (.go 12003) .nil))) (.aK 13001 (.aA (.go 14001) (.aA (.go 14002) (.aA (.go 14003) .nil))) (.aK 13004 (.aA (.go 14001) (.aA (.go 14002) (.aA (.go 14003) .nil))) .nil))) (.aK 13001 (.aA (.go 14001) (.aA (.go 14002) (.aA (.go 14003) .nil))) (.aK 13004 (.aA (.go 14001) (.aA (.go 14002) (.aA (.go 14003) .nil))) .nil)))))))))))) (by kernel_rfl) aY
def hO(n:Int):Int :=
 if n=1∨n=7 then 9 else if n=4∨n=8 then 10 else if n=2∨n=3 then 11+(n-2)else if n=5∨n=6 then 13+(n-5)
 else if 11≤n∧n≤15 then 21+(n-11)else if 17≤n∧n≤21 then 21+(n-12)else if n=23∨n=24 then 21+(n-13)else 0
set_option maxHeartbeats 4000000 in
theorem US(n:Int)(H:j):aI Tryz.prog aw 72 [.int .i64 n] H (.int .i32 (hO n)) H:=by
 refine aI.fm (UR n (fun v _=>v=.int .i32 (hO n)) ?_) rfl rfl H
 repeat' (first|apply And.intro|intro _)
 all_goals first
  |omega
  |(refine congrArg (o.int .i32) ?_;unfold hO;repeat' split)
 all_goals omega
theorem UT(r:Int)(U:o→j→Prop)(aY:(32≤r→(r=127→U (o.bool false) (j.ar 20 []))∧(¬r=127→(r≤1114111→(r<55296→U (o.bool true) (j.ar 20 []))∧(¬r<55296→(57343<r→U (o.bool true) (j.ar 20 []))∧(¬57343<r→U (o.bool false) (j.ar 20 []))))∧(¬r≤1114111→U (o.bool false) (j.ar 20 []))))∧(¬32≤r→U (o.bool false) (j.ar 20 []))) :
 ∃v p,aI Tryz.prog aw 41 [.int .i32 r] (⟨0,.nil⟩) v p∧U v p :=
 cb bQ mixed gU (an:= .aK 1001 (.aK 1004 .nil (.aK 1008 (.aK 1012 .nil (.aK 1015 .nil .nil)) .nil)) .nil) (by kernel_rfl) aY
theorem Fa(r:Int)(H:j):aI Tryz.prog aw 41 [.int .i32 r] H (.bool (shown r)) H:=by
 refine aI.fm (UT r (fun v _=>v=.bool (shown r)) ?_) rfl rfl H
 repeat' (first|apply And.intro|intro _)
 all_goals (refine congrArg o.bool ?_;simp [shown];try omega)
def cm(e:bj):o:= .agg [.int .i8 e.kind,.int .i32 e.code,.int .u8 e.dW,.int .i64 e.x,.int .i64 e.y,.str e.text]
theorem UU(c:Int)(U:o→j→Prop)(aY:(c=13→U (o.agg [o.int .i8 (2),o.int .i32 (1),o.int .u8 (0),o.int .i64 (0),o.int .i64 (0),o.str []]) (j.ar 6 [(0,(R.made ([o.agg [o.int .i8 (2),o.int .i32 (1),o.int .u8 (0),o.int .i64 (0),o.int .i64 (0),o.str []]]) 6 true (some (42,6))))]))∧(¬c=13→(c=9→U (o.agg [o.int .i8 (2),o.int .i32 (2),o.int .u8 (0),o.int .i64 (0),o.int .i64 (0),o.str []]) (j.ar 8 [(0,(R.made ([o.agg [o.int .i8 (2),o.int .i32 (2),o.int .u8 (0),o.int .i64 (0),o.int .i64 (0),o.str []]]) 6 true (some (42,6))))]))∧(¬c=9→(c=127→U (o.agg [o.int .i8 (2),o.int .i32 (3),o.int .u8 (0),o.int .i64 (0),o.int .i64 (0),o.str []]) (j.ar 10 [(0,(R.made ([o.agg [o.int .i8 (2),o.int .i32 (3),o.int .u8 (0),o.int .i64 (0),o.int .i64 (0),o.str []]]) 6 true (some (42,6))))]))∧(¬c=127→(c=0→U (o.agg [o.int .i8 (1),o.int .i32 (32),o.int .u8 (4),o.int .i64 (0),o.int .i64 (0),o.str []]) (j.ar 12 [(0,(R.made ([o.agg [o.int .i8 (1),o.int .i32 (32),o.int .u8 (4),o.int .i64 (0),o.int .i64 (0),o.str []]]) 6 true (some (42,6))))]))∧(¬c=0→(c<27→(-2147483648≤c∧c≤2147483647)∧True∧U (o.agg [o.int .i8 (1),o.int .i32 (cg .i32 c (96)),o.int .u8 (4),o.int .i64 (0),o.int .i64 (0),o.str []]) (j.ar 17 [(0,(R.made ([o.agg [o.int .i8 (1),o.int .i32 (cg .i32 c (96)),o.int .u8 (4),o.int .i64 (0),o.int .i64 (0),o.str []]]) 6 true (some (42,6))))]))∧(¬c<27→(-2147483648≤c∧c≤2147483647)∧True∧U (o.agg [o.int .i8 (1),o.int .i32 (cg .i32 c (64)),o.int .u8 (4),o.int .i64 (0),o.int .i64 (0),o.str []]) (j.ar 17 [(0,(R.made ([o.agg [o.int .i8 (1),o.int .i32 (cg .i32 c (64)),o.int .u8 (4),o.int .i64 (0),o.int .i64 (0),o.str []]]) 6 true (some (42,6))))]))))))) :
 ∃v p,aI Tryz.prog aw 89 [.int .u8 c] (⟨0,.nil⟩) v p∧U v p :=
 cb bQ mixed gU (an:= .aK 2000 .nil (.aK 4000 .nil (.aK 6000 .nil (.aK 8000 .nil (.aK 10001 (.aA (.go 11001) (.aA (.go 11002) .nil)) (.aA (.go 12001) (.aA (.go 12002) .nil))))))) (by kernel_rfl) aY
theorem UW:∀n:Fin 27,0<n.val→cg .i32 (n.val:Int) 96=n.val+96:=by decide+kernel
theorem UX:∀n:Fin 32,26<n.val→cg .i32 (n.val:Int) 64=n.val+64:=by decide+kernel
theorem UY(c:Int)(av:0≤c∧(c<32∨c=127))(hY:c≠27)(H:j):aI Tryz.prog aw 89 [.int .u8 c] H (cm (control c.toNat)) H:=by
 refine aI.fm (UU c (fun v _=>v=cm (control c.toNat)) ?_) rfl rfl H;obtain⟨n,rfl⟩:=Int.eq_ofNat_of_zero_le av.1
 repeat' (first|apply And.intro|intro _)
 all_goals first
  |omega
  |exact trivial
  |skip
 all_goals simp only [Int.toNat_natCast]
 all_goals unfold Go.Keys.control
 all_goals repeat' split
 all_goals first
  |(exfalso;omega)
  |rfl
  |(have:=UW ⟨n,by omega⟩ (by simp;omega);simp only at this;rw [this];rfl)
  |(have:=UX ⟨n,by omega⟩ (by simp;omega);simp only at this;rw [this];rfl)
theorem UZ(b:Int):(dq b).1=0∨(dq b).1=1∨(dq b).1=2∨(dq b).1=3∨(dq b).1=4:=by
 unfold dq
 repeat' split
 all_goals simp
def Fb:List o→j→Option eC:=fun a h =>
 match a with
 |[.int .u8 b]=>some (.or ((dq b).1=0) (.one (.tuple [.int .i64 0,.int .u8 (dq b).2.1,.int .u8 (dq b).2.2]) h []) (.or ((dq b).1=1) (.one (.tuple [.int .i64 1,.int .u8 (dq b).2.1,.int .u8 (dq b).2.2]) h [])
  (.or ((dq b).1=2) (.one (.tuple [.int .i64 2,.int .u8 (dq b).2.1,.int .u8 (dq b).2.2]) h []) (.or ((dq b).1=3) (.one (.tuple [.int .i64 3,.int .u8 (dq b).2.1,.int .u8 (dq b).2.2]) h []) (.one (.tuple [.int .i64 4,.int .u8 (dq b).2.1,.int .u8 (dq b).2.2]) h [])))))
 |_=>none
theorem U0:∀args h a,Fb args h=some a→a.dw Tryz.prog aw 99 args h:=by
 intro args h a e;unfold Fb at e;split at e<;>first|(cases e;done)|skip
 rename_i b;simp only [Option.some.injEq]at e;subst e;have go:∀n,(dq b).1=n→aI Tryz.prog aw 99 [.int .u8 b] h (.tuple [.int .i64 n,.int .u8 (dq b).2.1,.int .u8 (dq b).2.2]) h:=fun n aS=>by rw [←aS];exact rj b h
 exact⟨fun e _=>go _ e,fun aj=>⟨fun e _=>go _ e,fun a6=>⟨fun e _=>go _ e,fun aO=>⟨fun e _=>go _ e,fun ft _=>go _ (by have:=UZ b;omega)⟩⟩⟩⟩
def p4:fc:=((((Ly.add 99 Fb).add 71 (kA fun a=>match a with | [.int .u8 b]=>some (.int .i32 (hi b),[])|_=>none)).add
 72 (kA fun a=>match a with | [.int .i64 b]=>some (.int .i32 (hO b),[])|_=>none)).add 41 (kA fun a=>match a with | [.int .i32 b]=>some (.bool (shown b),[])|_=>none)).add
 89 (kA fun a=>match a with | [.int .u8 b]=>some (cm (control b.toNat),[0≤b∧(b<32∨b=127),b≠27])|_=>none)
theorem c8:eW Tryz.prog aw p4:=by
 refine((((gU.add U0).add (lE ?_)).add (lE ?_)).add (lE ?_)).add (lE ?_)
 all_goals
  intro args v e5 e ac H;split at e<;>first|(cases e;done)|skip
  simp only [Option.some.injEq,Prod.mk.injEq]at e;obtain⟨rfl,rfl⟩:=e
 ·exact UQ _ H
 ·exact US _ H
 ·exact Fa _ H
 ·exact UY _ ac.head ac.tail.head H
abbrev hj(bE aM aR bu n:Int)(aq:Option (TypeId×Nat)):R:=R.made [.agg [.int .u8 bE,.int .u8 aM,.int .u8 aR,.int .u8 bu,.int .i64 n]] 5 true aq
abbrev gW(c:Int):R:=R.made [.int .u8 c] 1 true
abbrev c9(c:Int):R:=(R.made ([.int .u8 c]) 1 true)
abbrev p5:dk:=(ag 7001 (ag 7004 (.aA (.rounds 300) .nil)))
abbrev LO:R:=(R.made ([.slice (some ⟨19,0,0,0,1⟩) 1 1]) 1 true (some (34,1)))
abbrev rk(aM:Int)(aR:Int)(bu:Int)(c:Int):o:=o.agg [.int .u8 c,.int .u8 aM,.int .u8 aR,.int .u8 bu,.int .i64 1]
abbrev Fc(bE:Int)(aM:Int)(aR:Int)(bu:Int)(aq:Option (TypeId×Nat)):R:=⟨[.agg [.int .u8 bE,.int .u8 aM,.int .u8 aR,.int .u8 bu,.int .i64 0]],5,true,false,0,0,0,aq⟩
abbrev nW(aM:Int)(aR:Int)(bu:Int)(c:Int)(aq:Option (TypeId×Nat)):R:=⟨[(rk aM aR bu c)],5,true,false,0,0,0,aq⟩
abbrev Ay(aM:Int)(aR:Int)(bu:Int)(c:Int)(aq:Option (TypeId×Nat)):j:=(j.ar 95 [(0,(nW aM aR bu c aq)),(1,(c9 c)),(5,R.made (List.replicate 0 (.int .u8 0)) 1 true),(15,LO),(19,R.made [.int .u8 c] 1 false (some (5,0)))])
theorem U1(bE aM aR bu c a1 ak:Int)(aq:Option (TypeId×Nat))(U:o→j→Prop)(aY:(Prod.fst (dq c)=0→U (.slice (some ⟨70,0,0,0,1⟩) 1 1) (j.ar 81 [(0,(Fc bE aM aR bu aq)),(1,(c9 c)),(5,R.made (List.replicate 0 (.int .u8 0)) 1 true),(15,(R.made ([.slice (some ⟨19,0,1,0,1⟩) 0 0]) 1 true (some (34,1)))),(19,R.made [.int .u8 c] 1 false (some (5,0))),(69,R.made [.int .i32 65533] 1 true),(70,R.made [.int .i32 65533] 1 false (some (21,0)))]))∧(¬Prod.fst (dq c)=0→(Prod.fst (dq c)=1→(-2147483648≤c∧c≤2147483647)∧U (.slice (some ⟨74,0,0,0,1⟩) 1 1) (j.ar 85 [(0,(Fc bE aM aR bu aq)),(1,(c9 c)),(5,R.made (List.replicate 0 (.int .u8 0)) 1 true),(15,(R.made ([.slice (some ⟨19,0,1,0,1⟩) 0 0]) 1 true (some (34,1)))),(19,R.made [.int .u8 c] 1 false (some (5,0))),(73,R.made [.int .i32 c] 1 true),(74,R.made [.int .i32 c] 1 false (some (21,0)))]))∧(¬Prod.fst (dq c)=1→(Prod.fst (dq c)=2→(-2147483648≤c∧c≤2147483647)∧True∧U (.slice none 0 0) (Ay aM aR bu c aq))∧(¬Prod.fst (dq c)=2→(Prod.fst (dq c)=3→(-2147483648≤c∧c≤2147483647)∧True∧U (.slice none 0 0) (Ay aM aR bu c aq))∧(¬Prod.fst (dq c)=3→(-2147483648≤c∧c≤2147483647)∧True∧U (.slice none 0 0) (Ay aM aR bu c aq)))))) :
 ∃v p,aI Tryz.prog aw 107 [.ptr (some ⟨0,0,0,0,5⟩),.slice (some ⟨1,0,0,0,1⟩) 1 1] (j.of [hj bE aM aR bu 0 aq,gW c]) v p∧U v p :=
 cb bQ mixed c8 (an:= .aA (.rounds 300) (he 8003 (he 1001 (.aK 2001 .nil (.aK 2001 (ag 6001 .nil) (.aK 2001 p5 (.aK 2001 p5 p5))))))) (by kernel_rfl) aY
abbrev Az:o:=o.slice (some ⟨14,1,1,0,1⟩) 1 1
abbrev AA:o:=o.slice (some ⟨14,1,2,0,1⟩) 0 0
abbrev uG:o:=o.slice (some ⟨104,0,0,0,1⟩) 1 1
abbrev o8:o:=o.slice (some ⟨104,1,0,0,1⟩) 2 2
abbrev sY(bE:Int)(aM:Int)(aR:Int)(bu:Int):o:=o.agg [.int .u8 bE,.int .u8 aM,.int .u8 aR,.int .u8 bu,.int .i64 0]
abbrev lG(bE:Int)(c:Int)(aq:Option (TypeId×Nat)):R:=⟨[.int .u8 bE,.int .u8 c],1,false,false,1,0,1,some (5,0)⟩
abbrev p6(c:Int)(aq:Option (TypeId×Nat)):R:=⟨[.int .i32 65533,.int .i32 c],1,false,false,1,0,1,some (21,0)⟩
abbrev p7(aq:Option (TypeId×Nat)):R:=⟨[.int .i32 65533,.int .i32 65533],1,false,false,1,0,1,some (21,0)⟩
abbrev AB:R:=(R.made ([Az]) 1 true (some (34,1)))
abbrev uH:R:=(R.made ([AA]) 1 true (some (34,1)))
abbrev m':dk:=(he 1001 (.aK 2001 .nil (.aK 2001 (ag 6001 .nil) (.aK 2001 p5 (.aK 2001 p5 p5)))))
abbrev hP(bE:Int)(aM:Int)(aR:Int)(bu:Int)(aq:Option (TypeId×Nat)):R:=⟨[(sY bE aM aR bu)],5,true,false,0,0,0,aq⟩
abbrev Fe(bE:Int)(aM:Int)(aR:Int)(bu:Int)(c:Int)(aq:Option (TypeId×Nat)):j:=(j.ar 61 [(0,(hP bE aM aR bu aq)),(1,(c9 c)),(5,R.made (List.replicate 0 (.int .u8 0)) 1 true),(14,(lG bE c aq)),(15,(R.made ([.slice (some ⟨14,1,0,0,1⟩) 2 2]) 1 true (some (34,1))))])
abbrev uI(bE:Int)(aM:Int)(aR:Int)(bu:Int)(c:Int)(aq:Option (TypeId×Nat)):j:=(j.ar 179 [(0,(nW aM aR bu c aq)),(1,(c9 c)),(5,R.made (List.replicate 0 (.int .u8 0)) 1 true),(14,(lG bE c aq)),(15,AB),(103,R.made [.int .i32 65533] 1 true),(104,R.made [.int .i32 65533] 1 false (some (21,0)))])
abbrev AC(bE:Int)(aM:Int)(aR:Int)(bu:Int)(c:Int)(aq:Option (TypeId×Nat)):j:=(j.ar 169 [(0,(hP bE aM aR bu aq)),(1,(c9 c)),(5,R.made (List.replicate 0 (.int .u8 0)) 1 true),(14,(lG bE c aq)),(15,uH),(103,R.made [.int .i32 65533] 1 true),(104,(p6 c aq)),(157,R.made [.int .i32 c] 1 true)])
abbrev p8(bE:Int)(aM:Int)(aR:Int)(bu:Int)(c:Int)(aq:Option (TypeId×Nat)):j:=(j.ar 165 [(0,(hP bE aM aR bu aq)),(1,(c9 c)),(5,R.made (List.replicate 0 (.int .u8 0)) 1 true),(14,(lG bE c aq)),(15,uH),(103,R.made [.int .i32 65533] 1 true),(104,(p7 aq)),(153,R.made [.int .i32 65533] 1 true)])
abbrev AD(bE:Int)(aM:Int)(aR:Int)(bu:Int)(c:Int)(aq:Option (TypeId×Nat))(U:o→j→Prop):Prop:=(¬Prod.fst (dq c)=2→(Prod.fst (dq c)=3→(-2147483648≤c∧c≤2147483647)∧True∧U (uG) (uI bE aM aR bu c aq))∧(¬Prod.fst (dq c)=3→(-2147483648≤c∧c≤2147483647)∧True∧U (uG) (uI bE aM aR bu c aq)))
abbrev p9(bE:Int)(aM:Int)(aR:Int)(bu:Int)(c:Int)(aq:Option (TypeId×Nat))(U:o→j→Prop):Prop:=(¬Prod.fst (dq c)=0→(Prod.fst (dq c)=1→(-2147483648≤c∧c≤2147483647)∧U (o8) (AC bE aM aR bu c aq))∧(¬Prod.fst (dq c)=1→(Prod.fst (dq c)=2→(-2147483648≤c∧c≤2147483647)∧True∧U (uG) (uI bE aM aR bu c aq))∧(AD bE aM aR bu c aq U)))
theorem U2(bE aM aR bu c a1 ak:Int)(aq:Option (TypeId×Nat))(U:o→j→Prop)(aY:c7 Tryz.prog aw 99 [.int .u8 bE] (Fe bE aM aR bu c aq) (.tuple [.int .i64 2,.int .u8 a1,.int .u8 ak]) (Fe bE aM aR bu c aq)∧(-2147483648≤bE∧bE≤2147483647)∧True∧(c<a1→(Prod.fst (dq c)=0→U (o8) (p8 bE aM aR bu c aq))∧(p9 bE aM aR bu c aq U))∧(¬c<a1→(ak<c→(Prod.fst (dq c)=0→U (o8) (p8 bE aM aR bu c aq))∧(p9 bE aM aR bu c aq U))∧(¬ak<c→Int.NonNeg (6-0)∧True∧(-2147483648≤bx .u8 c (63)∧bx .u8 c (63)≤2147483647)∧True∧U (.slice (some ⟨120,0,0,0,1⟩) 1 1) (j.ar 131 [(0,(hP bE aM aR bu aq)),(1,(c9 c)),(5,R.made (List.replicate 0 (.int .u8 0)) 1 true),(14,(lG bE c aq)),(15,uH),(119,R.made [.int .i32 (cg .i32 (e8 .i32 (bx .i32 bE (31)) (6)) (bx .u8 c (63)))] 1 true),(120,R.made [.int .i32 (cg .i32 (e8 .i32 (bx .i32 bE (31)) (6)) (bx .u8 c (63)))] 1 false (some (21,0)))])))) :
 ∃v p,aI Tryz.prog aw 107 [.ptr (some ⟨0,0,0,0,5⟩),.slice (some ⟨1,0,0,0,1⟩) 1 1] (j.of [hj bE aM aR bu 1 aq,gW c]) v p∧U v p :=
 cb bQ mixed c8 (an:= .aA (.rounds 300) (he 8003 (he 1001 (.aA (.val 2001 (.tuple [.int .i64 2,.int .u8 a1,.int .u8 ak])) (ag 7001 (ag 7004 (.aA (.rounds 300) (he 13002 (.aK 14002 (he 8003 m') (.aK 14006 (he 8003 m') (ag 17001 (ag 17003 (ag 17004 (ag 17005 .nil)))))))))))))) (by kernel_rfl) aY
abbrev rl:R:=(R.made ([.slice (some ⟨14,1,0,0,1⟩) 2 2]) 1 true (some (34,1)))
theorem U3(bE aM aR bu c a1 ak:Int)(aq:Option (TypeId×Nat))(U:o→j→Prop)(aY:c7 Tryz.prog aw 99 [.int .u8 bE] (j.ar 61 [(0,(hP bE aM aR bu aq)),(1,(c9 c)),(5,R.made (List.replicate 0 (.int .u8 0)) 1 true),(14,(lG bE c aq)),(15,rl)]) (.tuple [.int .i64 3,.int .u8 a1,.int .u8 ak]) (j.ar 61 [(0,(hP bE aM aR bu aq)),(1,(c9 c)),(5,R.made (List.replicate 0 (.int .u8 0)) 1 true),(14,(lG bE c aq)),(15,rl)])∧(-2147483648≤bE∧bE≤2147483647)∧True∧(c<a1→(Prod.fst (dq c)=0→U (o8) (p8 bE aM aR bu c aq))∧(p9 bE aM aR bu c aq U))∧(¬c<a1→(ak<c→(Prod.fst (dq c)=0→U (o8) (p8 bE aM aR bu c aq))∧(p9 bE aM aR bu c aq U))∧(¬ak<c→Int.NonNeg (6-0)∧True∧(-2147483648≤bx .u8 c (63)∧bx .u8 c (63)≤2147483647)∧True∧U (.slice none 0 0) (j.ar 131 [(0,⟨[.agg [.int .u8 bE,.int .u8 c,.int .u8 aR,.int .u8 bu,.int .i64 2]],5,true,false,0,0,0,aq⟩),(1,(c9 c)),(5,R.made (List.replicate 0 (.int .u8 0)) 1 true),(14,(lG bE c aq)),(15,rl)])))) :
 ∃v p,aI Tryz.prog aw 107 [.ptr (some ⟨0,0,0,0,5⟩),.slice (some ⟨1,0,0,0,1⟩) 1 1] (j.of [hj bE aM aR bu 1 aq,gW c]) v p∧U v p :=
 cb bQ mixed c8 (an:= .aA (.rounds 300) (he 8003 (he 1001 (.aA (.val 2001 (.tuple [.int .i64 3,.int .u8 a1,.int .u8 ak])) (ag 7001 (ag 7004 (.aA (.rounds 300) (he 13002 (.aK 14002 (he 8003 m') (.aK 14006 (he 8003 m') (ag 17001 (ag 17003 (ag 17004 (ag 17005 .nil)))))))))))))) (by kernel_rfl) aY
theorem U4(bE aM aR bu c a1 ak:Int)(aq:Option (TypeId×Nat))(U:o→j→Prop)(aY:c7 Tryz.prog aw 99 [.int .u8 bE] (j.ar 61 [(0,(hP bE aM aR bu aq)),(1,(c9 c)),(5,R.made (List.replicate 0 (.int .u8 0)) 1 true),(14,(lG bE c aq)),(15,rl)]) (.tuple [.int .i64 4,.int .u8 a1,.int .u8 ak]) (j.ar 61 [(0,(hP bE aM aR bu aq)),(1,(c9 c)),(5,R.made (List.replicate 0 (.int .u8 0)) 1 true),(14,(lG bE c aq)),(15,rl)])∧(-2147483648≤bE∧bE≤2147483647)∧True∧(c<a1→(Prod.fst (dq c)=0→U (o8) (p8 bE aM aR bu c aq))∧(p9 bE aM aR bu c aq U))∧(¬c<a1→(ak<c→(Prod.fst (dq c)=0→U (o8) (p8 bE aM aR bu c aq))∧(p9 bE aM aR bu c aq U))∧(¬ak<c→Int.NonNeg (6-0)∧True∧(-2147483648≤bx .u8 c (63)∧bx .u8 c (63)≤2147483647)∧True∧U (.slice none 0 0) (j.ar 131 [(0,⟨[.agg [.int .u8 bE,.int .u8 c,.int .u8 aR,.int .u8 bu,.int .i64 2]],5,true,false,0,0,0,aq⟩),(1,(c9 c)),(5,R.made (List.replicate 0 (.int .u8 0)) 1 true),(14,(lG bE c aq)),(15,rl)])))) :
 ∃v p,aI Tryz.prog aw 107 [.ptr (some ⟨0,0,0,0,5⟩),.slice (some ⟨1,0,0,0,1⟩) 1 1] (j.of [hj bE aM aR bu 1 aq,gW c]) v p∧U v p :=
 cb bQ mixed c8 (an:= .aA (.rounds 300) (he 8003 (he 1001 (.aA (.val 2001 (.tuple [.int .i64 4,.int .u8 a1,.int .u8 ak])) (ag 7001 (ag 7004 (.aA (.rounds 300) (he 13002 (.aK 14002 (he 8003 m') (.aK 14006 (he 8003 m') (ag 17001 (ag 17003 (ag 17004 (ag 17005 .nil)))))))))))))) (by kernel_rfl) aY
abbrev Ff:o:=o.slice (some ⟨14,1,2,0,1⟩) 1 1
abbrev Fg:o:=o.slice (some ⟨14,1,3,0,1⟩) 0 0
abbrev w7:o:=o.slice (some ⟨140,0,0,0,1⟩) 1 1
abbrev sZ:o:=o.slice (some ⟨140,1,0,0,1⟩) 2 2
abbrev o9(bE:Int)(aM:Int)(c:Int)(aq:Option (TypeId×Nat)):R:=⟨[.int .u8 bE,.int .u8 aM,.int .u8 c],1,false,false,1,0,2,some (5,0)⟩
abbrev Fh:R:=(R.made ([Ff]) 1 true (some (34,1)))
abbrev w8:R:=(R.made ([Fg]) 1 true (some (34,1)))
abbrev Fi(bE:Int)(aM:Int)(aR:Int)(bu:Int)(c:Int)(aq:Option (TypeId×Nat)):j:=(j.ar 61 [(0,(hP bE aM aR bu aq)),(1,(c9 c)),(5,R.made (List.replicate 0 (.int .u8 0)) 1 true),(14,(o9 bE aM c aq)),(15,(R.made ([.slice (some ⟨14,1,0,0,1⟩) 3 3]) 1 true (some (34,1))))])
abbrev w9(bE:Int)(aM:Int)(aR:Int)(bu:Int)(c:Int)(aq:Option (TypeId×Nat)):j:=(j.ar 215 [(0,(nW aM aR bu c aq)),(1,(c9 c)),(5,R.made (List.replicate 0 (.int .u8 0)) 1 true),(14,(o9 bE aM c aq)),(15,Fh),(139,R.made [.int .i32 65533] 1 true),(140,R.made [.int .i32 65533] 1 false (some (21,0)))])
abbrev Fj(bE:Int)(aM:Int)(aR:Int)(bu:Int)(c:Int)(aq:Option (TypeId×Nat)):j:=(j.ar 205 [(0,(hP bE aM aR bu aq)),(1,(c9 c)),(5,R.made (List.replicate 0 (.int .u8 0)) 1 true),(14,(o9 bE aM c aq)),(15,w8),(139,R.made [.int .i32 65533] 1 true),(140,(p6 c aq)),(193,R.made [.int .i32 c] 1 true)])
abbrev uJ(bE:Int)(aM:Int)(aR:Int)(bu:Int)(c:Int)(aq:Option (TypeId×Nat)):j:=(j.ar 201 [(0,(hP bE aM aR bu aq)),(1,(c9 c)),(5,R.made (List.replicate 0 (.int .u8 0)) 1 true),(14,(o9 bE aM c aq)),(15,w8),(139,R.made [.int .i32 65533] 1 true),(140,(p7 aq)),(189,R.made [.int .i32 65533] 1 true)])
abbrev Fk(bE:Int)(aM:Int)(aR:Int)(bu:Int)(c:Int)(aq:Option (TypeId×Nat))(U:o→j→Prop):Prop:=(¬Prod.fst (dq c)=2→(Prod.fst (dq c)=3→(-2147483648≤c∧c≤2147483647)∧True∧U (w7) (w9 bE aM aR bu c aq))∧(¬Prod.fst (dq c)=3→(-2147483648≤c∧c≤2147483647)∧True∧U (w7) (w9 bE aM aR bu c aq)))
abbrev uK(bE:Int)(aM:Int)(aR:Int)(bu:Int)(c:Int)(aq:Option (TypeId×Nat))(U:o→j→Prop):Prop:=(¬Prod.fst (dq c)=0→(Prod.fst (dq c)=1→(-2147483648≤c∧c≤2147483647)∧U (sZ) (Fj bE aM aR bu c aq))∧(¬Prod.fst (dq c)=1→(Prod.fst (dq c)=2→(-2147483648≤c∧c≤2147483647)∧True∧U (w7) (w9 bE aM aR bu c aq))∧(Fk bE aM aR bu c aq U)))
theorem U5(bE aM aR bu c a1 ak:Int)(aq:Option (TypeId×Nat))(U:o→j→Prop)(aY:c7 Tryz.prog aw 99 [.int .u8 bE] (Fi bE aM aR bu c aq) (.tuple [.int .i64 3,.int .u8 a1,.int .u8 ak]) (Fi bE aM aR bu c aq)∧(-2147483648≤bE∧bE≤2147483647)∧True∧some (o.bool (decide (aM<a1)))=some (o.bool false)∧some (o.bool (decide (aM>ak)))=some (o.bool false)∧Int.NonNeg (6-0)∧True∧(-2147483648≤bx .u8 aM (63)∧bx .u8 aM (63)≤2147483647)∧True∧(c<128→(Prod.fst (dq c)=0→U (sZ) (uJ bE aM aR bu c aq))∧(uK bE aM aR bu c aq U))∧(¬c<128→(191<c→(Prod.fst (dq c)=0→U (sZ) (uJ bE aM aR bu c aq))∧(uK bE aM aR bu c aq U))∧(¬191<c→Int.NonNeg (6-0)∧True∧(-2147483648≤bx .u8 c (63)∧bx .u8 c (63)≤2147483647)∧True∧U (.slice (some ⟨156,0,0,0,1⟩) 1 1) (j.ar 167 [(0,(hP bE aM aR bu aq)),(1,(c9 c)),(5,R.made (List.replicate 0 (.int .u8 0)) 1 true),(14,(o9 bE aM c aq)),(15,w8),(155,R.made [.int .i32 (cg .i32 (e8 .i32 (cg .i32 (e8 .i32 (bx .i32 bE (15)) (6)) (bx .u8 aM (63))) (6)) (bx .u8 c (63)))] 1 true),(156,R.made [.int .i32 (cg .i32 (e8 .i32 (cg .i32 (e8 .i32 (bx .i32 bE (15)) (6)) (bx .u8 aM (63))) (6)) (bx .u8 c (63)))] 1 false (some (21,0)))])))) :
 ∃v p,aI Tryz.prog aw 107 [.ptr (some ⟨0,0,0,0,5⟩),.slice (some ⟨1,0,0,0,1⟩) 1 1] (j.of [hj bE aM aR bu 2 aq,gW c]) v p∧U v p :=
 cb bQ mixed c8 (an:= .aA (.rounds 300) (he 8003 (he 1001 (.aA (.val 2001 (.tuple [.int .i64 3,.int .u8 a1,.int .u8 ak])) (ag 7001 (ag 7004 (.aA (.rounds 300) (he 13002 (.aA (.val 14002 (.bool false)) (.aA (.val 14006 (.bool false)) (ag 17001 (ag 17003 (ag 17004 (ag 17005 (he 13002 (.aK 14002 (he 8003 m') (.aK 14006 (he 8003 m') (ag 17001 (ag 17003 (ag 17004 (ag 17005 .nil))))))))))))))))))))) (by kernel_rfl) aY
abbrev AE:R:=(R.made ([.slice (some ⟨14,1,0,0,1⟩) 3 3]) 1 true (some (34,1)))
theorem U6(bE aM aR bu c a1 ak:Int)(aq:Option (TypeId×Nat))(U:o→j→Prop)(aY:c7 Tryz.prog aw 99 [.int .u8 bE] (j.ar 61 [(0,(hP bE aM aR bu aq)),(1,(c9 c)),(5,R.made (List.replicate 0 (.int .u8 0)) 1 true),(14,(o9 bE aM c aq)),(15,AE)]) (.tuple [.int .i64 4,.int .u8 a1,.int .u8 ak]) (j.ar 61 [(0,(hP bE aM aR bu aq)),(1,(c9 c)),(5,R.made (List.replicate 0 (.int .u8 0)) 1 true),(14,(o9 bE aM c aq)),(15,AE)])∧(-2147483648≤bE∧bE≤2147483647)∧True∧some (o.bool (decide (aM<a1)))=some (o.bool false)∧some (o.bool (decide (aM>ak)))=some (o.bool false)∧Int.NonNeg (6-0)∧True∧(-2147483648≤bx .u8 aM (63)∧bx .u8 aM (63)≤2147483647)∧True∧(c<128→(Prod.fst (dq c)=0→U (sZ) (uJ bE aM aR bu c aq))∧(uK bE aM aR bu c aq U))∧(¬c<128→(191<c→(Prod.fst (dq c)=0→U (sZ) (uJ bE aM aR bu c aq))∧(uK bE aM aR bu c aq U))∧(¬191<c→Int.NonNeg (6-0)∧True∧(-2147483648≤bx .u8 c (63)∧bx .u8 c (63)≤2147483647)∧True∧U (.slice none 0 0) (j.ar 167 [(0,⟨[.agg [.int .u8 bE,.int .u8 aM,.int .u8 c,.int .u8 bu,.int .i64 3]],5,true,false,0,0,0,aq⟩),(1,(c9 c)),(5,R.made (List.replicate 0 (.int .u8 0)) 1 true),(14,(o9 bE aM c aq)),(15,AE)])))) :
 ∃v p,aI Tryz.prog aw 107 [.ptr (some ⟨0,0,0,0,5⟩),.slice (some ⟨1,0,0,0,1⟩) 1 1] (j.of [hj bE aM aR bu 2 aq,gW c]) v p∧U v p :=
 cb bQ mixed c8 (an:= .aA (.rounds 300) (he 8003 (he 1001 (.aA (.val 2001 (.tuple [.int .i64 4,.int .u8 a1,.int .u8 ak])) (ag 7001 (ag 7004 (.aA (.rounds 300) (he 13002 (.aA (.val 14002 (.bool false)) (.aA (.val 14006 (.bool false)) (ag 17001 (ag 17003 (ag 17004 (ag 17005 (he 13002 (.aK 14002 (he 8003 m') (.aK 14006 (he 8003 m') (ag 17001 (ag 17003 (ag 17004 (ag 17005 .nil))))))))))))))))))))) (by kernel_rfl) aY
abbrev LP:o:=o.slice (some ⟨14,1,3,0,1⟩) 1 1
abbrev LQ:o:=o.slice (some ⟨14,1,4,0,1⟩) 0 0
abbrev AF:o:=o.slice (some ⟨176,0,0,0,1⟩) 1 1
abbrev AG:o:=o.slice (some ⟨176,1,0,0,1⟩) 2 2
abbrev uL(bE:Int)(aM:Int)(aR:Int)(c:Int)(aq:Option (TypeId×Nat)):R:=⟨[.int .u8 bE,.int .u8 aM,.int .u8 aR,.int .u8 c],1,false,false,1,0,3,some (5,0)⟩
abbrev LR:R:=(R.made ([LP]) 1 true (some (34,1)))
abbrev AH:R:=(R.made ([LQ]) 1 true (some (34,1)))
abbrev Fl(bE:Int)(aM:Int)(aR:Int)(bu:Int)(c:Int)(aq:Option (TypeId×Nat)):j:=(j.ar 61 [(0,(hP bE aM aR bu aq)),(1,(c9 c)),(5,R.made (List.replicate 0 (.int .u8 0)) 1 true),(14,(uL bE aM aR c aq)),(15,(R.made ([.slice (some ⟨14,1,0,0,1⟩) 4 4]) 1 true (some (34,1))))])
abbrev AI(bE:Int)(aM:Int)(aR:Int)(bu:Int)(c:Int)(aq:Option (TypeId×Nat)):j:=(j.ar 251 [(0,(nW aM aR bu c aq)),(1,(c9 c)),(5,R.made (List.replicate 0 (.int .u8 0)) 1 true),(14,(uL bE aM aR c aq)),(15,LR),(175,R.made [.int .i32 65533] 1 true),(176,R.made [.int .i32 65533] 1 false (some (21,0)))])
abbrev LS(bE:Int)(aM:Int)(aR:Int)(bu:Int)(c:Int)(aq:Option (TypeId×Nat)):j:=(j.ar 241 [(0,(hP bE aM aR bu aq)),(1,(c9 c)),(5,R.made (List.replicate 0 (.int .u8 0)) 1 true),(14,(uL bE aM aR c aq)),(15,AH),(175,R.made [.int .i32 65533] 1 true),(176,(p6 c aq)),(229,R.made [.int .i32 c] 1 true)])
abbrev Fm(bE:Int)(aM:Int)(aR:Int)(bu:Int)(c:Int)(aq:Option (TypeId×Nat)):j:=(j.ar 237 [(0,(hP bE aM aR bu aq)),(1,(c9 c)),(5,R.made (List.replicate 0 (.int .u8 0)) 1 true),(14,(uL bE aM aR c aq)),(15,AH),(175,R.made [.int .i32 65533] 1 true),(176,(p7 aq)),(225,R.made [.int .i32 65533] 1 true)])
abbrev LU(bE:Int)(aM:Int)(aR:Int)(bu:Int)(c:Int)(aq:Option (TypeId×Nat))(U:o→j→Prop):Prop:=(¬Prod.fst (dq c)=2→(Prod.fst (dq c)=3→(-2147483648≤c∧c≤2147483647)∧True∧U (AF) (AI bE aM aR bu c aq))∧(¬Prod.fst (dq c)=3→(-2147483648≤c∧c≤2147483647)∧True∧U (AF) (AI bE aM aR bu c aq)))
abbrev Fo(bE:Int)(aM:Int)(aR:Int)(bu:Int)(c:Int)(aq:Option (TypeId×Nat))(U:o→j→Prop):Prop:=(¬Prod.fst (dq c)=0→(Prod.fst (dq c)=1→(-2147483648≤c∧c≤2147483647)∧U (AG) (LS bE aM aR bu c aq))∧(¬Prod.fst (dq c)=1→(Prod.fst (dq c)=2→(-2147483648≤c∧c≤2147483647)∧True∧U (AF) (AI bE aM aR bu c aq))∧(LU bE aM aR bu c aq U)))
theorem U7(bE aM aR bu c a1 ak:Int)(aq:Option (TypeId×Nat))(U:o→j→Prop)(aY:c7 Tryz.prog aw 99 [.int .u8 bE] (Fl bE aM aR bu c aq) (.tuple [.int .i64 4,.int .u8 a1,.int .u8 ak]) (Fl bE aM aR bu c aq)∧(-2147483648≤bE∧bE≤2147483647)∧True∧some (o.bool (decide (aM<a1)))=some (o.bool false)∧some (o.bool (decide (aM>ak)))=some (o.bool false)∧Int.NonNeg (6-0)∧True∧(-2147483648≤bx .u8 aM (63)∧bx .u8 aM (63)≤2147483647)∧True∧some (o.bool (decide (aR<128)))=some (o.bool false)∧some (o.bool (decide (aR>191)))=some (o.bool false)∧Int.NonNeg (6-0)∧True∧(-2147483648≤bx .u8 aR (63)∧bx .u8 aR (63)≤2147483647)∧True∧(c<128→(Prod.fst (dq c)=0→U (AG) (Fm bE aM aR bu c aq))∧(Fo bE aM aR bu c aq U))∧(¬c<128→(191<c→(Prod.fst (dq c)=0→U (AG) (Fm bE aM aR bu c aq))∧(Fo bE aM aR bu c aq U))∧(¬191<c→Int.NonNeg (6-0)∧True∧(-2147483648≤bx .u8 c (63)∧bx .u8 c (63)≤2147483647)∧True∧U (.slice (some ⟨192,0,0,0,1⟩) 1 1) (j.ar 203 [(0,(hP bE aM aR bu aq)),(1,(c9 c)),(5,R.made (List.replicate 0 (.int .u8 0)) 1 true),(14,(uL bE aM aR c aq)),(15,AH),(191,R.made [.int .i32 (cg .i32 (e8 .i32 (cg .i32 (e8 .i32 (cg .i32 (e8 .i32 (bx .i32 bE (7)) (6)) (bx .u8 aM (63))) (6)) (bx .u8 aR (63))) (6)) (bx .u8 c (63)))] 1 true),(192,R.made [.int .i32 (cg .i32 (e8 .i32 (cg .i32 (e8 .i32 (cg .i32 (e8 .i32 (bx .i32 bE (7)) (6)) (bx .u8 aM (63))) (6)) (bx .u8 aR (63))) (6)) (bx .u8 c (63)))] 1 false (some (21,0)))])))) :
 ∃v p,aI Tryz.prog aw 107 [.ptr (some ⟨0,0,0,0,5⟩),.slice (some ⟨1,0,0,0,1⟩) 1 1] (j.of [hj bE aM aR bu 3 aq,gW c]) v p∧U v p :=
 cb bQ mixed c8 (an:= .aA (.rounds 300) (he 8003 (he 1001 (.aA (.val 2001 (.tuple [.int .i64 4,.int .u8 a1,.int .u8 ak])) (ag 7001 (ag 7004 (.aA (.rounds 300) (he 13002 (.aA (.val 14002 (.bool false)) (.aA (.val 14006 (.bool false)) (ag 17001 (ag 17003 (ag 17004 (ag 17005 (he 13002 (.aA (.val 14002 (.bool false)) (.aA (.val 14006 (.bool false)) (ag 17001 (ag 17003 (ag 17004 (ag 17005 (he 13002 (.aK 14002 (he 8003 m') (.aK 14006 (he 8003 m') (ag 17001 (ag 17003 (ag 17004 (ag 17005 .nil)))))))))))))))))))))))))))) (by kernel_rfl) aY
end Go.Proofs.YtddnafghiejcoaaGreatDoor
namespace Go.cM
theorem U8:∀n:Fin 256,bx .i32 (n.val:Int) 31=(n.val%32:Nat):=by decide+kernel
theorem U9:∀n:Fin 256,bx .i32 (n.val:Int) 15=(n.val%16:Nat):=by decide+kernel
theorem U':∀n:Fin 256,bx .i32 (n.val:Int) 7=(n.val%8:Nat):=by decide+kernel
theorem Va:∀n:Fin 256,bx .u8 (n.val:Int) 63=(n.val%64:Nat):=by decide+kernel
theorem LV(b:UInt8):bx .i32 (b.toNat:Int) 31=(b.toNat%32:Nat):=U8 ⟨b.toNat,b.toNat_lt⟩
theorem LW(b:UInt8):bx .i32 (b.toNat:Int) 15=(b.toNat%16:Nat):=U9 ⟨b.toNat,b.toNat_lt⟩
theorem LX(b:UInt8):bx .i32 (b.toNat:Int) 7=(b.toNat%8:Nat):=U' ⟨b.toNat,b.toNat_lt⟩
theorem mi(b:UInt8):bx .u8 (b.toNat:Int) 63=(b.toNat%64:Nat):=Va ⟨b.toNat,b.toNat_lt⟩
theorem na(a:Nat)(h:a<33554432):e8 .i32 (a:Int) 6=(a*64:Nat):=by unfold e8;rw [show min (Int.toNat 6) (IntKind.bits .i32)=6 by decide];rw [show((a:Int)*2^6)=(a*64:Nat)by push_cast;rfl];exact p1 (k:= .i32) (by simp only [ik];omega)
theorem nb(a x:Nat)(h:a<16777216)(ae:x<64):cg .i32 ((a*64:Nat):Int) (x:Int)=(a*64+x:Nat):=by
 unfold cg
 have e:(BitVec.ofInt (IntKind.bits .i32) ((a*64:Nat):Int) ||| BitVec.ofInt (IntKind.bits .i32) (x:Int)).toNat=a*64+x:=by rw [show IntKind.bits .i32=32 by rfl,BitVec.ofInt_natCast,BitVec.ofInt_natCast,BitVec.toNat_or,BitVec.toNat_ofNat,BitVec.toNat_ofNat,Nat.mod_eq_of_lt (by omega),Nat.mod_eq_of_lt (by omega)];rw [show a*64=2^6*a by omega,←Nat.two_pow_add_eq_or_of_lt (by omega) a]
 rw [e];exact p1 (k:= .i32) (by simp only [ik];omega)
end Go.cM
namespace Go.Proofs.YtddnafghiejcoaaGreatDoor
open Go.cM Go.Keys
set_option maxRecDepth 1000000
def Vb(x:Nat×Nat×Nat):Int×Int×Int:=((x.1:Int),(x.2.1:Int),(x.2.2:Int))
theorem Vc(n:Nat):dq (n:Int)=Vb (lead n):=by
 have ao:((n:Int)<128)=(n<128):=propext (by omega);have a2:(194≤(n:Int)∧(n:Int)≤223)=(194≤n∧n≤223):=propext (by omega);have a3:((n:Int)=224)=(n=224):=propext (by omega);have a4:((n:Int)=237)=(n=237):=propext (by omega);have a5:(225≤(n:Int)∧(n:Int)≤239)=(225≤n∧n≤239):=propext (by omega);have mh:((n:Int)=240)=(n=240):=propext (by omega);have w':(241≤(n:Int)∧(n:Int)≤243)=(241≤n∧n≤243):=propext (by omega);have Fp:((n:Int)=244)=(n=244):=propext (by omega);unfold dq lead;simp only [ao,a2,a3,a4,a5,mh,w',Fp];by_cases dG:n<128
 ·simp only [if_pos dG];rfl
 by_cases ee:194≤n∧n≤223
 ·simp only [if_neg dG,if_pos ee];rfl
 by_cases f':n=224
 ·simp only [if_neg dG,if_neg ee,if_pos f'];rfl
 by_cases jM:n=237
 ·simp only [if_neg dG,if_neg ee,if_neg f',if_pos jM];rfl
 by_cases pT:225≤n∧n≤239
 ·simp only [if_neg dG,if_neg ee,if_neg f',if_neg jM,if_pos pT];rfl
 by_cases lr:n=240
 ·simp only [if_neg dG,if_neg ee,if_neg f',if_neg jM,if_neg pT,if_pos lr];rfl
 by_cases pU:241≤n∧n≤243
 ·simp only [if_neg dG,if_neg ee,if_neg f',if_neg jM,if_neg pT,if_neg lr,if_pos pU];rfl
 by_cases oV:n=244
 ·simp only [if_neg dG,if_neg ee,if_neg f',if_neg jM,if_neg pT,if_neg lr,if_neg pU,if_pos oV];rfl
 ·simp only [if_neg dG,if_neg ee,if_neg f',if_neg jM,if_neg pT,if_neg lr,if_neg pU,if_neg oV];rfl
theorem rm(n:Nat):dq (n:Int)=(((lead n).1:Int),((lead n).2.1:Int),((lead n).2.2:Int)):=Vc n
theorem s0(b:UInt8):(dq (b.toNat:Int)).1=(lead b.toNat).1:=by rw [rm]
theorem jS(n:Nat):(lead n).1=0∨(lead n).1=1∨(lead n).1=2∨(lead n).1=3∨(lead n).1=4:=by
 unfold lead
 repeat' split
 all_goals simp
def cd(h:Bytes)(i:Nat)(k:Int):Int:=match h[i]? with|some b=>b.toNat|none=>k
abbrev cn(h:Bytes)(bE aM aR bu:Int)(aq:Option (TypeId×Nat)):R:=hj (cd h 0 bE) (cd h 1 aM) (cd h 2 aR) (cd h 3 bu) h.length aq
abbrev xa(r:Nat):R:=R.made [.int .i32 r] 1 false (some (21,0))
abbrev xb(r s:Nat):R:= {bi:=[.int .i32 r,.int .i32 s],es:=1,exact:=false,ro:=false,J:=1,fX:=0,gQ:=1,aq:=some (21,0)}
def nc(bE aM aR bu c:Int)(aq:Option (TypeId×Nat))(q:List Nat×Bytes)(v:o)(h:j):Prop :=
 h.get 0=some (cn q.2 bE aM aR bu aq)∧h.get 1=some (gW c) ∧
 match q.1 with
 |[]=>v=.slice none 0 0
 |[r]=> ∃C,2≤C∧v=.slice (some ⟨C,0,0,0,1⟩) 1 1∧h.get C=some (xa r)
 |[r,s]=> ∃C,2≤C∧v=.slice (some ⟨C,1,0,0,1⟩) 2 2∧h.get C=some (xb r s)
 |_=>False
theorem uM{bE aM aR bu c:Int}{aq:Option (TypeId×Nat)}{q:List Nat×Bytes}{ad:Bytes}(e:q=([],ad)){h:j}(bm:h.get 0=some (cn ad bE aM aR bu aq))(p:h.get 1=some (gW c)):nc bE aM aR bu c aq q (.slice none 0 0) h:=by subst e;exact⟨bm,p,rfl⟩
theorem fo{bE aM aR bu c:Int}{aq:Option (TypeId×Nat)}{q:List Nat×Bytes}{r:Nat}{ad:Bytes}(e:q=([r],ad)){h:j}{C:Nat}(aV:2≤C)(bm:h.get 0=some (cn ad bE aM aR bu aq))(p:h.get 1=some (gW c))(bb:h.get C=some (xa r)) :
 nc bE aM aR bu c aq q (.slice (some ⟨C,0,0,0,1⟩) 1 1) h:=by
 subst e;exact⟨bm,p,C,aV,rfl,bb⟩
theorem hZ{bE aM aR bu c:Int}{aq:Option (TypeId×Nat)}{q:List Nat×Bytes}{r s:Nat}{ad:Bytes}(e:q=([r,s],ad)){h:j}{C:Nat}(aV:2≤C)(bm:h.get 0=some (cn ad bE aM aR bu aq))(p:h.get 1=some (gW c))(bb:h.get C=some (xb r s)) :
 nc bE aM aR bu c aq q (.slice (some ⟨C,1,0,0,1⟩) 2 2) h:=by
 subst e;exact⟨bm,p,C,aV,rfl,bb⟩
theorem dA(b:UInt8): -2147483648≤(b.toNat:Int)∧(b.toNat:Int)≤2147483647:=by have:=b.toNat_lt;omega
theorem iY(b:UInt8): -2147483648≤bx .u8 (b.toNat:Int) 63∧bx .u8 (b.toNat:Int) 63≤2147483647:=by rw [mi];omega
theorem lH(c:UInt8)(h:(lead c.toNat).1=0):cl [] c=([65533],[]):=by simp [cl,hB,first,h]
theorem lI(c:UInt8)(h:(lead c.toNat).1=1):cl [] c=([c.toNat],[]):=by simp [cl,hB,first,h]
theorem ka(b:UInt8)(r:Bytes)(n:Nat)(h:(lead b.toNat).1=n+2):first (b::r)=tail (n+1) 1 (lead b.toNat).2.1 (lead b.toNat).2.2 (b.toNat%2^(7- (n+2))) r:=by simp only [first,h];rw [if_neg (by omega),if_neg (by omega)];rfl
theorem fi(c:UInt8)(n:Nat)(h:(lead c.toNat).1=n+2):cl [] c=([],[c]):=by simp [cl,hB,ka c [] n h,tail]
theorem Vd(c:UInt8)(bE aM aR bu:Int)(aq:Option (TypeId×Nat)) :
 ∃v p,aI Tryz.prog aw 107 [.ptr (some ⟨0,0,0,0,5⟩),.slice (some ⟨1,0,0,0,1⟩) 1 1] (j.of [hj bE aM aR bu 0 aq,gW c.toNat]) v p∧nc bE aM aR bu c.toNat aq (cl [] c) v p:=by
 refine U1 bE aM aR bu c.toNat 0 0 aq _ ?_
 delta Ay LO c9 nW rk Fc
 rw [s0]
 refine⟨fun e=>fo (lH c (by omega)) (by decide) rfl rfl rfl,fun aj=>⟨fun e=>⟨dA c,fo (lI c (by omega)) (by decide) rfl rfl rfl⟩,fun a6=>⟨fun e=>⟨dA c,trivial,uM (fi c 0 (by omega)) rfl rfl⟩,
  fun aO=>⟨fun e=>⟨dA c,trivial,uM (fi c 1 (by omega)) rfl rfl⟩,fun ft=>⟨dA c,trivial,uM (fi c 2 (by have:=jS c.toNat;omega)) rfl rfl⟩⟩⟩⟩⟩
theorem h0:Int.NonNeg (6-0):=(show(0:Int)≤6 by decide)
theorem uN(k:Nat):hB k []=([],[]):=by cases k<;>rfl
theorem Ve(k:Nat)(c:UInt8):hB (k+1) [c]=hB 1 [c]:=by
 have aC:∀n,1≤n→List.drop n [c]=[]:=fun n aS=>by rw [List.drop_eq_nil_iff];simpa using aS
 have aS:(first [c]).2.2=false→1≤(first [c]).2.1:=by
  intro h;by_cases bm:(lead c.toNat).1=0
  ·simp [first,bm]
  ·by_cases p:(lead c.toNat).1=1
   ·simp [first,p]
   ·rw [ka c [] ((lead c.toNat).1-2) (by omega)]at h;simp [tail]at h
 simp only [hB];cases h:(first [c]).2.2 with
 |true=>simp
 |false=>simp only [Bool.false_eq_true,if_false];rw [aC _ (aS h),uN]
theorem uO(b:UInt8)(r:Bytes)(c:UInt8)(v:Nat)(au:first (b::r++[c])=(v,(b::r).length,false)):cl (b::r) c=(v::(cl [] c).1,(cl [] c).2):=by
 unfold cl;simp only [List.cons_append,List.length_cons,hB];have fs:first (b::(r++[c]))=(v,r.length+1,false):=au
 simp only [fs,Bool.false_eq_true,if_false,List.drop_succ_cons];rw [List.drop_left,Ve];rfl
theorem Fq(b:UInt8)(r:Bytes)(c:UInt8)(v:Nat)(au:first (b::r++[c])=(v,(b::r).length+1,false)):cl (b::r) c=([v],[]):=by
 unfold cl;simp only [List.cons_append,List.length_cons,hB];have fs:first (b::(r++[c]))=(v,r.length+1+1,false):=au
 simp only [fs,Bool.false_eq_true,if_false,List.drop_succ_cons];rw [List.drop_eq_nil_of_le (by simp),uN]
theorem xc(b:UInt8)(r:Bytes)(c:UInt8)(au:(first (b::r++[c])).2.2=true):cl (b::r) c=([],b::r++[c]):=by unfold cl;simp only [List.cons_append,List.length_cons,hB];have fs:(first (b::(r++[c]))).2.2=true:=au;rw [if_pos fs]
theorem Vf(ay c:UInt8)(aM aR bu:Int)(aq:Option (TypeId×Nat))(az:(lead ay.toNat).1=2) :
 ∃v p,aI Tryz.prog aw 107 [.ptr (some ⟨0,0,0,0,5⟩),.slice (some ⟨1,0,0,0,1⟩) 1 1] (j.of [hj ay.toNat aM aR bu 1 aq,gW c.toNat]) v p∧nc ay.toNat aM aR bu c.toNat aq (cl (ay:: []) c) v p:=by
 have a8:∀r,first (ay::r)=tail 1 1 (lead ay.toNat).2.1 (lead ay.toNat).2.2 (ay.toNat%2^(7-2)) r:=fun r=>ka ay r 0 az
 have dt:(c.toNat<(lead ay.toNat).2.1∨(lead ay.toNat).2.2<c.toNat)→cl (ay:: []) c=(65533::(cl [] c).1,(cl [] c).2):=fun av=>uO _ _ _ _ (by rw [show(ay:: [])++[c]=ay:: [c]by rfl,a8];simp only [tail];rw [if_pos av];rfl)
 have nX:¬(c.toNat<(lead ay.toNat).2.1∨(lead ay.toNat).2.2<c.toNat)→cl (ay:: []) c=([(ay.toNat%32)*64+c.toNat%64],[]):=fun av=>Fq _ _ _ _ (by rw [show(ay:: [])++[c]=ay:: [c]by rfl,a8];simp only [tail];rw [if_neg av];rfl)
 have bg:cg .i32 (e8 .i32 (bx .i32 (ay.toNat:Int) 31) 6) (bx .u8 (c.toNat:Int) 63)=(((ay.toNat%32)*64+c.toNat%64:Nat):Int):=by rw [LV,mi c,na _ (by omega),nb _ _ (by omega) (by omega)]
 refine U2 ay.toNat aM aR bu c.toNat (lead ay.toNat).2.1 (lead ay.toNat).2.2 aq _ ?_
 delta uH AA lG c9 hP sY p9 AD uI AB Az nW rk uG AC p6 o8 p8 p7 Fe
 rw [s0];refine⟨⟨by have k:=fun H=>rj ay.toNat H;simp only [nV,rm,az]at k;exact k _⟩,dA ay,trivial,fun cQ=> ?_,fun gr=>⟨fun tY=> ?_,fun hle=>⟨h0,trivial,iY c,trivial,fo (nX (by omega)) (by decide) rfl rfl (congrArg (fun x=>some (R.made [.int .i32 x] 1 false (some (21,0)))) bg)⟩⟩⟩
 ·exact⟨fun e=>hZ (by rw [dt (by omega),lH c (by omega)]) (by decide) rfl rfl rfl,fun aj=>⟨fun e=>⟨dA c,hZ (by rw [dt (by omega),lI c (by omega)]) (by decide) rfl rfl rfl⟩,fun a6=>⟨fun e=>⟨dA c,trivial,fo (by rw [dt (by omega),fi c 0 (by omega)]) (by decide) rfl rfl rfl⟩,
   fun aO=>⟨fun e=>⟨dA c,trivial,fo (by rw [dt (by omega),fi c 1 (by omega)]) (by decide) rfl rfl rfl⟩,fun ft=>⟨dA c,trivial,fo (by rw [dt (by omega),fi c 2 (by have:=jS c.toNat;omega)]) (by decide) rfl rfl rfl⟩⟩⟩⟩⟩
 ·exact⟨fun e=>hZ (by rw [dt (by omega),lH c (by omega)]) (by decide) rfl rfl rfl,fun aj=>⟨fun e=>⟨dA c,hZ (by rw [dt (by omega),lI c (by omega)]) (by decide) rfl rfl rfl⟩,fun a6=>⟨fun e=>⟨dA c,trivial,fo (by rw [dt (by omega),fi c 0 (by omega)]) (by decide) rfl rfl rfl⟩,
   fun aO=>⟨fun e=>⟨dA c,trivial,fo (by rw [dt (by omega),fi c 1 (by omega)]) (by decide) rfl rfl rfl⟩,fun ft=>⟨dA c,trivial,fo (by rw [dt (by omega),fi c 2 (by have:=jS c.toNat;omega)]) (by decide) rfl rfl rfl⟩⟩⟩⟩⟩
theorem Vg(ay c:UInt8)(aM aR bu:Int)(aq:Option (TypeId×Nat))(az:(lead ay.toNat).1=3) :
 ∃v p,aI Tryz.prog aw 107 [.ptr (some ⟨0,0,0,0,5⟩),.slice (some ⟨1,0,0,0,1⟩) 1 1] (j.of [hj ay.toNat aM aR bu 1 aq,gW c.toNat]) v p∧nc ay.toNat aM aR bu c.toNat aq (cl (ay:: []) c) v p:=by
 have a8:∀r,first (ay::r)=tail 2 1 (lead ay.toNat).2.1 (lead ay.toNat).2.2 (ay.toNat%2^(7-3)) r:=fun r=>ka ay r 1 az
 have dt:(c.toNat<(lead ay.toNat).2.1∨(lead ay.toNat).2.2<c.toNat)→cl (ay:: []) c=(65533::(cl [] c).1,(cl [] c).2):=fun av=>uO _ _ _ _ (by rw [show(ay:: [])++[c]=ay:: [c]by rfl,a8];simp only [tail];rw [if_pos av];rfl)
 have nX:¬(c.toNat<(lead ay.toNat).2.1∨(lead ay.toNat).2.2<c.toNat)→cl (ay:: []) c=([],ay:: []++[c]):=fun av=>xc _ _ _ (by rw [show(ay:: [])++[c]=ay:: [c]by rfl,a8];simp only [tail];rw [if_neg av])
 refine U3 ay.toNat aM aR bu c.toNat (lead ay.toNat).2.1 (lead ay.toNat).2.2 aq _ ?_
 delta rl lG c9 p9 AD uI AB Az nW rk uG AC p6 uH AA hP sY o8 p8 p7
 rw [s0];refine⟨⟨by have k:=fun H=>rj ay.toNat H;simp only [nV,rm,az]at k;exact k _⟩,dA ay,trivial,fun cQ=> ?_,fun gr=>⟨fun tY=> ?_,fun hle=>⟨h0,trivial,iY c,trivial,uM (nX (by omega)) rfl rfl⟩⟩⟩
 ·exact⟨fun e=>hZ (by rw [dt (by omega),lH c (by omega)]) (by decide) rfl rfl rfl,fun aj=>⟨fun e=>⟨dA c,hZ (by rw [dt (by omega),lI c (by omega)]) (by decide) rfl rfl rfl⟩,fun a6=>⟨fun e=>⟨dA c,trivial,fo (by rw [dt (by omega),fi c 0 (by omega)]) (by decide) rfl rfl rfl⟩,
   fun aO=>⟨fun e=>⟨dA c,trivial,fo (by rw [dt (by omega),fi c 1 (by omega)]) (by decide) rfl rfl rfl⟩,fun ft=>⟨dA c,trivial,fo (by rw [dt (by omega),fi c 2 (by have:=jS c.toNat;omega)]) (by decide) rfl rfl rfl⟩⟩⟩⟩⟩
 ·exact⟨fun e=>hZ (by rw [dt (by omega),lH c (by omega)]) (by decide) rfl rfl rfl,fun aj=>⟨fun e=>⟨dA c,hZ (by rw [dt (by omega),lI c (by omega)]) (by decide) rfl rfl rfl⟩,fun a6=>⟨fun e=>⟨dA c,trivial,fo (by rw [dt (by omega),fi c 0 (by omega)]) (by decide) rfl rfl rfl⟩,
   fun aO=>⟨fun e=>⟨dA c,trivial,fo (by rw [dt (by omega),fi c 1 (by omega)]) (by decide) rfl rfl rfl⟩,fun ft=>⟨dA c,trivial,fo (by rw [dt (by omega),fi c 2 (by have:=jS c.toNat;omega)]) (by decide) rfl rfl rfl⟩⟩⟩⟩⟩
theorem Vh(ay c:UInt8)(aM aR bu:Int)(aq:Option (TypeId×Nat))(az:(lead ay.toNat).1=4) :
 ∃v p,aI Tryz.prog aw 107 [.ptr (some ⟨0,0,0,0,5⟩),.slice (some ⟨1,0,0,0,1⟩) 1 1] (j.of [hj ay.toNat aM aR bu 1 aq,gW c.toNat]) v p∧nc ay.toNat aM aR bu c.toNat aq (cl (ay:: []) c) v p:=by
 have a8:∀r,first (ay::r)=tail 3 1 (lead ay.toNat).2.1 (lead ay.toNat).2.2 (ay.toNat%2^(7-4)) r:=fun r=>ka ay r 2 az
 have dt:(c.toNat<(lead ay.toNat).2.1∨(lead ay.toNat).2.2<c.toNat)→cl (ay:: []) c=(65533::(cl [] c).1,(cl [] c).2):=fun av=>uO _ _ _ _ (by rw [show(ay:: [])++[c]=ay:: [c]by rfl,a8];simp only [tail];rw [if_pos av];rfl)
 have nX:¬(c.toNat<(lead ay.toNat).2.1∨(lead ay.toNat).2.2<c.toNat)→cl (ay:: []) c=([],ay:: []++[c]):=fun av=>xc _ _ _ (by rw [show(ay:: [])++[c]=ay:: [c]by rfl,a8];simp only [tail];rw [if_neg av])
 refine U4 ay.toNat aM aR bu c.toNat (lead ay.toNat).2.1 (lead ay.toNat).2.2 aq _ ?_
 delta rl lG c9 p9 AD uI AB Az nW rk uG AC p6 uH AA hP sY o8 p8 p7
 rw [s0];refine⟨⟨by have k:=fun H=>rj ay.toNat H;simp only [nV,rm,az]at k;exact k _⟩,dA ay,trivial,fun cQ=> ?_,fun gr=>⟨fun tY=> ?_,fun hle=>⟨h0,trivial,iY c,trivial,uM (nX (by omega)) rfl rfl⟩⟩⟩
 ·exact⟨fun e=>hZ (by rw [dt (by omega),lH c (by omega)]) (by decide) rfl rfl rfl,fun aj=>⟨fun e=>⟨dA c,hZ (by rw [dt (by omega),lI c (by omega)]) (by decide) rfl rfl rfl⟩,fun a6=>⟨fun e=>⟨dA c,trivial,fo (by rw [dt (by omega),fi c 0 (by omega)]) (by decide) rfl rfl rfl⟩,
   fun aO=>⟨fun e=>⟨dA c,trivial,fo (by rw [dt (by omega),fi c 1 (by omega)]) (by decide) rfl rfl rfl⟩,fun ft=>⟨dA c,trivial,fo (by rw [dt (by omega),fi c 2 (by have:=jS c.toNat;omega)]) (by decide) rfl rfl rfl⟩⟩⟩⟩⟩
 ·exact⟨fun e=>hZ (by rw [dt (by omega),lH c (by omega)]) (by decide) rfl rfl rfl,fun aj=>⟨fun e=>⟨dA c,hZ (by rw [dt (by omega),lI c (by omega)]) (by decide) rfl rfl rfl⟩,fun a6=>⟨fun e=>⟨dA c,trivial,fo (by rw [dt (by omega),fi c 0 (by omega)]) (by decide) rfl rfl rfl⟩,
   fun aO=>⟨fun e=>⟨dA c,trivial,fo (by rw [dt (by omega),fi c 1 (by omega)]) (by decide) rfl rfl rfl⟩,fun ft=>⟨dA c,trivial,fo (by rw [dt (by omega),fi c 2 (by have:=jS c.toNat;omega)]) (by decide) rfl rfl rfl⟩⟩⟩⟩⟩
theorem Vi(ay ba c:UInt8)(aR bu:Int)(aq:Option (TypeId×Nat))(az:(lead ay.toNat).1=3)(p:¬(ba.toNat<(lead ay.toNat).2.1∨(lead ay.toNat).2.2<ba.toNat)) :
 ∃v p,aI Tryz.prog aw 107 [.ptr (some ⟨0,0,0,0,5⟩),.slice (some ⟨1,0,0,0,1⟩) 1 1] (j.of [hj ay.toNat ba.toNat aR bu 2 aq,gW c.toNat]) v p∧nc ay.toNat ba.toNat aR bu c.toNat aq (cl (ay:: [ba]) c) v p:=by
 have a8:∀r,first (ay::r)=tail 2 1 (lead ay.toNat).2.1 (lead ay.toNat).2.2 (ay.toNat%2^(7-3)) r:=fun r=>ka ay r 1 az
 have dt:(c.toNat<128∨191<c.toNat)→cl (ay:: [ba]) c=(65533::(cl [] c).1,(cl [] c).2):=fun av=>uO _ _ _ _ (by rw [show(ay:: [ba])++[c]=ay:: [ba,c]by rfl,a8];simp only [tail];rw [if_neg p,if_pos av];rfl)
 have nX:¬(c.toNat<128∨191<c.toNat)→cl (ay:: [ba]) c=([((ay.toNat%16)*64+ba.toNat%64)*64+c.toNat%64],[]):=fun av=>Fq _ _ _ _ (by rw [show(ay:: [ba])++[c]=ay:: [ba,c]by rfl,a8];simp only [tail];rw [if_neg p,if_neg av];rfl)
 have bg:cg .i32 (e8 .i32 (cg .i32 (e8 .i32 (bx .i32 (ay.toNat:Int) 15) 6) (bx .u8 (ba.toNat:Int) 63)) 6) (bx .u8 (c.toNat:Int) 63)=((((ay.toNat%16)*64+ba.toNat%64)*64+c.toNat%64:Nat):Int):=by rw [LW,mi ba,mi c,na _ (by omega),nb _ _ (by omega) (by omega),na _ (by omega),nb _ _ (by omega) (by omega)]
 refine U5 ay.toNat ba.toNat aR bu c.toNat (lead ay.toNat).2.1 (lead ay.toNat).2.2 aq _ ?_
 delta w8 Fg o9 c9 hP sY uK Fk w9 Fh Ff nW rk w7 Fj p6 sZ uJ p7 Fi
 rw [s0];refine⟨⟨by have k:=fun H=>rj ay.toNat H;simp only [nV,rm,az]at k;exact k _⟩,dA ay,trivial,okF (by omega),okF (by omega),h0,trivial,iY ba,trivial,fun cQ=> ?_,fun gr=>⟨fun tY=> ?_,fun hle=>⟨h0,trivial,iY c,trivial,fo (nX (by omega)) (by decide) rfl rfl (congrArg (fun x=>some (R.made [.int .i32 x] 1 false (some (21,0)))) bg)⟩⟩⟩
 ·exact⟨fun e=>hZ (by rw [dt (by omega),lH c (by omega)]) (by decide) rfl rfl rfl,fun aj=>⟨fun e=>⟨dA c,hZ (by rw [dt (by omega),lI c (by omega)]) (by decide) rfl rfl rfl⟩,fun a6=>⟨fun e=>⟨dA c,trivial,fo (by rw [dt (by omega),fi c 0 (by omega)]) (by decide) rfl rfl rfl⟩,
   fun aO=>⟨fun e=>⟨dA c,trivial,fo (by rw [dt (by omega),fi c 1 (by omega)]) (by decide) rfl rfl rfl⟩,fun ft=>⟨dA c,trivial,fo (by rw [dt (by omega),fi c 2 (by have:=jS c.toNat;omega)]) (by decide) rfl rfl rfl⟩⟩⟩⟩⟩
 ·exact⟨fun e=>hZ (by rw [dt (by omega),lH c (by omega)]) (by decide) rfl rfl rfl,fun aj=>⟨fun e=>⟨dA c,hZ (by rw [dt (by omega),lI c (by omega)]) (by decide) rfl rfl rfl⟩,fun a6=>⟨fun e=>⟨dA c,trivial,fo (by rw [dt (by omega),fi c 0 (by omega)]) (by decide) rfl rfl rfl⟩,
   fun aO=>⟨fun e=>⟨dA c,trivial,fo (by rw [dt (by omega),fi c 1 (by omega)]) (by decide) rfl rfl rfl⟩,fun ft=>⟨dA c,trivial,fo (by rw [dt (by omega),fi c 2 (by have:=jS c.toNat;omega)]) (by decide) rfl rfl rfl⟩⟩⟩⟩⟩
theorem Vj(ay ba c:UInt8)(aR bu:Int)(aq:Option (TypeId×Nat))(az:(lead ay.toNat).1=4)(p:¬(ba.toNat<(lead ay.toNat).2.1∨(lead ay.toNat).2.2<ba.toNat)) :
 ∃v p,aI Tryz.prog aw 107 [.ptr (some ⟨0,0,0,0,5⟩),.slice (some ⟨1,0,0,0,1⟩) 1 1] (j.of [hj ay.toNat ba.toNat aR bu 2 aq,gW c.toNat]) v p∧nc ay.toNat ba.toNat aR bu c.toNat aq (cl (ay:: [ba]) c) v p:=by
 have a8:∀r,first (ay::r)=tail 3 1 (lead ay.toNat).2.1 (lead ay.toNat).2.2 (ay.toNat%2^(7-4)) r:=fun r=>ka ay r 2 az
 have dt:(c.toNat<128∨191<c.toNat)→cl (ay:: [ba]) c=(65533::(cl [] c).1,(cl [] c).2):=fun av=>uO _ _ _ _ (by rw [show(ay:: [ba])++[c]=ay:: [ba,c]by rfl,a8];simp only [tail];rw [if_neg p,if_pos av];rfl)
 have nX:¬(c.toNat<128∨191<c.toNat)→cl (ay:: [ba]) c=([],ay:: [ba]++[c]):=fun av=>xc _ _ _ (by rw [show(ay:: [ba])++[c]=ay:: [ba,c]by rfl,a8];simp only [tail];rw [if_neg p,if_neg av])
 refine U6 ay.toNat ba.toNat aR bu c.toNat (lead ay.toNat).2.1 (lead ay.toNat).2.2 aq _ ?_
 delta AE o9 c9 uK Fk w9 Fh Ff nW rk w7 Fj p6 w8 Fg hP sY sZ uJ p7
 rw [s0];refine⟨⟨by have k:=fun H=>rj ay.toNat H;simp only [nV,rm,az]at k;exact k _⟩,dA ay,trivial,okF (by omega),okF (by omega),h0,trivial,iY ba,trivial,fun cQ=> ?_,fun gr=>⟨fun tY=> ?_,fun hle=>⟨h0,trivial,iY c,trivial,uM (nX (by omega)) rfl rfl⟩⟩⟩
 ·exact⟨fun e=>hZ (by rw [dt (by omega),lH c (by omega)]) (by decide) rfl rfl rfl,fun aj=>⟨fun e=>⟨dA c,hZ (by rw [dt (by omega),lI c (by omega)]) (by decide) rfl rfl rfl⟩,fun a6=>⟨fun e=>⟨dA c,trivial,fo (by rw [dt (by omega),fi c 0 (by omega)]) (by decide) rfl rfl rfl⟩,
   fun aO=>⟨fun e=>⟨dA c,trivial,fo (by rw [dt (by omega),fi c 1 (by omega)]) (by decide) rfl rfl rfl⟩,fun ft=>⟨dA c,trivial,fo (by rw [dt (by omega),fi c 2 (by have:=jS c.toNat;omega)]) (by decide) rfl rfl rfl⟩⟩⟩⟩⟩
 ·exact⟨fun e=>hZ (by rw [dt (by omega),lH c (by omega)]) (by decide) rfl rfl rfl,fun aj=>⟨fun e=>⟨dA c,hZ (by rw [dt (by omega),lI c (by omega)]) (by decide) rfl rfl rfl⟩,fun a6=>⟨fun e=>⟨dA c,trivial,fo (by rw [dt (by omega),fi c 0 (by omega)]) (by decide) rfl rfl rfl⟩,
   fun aO=>⟨fun e=>⟨dA c,trivial,fo (by rw [dt (by omega),fi c 1 (by omega)]) (by decide) rfl rfl rfl⟩,fun ft=>⟨dA c,trivial,fo (by rw [dt (by omega),fi c 2 (by have:=jS c.toNat;omega)]) (by decide) rfl rfl rfl⟩⟩⟩⟩⟩
theorem Vk(ay ba bT c:UInt8)(bu:Int)(aq:Option (TypeId×Nat))(az:(lead ay.toNat).1=4)(p:¬(ba.toNat<(lead ay.toNat).2.1∨(lead ay.toNat).2.2<ba.toNat))(ad:¬(bT.toNat<128∨191<bT.toNat)) :
 ∃v p,aI Tryz.prog aw 107 [.ptr (some ⟨0,0,0,0,5⟩),.slice (some ⟨1,0,0,0,1⟩) 1 1] (j.of [hj ay.toNat ba.toNat bT.toNat bu 3 aq,gW c.toNat]) v p∧nc ay.toNat ba.toNat bT.toNat bu c.toNat aq (cl (ay:: [ba,bT]) c) v p:=by
 have a8:∀r,first (ay::r)=tail 3 1 (lead ay.toNat).2.1 (lead ay.toNat).2.2 (ay.toNat%2^(7-4)) r:=fun r=>ka ay r 2 az
 have dt:(c.toNat<128∨191<c.toNat)→cl (ay:: [ba,bT]) c=(65533::(cl [] c).1,(cl [] c).2):=fun av=>uO _ _ _ _ (by rw [show(ay:: [ba,bT])++[c]=ay:: [ba,bT,c]by rfl,a8];simp only [tail];rw [if_neg p,if_neg ad,if_pos av];rfl)
 have nX:¬(c.toNat<128∨191<c.toNat)→cl (ay:: [ba,bT]) c=([(((ay.toNat%8)*64+ba.toNat%64)*64+bT.toNat%64)*64+c.toNat%64],[]):=fun av=>Fq _ _ _ _ (by rw [show(ay:: [ba,bT])++[c]=ay:: [ba,bT,c]by rfl,a8];simp only [tail];rw [if_neg p,if_neg ad,if_neg av];rfl)
 have bg:cg .i32 (e8 .i32 (cg .i32 (e8 .i32 (cg .i32 (e8 .i32 (bx .i32 (ay.toNat:Int) 7) 6) (bx .u8 (ba.toNat:Int) 63)) 6) (bx .u8 (bT.toNat:Int) 63)) 6) (bx .u8 (c.toNat:Int) 63)=(((((ay.toNat%8)*64+ba.toNat%64)*64+bT.toNat%64)*64+c.toNat%64:Nat):Int):=by rw [LX,mi ba,mi bT,mi c,na _ (by omega),nb _ _ (by omega) (by omega),na _ (by omega),nb _ _ (by omega) (by omega),na _ (by omega),nb _ _ (by omega) (by omega)]
 refine U7 ay.toNat ba.toNat bT.toNat bu c.toNat (lead ay.toNat).2.1 (lead ay.toNat).2.2 aq _ ?_
 delta AH LQ uL c9 hP sY Fo LU AI LR LP nW rk AF LS p6 AG Fm p7 Fl
 rw [s0];refine⟨⟨by have k:=fun H=>rj ay.toNat H;simp only [nV,rm,az]at k;exact k _⟩,dA ay,trivial,okF (by omega),okF (by omega),h0,trivial,iY ba,trivial,okF (by omega),okF (by omega),h0,trivial,iY bT,trivial,fun cQ=> ?_,fun gr=>⟨fun tY=> ?_,fun hle=>⟨h0,trivial,iY c,trivial,fo (nX (by omega)) (by decide) rfl rfl (congrArg (fun x=>some (R.made [.int .i32 x] 1 false (some (21,0)))) bg)⟩⟩⟩
 ·exact⟨fun e=>hZ (by rw [dt (by omega),lH c (by omega)]) (by decide) rfl rfl rfl,fun aj=>⟨fun e=>⟨dA c,hZ (by rw [dt (by omega),lI c (by omega)]) (by decide) rfl rfl rfl⟩,fun a6=>⟨fun e=>⟨dA c,trivial,fo (by rw [dt (by omega),fi c 0 (by omega)]) (by decide) rfl rfl rfl⟩,
   fun aO=>⟨fun e=>⟨dA c,trivial,fo (by rw [dt (by omega),fi c 1 (by omega)]) (by decide) rfl rfl rfl⟩,fun ft=>⟨dA c,trivial,fo (by rw [dt (by omega),fi c 2 (by have:=jS c.toNat;omega)]) (by decide) rfl rfl rfl⟩⟩⟩⟩⟩
 ·exact⟨fun e=>hZ (by rw [dt (by omega),lH c (by omega)]) (by decide) rfl rfl rfl,fun aj=>⟨fun e=>⟨dA c,hZ (by rw [dt (by omega),lI c (by omega)]) (by decide) rfl rfl rfl⟩,fun a6=>⟨fun e=>⟨dA c,trivial,fo (by rw [dt (by omega),fi c 0 (by omega)]) (by decide) rfl rfl rfl⟩,
   fun aO=>⟨fun e=>⟨dA c,trivial,fo (by rw [dt (by omega),fi c 1 (by omega)]) (by decide) rfl rfl rfl⟩,fun ft=>⟨dA c,trivial,fo (by rw [dt (by omega),fi c 2 (by have:=jS c.toNat;omega)]) (by decide) rfl rfl rfl⟩⟩⟩⟩⟩
end Go.Proofs.YtddnafghiejcoaaGreatDoor
namespace Go.Keys
def Good(s:bO):Prop :=
 match s.cp with
 |.ground=>s.kept=[]∧s.hold=[]∧s.aB=[]
 |.du=>s.kept=[27]∧s.hold=[]∧s.aB=[]
 |.dd=>s.aB=[]∧s.hold=s.kept.drop (at' s.kept)∧0<s.hold.length∧s.hold.length≤3∧(first s.hold).2.2=true
 |.sequence=>s.hold=[]∧s.aB=[]∧2≤s.kept.length∧s.kept.length<64
 |.single=>s.hold=[]∧s.aB=[]∧s.kept=[27,79]
 |.cW=>s.hold=[]∧s.kept.length<6∧s.kept.isPrefixOf ea=true∧s.aB.length≤65536
theorem LY:∀(k i a1 ak v:Nat)(l:Bytes),(tail k i a1 ak v l).2.2=true→l.length<k∧(tail k i a1 ak v l).2.1=i+l.length
 |0,i,a1,ak,v,l,h=>by simp [tail]at h
 |k+1,i,a1,ak,v,[],h=>by simp [tail]
 |k +1,i,a1,ak,v,c::r,h=>by
  simp only [tail]at h⊢;split at h
  ·simp at h
  ·rename_i av;rw [if_neg av];have:=LY k (i+1) 128 191 (v*64+c.toNat%64) r h;simp only [List.length_cons];omega
theorem LZ:∀(k i a1 ak v:Nat)(l:Bytes)(c:UInt8),(tail k i a1 ak v l).2.2=true →
 (tail k i a1 ak v (l++[c])).2.2=true∨((tail k i a1 ak v (l++[c])).2.2=false∧(tail k i a1 ak v (l++[c])).2.1=i+l.length+1)∨(tail k i a1 ak v (l++[c]))=(65533,i+l.length,false)
 |0,i,a1,ak,v,l,c,h=>by simp [tail]at h
 |k +1,i,a1,ak,v,[],c,h=>by
  simp only [List.nil_append,tail,List.length_nil];split
  ·exact .inr (.inr rfl)
  ·cases k with
   |zero=>exact .inr (.inl ⟨rfl,rfl⟩)
   |succ k=>exact .inl rfl
 |k +1,i,a1,ak,v,b::r,c,h=>by
  simp only [tail,List.cons_append]at h⊢;split at h
  ·simp at h
  ·rename_i av;rw [if_neg av];have:=LZ k (i+1) 128 191 (v*64+b.toNat%64) r c h;simp only [List.length_cons];have e:i+1+r.length=i+(r.length+1):=by omega
   rwa [e]at this
theorem uP{h:Bytes}(ai:(first h).2.2=true):∃b r,h=b::r∧1<(lead b.toNat).1∧first h=tail ((lead b.toNat).1-1) 1 (lead b.toNat).2.1 (lead b.toNat).2.2 (b.toNat%2^(7- (lead b.toNat).1)) r:=by
 cases h with
 |nil=>simp [first]at ai
 |cons b r =>
  refine⟨b,r,rfl,?_⟩;by_cases bm:(lead b.toNat).1=0
  ·simp [first,bm]at ai
  ·by_cases p:(lead b.toNat).1=1
   ·simp [first,p]at ai
   ·exact⟨by omega,by simp only [first,if_neg bm,if_neg p]⟩
theorem L0{h:Bytes}(ai:(first h).2.2=true):h.length≤3:=by obtain⟨b,r,rfl,az,e⟩:=uP ai;rw [e]at ai;have:=(LY _ _ _ _ _ _ ai).1;have:=LN b.toNat;simp only [List.length_cons];omega
theorem Vl{h:Bytes}(ai:(first h).2.2=true)(c:UInt8) :
 (first (h++[c])).2.2=true∨((first (h++[c])).2.2=false∧(first (h++[c])).2.1=h.length+1)∨first (h++[c])=(65533,h.length,false):=by
 obtain⟨b,r,rfl,az,e⟩:=uP ai;rw [e]at ai;have k:=LZ _ _ _ _ _ _ c ai
 have bs:first (b::r++[c])=tail ((lead b.toNat).1-1) 1 (lead b.toNat).2.1 (lead b.toNat).2.2 (b.toNat%2^(7- (lead b.toNat).1)) (r++[c]):=by simp only [List.cons_append,first];rw [if_neg (by omega),if_neg (by omega)]
 rw [bs];have b7:1+r.length=(b::r).length:=by simp only [List.length_cons];omega
 rw [b7]at k;exact k
theorem Vm(c:UInt8):((first [c]).2.2=true)∨((first [c]).2.2=false∧(first [c]).2.1=1):=by
 simp only [first];split
 ·exact .inr ⟨rfl,rfl⟩
 ·split
  ·exact .inr ⟨rfl,rfl⟩
  ·have h:(lead c.toNat).1-1≠0:=by omega
   obtain⟨k,ap⟩:=Nat.exists_eq_succ_of_ne_zero h;rw [ap];exact .inl rfl
theorem uN(k:Nat):hB k []=([],[]):=by cases k<;>rfl
theorem Vn{c:UInt8}{h:Bytes} :(h++[c]).drop (h.length+1)=[]:=by rw [List.drop_eq_nil_iff];simp
theorem Vo{c:UInt8}{h:Bytes} :(h++[c]).drop h.length=[c]:=by rw [List.drop_append_of_le_length (Nat.le_refl _),List.drop_length];rfl
inductive Vp(h:Bytes)(c:UInt8):Prop where
 |more (e:cl h c=([],h++[c])) (ab:(first (h++[c])).2.2=true)
 |whole (r:Nat) (e:cl h c=([r],[]))
 |broken (l:List Nat) (t:Bytes) (e:cl h c=(65533::l,t)) (bm:h≠[]) (bs:first (h++[c])=(65533,h.length,false))
theorem s3(h:Bytes)(c:UInt8)(ai:h=[]∨(first h).2.2=true):Vp h c:=by
 have ex:∀x:Bytes,x≠[]→ ∀k,hB (k+1) x=if(first x).2.2 then([],x)else((first x).1::(hB k (x.drop (first x).2.1)).1,(hB k (x.drop (first x).2.1)).2):=by
  intro x ae k;cases x with
  |nil=>exact absurd rfl ae
  |cons b r=>rfl
 have b1:h++[c]≠[]:=by simp
 have a8:cl h c=hB (h.length+1) (h++[c]):=rfl;rw [ex _ b1]at a8;rcases ai with rfl|ai
 ·simp only [List.nil_append]at a8;rcases Vm c with ab|⟨ab,n⟩
  ·rw [ab,if_pos rfl]at a8;exact .more a8 ab
  ·rw [ab,if_neg (by simp),n]at a8;exact .whole (first [c]).1 (by rw [a8];simp [uN])
 ·rcases Vl ai c with ab|⟨ab,n⟩|e
  ·rw [ab,if_pos rfl]at a8;exact .more a8 ab
  ·rw [ab,if_neg (by simp),n,Vn,uN]at a8;exact .whole _ a8
  ·rw [e]at a8;simp only [if_neg (show ¬(false=true)by simp)]at a8;exact .broken _ _ a8 (by rintro rfl;simp [first]at ai) e
theorem L1(r:Nat):1≤(put r).length:=by
 unfold put;simp only
 repeat' split
 all_goals simp
theorem Vq:put 65533=[239,191,189]:=by decide
theorem Vr{k n:Nat}{b:UInt8}{r:Bytes}(e:first (b::r)=(65533,n,false)):js (k+1) (b::r)=65533::js k ((b::r).drop n):=by simp only [js,e]
theorem Vs{h:Bytes}{c:UInt8}(ai:(first h).2.2=true)(e:first (h++[c])=(65533,h.length,false)):valid (h++[c])=false:=by
 have az:=L0 ai;obtain⟨b,r,rfl,au,_⟩:=uP ai
 have bb:eJ (b::r++[c])=65533::js (r++[c]).length [c]:=by
  have dT:first (b::(r++[c]))=(65533,(b::r).length,false):=e
  show js ((r++[c]).length+1) (b::(r++[c]))=_;rw [Vr dT]
  congr 1
  have:(b::(r++[c])).drop (b::r).length=[c]:=Vo (h:=b::r);rw [this]
 have Vt:∃x,js (r++[c]).length [c]=x::js ((r++[c]).length-1) ([c].drop (first [c]).2.1):=by
  have:(r++[c]).length=r.length+1:=by simp
  rw [this];exact⟨_,rfl⟩
 obtain⟨x,ae⟩:=Vt;unfold valid;rw [bb,ae];rw [beq_eq_false_iff_ne];intro eq;simp only [gn,List.flatMap_cons,Vq]at eq;have ek:=congrArg List.length eq;have I:=L1 x;simp only [List.length_append,List.length_cons,List.length_nil]at ek;simp only [List.length_cons]at az;have rn:r.length=2:=by omega
 match r,rn with
 |[fT,kn],_ =>
  simp only [List.cons_append,List.nil_append,List.cons.injEq]at eq;obtain⟨rfl,rfl,rfl,_⟩:=eq;revert ai
  decide
theorem Vu{k:Bytes}{c:UInt8}(h:k≠[]∨c≠27):at' (k++[c])=at' k:=by
 cases k with
 |nil =>
  rcases h with h|h
  ·exact absurd rfl h
  ·simp [at',h]
 |cons b r=>rfl
theorem Vv(k:Bytes):at' k≤k.length:=by
 cases k with
 |nil=>simp [at']
 |cons b r=>simp only [at',List.length_cons];split<;>omega
theorem Vw(k:Bytes):at' k≤1:=by
 cases k with
 |nil=>simp [at']
 |cons b r=>simp only [at'];split<;>omega
theorem Fs{s:bO}{c:UInt8}{no:bO→bO×List bj}(ac:s.aB=[])(bW:s.hold=s.kept.drop (at' s.kept))(ai:s.hold=[]∨(first s.hold).2.2=true)(ap:s.kept≠[]∨c≠27)(jJ:∀s1:bO,s1.aB=[]→s1.hold=[]→Good (no s1).1):Good (gD s c no).1:=by
 have key:=s3 s.hold c ai;unfold gD;simp only;cases key with
 |more e ab =>
  rw [e];simp only [ne_eq,List.append_eq_nil_iff,List.cons_ne_self,and_false,not_false_eq_true,and_self,if_true];refine⟨ac,?_,by simp,?_,ab⟩
  ·show s.hold++[c]=(s.kept++[c]).drop (at' (s.kept++[c]));rw [Vu ap,bW,List.drop_append_of_le_length (Vv _)]
  ·exact L0 ab
 |whole r e =>
  rw [e];simp only [ne_eq,not_true_eq_false,false_and,if_false];split
  ·split<;>exact⟨rfl,rfl,ac⟩
  ·exact jJ _ ac rfl
 |broken l t e bm bs =>
  rw [e]
  have bg:valid (s.kept.drop (at' s.kept)++[c])=false:=by
   rw [←bW];rcases ai with ai|ai
   ·exact absurd ai bm
   ·exact Vs ai bs
  have lm:¬s.kept.length=at' s.kept:=by intro q;apply bm;rw [bW,List.drop_eq_nil_iff];omega
  rw [if_neg (by simp),if_neg (by simp [bg,lm])];exact jJ _ ac rfl
theorem rp{s:bO}{e:bj}(h:s.hold=[])(I:s.aB=[]):Good (tell s e).1:=⟨rfl,h,I⟩
theorem AJ{s:bO}{c:UInt8}(ap:s.kept=[])(bW:s.hold=[])(ac:s.aB=[]):Good (ground s c).1:=by
 unfold ground;split
 ·exact⟨rfl,bW,ac⟩
 ·rename_i av;unfold ix;split
  ·exact rp bW ac
  ·exact Fs ac (by rw [ap,bW];rfl) (.inl bW) (.inr av) fun s1 a b=>rp b a
theorem Ft{s:bO}{c:UInt8}(bW:s.hold=[])(ac:s.aB=[]):Good (bad s c).1:=AJ rfl bW ac
theorem Vx{s:bO}{c:UInt8}(ap:s.kept=[27])(bW:s.hold=[])(ac:s.aB=[]):Good (plain s c).1:=by
 unfold plain ix;split
 ·exact rp bW ac
 ·exact Fs ac (by rw [ap,bW];rfl) (.inl bW) (.inl (by rw [ap];simp)) fun s1 a b=>Ft b a
theorem L2:∀(n:Nat)(k I:Bytes),k.length≤n→I.length≤65536→(shift n k I).1.isPrefixOf ea=true∧(shift n k I).2.length≤65536
 |0,k,I,h,ac=>by have:k=[]:=List.eq_nil_of_length_eq_zero (by omega);subst this;exact⟨by simp [shift],ac⟩
 |n+1,[],I,h,ac=>by simp [shift,ac]
 |n +1,b::r,I,h,ac=>by
  simp only [shift];split
  ·exact⟨‹_›,ac⟩
  ·refine L2 n r _ (by simp only [List.length_cons]at h;omega) ?_;split
   ·simp;omega
   ·exact ac
theorem Vy{k:Bytes}(h:k.isPrefixOf ea=true):k.length≤6:=by rw [List.isPrefixOf_iff_prefix]at h;exact h.length_le
theorem xd{s:bO}(c:UInt8)(h:Good s):Good (step s c).1:=by
 obtain⟨cp,kept,hold,aB⟩:=s;unfold step;cases cp with
 |ground=>exact AJ h.1 h.2.1 h.2.2
 |du =>
  obtain⟨p,ad,bd⟩:=h;simp only at p ad bd⊢;unfold du;split
  ·exact AJ rfl ad bd
  ·split
   ·exact⟨ad,bd,by simp [p],by simp [p]⟩
   ·split
    ·rename_i av;exact⟨ad,bd,by simp [p,av]⟩
    ·exact Vx p ad bd
 |dd =>
  obtain⟨p,ad,bd,bS,bI⟩:=h;simp only at p ad bd bS bI⊢;have ap:kept≠[]:=by rintro rfl;rw [ad]at bd;simp at bd
  exact Fs p ad (.inr bI) (.inl ap) fun s1 a b=>Ft b a
 |sequence =>
  obtain⟨p,ad,bd,bS⟩:=h;simp only at p ad bd bS⊢;unfold sequence;split
  ·unfold done;split
   ·exact⟨p,by simp,by simp,by simp [ad]⟩
   ·exact rp p ad
  ·split
   ·exact Ft p ad
   ·split
    ·exact rp p ad
    ·refine⟨p,ad,?_,?_⟩
     ·show 2≤(kept++[c]).length;simp;omega
     ·show(kept++[c]).length<64;simp only at *;simp;omega
 |single =>
  obtain⟨p,ad,bd⟩:=h;simp only at p ad bd⊢;unfold single;split
  ·exact rp p ad
  ·split
   ·exact rp p ad
   ·split
    ·exact rp p ad
    ·exact AJ rfl p ad
 |cW =>
  obtain⟨p,ad,bd,bS⟩:=h;simp only at p ad bd bS⊢;unfold cW;simp only;have k:=L2 (kept.length+1) (kept++[c]) aB (by simp) bS;split
  ·exact⟨rfl,p,rfl⟩
  ·have:=Vy k.1;exact⟨p,by show(shift _ _ _).1.length<6;omega,k.1,k.2⟩
theorem AK:∀(b:Bytes){s:bO},Good s→Good (dh s b).1
 |[],s,h=>h
 |c::r,s,h=>AK r (xd c h)
end Go.Keys
namespace Go.Keys
theorem Fu{s:bO}{c:UInt8}{no:bO→bO×List bj}{k:Nat}(ap:1≤k)(h:∀s1,(no s1).2.length≤k):(gD s c no).2.length≤k:=by
 unfold gD;simp only;split
 ·simp
 ·split
  ·split<;>(simp only [tell,List.length_cons,List.length_nil];omega)
  ·exact h _
theorem AL(s:bO)(c:UInt8):(ground s c).2.length≤1:=by
 unfold ground;split
 ·simp
 ·unfold ix;split
  ·simp [tell]
  ·exact Fu (by decide) fun s1=>by simp [tell]
theorem Fv(s:bO)(c:UInt8):(bad s c).2.length≤2:=by unfold bad;simp only [List.length_cons];have:=AL (tell s (gV s.kept)).1 c;omega
theorem Vz(s:bO)(c:UInt8):(plain s c).2.length≤2:=by
 unfold plain ix;split
 ·simp [tell]
 ·exact Fu (by decide) fun s1=>Fv s1 c
theorem VA(s:bO)(c:UInt8):(step s c).2.length≤2:=by
 unfold step;split
 ·have:=AL s c;omega
 ·unfold du;split
  ·simp only [List.length_cons];have:=AL (tell s (eR 4)).1 c;omega
  ·split
   ·simp
   ·split
    ·simp
    ·exact Vz s c
 ·exact Fu (by decide) fun s1=>Fv s1 c
 ·unfold sequence;split
  ·unfold done;split<;>simp [tell]
  ·split
   ·exact Fv s c
   ·split<;>simp [tell]
 ·unfold single;split
  ·simp [tell]
  ·split
   ·simp [tell]
   ·split
    ·simp [tell]
    ·simp only [List.length_cons];have:=AL (tell s (fe 79 2)).1 c;omega
 ·unfold cW;simp only;split<;>simp [tell]
end Go.Keys
namespace Go.Proofs.YtddnafghiejcoaaGreatDoor
open Go.cM Go.Keys
set_option maxRecDepth 1000000
theorem VB(U:o→j→Prop)(aY:U (.tuple [.int .i32 0,.int .i64 0]) (j.ar 7 [(0,R.made [.str []] 1 true (some (9,1)))])) :
 ∃v p,aI Tryz.prog aw 54 [.str []] (⟨0,.nil⟩) v p∧U v p :=
 cb bQ mixed c8 (an:= .nil) (by kernel_rfl) aY
theorem VC(ay:UInt8)(r:Bytes)(a1 ak:Int)(U:o→j→Prop)(aY:c7 Tryz.prog aw 99 [.int .u8 (↑(UInt8.toNat ay):Int)] (j.ar 36 [(0,R.made [.str (ay::r)] 1 true (some (9,1)))]) (.tuple [.int .i64 0,.int .u8 a1,.int .u8 ak]) (j.ar 36 [(0,R.made [.str (ay::r)] 1 true (some (9,1)))])∧U (.tuple [.int .i32 65533,.int .i64 1]) (j.ar 45 [(0,R.made [.str (ay::r)] 1 true (some (9,1)))])) :
 ∃v p,aI Tryz.prog aw 54 [.str (ay::r)] (⟨0,.nil⟩) v p∧U v p :=
 cb bQ mixed c8 (an:=he 3003 (he 1001 (.aA (.val 2001 (.tuple [.int .i64 0,.int .u8 a1,.int .u8 ak])) .nil))) (by kernel_rfl) aY
theorem VD(ay:UInt8)(r:Bytes)(a1 ak:Int)(U:o→j→Prop)(aY:c7 Tryz.prog aw 99 [.int .u8 (↑(UInt8.toNat ay):Int)] (j.ar 36 [(0,R.made [.str (ay::r)] 1 true (some (9,1)))]) (.tuple [.int .i64 1,.int .u8 a1,.int .u8 ak]) (j.ar 36 [(0,R.made [.str (ay::r)] 1 true (some (9,1)))])∧(-2147483648≤(↑(UInt8.toNat ay):Int)∧(↑(UInt8.toNat ay):Int)≤2147483647)∧U (.tuple [.int .i32 (↑(UInt8.toNat ay):Int),.int .i64 1]) (j.ar 49 [(0,R.made [.str (ay::r)] 1 true (some (9,1)))])) :
 ∃v p,aI Tryz.prog aw 54 [.str (ay::r)] (⟨0,.nil⟩) v p∧U v p :=
 cb bQ mixed c8 (an:=he 3003 (he 1001 (.aA (.val 2001 (.tuple [.int .i64 1,.int .u8 a1,.int .u8 ak])) (ag 6001 .nil)))) (by kernel_rfl) aY
theorem VE(ay:UInt8)(a1 ak:Int)(U:o→j→Prop)(aY:c7 Tryz.prog aw 99 [.int .u8 (↑(UInt8.toNat ay):Int)] (j.ar 36 [(0,R.made [.str [ay]] 1 true (some (9,1)))]) (.tuple [.int .i64 2,.int .u8 a1,.int .u8 ak]) (j.ar 36 [(0,R.made [.str [ay]] 1 true (some (9,1)))])∧(-2147483648≤(↑(UInt8.toNat ay):Int)∧(↑(UInt8.toNat ay):Int)≤2147483647)∧True∧U (.tuple [.int .i32 65533,.int .i64 1]) (j.ar 61 [(0,R.made [.str [ay]] 1 true (some (9,1)))])) :
 ∃v p,aI Tryz.prog aw 54 [.str ([ay])] (⟨0,.nil⟩) v p∧U v p :=
 cb bQ mixed c8 (an:=he 3003 (he 1001 (.aA (.val 2001 (.tuple [.int .i64 2,.int .u8 a1,.int .u8 ak])) p5))) (by kernel_rfl) aY
theorem VF(ay ba:UInt8)(r:Bytes)(a1 ak:Int)(U:o→j→Prop)(aY:c7 Tryz.prog aw 99 [.int .u8 (↑(UInt8.toNat ay):Int)] (j.ar 36 [(0,R.made [.str (ay::ba::r)] 1 true (some (9,1)))]) (.tuple [.int .i64 2,.int .u8 a1,.int .u8 ak]) (j.ar 36 [(0,R.made [.str (ay::ba::r)] 1 true (some (9,1)))])∧(-2147483648≤(↑(UInt8.toNat ay):Int)∧(↑(UInt8.toNat ay):Int)≤2147483647)∧True∧((↑(UInt8.toNat ba):Int)<a1→U (.tuple [.int .i32 65533,.int .i64 1]) (j.ar 78 [(0,R.made [.str (ay::ba::r)] 1 true (some (9,1)))]))∧(¬(↑(UInt8.toNat ba):Int)<a1→(ak<(↑(UInt8.toNat ba):Int)→U (.tuple [.int .i32 65533,.int .i64 1]) (j.ar 78 [(0,R.made [.str (ay::ba::r)] 1 true (some (9,1)))]))∧(¬ak<(↑(UInt8.toNat ba):Int)→Int.NonNeg (6-0)∧True∧(-2147483648≤bx .u8 (↑(UInt8.toNat ba):Int) (63)∧bx .u8 (↑(UInt8.toNat ba):Int) (63)≤2147483647)∧True∧U (.tuple [.int .i32 (cg .i32 (e8 .i32 (bx .i32 (↑(UInt8.toNat ay):Int) (31)) (6)) (bx .u8 (↑(UInt8.toNat ba):Int) (63))),.int .i64 2]) (j.ar 94 [(0,R.made [.str (ay::ba::r)] 1 true (some (9,1)))])))) :
 ∃v p,aI Tryz.prog aw 54 [.str (ay::ba::r)] (⟨0,.nil⟩) v p∧U v p :=
 cb bQ mixed c8 (an:=he 3003 (he 1001 (.aA (.val 2001 (.tuple [.int .i64 2,.int .u8 a1,.int .u8 ak])) (ag 7001 (ag 7004 (.aA (.rounds 300) (he 13002 (.aK 14002 .nil (.aK 14006 .nil (ag 17001 (ag 17003 (ag 17004 (ag 17005 .nil))))))))))))) (by kernel_rfl) aY
theorem VG(ay:UInt8)(a1 ak:Int)(U:o→j→Prop)(aY:c7 Tryz.prog aw 99 [.int .u8 (↑(UInt8.toNat ay):Int)] (j.ar 36 [(0,R.made [.str [ay]] 1 true (some (9,1)))]) (.tuple [.int .i64 3,.int .u8 a1,.int .u8 ak]) (j.ar 36 [(0,R.made [.str [ay]] 1 true (some (9,1)))])∧(-2147483648≤(↑(UInt8.toNat ay):Int)∧(↑(UInt8.toNat ay):Int)≤2147483647)∧True∧U (.tuple [.int .i32 65533,.int .i64 1]) (j.ar 61 [(0,R.made [.str [ay]] 1 true (some (9,1)))])) :
 ∃v p,aI Tryz.prog aw 54 [.str ([ay])] (⟨0,.nil⟩) v p∧U v p :=
 cb bQ mixed c8 (an:=he 3003 (he 1001 (.aA (.val 2001 (.tuple [.int .i64 3,.int .u8 a1,.int .u8 ak])) p5))) (by kernel_rfl) aY
theorem VH(ay ba:UInt8)(a1 ak:Int)(U:o→j→Prop)(aY:c7 Tryz.prog aw 99 [.int .u8 (↑(UInt8.toNat ay):Int)] (j.ar 36 [(0,R.made [.str [ay,ba]] 1 true (some (9,1)))]) (.tuple [.int .i64 3,.int .u8 a1,.int .u8 ak]) (j.ar 36 [(0,R.made [.str [ay,ba]] 1 true (some (9,1)))])∧(-2147483648≤(↑(UInt8.toNat ay):Int)∧(↑(UInt8.toNat ay):Int)≤2147483647)∧True∧((↑(UInt8.toNat ba):Int)<a1→U (.tuple [.int .i32 65533,.int .i64 1]) (j.ar 78 [(0,R.made [.str [ay,ba]] 1 true (some (9,1)))]))∧(¬(↑(UInt8.toNat ba):Int)<a1→(ak<(↑(UInt8.toNat ba):Int)→U (.tuple [.int .i32 65533,.int .i64 1]) (j.ar 78 [(0,R.made [.str [ay,ba]] 1 true (some (9,1)))]))∧(¬ak<(↑(UInt8.toNat ba):Int)→Int.NonNeg (6-0)∧True∧(-2147483648≤bx .u8 (↑(UInt8.toNat ba):Int) (63)∧bx .u8 (↑(UInt8.toNat ba):Int) (63)≤2147483647)∧True∧U (.tuple [.int .i32 65533,.int .i64 2]) (j.ar 96 [(0,R.made [.str [ay,ba]] 1 true (some (9,1)))])))) :
 ∃v p,aI Tryz.prog aw 54 [.str ([ay,ba])] (⟨0,.nil⟩) v p∧U v p :=
 cb bQ mixed c8 (an:=he 3003 (he 1001 (.aA (.val 2001 (.tuple [.int .i64 3,.int .u8 a1,.int .u8 ak])) (ag 7001 (ag 7004 (.aA (.rounds 300) (he 13002 (.aK 14002 .nil (.aK 14006 .nil (ag 17001 (ag 17003 (ag 17004 (ag 17005 .nil))))))))))))) (by kernel_rfl) aY
theorem VI(ay ba bT:UInt8)(r:Bytes)(a1 ak:Int)(U:o→j→Prop)(aY:c7 Tryz.prog aw 99 [.int .u8 (↑(UInt8.toNat ay):Int)] (j.ar 36 [(0,R.made [.str (ay::ba::bT::r)] 1 true (some (9,1)))]) (.tuple [.int .i64 3,.int .u8 a1,.int .u8 ak]) (j.ar 36 [(0,R.made [.str (ay::ba::bT::r)] 1 true (some (9,1)))])∧(-2147483648≤(↑(UInt8.toNat ay):Int)∧(↑(UInt8.toNat ay):Int)≤2147483647)∧True∧((↑(UInt8.toNat ba):Int)<a1→U (.tuple [.int .i32 65533,.int .i64 1]) (j.ar 78 [(0,R.made [.str (ay::ba::bT::r)] 1 true (some (9,1)))]))∧(¬(↑(UInt8.toNat ba):Int)<a1→(ak<(↑(UInt8.toNat ba):Int)→U (.tuple [.int .i32 65533,.int .i64 1]) (j.ar 78 [(0,R.made [.str (ay::ba::bT::r)] 1 true (some (9,1)))]))∧(¬ak<(↑(UInt8.toNat ba):Int)→Int.NonNeg (6-0)∧True∧(-2147483648≤bx .u8 (↑(UInt8.toNat ba):Int) (63)∧bx .u8 (↑(UInt8.toNat ba):Int) (63)≤2147483647)∧True∧((↑(UInt8.toNat bT):Int)<128→U (.tuple [.int .i32 65533,.int .i64 2]) (j.ar 113 [(0,R.made [.str (ay::ba::bT::r)] 1 true (some (9,1)))]))∧(¬(↑(UInt8.toNat bT):Int)<128→(191<(↑(UInt8.toNat bT):Int)→U (.tuple [.int .i32 65533,.int .i64 2]) (j.ar 113 [(0,R.made [.str (ay::ba::bT::r)] 1 true (some (9,1)))]))∧(¬191<(↑(UInt8.toNat bT):Int)→Int.NonNeg (6-0)∧True∧(-2147483648≤bx .u8 (↑(UInt8.toNat bT):Int) (63)∧bx .u8 (↑(UInt8.toNat bT):Int) (63)≤2147483647)∧True∧U (.tuple [.int .i32 (cg .i32 (e8 .i32 (cg .i32 (e8 .i32 (bx .i32 (↑(UInt8.toNat ay):Int) (15)) (6)) (bx .u8 (↑(UInt8.toNat ba):Int) (63))) (6)) (bx .u8 (↑(UInt8.toNat bT):Int) (63))),.int .i64 3]) (j.ar 129 [(0,R.made [.str (ay::ba::bT::r)] 1 true (some (9,1)))])))))) :
 ∃v p,aI Tryz.prog aw 54 [.str (ay::ba::bT::r)] (⟨0,.nil⟩) v p∧U v p :=
 cb bQ mixed c8 (an:=he 3003 (he 1001 (.aA (.val 2001 (.tuple [.int .i64 3,.int .u8 a1,.int .u8 ak])) (ag 7001 (ag 7004 (.aA (.rounds 300) (he 13002 (.aK 14002 .nil (.aK 14006 .nil (ag 17001 (ag 17003 (ag 17004 (ag 17005 (he 13002 (.aK 14002 .nil (.aK 14006 .nil (ag 17001 (ag 17003 (ag 17004 (ag 17005 .nil)))))))))))))))))))) (by kernel_rfl) aY
theorem VJ(ay:UInt8)(a1 ak:Int)(U:o→j→Prop)(aY:c7 Tryz.prog aw 99 [.int .u8 (↑(UInt8.toNat ay):Int)] (j.ar 36 [(0,R.made [.str [ay]] 1 true (some (9,1)))]) (.tuple [.int .i64 4,.int .u8 a1,.int .u8 ak]) (j.ar 36 [(0,R.made [.str [ay]] 1 true (some (9,1)))])∧(-2147483648≤(↑(UInt8.toNat ay):Int)∧(↑(UInt8.toNat ay):Int)≤2147483647)∧True∧U (.tuple [.int .i32 65533,.int .i64 1]) (j.ar 61 [(0,R.made [.str [ay]] 1 true (some (9,1)))])) :
 ∃v p,aI Tryz.prog aw 54 [.str ([ay])] (⟨0,.nil⟩) v p∧U v p :=
 cb bQ mixed c8 (an:=he 3003 (he 1001 (.aA (.val 2001 (.tuple [.int .i64 4,.int .u8 a1,.int .u8 ak])) p5))) (by kernel_rfl) aY
theorem VK(ay ba:UInt8)(a1 ak:Int)(U:o→j→Prop)(aY:c7 Tryz.prog aw 99 [.int .u8 (↑(UInt8.toNat ay):Int)] (j.ar 36 [(0,R.made [.str [ay,ba]] 1 true (some (9,1)))]) (.tuple [.int .i64 4,.int .u8 a1,.int .u8 ak]) (j.ar 36 [(0,R.made [.str [ay,ba]] 1 true (some (9,1)))])∧(-2147483648≤(↑(UInt8.toNat ay):Int)∧(↑(UInt8.toNat ay):Int)≤2147483647)∧True∧((↑(UInt8.toNat ba):Int)<a1→U (.tuple [.int .i32 65533,.int .i64 1]) (j.ar 78 [(0,R.made [.str [ay,ba]] 1 true (some (9,1)))]))∧(¬(↑(UInt8.toNat ba):Int)<a1→(ak<(↑(UInt8.toNat ba):Int)→U (.tuple [.int .i32 65533,.int .i64 1]) (j.ar 78 [(0,R.made [.str [ay,ba]] 1 true (some (9,1)))]))∧(¬ak<(↑(UInt8.toNat ba):Int)→Int.NonNeg (6-0)∧True∧(-2147483648≤bx .u8 (↑(UInt8.toNat ba):Int) (63)∧bx .u8 (↑(UInt8.toNat ba):Int) (63)≤2147483647)∧True∧U (.tuple [.int .i32 65533,.int .i64 2]) (j.ar 96 [(0,R.made [.str [ay,ba]] 1 true (some (9,1)))])))) :
 ∃v p,aI Tryz.prog aw 54 [.str ([ay,ba])] (⟨0,.nil⟩) v p∧U v p :=
 cb bQ mixed c8 (an:=he 3003 (he 1001 (.aA (.val 2001 (.tuple [.int .i64 4,.int .u8 a1,.int .u8 ak])) (ag 7001 (ag 7004 (.aA (.rounds 300) (he 13002 (.aK 14002 .nil (.aK 14006 .nil (ag 17001 (ag 17003 (ag 17004 (ag 17005 .nil))))))))))))) (by kernel_rfl) aY
theorem VL(ay ba bT:UInt8)(a1 ak:Int)(U:o→j→Prop)(aY:c7 Tryz.prog aw 99 [.int .u8 (↑(UInt8.toNat ay):Int)] (j.ar 36 [(0,R.made [.str [ay,ba,bT]] 1 true (some (9,1)))]) (.tuple [.int .i64 4,.int .u8 a1,.int .u8 ak]) (j.ar 36 [(0,R.made [.str [ay,ba,bT]] 1 true (some (9,1)))])∧(-2147483648≤(↑(UInt8.toNat ay):Int)∧(↑(UInt8.toNat ay):Int)≤2147483647)∧True∧((↑(UInt8.toNat ba):Int)<a1→U (.tuple [.int .i32 65533,.int .i64 1]) (j.ar 78 [(0,R.made [.str [ay,ba,bT]] 1 true (some (9,1)))]))∧(¬(↑(UInt8.toNat ba):Int)<a1→(ak<(↑(UInt8.toNat ba):Int)→U (.tuple [.int .i32 65533,.int .i64 1]) (j.ar 78 [(0,R.made [.str [ay,ba,bT]] 1 true (some (9,1)))]))∧(¬ak<(↑(UInt8.toNat ba):Int)→Int.NonNeg (6-0)∧True∧(-2147483648≤bx .u8 (↑(UInt8.toNat ba):Int) (63)∧bx .u8 (↑(UInt8.toNat ba):Int) (63)≤2147483647)∧True∧((↑(UInt8.toNat bT):Int)<128→U (.tuple [.int .i32 65533,.int .i64 2]) (j.ar 113 [(0,R.made [.str [ay,ba,bT]] 1 true (some (9,1)))]))∧(¬(↑(UInt8.toNat bT):Int)<128→(191<(↑(UInt8.toNat bT):Int)→U (.tuple [.int .i32 65533,.int .i64 2]) (j.ar 113 [(0,R.made [.str [ay,ba,bT]] 1 true (some (9,1)))]))∧(¬191<(↑(UInt8.toNat bT):Int)→Int.NonNeg (6-0)∧True∧(-2147483648≤bx .u8 (↑(UInt8.toNat bT):Int) (63)∧bx .u8 (↑(UInt8.toNat bT):Int) (63)≤2147483647)∧True∧U (.tuple [.int .i32 65533,.int .i64 3]) (j.ar 131 [(0,R.made [.str [ay,ba,bT]] 1 true (some (9,1)))])))))) :
 ∃v p,aI Tryz.prog aw 54 [.str ([ay,ba,bT])] (⟨0,.nil⟩) v p∧U v p :=
 cb bQ mixed c8 (an:=he 3003 (he 1001 (.aA (.val 2001 (.tuple [.int .i64 4,.int .u8 a1,.int .u8 ak])) (ag 7001 (ag 7004 (.aA (.rounds 300) (he 13002 (.aK 14002 .nil (.aK 14006 .nil (ag 17001 (ag 17003 (ag 17004 (ag 17005 (he 13002 (.aK 14002 .nil (.aK 14006 .nil (ag 17001 (ag 17003 (ag 17004 (ag 17005 .nil)))))))))))))))))))) (by kernel_rfl) aY
theorem VM(ay ba bT eQ:UInt8)(r:Bytes)(a1 ak:Int)(U:o→j→Prop)(aY:c7 Tryz.prog aw 99 [.int .u8 (↑(UInt8.toNat ay):Int)] (j.ar 36 [(0,R.made [.str (ay::ba::bT::eQ::r)] 1 true (some (9,1)))]) (.tuple [.int .i64 4,.int .u8 a1,.int .u8 ak]) (j.ar 36 [(0,R.made [.str (ay::ba::bT::eQ::r)] 1 true (some (9,1)))])∧(-2147483648≤(↑(UInt8.toNat ay):Int)∧(↑(UInt8.toNat ay):Int)≤2147483647)∧True∧((↑(UInt8.toNat ba):Int)<a1→U (.tuple [.int .i32 65533,.int .i64 1]) (j.ar 78 [(0,R.made [.str (ay::ba::bT::eQ::r)] 1 true (some (9,1)))]))∧(¬(↑(UInt8.toNat ba):Int)<a1→(ak<(↑(UInt8.toNat ba):Int)→U (.tuple [.int .i32 65533,.int .i64 1]) (j.ar 78 [(0,R.made [.str (ay::ba::bT::eQ::r)] 1 true (some (9,1)))]))∧(¬ak<(↑(UInt8.toNat ba):Int)→Int.NonNeg (6-0)∧True∧(-2147483648≤bx .u8 (↑(UInt8.toNat ba):Int) (63)∧bx .u8 (↑(UInt8.toNat ba):Int) (63)≤2147483647)∧True∧((↑(UInt8.toNat bT):Int)<128→U (.tuple [.int .i32 65533,.int .i64 2]) (j.ar 113 [(0,R.made [.str (ay::ba::bT::eQ::r)] 1 true (some (9,1)))]))∧(¬(↑(UInt8.toNat bT):Int)<128→(191<(↑(UInt8.toNat bT):Int)→U (.tuple [.int .i32 65533,.int .i64 2]) (j.ar 113 [(0,R.made [.str (ay::ba::bT::eQ::r)] 1 true (some (9,1)))]))∧(¬191<(↑(UInt8.toNat bT):Int)→Int.NonNeg (6-0)∧True∧(-2147483648≤bx .u8 (↑(UInt8.toNat bT):Int) (63)∧bx .u8 (↑(UInt8.toNat bT):Int) (63)≤2147483647)∧True∧((↑(UInt8.toNat eQ):Int)<128→U (.tuple [.int .i32 65533,.int .i64 3]) (j.ar 148 [(0,R.made [.str (ay::ba::bT::eQ::r)] 1 true (some (9,1)))]))∧(¬(↑(UInt8.toNat eQ):Int)<128→(191<(↑(UInt8.toNat eQ):Int)→U (.tuple [.int .i32 65533,.int .i64 3]) (j.ar 148 [(0,R.made [.str (ay::ba::bT::eQ::r)] 1 true (some (9,1)))]))∧(¬191<(↑(UInt8.toNat eQ):Int)→Int.NonNeg (6-0)∧True∧(-2147483648≤bx .u8 (↑(UInt8.toNat eQ):Int) (63)∧bx .u8 (↑(UInt8.toNat eQ):Int) (63)≤2147483647)∧True∧U (.tuple [.int .i32 (cg .i32 (e8 .i32 (cg .i32 (e8 .i32 (cg .i32 (e8 .i32 (bx .i32 (↑(UInt8.toNat ay):Int) (7)) (6)) (bx .u8 (↑(UInt8.toNat ba):Int) (63))) (6)) (bx .u8 (↑(UInt8.toNat bT):Int) (63))) (6)) (bx .u8 (↑(UInt8.toNat eQ):Int) (63))),.int .i64 4]) (j.ar 164 [(0,R.made [.str (ay::ba::bT::eQ::r)] 1 true (some (9,1)))])))))))) :
 ∃v p,aI Tryz.prog aw 54 [.str (ay::ba::bT::eQ::r)] (⟨0,.nil⟩) v p∧U v p :=
 cb bQ mixed c8 (an:=he 3003 (he 1001 (.aA (.val 2001 (.tuple [.int .i64 4,.int .u8 a1,.int .u8 ak])) (ag 7001 (ag 7004 (.aA (.rounds 300) (he 13002 (.aK 14002 .nil (.aK 14006 .nil (ag 17001 (ag 17003 (ag 17004 (ag 17005 (he 13002 (.aK 14002 .nil (.aK 14006 .nil (ag 17001 (ag 17003 (ag 17004 (ag 17005 (he 13002 (.aK 14002 .nil (.aK 14006 .nil (ag 17001 (ag 17003 (ag 17004 (ag 17005 .nil))))))))))))))))))))))))))) (by kernel_rfl) aY
def gX(s:Bytes):o:= .tuple [.int .i32 ((first s).1:Int),.int .i64 ((first s).2.1:Int)]
theorem gv{s:Bytes}{a k:Nat}{x:Bool}(h:first s=(a,k,x)){cG fy:Int}(aT:cG=a)(ap:fy=k):o.tuple [.int .i32 cG,.int .i64 fy]=gX s:=by unfold gX;rw [h,aT,ap]
theorem VN(H:j):aI Tryz.prog aw 54 [.str []] H (gX []) H:=aI.fm (VB (fun v _=>v=gX []) rfl) rfl rfl H
theorem nY(b:UInt8)(n:Nat)(h:(lead b.toNat).1=n)(H:j):aI Tryz.prog aw 99 [.int .u8 (b.toNat:Int)] H (.tuple [.int .i64 (n:Int),.int .u8 ((lead b.toNat).2.1:Int),.int .u8 ((lead b.toNat).2.2:Int)]) H:=by have k:=rj b.toNat H;simp only [nV,rm,h]at k;exact k
theorem VO(ay:UInt8)(r:Bytes)(az:(lead ay.toNat).1=0)(H:j):aI Tryz.prog aw 54 [.str (ay::r)] H (gX (ay::r)) H:=by refine aI.fm (VC ay r (lead ay.toNat).2.1 (lead ay.toNat).2.2 (fun v _=>v=gX (ay::r)) ?_) rfl rfl H;exact⟨⟨nY ay 0 az _⟩,gv (show first (ay::r)=(65533,1,false)by simp [first,az]) rfl rfl⟩
theorem VP(ay:UInt8)(r:Bytes)(az:(lead ay.toNat).1=1)(H:j):aI Tryz.prog aw 54 [.str (ay::r)] H (gX (ay::r)) H:=by refine aI.fm (VD ay r (lead ay.toNat).2.1 (lead ay.toNat).2.2 (fun v _=>v=gX (ay::r)) ?_) rfl rfl H;exact⟨⟨nY ay 1 az _⟩,dA ay,gv (show first (ay::r)=(ay.toNat,1,false)by simp [first,az]) rfl rfl⟩
theorem VQ(ay:UInt8)(az:(lead ay.toNat).1=2)(H:j):aI Tryz.prog aw 54 [.str (ay:: [])] H (gX (ay:: [])) H:=by
 refine aI.fm (VE ay (lead ay.toNat).2.1 (lead ay.toNat).2.2 (fun v _=>v=gX (ay:: [])) ?_) rfl rfl H;have a8:∀r,first (ay::r)=tail 1 1 (lead ay.toNat).2.1 (lead ay.toNat).2.2 (ay.toNat%2^(7-2)) r:=fun r=>ka ay r 0 az
 have jT:first (ay:: [])=(65533,1,true):=by rw [a8];rfl
 exact⟨⟨nY ay 2 az _⟩,dA ay,trivial,gv jT rfl rfl⟩
theorem VR(ay ba:UInt8)(r:Bytes)(az:(lead ay.toNat).1=2)(H:j):aI Tryz.prog aw 54 [.str (ay::ba::r)] H (gX (ay::ba::r)) H:=by
 refine aI.fm (VF ay ba r (lead ay.toNat).2.1 (lead ay.toNat).2.2 (fun v _=>v=gX (ay::ba::r)) ?_) rfl rfl H;have a8:∀r,first (ay::r)=tail 1 1 (lead ay.toNat).2.1 (lead ay.toNat).2.2 (ay.toNat%2^(7-2)) r:=fun r=>ka ay r 0 az
 have kb:∀(av:ba.toNat<(lead ay.toNat).2.1∨(lead ay.toNat).2.2<ba.toNat),first (ay::ba::r)=(65533,1,false):=fun av=>by rw [a8];simp only [tail];rw [if_pos av]
 have jT:∀(p:¬(ba.toNat<(lead ay.toNat).2.1∨(lead ay.toNat).2.2<ba.toNat)),first (ay::ba::r)=((ay.toNat%32)*64+ba.toNat%64,2,false):=fun p=>by rw [a8];simp only [tail];rw [if_neg p]
 have bg:cg .i32 (e8 .i32 (bx .i32 (ay.toNat:Int) 31) 6) (bx .u8 (ba.toNat:Int) 63)=(((ay.toNat%32)*64+ba.toNat%64:Nat):Int):=by rw [LV,mi ba,na _ (by omega),nb _ _ (by omega) (by omega)]
 exact⟨⟨nY ay 2 az _⟩,dA ay,trivial,⟨fun ao=>gv (kb (by omega)) rfl rfl,fun xe=>⟨fun dG=>gv (kb (by omega)) rfl rfl,fun d1=>⟨h0,trivial,iY ba,trivial,gv (jT (by omega)) bg rfl⟩⟩⟩⟩
theorem VS(ay:UInt8)(az:(lead ay.toNat).1=3)(H:j):aI Tryz.prog aw 54 [.str (ay:: [])] H (gX (ay:: [])) H:=by
 refine aI.fm (VG ay (lead ay.toNat).2.1 (lead ay.toNat).2.2 (fun v _=>v=gX (ay:: [])) ?_) rfl rfl H;have a8:∀r,first (ay::r)=tail 2 1 (lead ay.toNat).2.1 (lead ay.toNat).2.2 (ay.toNat%2^(7-3)) r:=fun r=>ka ay r 1 az
 have jT:first (ay:: [])=(65533,1,true):=by rw [a8];rfl
 exact⟨⟨nY ay 3 az _⟩,dA ay,trivial,gv jT rfl rfl⟩
theorem VT(ay ba:UInt8)(az:(lead ay.toNat).1=3)(H:j):aI Tryz.prog aw 54 [.str (ay::ba:: [])] H (gX (ay::ba:: [])) H:=by
 refine aI.fm (VH ay ba (lead ay.toNat).2.1 (lead ay.toNat).2.2 (fun v _=>v=gX (ay::ba:: [])) ?_) rfl rfl H;have a8:∀r,first (ay::r)=tail 2 1 (lead ay.toNat).2.1 (lead ay.toNat).2.2 (ay.toNat%2^(7-3)) r:=fun r=>ka ay r 1 az
 have kb:∀(av:ba.toNat<(lead ay.toNat).2.1∨(lead ay.toNat).2.2<ba.toNat),first (ay::ba:: [])=(65533,1,false):=fun av=>by rw [a8];simp only [tail];rw [if_pos av]
 have jT:∀(p:¬(ba.toNat<(lead ay.toNat).2.1∨(lead ay.toNat).2.2<ba.toNat)),first (ay::ba:: [])=(65533,2,true):=fun p=>by rw [a8];simp only [tail];rw [if_neg p]
 exact⟨⟨nY ay 3 az _⟩,dA ay,trivial,⟨fun ao=>gv (kb (by omega)) rfl rfl,fun xe=>⟨fun dG=>gv (kb (by omega)) rfl rfl,fun d1=>⟨h0,trivial,iY ba,trivial,gv (jT (by omega)) rfl rfl⟩⟩⟩⟩
theorem VU(ay ba bT:UInt8)(r:Bytes)(az:(lead ay.toNat).1=3)(H:j):aI Tryz.prog aw 54 [.str (ay::ba::bT::r)] H (gX (ay::ba::bT::r)) H:=by
 refine aI.fm (VI ay ba bT r (lead ay.toNat).2.1 (lead ay.toNat).2.2 (fun v _=>v=gX (ay::ba::bT::r)) ?_) rfl rfl H;have a8:∀r,first (ay::r)=tail 2 1 (lead ay.toNat).2.1 (lead ay.toNat).2.2 (ay.toNat%2^(7-3)) r:=fun r=>ka ay r 1 az
 have kb:∀(av:ba.toNat<(lead ay.toNat).2.1∨(lead ay.toNat).2.2<ba.toNat),first (ay::ba::bT::r)=(65533,1,false):=fun av=>by rw [a8];simp only [tail];rw [if_pos av]
 have rq:∀(p:¬(ba.toNat<(lead ay.toNat).2.1∨(lead ay.toNat).2.2<ba.toNat)) (av:bT.toNat<128∨191<bT.toNat),first (ay::ba::bT::r)=(65533,2,false):=fun p av=>by rw [a8];simp only [tail];rw [if_neg p,if_pos av]
 have jT:∀(p:¬(ba.toNat<(lead ay.toNat).2.1∨(lead ay.toNat).2.2<ba.toNat)) (ad:¬(bT.toNat<128∨191<bT.toNat)),first (ay::ba::bT::r)=(((ay.toNat%16)*64+ba.toNat%64)*64+bT.toNat%64,3,false):=fun p ad=>by rw [a8];simp only [tail];rw [if_neg p,if_neg ad]
 have bg:cg .i32 (e8 .i32 (cg .i32 (e8 .i32 (bx .i32 (ay.toNat:Int) 15) 6) (bx .u8 (ba.toNat:Int) 63)) 6) (bx .u8 (bT.toNat:Int) 63)=((((ay.toNat%16)*64+ba.toNat%64)*64+bT.toNat%64:Nat):Int):=by rw [LW,mi ba,mi bT,na _ (by omega),nb _ _ (by omega) (by omega),na _ (by omega),nb _ _ (by omega) (by omega)]
 exact⟨⟨nY ay 3 az _⟩,dA ay,trivial,⟨fun ao=>gv (kb (by omega)) rfl rfl,fun xe=>⟨fun dG=>gv (kb (by omega)) rfl rfl,fun d1=>⟨h0,trivial,iY ba,trivial,⟨fun a2=>gv (rq (by omega) (by omega)) rfl rfl,fun L3=>⟨fun ee=>gv (rq (by omega) (by omega)) rfl rfl,fun d2=>⟨h0,trivial,iY bT,trivial,gv (jT (by omega) (by omega)) bg rfl⟩⟩⟩⟩⟩⟩⟩
theorem VV(ay:UInt8)(az:(lead ay.toNat).1=4)(H:j):aI Tryz.prog aw 54 [.str (ay:: [])] H (gX (ay:: [])) H:=by
 refine aI.fm (VJ ay (lead ay.toNat).2.1 (lead ay.toNat).2.2 (fun v _=>v=gX (ay:: [])) ?_) rfl rfl H;have a8:∀r,first (ay::r)=tail 3 1 (lead ay.toNat).2.1 (lead ay.toNat).2.2 (ay.toNat%2^(7-4)) r:=fun r=>ka ay r 2 az
 have jT:first (ay:: [])=(65533,1,true):=by rw [a8];rfl
 exact⟨⟨nY ay 4 az _⟩,dA ay,trivial,gv jT rfl rfl⟩
theorem VW(ay ba:UInt8)(az:(lead ay.toNat).1=4)(H:j):aI Tryz.prog aw 54 [.str (ay::ba:: [])] H (gX (ay::ba:: [])) H:=by
 refine aI.fm (VK ay ba (lead ay.toNat).2.1 (lead ay.toNat).2.2 (fun v _=>v=gX (ay::ba:: [])) ?_) rfl rfl H;have a8:∀r,first (ay::r)=tail 3 1 (lead ay.toNat).2.1 (lead ay.toNat).2.2 (ay.toNat%2^(7-4)) r:=fun r=>ka ay r 2 az
 have kb:∀(av:ba.toNat<(lead ay.toNat).2.1∨(lead ay.toNat).2.2<ba.toNat),first (ay::ba:: [])=(65533,1,false):=fun av=>by rw [a8];simp only [tail];rw [if_pos av]
 have jT:∀(p:¬(ba.toNat<(lead ay.toNat).2.1∨(lead ay.toNat).2.2<ba.toNat)),first (ay::ba:: [])=(65533,2,true):=fun p=>by rw [a8];simp only [tail];rw [if_neg p]
 exact⟨⟨nY ay 4 az _⟩,dA ay,trivial,⟨fun ao=>gv (kb (by omega)) rfl rfl,fun xe=>⟨fun dG=>gv (kb (by omega)) rfl rfl,fun d1=>⟨h0,trivial,iY ba,trivial,gv (jT (by omega)) rfl rfl⟩⟩⟩⟩
theorem VX(ay ba bT:UInt8)(az:(lead ay.toNat).1=4)(H:j):aI Tryz.prog aw 54 [.str (ay::ba::bT:: [])] H (gX (ay::ba::bT:: [])) H:=by
 refine aI.fm (VL ay ba bT (lead ay.toNat).2.1 (lead ay.toNat).2.2 (fun v _=>v=gX (ay::ba::bT:: [])) ?_) rfl rfl H;have a8:∀r,first (ay::r)=tail 3 1 (lead ay.toNat).2.1 (lead ay.toNat).2.2 (ay.toNat%2^(7-4)) r:=fun r=>ka ay r 2 az
 have kb:∀(av:ba.toNat<(lead ay.toNat).2.1∨(lead ay.toNat).2.2<ba.toNat),first (ay::ba::bT:: [])=(65533,1,false):=fun av=>by rw [a8];simp only [tail];rw [if_pos av]
 have rq:∀(p:¬(ba.toNat<(lead ay.toNat).2.1∨(lead ay.toNat).2.2<ba.toNat)) (av:bT.toNat<128∨191<bT.toNat),first (ay::ba::bT:: [])=(65533,2,false):=fun p av=>by rw [a8];simp only [tail];rw [if_neg p,if_pos av]
 have jT:∀(p:¬(ba.toNat<(lead ay.toNat).2.1∨(lead ay.toNat).2.2<ba.toNat)) (ad:¬(bT.toNat<128∨191<bT.toNat)),first (ay::ba::bT:: [])=(65533,3,true):=fun p ad=>by rw [a8];simp only [tail];rw [if_neg p,if_neg ad]
 exact⟨⟨nY ay 4 az _⟩,dA ay,trivial,⟨fun ao=>gv (kb (by omega)) rfl rfl,fun xe=>⟨fun dG=>gv (kb (by omega)) rfl rfl,fun d1=>⟨h0,trivial,iY ba,trivial,⟨fun a2=>gv (rq (by omega) (by omega)) rfl rfl,fun L3=>⟨fun ee=>gv (rq (by omega) (by omega)) rfl rfl,fun d2=>⟨h0,trivial,iY bT,trivial,gv (jT (by omega) (by omega)) rfl rfl⟩⟩⟩⟩⟩⟩⟩
theorem VY(ay ba bT eQ:UInt8)(r:Bytes)(az:(lead ay.toNat).1=4)(H:j):aI Tryz.prog aw 54 [.str (ay::ba::bT::eQ::r)] H (gX (ay::ba::bT::eQ::r)) H:=by
 refine aI.fm (VM ay ba bT eQ r (lead ay.toNat).2.1 (lead ay.toNat).2.2 (fun v _=>v=gX (ay::ba::bT::eQ::r)) ?_) rfl rfl H;have a8:∀r,first (ay::r)=tail 3 1 (lead ay.toNat).2.1 (lead ay.toNat).2.2 (ay.toNat%2^(7-4)) r:=fun r=>ka ay r 2 az
 have kb:∀(av:ba.toNat<(lead ay.toNat).2.1∨(lead ay.toNat).2.2<ba.toNat),first (ay::ba::bT::eQ::r)=(65533,1,false):=fun av=>by rw [a8];simp only [tail];rw [if_pos av]
 have rq:∀(p:¬(ba.toNat<(lead ay.toNat).2.1∨(lead ay.toNat).2.2<ba.toNat)) (av:bT.toNat<128∨191<bT.toNat),first (ay::ba::bT::eQ::r)=(65533,2,false):=fun p av=>by rw [a8];simp only [tail];rw [if_neg p,if_pos av]
 have L4:∀(p:¬(ba.toNat<(lead ay.toNat).2.1∨(lead ay.toNat).2.2<ba.toNat)) (ad:¬(bT.toNat<128∨191<bT.toNat)) (av:eQ.toNat<128∨191<eQ.toNat),first (ay::ba::bT::eQ::r)=(65533,3,false):=fun p ad av=>by rw [a8];simp only [tail];rw [if_neg p,if_neg ad,if_pos av]
 have jT:∀(p:¬(ba.toNat<(lead ay.toNat).2.1∨(lead ay.toNat).2.2<ba.toNat)) (ad:¬(bT.toNat<128∨191<bT.toNat)) (bd:¬(eQ.toNat<128∨191<eQ.toNat)),first (ay::ba::bT::eQ::r)=((((ay.toNat%8)*64+ba.toNat%64)*64+bT.toNat%64)*64+eQ.toNat%64,4,false):=fun p ad bd=>by rw [a8];simp only [tail];rw [if_neg p,if_neg ad,if_neg bd]
 have bg:cg .i32 (e8 .i32 (cg .i32 (e8 .i32 (cg .i32 (e8 .i32 (bx .i32 (ay.toNat:Int) 7) 6) (bx .u8 (ba.toNat:Int) 63)) 6) (bx .u8 (bT.toNat:Int) 63)) 6) (bx .u8 (eQ.toNat:Int) 63)=(((((ay.toNat%8)*64+ba.toNat%64)*64+bT.toNat%64)*64+eQ.toNat%64:Nat):Int):=by rw [LX,mi ba,mi bT,mi eQ,na _ (by omega),nb _ _ (by omega) (by omega),na _ (by omega),nb _ _ (by omega) (by omega),na _ (by omega),nb _ _ (by omega) (by omega)]
 exact⟨⟨nY ay 4 az _⟩,dA ay,trivial,⟨fun ao=>gv (kb (by omega)) rfl rfl,fun xe=>⟨fun dG=>gv (kb (by omega)) rfl rfl,fun d1=>⟨h0,trivial,iY ba,trivial,⟨fun a2=>gv (rq (by omega) (by omega)) rfl rfl,fun L3=>⟨fun ee=>gv (rq (by omega) (by omega)) rfl rfl,fun d2=>⟨h0,trivial,iY bT,trivial,⟨fun a3=>gv (L4 (by omega) (by omega) (by omega)) rfl rfl,fun afT=>⟨fun f'=>gv (L4 (by omega) (by omega) (by omega)) rfl rfl,fun d3=>⟨h0,trivial,iY eQ,trivial,gv (jT (by omega) (by omega) (by omega)) bg rfl⟩⟩⟩⟩⟩⟩⟩⟩⟩⟩
theorem VZ(s:Bytes)(H:j):aI Tryz.prog aw 54 [.str s] H (gX s) H:=by
 match s with
 |[]=>exact VN H
 |ay::t =>
  rcases jS ay.toNat with h|h|h|h|h
  ·exact VO ay t h H
  ·exact VP ay t h H
  ·match t with
   |[]=>exact VQ ay h H
   |ba::r=>exact VR ay ba r h H
  ·match t with
   |[]=>exact VS ay h H
   |[ba]=>exact VT ay ba h H
   |ba::bT::r=>exact VU ay ba bT r h H
  ·match t with
   |[]=>exact VV ay h H
   |[ba]=>exact VW ay ba h H
   |[ba,bT]=>exact VX ay ba bT h H
   |ba::bT::eQ::r=>exact VY ay ba bT eQ r h H
def L5:List o→j→Option eC:=kA fun a=>match a with | [.str s]=>some (gX s,[])|_=>none
theorem V0:∀args h a,L5 args h=some a→a.dw Tryz.prog aw 54 args h:=by
 refine lE ?_;intro args v e5 e ac H;split at e<;>first|(cases e;done)|skip
 simp only [Option.some.injEq,Prod.mk.injEq]at e;obtain⟨rfl,rfl⟩:=e;exact VZ _ H
abbrev hk(l:List o)(v f:Nat):R:= {bi:=l,es:=1,exact:=false,ro:=false,J:=v,fX:=0,gQ:=f,aq:=some (21,0)}
noncomputable def V1:fc:=p4.add 54 L5
theorem Fw:eW Tryz.prog aw V1:=c8.add V0
theorem L6(s:Bytes)(U:dc→bP→j→Prop)(aY:(0<(↑(List.length s):Int)→(-9223372036854775808≤0+(↑(Prod.fst (Prod.snd (first (List.drop 0 (List.take (List.length s) s))))):Int)∧0+(↑(Prod.fst (Prod.snd (first (List.drop 0 (List.take (List.length s) s))))):Int)≤9223372036854775807)∧U .normal [(0,.str s),(3,.slice (some ⟨16,0,0,0,1⟩) 1 1),(4,.int .i64 (0+(↑(Prod.fst (Prod.snd (first (List.drop 0 (List.take (List.length s) s))))):Int)))] (j.ar 22 [(15,R.made [.int .i32 (↑(Prod.fst (first (List.drop 0 (List.take (List.length s) s)))):Int)] 1 true),(16,R.made [.int .i32 (↑(Prod.fst (first (List.drop 0 (List.take (List.length s) s)))):Int)] 1 false (some (21,0)))]))∧(¬0<(↑(List.length s):Int)→U (.exit 0) [(0,.str s),(3,.slice none 0 0),(4,.int .i64 0)] (j.ar 4 []))) :
 ∃e aW p,cx Tryz.prog aw 0 26 (cF Tryz.prog 150 0) [(0,.str s),(3,.slice none 0 0),(4,.int .i64 0)] (⟨0,.nil⟩) e aW p∧U e aW p :=
 gm bQ mixed Fw (an:= .aK 3003 (ag 6002 .nil) .nil) (cs:=[0,3,4]) (by kernel_rfl) aY
theorem Fx(s:Bytes)(i v f n:Nat)(l:List o)(U:dc→bP→j→Prop)(aY:((i:Int)<(↑(List.length s):Int)→(0≤(i:Int)∧(i:Int)≤(↑(List.length s):Int))∧(v=v∧0+n=List.length l∧n<n+1∧(n+1+(n+1)/4+512)*4≤281474976710656∧n+1<4611686018427387904)∧(-9223372036854775808≤(i:Int)+(↑(Prod.fst (Prod.snd (first (List.drop i s)))):Int)∧(i:Int)+(↑(Prod.fst (Prod.snd (first (List.drop i s)))):Int)≤9223372036854775807)∧U .normal [(0,.str s),(3,.slice (some {id:=16,J:=v+1,idx:=0,bR:=0,es:=1}) (n+1) (n+1)),(4,.int .i64 ((i:Int)+(↑(Prod.fst (Prod.snd (first (List.drop i s)))):Int)))] (j.ar 42 [(16,⟨l++[.int .i32 (↑(Prod.fst (first (List.drop i s))):Int)],1,false,false,v+1,0,if 0=v then List.length l else min f (List.length l),some (21,0)⟩),(35,R.made [.int .i32 (↑(Prod.fst (first (List.drop i s))):Int)] 1 true)]))∧(¬(i:Int)<(↑(List.length s):Int)→U (.exit 0) [(0,.str s),(3,.slice (some ⟨16,v,0,0,1⟩) n n),(4,.int .i64 (i:Int))] (j.ar 24 [(16,⟨l,1,false,false,v,0,f,some (21,0)⟩)]))) :
 ∃e aW p,cx Tryz.prog aw 0 26 (cF Tryz.prog 150 0) [(0,.str s),(3,.slice (some ⟨16,v,0,0,1⟩) n n),(4,.int .i64 i)] (j.rows 20 [(16,hk l v f)]) e aW p∧U e aW p :=
 gm bQ mixed Fw (an:= .aK 3003 (ag 4002 (ag 5003 (ag 6002 .nil))) .nil) (cs:=[0,3,4]) (by kernel_rfl) aY
theorem L7(s:Bytes)(eD ep:o)(aa:j)(U:o→j→Prop)(aY:cx Tryz.prog aw 0 26 (Code.loop (cF Tryz.prog 150 0)) [(0,.str s),(3,.slice none 0 0),(4,.int .i64 0)] (j.ar 3 []) (.exit 0) [(0,.str s),(3,eD),(4,ep)] aa∧U eD (j.mk (aa.next+2) (j.aJ aa))) :
 ∃v p,aI Tryz.prog aw 150 [.str s] (⟨0,.nil⟩) v p∧U v p :=
 cb bQ mixed Fw (an:= .aA (.cs [0,3,4]) (.aA (.loop [(0,.str s),(3,eD),(4,ep)] aa (.exit 0)) .nil)) (by kernel_rfl) aY
end Go.Proofs.YtddnafghiejcoaaGreatDoor
namespace Go.Keys
theorem L8:∀(k i a1 ak v:Nat)(l:Bytes),i≤(tail k i a1 ak v l).2.1∧(tail k i a1 ak v l).2.1≤i+l.length
 |0,i,a1,ak,v,l=>by simp [tail]
 |k+1,i,a1,ak,v,[]=>by simp [tail]
 |k +1,i,a1,ak,v,c::r=>by
  simp only [tail];split
  ·simp
  ·have:=L8 k (i+1) 128 191 (v*64+c.toNat%64) r;simp only [List.length_cons];omega
theorem xf{s:Bytes}(h:s≠[]):1≤(first s).2.1∧(first s).2.1≤s.length:=by
 cases s with
 |nil=>exact absurd rfl h
 |cons b r =>
  simp only [first];split
  ·simp
  ·split
   ·simp
   ·have:=L8 ((lead b.toNat).1-1) 1 (lead b.toNat).2.1 (lead b.toNat).2.2 (b.toNat%2^(7- (lead b.toNat).1)) r;simp only [List.length_cons];omega
theorem L9:∀(k fy:Nat)(s:Bytes),s.length≤k→s.length≤fy→js k s=js fy s
 |0,0,s,_,_=>rfl
 |0,fy+1,[],_,_=>rfl
 |0,fy+1,b::r,h,_=>by simp at h
 |k+1,0,[],_,_=>rfl
 |k+1,0,b::r,_,h=>by simp at h
 |k+1,fy+1,[],_,_=>rfl
 |k+1,fy+1,b::r,h,aa=>by simp only [js];have:=(xf (s:=b::r) (by simp)).1;rw [L9 k fy _ (by simp only [List.length_drop,List.length_cons]at *; omega) (by simp only [List.length_drop,List.length_cons]at *; omega)]
theorem AM:eJ []=[]:=rfl
theorem AN{s:Bytes}(h:s≠[]):eJ s=(first s).1::eJ (s.drop (first s).2.1):=by
 cases s with
 |nil=>exact absurd rfl h
 |cons b r =>
  have:=(xf (s:=b::r) (by simp)).1;unfold eJ;simp only [List.length_cons,js];rw [L9 r.length _ _ (by simp only [List.length_drop,List.length_cons];omega) (Nat.le_refl _)]
theorem L':∀(n:Nat)(s:Bytes),s.length≤n→(eJ s).length≤s.length
 |0,s,h=>by have:s=[]:=List.eq_nil_of_length_eq_zero (by omega);subst this;simp [AM]
 |n +1,s,h=>by
  by_cases an:s=[]
  ·subst an;simp [AM]
  ·rw [AN an];have a8:=xf an;have:=L' n (s.drop (first s).2.1) (by simp only [List.length_drop];omega);simp only [List.length_cons];simp only [List.length_drop]at this;omega
end Go.Keys
namespace Go.Proofs.YtddnafghiejcoaaGreatDoor
open Go.cM Go.Keys
set_option maxRecDepth 1000000
def dR(l:List Nat):List o:=l.map fun(n:Nat)=>o.int .i32 n
theorem Ma(l:List Nat):(dR l).length=l.length:=by simp [dR]
def jU(n:Nat):Nat:=if n=1 then 0 else 1
abbrev nd(l:List Nat):R:=hk (dR l) (l.length-1) (jU l.length)
abbrev nZ(s:Bytes)(l i:Nat):bP:=[(0,.str s),(3,.slice (some ⟨16,l-1,0,0,1⟩) l l),(4,.int .i64 (i:Nat))]
theorem V2{n l c:Nat} :cA (Go.cM.cL [16]) (.slice (some ⟨16,n,0,0,1⟩) l c):=(by show(16:Nat)∈ [16];simp)
theorem rr(l:List Nat):∀e∈dR l,cR e:=cR.ints l .i32 fun(n:Nat)=>(n:Int)
theorem Mb(s:Bytes)(l i:Nat)(h:j)(b:R)(au:dl b)(ag:h.get 16=some b):eV 0 26 (nZ s l i) h (nZ s l i) (j.rows 20 [(16,b)]) :=
 eV.drop (K:=20) (l:=[(16,b)]) (by simp [ag]) rfl rfl (by rfl) (by
  refine bZ.cons trivial (bZ.cons V2 (bZ.cons trivial bZ.nil))) (by
  refine bZ.cons (fun e he=>(au e he).e1 _) bZ.nil)
theorem V3(s:Bytes)(an:s.length<2^40):∀(k i:Nat)(L:List Nat),s.length-i≤k→i≤s.length→1≤L.length→L.length≤i→ ∃aa,
 cN Tryz.prog aw 0 26 (cF Tryz.prog 150 0) (nZ s L.length i) (j.rows 20 [(16,nd L)]) (.exit 0) (nZ s (L++eJ (s.drop i)).length s.length) aa∧aa.get 16=some (nd (L++eJ (s.drop i))):=by
 intro k;induction k with
 |zero =>
  intro i L ap ak p ds;obtain⟨e,aW,p,bb,rfl,rfl,rfl⟩:=Fx s i (L.length-1) (jU L.length) L.length (dR L) (fun e aW p=>e=.exit 0∧aW=nZ s L.length i∧p=j.ar 24 [(16,nd L)]) ⟨fun h=>by omega,fun _=>⟨rfl,rfl,rfl⟩⟩;have:i=s.length:=by omega
  subst this;rw [List.drop_length,AM,List.append_nil];exact⟨_,cN.last (by simp) bb,by kernel_rfl⟩
 |succ k ih =>
  intro i L ap ak p ds;by_cases av:i<s.length
  ·have b1:s.drop i≠[]:=by rw [Ne,List.drop_eq_nil_iff];omega
   have a8:=xf b1;rw [List.length_drop]at a8
   obtain⟨e,aW,ad,bb,rfl,rfl,ag⟩:=Fx s i (L.length-1) (jU L.length) L.length (dR L) (fun e aW ad=>e=.normal∧aW=nZ s (L.length+1) (i+(first (s.drop i)).2.1)∧ad.get 16=some (nd (L++[(first (s.drop i)).1]))) (by
    refine⟨fun _=>⟨⟨by omega,by omega⟩,⟨rfl,by rw [Ma];omega,by omega,by omega,by omega⟩,⟨by omega,by omega⟩,rfl,?_,?_⟩,fun h=>by omega⟩
    ·unfold nZ;rw [show L.length+1-1=L.length-1+1 by omega];rfl
    ·have bn:dR (L++[(first (s.drop i)).1])=dR L++[o.int .i32 ((first (s.drop i)).1:Int)]:=by simp [dR]
     have bs:(L++[(first (s.drop i)).1]).length-1=L.length-1+1:=by simp;omega
     have b7:jU (L++[(first (s.drop i)).1]).length=if 0=L.length-1 then(dR L).length else min (jU L.length) (dR L).length:=by
      rw [Ma];unfold jU;simp only [List.length_append,List.length_cons,List.length_nil];by_cases dG:L.length=1
      ·rw [if_neg (by omega),if_pos (by omega)];omega
      ·rw [if_neg (by omega),if_neg (by omega),if_neg dG];omega
     show some _=some (hk _ _ _)
     rw [bn,bs,b7])
   obtain⟨aa,az,Mc⟩:=ih (i+(first (s.drop i)).2.1) (L++[(first (s.drop i)).1]) (by omega) (by omega) (by simp) (by simp;omega)
   have ct:(L++[(first (s.drop i)).1])++eJ (s.drop (i+(first (s.drop i)).2.1))=L++eJ (s.drop i):=by rw [AN b1,List.drop_drop];simp
   rw [ct]at az Mc;have il:(L++[(first (s.drop i)).1]).length=L.length+1:=by simp
   rw [show nZ s (L++[(first (s.drop i)).1]).length (i+(first (s.drop i)).2.1)=nZ s (L.length+1) (i+(first (s.drop i)).2.1)by rw [il]]at az;exact⟨aa,cN.round bb (Mb s _ _ _ (nd (L++[(first (s.drop i)).1])) (rr _) ag) az,Mc⟩
  ·obtain⟨e,aW,p,bb,rfl,rfl,rfl⟩:=Fx s i (L.length-1) (jU L.length) L.length (dR L) (fun e aW p=>e=.exit 0∧aW=nZ s L.length i∧p=j.ar 24 [(16,nd L)]) ⟨fun h=>by omega,fun _=>⟨rfl,rfl,rfl⟩⟩;have:i=s.length:=by omega
   subst this;rw [List.drop_length,AM,List.append_nil];exact⟨_,cN.last (by simp) bb,by kernel_rfl⟩
theorem V4(H:j):aI Tryz.prog aw 150 [.str []] H (.slice none 0 0) H:=by refine aI.fm (L7 [] (.slice none 0 0) (.int .i64 0) (j.ar 4 []) (fun v _=>v=.slice none 0 0) ⟨?_,rfl⟩) rfl rfl H;refine cx.gL ?_;obtain⟨e,aW,p,bb,rfl,rfl,rfl⟩:=L6 [] (fun e aW p=>e=.exit 0∧aW=[(0,o.str []),(3,o.slice none 0 0),(4,o.int .i64 0)]∧p=j.ar 4 []) ⟨fun h=>by simp at h,fun _=>⟨rfl,rfl,rfl⟩⟩;exact(cN.last (by simp) bb).pre (eV.drop (K:=0) (l:=[]) rfl (by decide) (by decide) (by rfl) (bZ.cons trivial (bZ.cons trivial (bZ.cons trivial bZ.nil))) bZ.nil)
theorem V5(s:Bytes)(an:s.length<2^40)(bm:s≠[])(H:j):aI Tryz.prog aw 150 [.str s] H (.slice (some ⟨H.next,(eJ s).length-1,0,0,1⟩) (eJ s).length (eJ s).length) (H.hx [] [nd (eJ s)]):=by
 have a8:=xf bm;have ir:0<s.length:=List.length_pos_iff.2 bm;have ca:List.drop 0 (List.take s.length s)=s:=by simp
 obtain⟨e,aW,p,bb,rfl,rfl,jt⟩:=L6 s (fun e aW p=>e=.normal∧aW=nZ s 1 (first s).2.1∧p.get 16=some (nd [(first s).1])) (by
  rw [ca]
  exact⟨fun _=>⟨⟨by omega,by omega⟩,rfl,by rw [show(0:Int)+((first s).2.1:Int)=(((first s).2.1:Nat):Int)by omega],rfl⟩,fun h=>by omega⟩)
 obtain⟨aa,az,ag⟩:=V3 s an s.length (first s).2.1 [(first s).1] (by omega) a8.2 (by simp) (by simpa using a8.1);rw [show [(first s).1]++eJ (s.drop (first s).2.1)=eJ s from(AN bm).symm]at az ag;have ds:=(cN.round bb (Mb s 1 (first s).2.1 p (nd [(first s).1]) (rr _) jt) az).pre (eV.drop (h:=j.ar 3 []) (K:=0) (l:=[]) rfl (by decide) (by decide) (by rfl) (bZ.cons trivial (bZ.cons trivial (bZ.cons trivial bZ.nil))) bZ.nil);obtain⟨v,ad,aC,rfl,kc⟩:=L7 s (.slice (some ⟨16,(eJ s).length-1,0,0,1⟩) (eJ s).length (eJ s).length) (.int .i64 (s.length:Nat)) aa (fun v ad=>v=.slice (some ⟨16,(eJ s).length-1,0,0,1⟩) (eJ s).length (eJ s).length∧ad.get 16=some (nd (eJ s))) ⟨cx.gL ds,rfl,ag⟩;exact aI.EX (l:=[]) (ej:=nd (eJ s)) aC (fun b au=>by cases au) (rr _) rfl kc (by simp) (by exact⟨trivial,trivial⟩) [] List.nodup_nil (fun C aV=>by cases aV) rfl
end Go.Proofs.YtddnafghiejcoaaGreatDoor
