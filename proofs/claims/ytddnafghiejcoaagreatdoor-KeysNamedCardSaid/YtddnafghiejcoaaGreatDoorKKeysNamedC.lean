/-
  Parts of the proof of KeysNamed.
-/
import Derived.Test.YtddnafghiejcoaaGreatDoorRows
import Derived.Shelf.Strconv.Itoa1
import Derived.Shelf.Strings.Fields
import Derived.Lib.Bytealg
import Derived.Shelf.Strings.OnBuilder
import Derived.Shelf.Strings.Repeat
import Derived.Lib.Atoi
import Derived.Lib.SlTrimSet
import Derived.Shelf.Strings.SlTrimAscii
import Derived.Shelf.Strconv.Atoi
import Derived.Lib.AtoiErrMem
import Derived.Shelf.Strings.Count
import Derived.Shelf.Strings.Search3
import Derived.Lib.ItoaNum
import Derived.Test.YtddnafghiejcoaaGreatDoorKKeysNamedB
set_option linter.unusedVariables false
set_option linter.unusedSimpArgs false
namespace Go.bh
noncomputable section
open Go.RowKit
def I.rows(n:Nat)(l:List (Nat×ai)):I:=l.foldl (fun h p=>h.set p.1 p.2) ⟨n,.nil⟩
theorem I.GU(l:List (Nat×ai)):∀(h:I)(i:Nat)(b:ai),(l.foldl (fun h p=>h.set p.1 p.2) h).get i=some b→h.get i=some b∨(i,b)∈l:=by
 induction l with
 |nil=>intro h i b k;exact .inl k
 |cons p r ih =>
  intro h i b k;rcases ih _ i b k with k|k
  ·rw [I.jp]at k;split at k
   ·rename_i e;simp only [Option.some.injEq]at k;exact .inr (by rw [←e,←k];exact List.mem_cons_self ..)
   ·exact .inl k
  ·exact .inr (by simp [k])
theorem I.GV(l:List (Nat×ai)):∀(h:I)(i:Nat),(In h i∨i∈l.map (·.1))→In (l.foldl (fun h p=>h.set p.1 p.2) h) i:=by
 induction l with
 |nil=>intro h i k;rcases k with k|k;exact k;simp at k
 |cons p r ih =>
  intro h i k;refine ih _ i ?_;by_cases e:p.1=i
  ·left;unfold In;rw [I.jp,if_pos e];rfl
  ·rcases k with k|k
   ·left;unfold In;rw [I.jp,if_neg e];exact k
   ·simp only [List.map_cons,List.mem_cons]at k;rcases k with k|k
    ·exact absurd k.symm e
    ·exact .inr k
theorem I.GW(l:List (Nat×ai)):∀(h:I),(l.foldl (fun h p=>h.set p.1 p.2) h).U=h.U:=by
 induction l with
 |nil=>intro h;rfl
 |cons p r ih=>intro h;rw [List.foldl_cons,ih];rfl
@[simp] theorem I.xz(n:Nat)(l:List (Nat × ai)) : (I.rows n l).U = n := I.GW _ _
theorem I.rE{n:Nat}{l:List (Nat×ai)}{i:Nat}{b:ai}(h:(I.rows n l).get i=some b):(i,b)∈l:=by
 rcases I.GU l _ i b h with k|k
 ·cases k
 ·exact k
theorem I.tG{n:Nat}{l:List (Nat×ai)}{i:Nat}(h:i∈l.map (·.1)):In (I.rows n l) i:=I.GV l _ i (.inr h)
theorem I.xA{n:Nat}{l:List (Nat×ai)}{i:Nat}(h:In (I.rows n l) i):i∈l.map (·.1):=by obtain⟨b,an⟩:=Option.isSome_iff_exists.1 h;exact List.mem_map.2 ⟨_,I.rE an,rfl⟩
mutual
theorem R.pL:∀(v:R),v.be (fun i=>i)=v
 |.ptr (some a)=>rfl
 |.slice (some a) _ _=>rfl
 |.func fn f c=>by simp only [R.be,R.tH]
 |.iface t v=>by simp only [R.be,R.pL v]
 |.agg cs=>by simp only [R.be,R.tH]
 |.tuple vs=>by simp only [R.be,R.tH]
 |.undef=>rfl
 |.bool _=>rfl
 |.int _ _=>rfl
 |.str _=>rfl
 |.ptr none=>rfl
 |.slice none _ _=>rfl
 |.nilFunc=>rfl
 |.nilIface=>rfl
theorem R.tH:∀(l:List R),R.fN (fun i=>i) l=l
 |[]=>rfl
 |a::l=>by simp only [R.fN,R.pL a,R.tH l]
end
theorem ai.pL(b:ai):b.be (fun i=>i)=b:=by
 unfold ai.be
 have:b.bc.map (R.be fun i=>i)=b.bc:=by
  conv=>rhs;rw [←List.map_id b.bc]
  exact List.map_congr_left fun e he=>R.pL e
 rw [this]
def iD(b:ai):Prop:= ∀e∈b.bc,cO e
theorem iD.be{b:ai}(h:iD b)(r:Nat→Nat):b.be r=b:=by
 unfold ai.be
 have:b.bc.map (R.be r)=b.bc:=by
  conv=>rhs;rw [←List.map_id b.bc]
  exact List.map_congr_left fun e he=>(h e he).1 r
 rw [this]
theorem iD.ha{b:ai}(h:iD b)(D:Nat→Prop):∀e∈b.bc,bH D e:=fun e he=>bH.mono (fun _ k=>k.elim) (h e he).2
theorem cO.ha{v:R}(h:cO v)(D:Nat→Prop):bH D v:=bH.mono (fun _ k=>k.elim) h.2
def ff(l:List Nat):Nat→Prop:=fun i=>i∈l
theorem cY.drop{base n:Nat}{F:a'}{h:I}{K:Nat}{l:List (Nat×ai)}(ay:l.map (fun p=>h.get p.1)=l.map (fun p=>some p.2))(cH:l.all (fun p=>Nat.blt p.1 K)=true)
 (an:(List.range base).all (fun i=>(l.map (·.1)).contains i)=true) (aI:F.all (fun p=>Nat.blt p.1 n)=true) (df:bm (F.map fun p=>bH (ff (l.map (·.1))) p.2))
 (al:bm (l.map fun p=> ∀e∈p.2.bc,bH (ff (l.map (·.1))) e)):cY base n F h F (I.rows K l):=by
 have fo:∀i b,(I.rows K l).get i=some b→i<K∧h.get i=some b:=by intro i b k;have hm:=I.rE k;refine⟨Nat.blt_eq.mp (List.all_eq_true.1 cH _ hm),?_⟩;obtain⟨j,aW,e⟩:=List.mem_iff_getElem.1 hm;have aa:=congrArg (fun(x:List (Option ai))=>x[j]?) ay;simp only [List.getElem?_map,List.getElem?_eq_getElem aW,Option.map_some,e,Option.some.injEq]at aa;exact aa
 have rF:∀{v:R},bH (ff (l.map (·.1))) v→bH (In (I.rows K l)) v:=bH.mono fun i ag=>I.tG ag
 refine cY.be (r:=fun i=>i) ⟨fun i b k=>⟨by rw [I.xz];exact(fo i b k).1,by rw [ai.pL];exact(fo i b k).2⟩,fun i j _ _ e=>e,?_⟩ ?_ ?_ ?_ ?_
 ·intro i b k e he;have hm:=I.rE k;exact rF (al _ (List.mem_map.2 ⟨_,hm,rfl⟩) e he)
 ·intro t v bg
  have hm:(t,v)∈F:=by
   clear aI df
   induction F with
   |nil=>cases bg
   |cons p r ih =>
    obtain⟨k,u⟩:=p;rw [oE]at bg;split at bg
    ·rename_i e;simp only [Option.some.injEq]at bg;subst e;subst bg;simp
    ·exact List.mem_cons_of_mem _ (ih bg)
  exact⟨Nat.blt_eq.mp (List.all_eq_true.1 aI _ hm),by rw [R.pL];exact bg,rF (df _ (List.mem_map.2 ⟨_,hm,rfl⟩))⟩
 ·intro i ag _;exact I.tG (by simpa using List.all_eq_true.1 an i (List.mem_range.2 ag))
 ·intro i _ _;rfl
 ·intro i _ k;exact k
theorem bn.GX{P:Program}{C:(Nat→Prop)→World→Prop}[jd C]{f:FuncId}{args:List R}{h af:I}{v:R}(k:bn P C f args h v af)(r:Nat→Nat)(v2:R)(K:Nat)(l:List (Nat×ai))
 (ay:l.map (fun p=>af.get (r p.1))=l.map (fun p=>some (p.2.be r))) (bg:v=v2.be r) (cH:l.all (fun p=>Nat.blt p.1 K)=true) (aR:((l.map (·.1)).map r).Nodup)
 (an:(List.range h.U).all (fun i=>(l.map (·.1)).contains i&&Nat.beq (r i) i)=true) (dT:l.all (fun p=>Nat.blt p.1 h.U || Nat.ble h.U (r p.1))=true) (aI:Nat.ble h.U K=true)
 (xB:bH (ff (l.map (·.1))) v2) (al:bm (l.map fun p=> ∀e∈p.2.bc,bH (ff (l.map (·.1))) e)):bn P C f args h v2 (I.rows K l):=by
 have fo:∀i b,(I.rows K l).get i=some b→i<K∧af.get (r i)=some (b.be r):=by intro i b k;have hm:=I.rE k;refine⟨Nat.blt_eq.mp (List.all_eq_true.1 cH _ hm),?_⟩;obtain⟨j,aW,e⟩:=List.mem_iff_getElem.1 hm;have aa:=congrArg (fun(x:List (Option ai))=>x[j]?) ay;simp only [List.getElem?_map,List.getElem?_eq_getElem aW,Option.map_some,e,Option.some.injEq]at aa;exact aa
 have rF:∀{v:R},bH (ff (l.map (·.1))) v→bH (In (I.rows K l)) v:=bH.mono fun i ag=>I.tG ag
 refine k.be (r:=r) ⟨fun i b k=>⟨by rw [I.xz];exact(fo i b k).1,(fo i b k).2⟩,?_,?_⟩ bg (rF xB) ?_ ?_ ?_ (by rw [I.xz];exact Nat.le_of_ble_eq_true aI)
 ·intro i j ag aW e;have ag:=I.xA ag;have aW:=I.xA aW;obtain⟨a,aD,rfl⟩:=List.mem_iff_getElem.1 ag;obtain⟨b,eX,rfl⟩:=List.mem_iff_getElem.1 aW;have aa:((l.map (·.1)).map r)[a]'(by simpa using aD)=((l.map (·.1)).map r)[b]'(by simpa using eX):=by simpa using e
  have:=(List.getElem_inj aR).1 aa;subst this;rfl
 ·intro i b k e he;have hm:=I.rE k;exact rF (al _ (List.mem_map.2 ⟨_,hm,rfl⟩) e he)
 ·intro i ag _;have:=List.all_eq_true.1 an i (List.mem_range.2 ag);simp only [Bool.and_eq_true]at this;exact I.tG (by simpa using this.1)
 ·intro i ag _;have:=List.all_eq_true.1 an i (List.mem_range.2 ag);simp only [Bool.and_eq_true]at this;exact Nat.eq_of_beq_eq_true this.2
 ·intro i ag c1;have ag:=I.xA ag;obtain⟨p,hm,rfl⟩:=List.mem_map.1 ag;have:=List.all_eq_true.1 dT p hm;simp only [Bool.or_eq_true]at this;rcases this with aa|aa
  ·exact Nat.blt_eq.mp aa
  ·have:=Nat.le_of_ble_eq_true aa;omega
def I.l6:Nat→List ai→I→I
 |_,[],h=>h
 |i,b::r,h=>I.l6 (i+1) r (h.set i b)
def I.of(l:List ai):I:=I.l6 0 l ⟨l.length,.nil⟩
theorem I.Bc:∀(l:List ai)(i:Nat)(h:I)(j:Nat),(I.l6 i l h).get j=if i≤j∧j<i+l.length then l[j-i]? else h.get j
 |[],i,h,j=>by simp only [I.l6,List.length_nil];rw [if_neg J]
 |b ::r,i,h,j=>by
  simp only [I.l6,I.Bc r,List.length_cons,I.jp];by_cases e:i=j
  ·subst e;rw [if_neg J,if_pos rfl,if_pos J];simp
  ·by_cases c:i+1≤j∧j<i+1+r.length
   ·rw [if_pos c,if_pos J,show j-i=(j- (i+1))+1 by omega];simp
   ·rw [if_neg c,if_neg e,if_neg J]
theorem I.Bd:∀(l:List ai)(i:Nat)(h:I),(I.l6 i l h).U=h.U
 |[],i,h=>rfl
 |b::r,i,h=>by simp only [I.l6,I.Bd r];rfl
@[simp] theorem I.of_next(l:List ai) : (I.of l).U = l.length := I.Bd _ _ _
theorem I.iV(l:List ai)(j:Nat):(I.of l).get j=l[j]? :=by
 unfold I.of;rw [I.Bc];split
 ·simp
 ·rw [List.getElem?_eq_none J];rfl
theorem I.pM{l:List ai}{j:Nat} :In (I.of l) j↔j<l.length:=by unfold In;rw [I.iV];simp
def er(ids:List Nat)(n i:Nat):Nat :=
 match ids[i]? with
 |some j=>j
 |none=>n+(i-ids.length)
theorem bn.up{P:Program}{C:(Nat→Prop)→World→Prop}[jd C]{f:FuncId}{args:List R}{v:R}{l ct:List ai}(k:bn P C f args (I.of l) v (I.of ct))(an:∀b∈l,iD b)(eX:∀b∈ct,iD b)(kR:l.length≤ct.length)(aD:ec (fun i=>i<l.length) args)
 {H aH:I} (ids:List Nat) (aI:ids.Nodup) (c1:∀j∈ids,j<H.U) (ay:ids.map H.get=l.map some) (w6:aH.U=H.U+(ct.length-l.length)) (kQ:∀i,i<ct.length→aH.get (er ids H.U i)=ct[i]?)
 (j8:∀j,j<H.U→j ∉ ids→aH.get j=H.get j):bn P C f (args.map (R.be (er ids H.U))) H (v.be (er ids H.U)) aH:=by
 have hlen:ids.length=l.length:=by have:=congrArg List.length ay;simpa using this
 have qS:∀i (ag:i<ids.length),er ids H.U i=ids[i]:=fun i ag=>by simp [er,List.getElem?_eq_getElem ag]
 refine k.frame (r:=er ids H.U) ⟨?_,?_,?_⟩ ?_ ?_ ?_ ?_ ?_
 ·intro i b ah;rw [I.iV]at ah;have ag:=(List.getElem?_eq_some_iff.1 ah).1;refine⟨by rw [I.of_next];exact ag,?_⟩;rw [(an b (List.mem_of_getElem? ah)).be,qS i J];have aa:=congrArg (fun(x:List (Option ai))=>x[i]?) ay;simp only [List.getElem?_map,List.getElem?_eq_getElem (show i<ids.length by omega),Option.map_some,ah,Option.some.injEq]at aa;exact aa
 ·intro i j ag aW e;rw [I.pM]at ag aW;rw [qS i J,qS j J]at e;exact(List.getElem_inj aI).1 e
 ·intro i b ah e he;rw [I.iV]at ah;exact(an b (List.mem_of_getElem? ah) e he).ha _
 ·exact ec.mono (fun i ag=>I.pM.2 ag) aD
 ·intro i ag;rw [I.of_next]at ag;simp only [er,List.getElem?_eq_none (show ids.length≤i by omega),I.of_next,hlen]
 ·intro i b ah _;rw [I.iV]at ah;rw [(eX b (List.mem_of_getElem? ah)).be,kQ i (List.getElem?_eq_some_iff.1 ah).1,ah]
 ·rw [w6];simp
 ·intro j aW bJ;refine j8 j aW fun hm=> ?_
  obtain⟨i,ag,e⟩:=List.mem_iff_getElem.1 hm;exact bJ i (I.pM.2 J) (by rw [qS i ag];exact e)
theorem bn.GY{P:Program}{C:(Nat→Prop)→World→Prop}[jd C]{f:FuncId}{args:List R}{v:R}{l:List ai}(k:bn P C f args (I.of l) v (I.of l))(an:∀b∈l,iD b)(aD:ec (fun i=>i<l.length) args)
 {H:I} (ids:List Nat) (aI:ids.Nodup) (c1:∀j∈ids,j<H.U) (ay:ids.map H.get=l.map some):bn P C f (args.map (R.be (er ids H.U))) H (v.be (er ids H.U)) H:=by
 have hlen:ids.length=l.length:=by have:=congrArg List.length ay;simpa using this
 refine k.up an an (Nat.le_refl _) aD ids aI c1 ay a1 (fun i ag=> ?_) fun _ _ _=>rfl
 have aa:=congrArg (fun(x:List (Option ai))=>x[i]?) ay;simp only [List.getElem?_map,List.getElem?_eq_getElem (show i<ids.length by omega),List.getElem?_eq_getElem ag,Option.map_some,Option.some.injEq]at aa;simp only [er,List.getElem?_eq_getElem (show i<ids.length by omega),aa,List.getElem?_eq_getElem ag]
def hd:Nat→List ai→List (Nat×ai)
 |_,[]=> []
 |i,b::r=>(i,b)::hd (i+1) r
theorem I.Be:∀(l:List ai)(i:Nat)(h:I),I.l6 i l h=(hd i l).foldl (fun h p=>h.set p.1 p.2) h
 |[],i,h=>rfl
 |b::r,i,h=>by simp only [I.l6,hd,List.foldl_cons];exact I.Be r _ _
theorem I.GZ(l:List ai):I.of l=I.rows l.length (hd 0 l):=I.Be _ _ _
theorem Bf:∀(l:List ai)(i:Nat),(hd i l).map (·.1)=List.range' i l.length
 |[],i=>rfl
 |b::r,i=>by simp only [hd,List.map_cons,Bf r,List.length_cons,List.range'_succ]
theorem xC:∀(l:List ai)(i:Nat),(hd i l).map (·.2)=l
 |[],i=>rfl
 |b::r,i=>by simp only [hd,List.map_cons,xC r]
theorem List.Nodup.G0{f:Nat→Nat}{n:Nat}(h:∀a∈List.range n,∀b∈List.range n,f a=f b→a=b):((List.range n).map f).Nodup:=by rw [List.nodup_iff_pairwise_ne,List.pairwise_map];refine List.Pairwise.imp_of_mem ?_ (List.nodup_range (n:=n));intro a b aD an bJ e;exact bJ (h a aD b an e)
def hf(k:Nat)(gH:List Nat)(i:Nat):Nat:=if i<k then i else(gH[i-k]?).getD 0
theorem bn.fin{P:Program}{C:(Nat→Prop)→World→Prop}[jd C]{f:FuncId}{args:List R}{af:I}{v:R}{l:List ai}(k:bn P C f args (I.of l) v af)(gH:List Nat)(ct:List ai)(v2:R)(eX:∀b∈ct,iD b)
 (hlen:ct.length=l.length+gH.length) (fo:(List.range ct.length).map (fun i=>af.get (hf l.length gH i))=ct.map some) (bg:v=v2.be (hf l.length gH)) (xB:bH (fun i=>i<ct.length) v2)
 (G1:gH.all (fun j=>Nat.ble l.length j)=true) (ie:gH.Nodup):bn P C f args (I.of l) v2 (I.of ct):=by
 have pN:(hd 0 ct).map (·.1)=List.range ct.length:=by rw [Bf,List.range_eq_range']
 have fI:∀j∈gH,l.length≤j:=fun j aW=>Nat.le_of_ble_eq_true (List.all_eq_true.1 G1 j aW)
 have h4:∀i,l.length≤i→i<ct.length→ ∃(h:i-l.length<gH.length),hf l.length gH i=gH[i-l.length]:=by intro i aa ae;have aS:i-l.length<gH.length:= J;exact⟨aS,by simp only [hf,if_neg (show ¬i<l.length by omega),List.getElem?_eq_getElem aS,Option.getD_some]⟩
 rw [I.GZ ct];refine k.GX (hf l.length gH) v2 ct.length (hd 0 ct) ?_ bg ?_ ?_ ?_ ?_ (Nat.ble_eq.mpr ?_) ?_ ?_
 ·have aa:(hd 0 ct).map (fun p=>af.get (hf l.length gH p.1))=((hd 0 ct).map (·.1)).map (fun i=>af.get (hf l.length gH i)):=by rw [List.map_map];rfl
  have ae:(hd 0 ct).map (fun p=>some (p.2.be (hf l.length gH)))=((hd 0 ct).map (·.2)).map (fun b=>some (b.be (hf l.length gH))):=by rw [List.map_map];rfl
  rw [aa,ae,pN,xC,fo];exact List.map_congr_left fun b hm=>by rw [(eX b hm).be]
 ·rw [List.all_eq_true];intro p ab;have:p.1∈(hd 0 ct).map (·.1):=List.mem_map.2 ⟨p,ab,rfl⟩;rw [pN]at this;exact Nat.blt_eq.mpr (List.mem_range.1 this)
 ·rw [pN];refine List.Nodup.G0 ?_;intro a aD b an e;have aD:=List.mem_range.1 aD;have an:=List.mem_range.1 an;by_cases db:a<l.length<;>by_cases c2:b<l.length
  ·simpa [hf,db,c2]using e
  ·obtain⟨aS,bj⟩:=h4 b J an;rw [bj,show hf l.length gH a=a by simp [hf,db]]at e;have:=fI _ (List.getElem_mem aS);omega
  ·obtain⟨aS,bj⟩:=h4 a J aD;rw [bj,show hf l.length gH b=b by simp [hf,c2]]at e;have:=fI _ (List.getElem_mem aS);omega
  ·obtain⟨aS,bj⟩:=h4 a J aD;obtain⟨cb,cS⟩:=h4 b J an;rw [bj,cS]at e;have:=(List.getElem_inj ie).1 e;omega
 ·rw [List.all_eq_true,I.of_next];intro i ag;have ag:=List.mem_range.1 ag;rw [pN,Bool.and_eq_true];exact⟨by simp;omega,beq_true (by simp [hf,ag])⟩
 ·rw [List.all_eq_true,I.of_next];intro p ab;have:p.1∈(hd 0 ct).map (·.1):=List.mem_map.2 ⟨p,ab,rfl⟩;rw [pN]at this;have c1:=List.mem_range.1 this;rw [Bool.or_eq_true];by_cases c:p.1<l.length
  ·exact .inl (Nat.blt_eq.mpr c)
  ·obtain⟨aS,bj⟩:=h4 p.1 J c1;exact .inr (Nat.ble_eq.mpr (by rw [bj];exact fI _ (List.getElem_mem aS)))
 ·rw [I.of_next];omega
 ·rw [pN];exact bH.mono (fun i ag=>List.mem_range.2 ag) xB
 ·intro p ab;obtain⟨q,av,rfl⟩:=List.mem_map.1 ab;intro e he;exact(eX q.2 (by have:q.2∈(hd 0 ct).map (·.2):=List.mem_map.2 ⟨q,av,rfl⟩;rwa [xC]at this) e he).ha _
theorem bn.pure{P:Program}{C:(Nat→Prop)→World→Prop}[jd C]{f:FuncId}{args:List R}{af:I}{v:R}{l:List ai}(k:bn P C f args (I.of l) v af)(an:∀b∈l,iD b)(fo:(List.range l.length).map af.get=l.map some)(bg:cO v)
 (aD:ec (fun i=>i<l.length) args) {H:I} (ids:List Nat) (aI:ids.Nodup) (c1:∀j∈ids,j<H.U) (ay:ids.map H.get=l.map some):bn P C f (args.map (R.be (er ids H.U))) H v H:=by
 have a7:=k.fin [] l v an a1 (by
  rw [←fo]
  exact List.map_congr_left fun i ag=>by rw [show hf l.length [] i=i by simp [hf,List.mem_range.1 ag]]) (bg.1 _).symm (bg.ha _) rfl a1
 have ba:=a7.GY an aD ids aI c1 ay
 rwa [bg.1]at ba
theorem bP.more{φ:Map}{S:Nat→Prop}{h ae:I}{w:World}(r:bP φ S h w)(aI:h.U≤ae.U)(ah:∀i,i<h.U→ae.get i=h.get i):bP φ S ae w where
 b6 i v p ab:=by obtain⟨aa,b,a7,ba⟩:=r.b6 i v p ab;exact⟨Nat.lt_of_lt_of_le aa aI,b,by rw [ah i aa];exact a7,ba⟩
 apart:=r.apart
 same:=r.same
theorem bn.pad{P:Program}{C:(Nat→Prop)→World→Prop}[jd C]{f:FuncId}{args:List R}{h af ae:I}{v:R}(k:bn P C f args h v af)(aI:af.U≤ae.U)(ah:∀i,i<af.U→ae.get i=af.get i):bn P C f args h v ae :=
 fun S aN bF eO φ w cx dt b' dD=>by obtain⟨g1,g2⟩:=k S aN bF eO φ w cx dt b' dD;exact⟨g1,g2.mono fun e aL ⟨aK,aZ,e1,a2,a3,a4,a5,xD⟩=>⟨aK,aZ,e1,a2,a3,a4.more aI ah,a5,Nat.le_trans xD aI⟩⟩
theorem Bg(n:Nat)(h:I):mB n h h=true:=ax.sn ai.q8 n h.aB h.aB 0 1 fun _ _=>rfl
structure nf(D:ci)(t e:TypeId)(ee iE:Nat):Prop where
 ty:∃d bM,D t=some d∧d.kind=.slice e∧D e=some bM∧bM.size=ee∧bM.bytes=iE∧0<ee∧bM.nU=true
section
variable {E:bq}{t e:TypeId}{ee iE nid:Nat}{h:I}{x:R}{new:List R}
theorem pO(hs:nf E.D t e ee iE)(s:R):e5 E .append #[t,t] [s,x] nid h=fb E.D t s x nid h:=by obtain⟨d,bM,aa,ae,aS,rfl,rfl,bj,cb⟩:=hs.ty;simp only [e5,List.getElem?_toArray,List.getElem?_cons_zero,List.getElem?_cons_succ,aa,ae]
theorem G2(hs:nf E.D t e ee iE)(ac:en ee x h=some new)(bJ:new≠[])(an:(new.length+new.length/4+512)*iE≤2^48)(ay:new.length<2^62) :
 e5 E .append #[t,t] [.slice none 0 0,x] nid h=some (gL nid ee new.length new.length,h.set nid (.aq new ee false (some (e,0)))):=by
 rw [pO hs];obtain⟨d,bM,aa,ae,aS,rfl,rfl,bj,cb⟩:=hs.ty;have aI:¬0+new.length=0:=by rw [Nat.zero_add];intro c;exact bJ (List.eq_nil_of_length_eq_zero c)
 simp only [fb,aa,ae,aS,ac];rw [if_pos ⟨bj,by simpa using an,by simpa using ay,cb⟩];rw [if_neg aI,if_pos ⟨trivial,trivial⟩,Nat.zero_add]
theorem Bh(hs:nf E.D t e ee iE)(ac:en ee x h=some new)(bJ:new≠[]){a:di}{len cap:Nat}{b:ai}(an:((len+new.length)+(len+new.length)/4+512)*iE≤2^48)(ay:len+new.length<2^62)
 (ah:h.get a.id=some b) (ey:a.es=ee∧a.fld=0) (mP:¬len+new.length≤cap) (cS:b.exact=false) (dO:b.ro=false) (bC:a.bf=b.bf) (dz:a.idx+len=b.bc.length) (kK:b.ty=none∨b.ty=some (e,0)) :
 e5 E .append #[t,t] [.slice (some a) len cap,x] nid h=some (.slice (some {a with bf:=a.bf+1}) (len+new.length) (len+new.length),h.set a.id (b.grow new)):=by
 rw [pO hs];obtain⟨d,bM,aa,ae,aS,rfl,rfl,bj,cb⟩:=hs.ty;simp only [fb,aa,ae,aS,ac];rw [if_pos ⟨bj,an,ay,cb⟩];rw [if_pos ey];simp only [ah];rw [if_neg mP,if_neg (by rw [cS];simp),if_pos ⟨dO,bC,dz,bJ,kK⟩]
theorem G3(hs:nf E.D t e ee iE)(ac:en ee x h=some new){a:di}{len cap:Nat}{b:ai}{old:List R}(an:((len+new.length)+(len+new.length)/4+512)*iE≤2^48)(ay:len+new.length<2^62)
 (ah:h.get a.id=some b) (ey:a.es=ee∧a.fld=0) (mP:¬len+new.length≤cap) (cS:b.exact=true) (aj:en ee (.slice (some a) len cap) h=some old) :
 e5 E .append #[t,t] [.slice (some a) len cap,x] nid h=some (gL nid ee (len+new.length) (len+new.length),h.set nid (.aq (old++new) ee false (some (e,0)))):=by
 rw [pO hs];obtain⟨d,bM,aa,ae,aS,rfl,rfl,bj,cb⟩:=hs.ty;simp only [fb,aa,ae,aS,ac];rw [if_pos ⟨bj,an,ay,cb⟩];rw [if_pos ey];simp only [ah];rw [if_neg mP,if_pos cS];simp only [aj]
theorem Bi(hs:nf E.D t e ee iE)(ac:en ee x h=some []){o:Option di}{len cap:Nat}{b:ai}(an:(len+len/4+512)*iE≤2^48)(ay:len<2^62)
 (ah:∀a,o=some a→h.get a.id=some b∧a.es=ee∧a.fld=0) (mP:len≤cap) (aI:o=none→len=0):e5 E .append #[t,t] [.slice o len cap,x] nid h=some (.slice o len cap,h):=by
 rw [pO hs];obtain⟨d,bM,aa,ae,aS,rfl,rfl,bj,cb⟩:=hs.ty;simp only [fb,aa,ae,aS,ac];rw [if_pos ⟨bj,by simpa using an,by simpa using ay,cb⟩];cases o with
 |none=>have:=aI rfl;subst this;simp
 |some a =>
  obtain⟨a7,ba⟩:=ah a rfl;simp only;rw [if_pos ba];simp only [a7];rw [if_pos (by simpa using mP),if_pos trivial];simp
end
theorem b8.round{P:Program}{C:(Nat→Prop)→World→Prop}{base n:Nat}{c:Code}{F aA kc:a'}{h aa fX ae:I}{e:ch}(a7:cQ P C base n c F h .normal aA aa)(i:cY base n aA aa aA fX)(ba:b8 P C base n c aA fX e kc ae):b8 P C base n c F h e kc ae :=
 b8.step (a7.post i) ba
end
end Go.bh
namespace Go.Proofs.YtddnafghiejcoaaGreatDoor
open Go.bh Go.Shelf
set_option maxRecDepth 1000000
def Bj:Ren where
 f:=fun x=>if x=129 then 136 else if x=284 then 120 else if x=317 then 135 else if x=318 then 137 else 0
 t:=fun x=>if x=0 then 0 else if x=3 then 3 else if x=4 then 4 else if x=5 then 5 else if x=9 then 9 else if x=46 then 108 else if x=53 then 151 else if x=212 then 179 else 0
 g:=fun x=>if x=17 then 5 else 0
theorem G4:Lays.n284 Tryz.prog Bj:=by constructor;all_goals first|kernel_rfl|(intro w;kernel_rfl)
theorem G5:LaysM.n284 Tryz.prog Bj:=by constructor;all_goals first|exact G4|kernel_rfl
end Go.Proofs.YtddnafghiejcoaaGreatDoor
namespace Go.Proofs.YtddnafghiejcoaaGreatDoor
open Go.bh
set_option maxRecDepth 1000000
structure hK(aF:Nat→Prop)(w:World):Prop where
 p:aF 5
 pow:Lib.TabIs Tryz.prog w "internal/strconv.uint64pow10" .u64 Lib.pow10Tab
 q:aF 0
 xE:Lib.TabIs Tryz.prog w "strings.asciiSpace" .u8 Lib.asciiSpaceTab
 s:aF 3
 xF:∃ng nh,w.cell? ⟨3,0,none⟩=some (.iface ng nh)
 r:aF 4
 xG:∃ng nh,w.cell? ⟨4,0,none⟩=some (.iface ng nh)
 x:aF 2
 mx:∃m,w.cell? ⟨2,0,none⟩=some (.int .i64 m)
theorem xH:Tryz.prog.globalNamed "internal/strconv.uint64pow10" =some 5:= aG
theorem xI:Tryz.prog.globalNamed "strings.asciiSpace" =some 0:= aG
theorem Bk{w aL:World}{n:String}{g:Nat}{k:IntKind}{t:List Int}(ah:Tryz.prog.globalNamed n=some g)(an:aL.heap[g]? =w.heap[g]?)(h:Lib.TabIs Tryz.prog w n k t):Lib.TabIs Tryz.prog aL n k t:=by unfold Lib.TabIs World.var? at h⊢;rw [ah]at h⊢;simp only [Option.bind_some]at h⊢;rw [an];exact h
theorem hK.keep{aF rn:Nat→Prop}{aN w:World}(h:hK aF aN)(hs:Go.bh.Safe aF aN w)(aI:∀x,aF x→rn x):hK rn w where
 p:=aI _ h.p
 pow:=Bk xH (hs.block _ h.p) h.pow
 q:=aI _ h.q
 xE:=Bk xI (hs.block _ h.q) h.xE
 s:=aI _ h.s
 xF:=by obtain⟨ng,nh,e⟩:=h.xF;exact⟨ng,nh,by rw [World.cell?_of_block (hs.block _ h.s)];exact e⟩
 r:=aI _ h.r
 xG:=by obtain⟨ng,nh,e⟩:=h.xG;exact⟨ng,nh,by rw [World.cell?_of_block (hs.block _ h.r)];exact e⟩
 x:=aI _ h.x
 mx:=by obtain⟨m,e⟩:=h.mx;exact⟨m,by rw [World.cell?_of_block (hs.block _ h.x)];exact e⟩
instance:jd hK where
 mono _ ef hs aI:=ef.keep hs aI
def gS(n:Nat):Nat :=
 if n<10 then 1 else if n<100 then 2 else if n<1000 then 3 else if n<10000 then 4 else if n<100000 then 5 else if n<1000000 then 6 else if n<10000000 then 7 else if n<100000000 then 8 else if n<1000000000 then 9 else 10
theorem Bl(n:Nat)(h:n<10000000000):gS n=Lib.nDigits n:=by
 unfold gS
 repeat' split
 ·exact(Lib.nDigits_small ‹_›).symm
 ·exact(Lib.nDigits_unique 1 n J J).symm
 ·exact(Lib.nDigits_unique 2 n J J).symm
 ·exact(Lib.nDigits_unique 3 n J J).symm
 ·exact(Lib.nDigits_unique 4 n J J).symm
 ·exact(Lib.nDigits_unique 5 n J J).symm
 ·exact(Lib.nDigits_unique 6 n J J).symm
 ·exact(Lib.nDigits_unique 7 n J J).symm
 ·exact(Lib.nDigits_unique 8 n J J).symm
 ·exact(Lib.nDigits_unique 9 n J J).symm
def tI:st:=fun args h =>
 match args with
 |[.int .u64 n]=>if 1≤n∧n<10000000000 then some (.int .i64 (gS n.toNat),h)else none
 |_=>none
theorem Bm:wk Tryz.prog hK 120 tI:=by
 intro aF aN ck ef args h v af ah φ w cx dt b' dD;unfold tI at ah;split at ah
 ·rename_i n;split at ah
  ·rename_i aI;simp only [Option.some.injEq,Prod.mk.injEq]at ah;obtain⟨rfl,rfl⟩:=ah;obtain⟨l⟩:=cx;simp only [aT]at dD;obtain⟨a,t,rfl,aD,rfl⟩:=dD;simp only [ar]at aD;subst aD;have w7:=ef.keep b' fun _ ac=>ac
   refine⟨⟨Tryz.f120,_,aG,rfl⟩,?_⟩;have k:=Any.internal_strconv_numDigits G5 n.toNat J J w w7.pow;rw [Int.toNat_of_nonneg J]at k;refine k.mono fun e aL bx=> ?_
   obtain⟨he,hw⟩:=bx;subst hw;exact⟨_,φ,he,dr.refl _ _,by simp only [ar];rw [Bl _ J],dt,b',Nat.le_refl _⟩
  ·cases ah
 ·cases ah
noncomputable def env:bq:= {cond:=hK,o9:=fun f=>if f=120 then some tI else none,D:=sp Tryz.prog,eqs:=[42],ext:=fun f=>if f=170 then some 0 else if f=133 then some 1 else none}
instance:jd env.cond:=inferInstanceAs (jd hK)
theorem dB:e7 Tryz.prog env where
 fp:=ci.F7 _
 eqs:=F9 (by decide+kernel)
 names:=F8 (by decide+kernel)
 zR:=fun f g h=>by
  simp only [env]at h;split at h
  ·rename_i e;subst e;simp only [Option.some.injEq]at h;subst h;exact Bm
  ·cases h
 zS :=fun f k h=>by
  simp only [env]at h;split at h
  ·rename_i e;subst e;simp only [Option.some.injEq]at h;subst h;exact⟨Tryz.f170,_,aG,aG,aG,aG,rfl⟩
  ·split at h
   ·rename_i e;subst e;simp only [Option.some.injEq]at h;subst h;exact⟨Tryz.f133,_,aG,aG,aG,aG,rfl⟩
   ·cases h
theorem mixed:Tryz.prog.follows .mixedOrders=true:=by decide+kernel
end Go.Proofs.YtddnafghiejcoaaGreatDoor
namespace Go.bh
noncomputable section
open Go.RowKit
inductive cv:Type 1 where
 |nil
 |ao (x:Hint) (r:cv)
 |aO (i:Nat) (y n:cv)
 |cases (i:Nat) (p:Prop) (y n:cv)
 |ex (i:Nat) {α:Type} (p:α→Prop) (f:α→cv)
 |skip (i:Nat) (r:cv)
def hL:List Prop→Prop→Prop
 |[],k=>k
 |p::r,k=>p∧hL r k
theorem iF:∀{l:List Prop}{k:Prop},hL l k→bm l∧k
 |[],k,h=>⟨bm.nil,h⟩
 |p::r,k,h=>⟨bm.cons h.1 (iF h.2).1,(iF h.2).2⟩
abbrev iG:=R→I→cv→List fr→Prop
abbrev ni:=FuncId→List R→I→cv→(R→I→cv→Prop)→Prop
abbrev rG:=ch→a'→I→cv→Prop
def xJ(ρ:Operand→R)(o:Op):Option (Prop×Bool) :=
 match o with
 |.binOp op t x y _ =>
  match ρ x,ρ y with
  |.int k a,.int dS b =>
   match decEq k dS with
   |isTrue _ =>
    match op with
    |.eql=>some (a=b,true)
    |.neq=>some (a=b,false)
    |.lss=>some (a<b,true)
    |.leq=>some (a≤b,true)
    |.gtr=>some (b<a,true)
    |.geq=>some (b≤a,true)
    |_=>none
   |isFalse _=>none
  |.str a,.str b =>
   match op with
   |.eql=>some (a=b,true)
   |.neq=>some (a=b,false)
   |_=>none
  |_,_=>none
 |_=>none
theorem Bn{E:bq}{ρ:Operand→R}{o:Op}{p:Prop}{b:Bool}(k:xJ ρ o=some (p,b))(call:cu)(nid:Nat)(h:I):(p→bb E call nid ρ h o=some (.bool b,h))∧(¬p→bb E call nid ρ h o=some (.bool (!b),h)):=by
 cases o<;>simp only [xJ]at k<;>try (cases k;done)
 rename_i op t x y ty;split at k
 ·rename_i a7 a ba c ac bi;split at k
  ·rename_i ap _;subst ap;split at k<;>first|(cases k;done)|(simp only [Option.some.injEq,Prod.mk.injEq]at k)
   all_goals (obtain⟨rfl,rfl⟩:=k)
   all_goals (constructor<;>intro ab<;>simp [bb,ac,bi,iS,hv,ab])
   all_goals omega
  ·cases k
 ·rename_i a c ac bi;split at k<;>first|(cases k;done)|(simp only [Option.some.injEq,Prod.mk.injEq]at k)
  all_goals (obtain⟨rfl,rfl⟩:=k)
  all_goals (constructor<;>intro ab<;>simp [bb,ac,bi,iS,qw,ab])
 ·cases k
inductive iH where
 |one (v:R) (h:I) (ps:List Prop)
 |or (p:Prop) (a b:iH)
 |some (v:R) (ps:List Prop) (p:I→Prop)
def iH.dM(P:Program)(C:(Nat→Prop)→World→Prop)(f:FuncId)(args:List R)(h:I):iH→Prop
 |.one v af ps=>bm ps→bn P C f args h v af
 |.or p a b=>(p→iH.dM P C f args h a)∧(¬p→iH.dM P C f args h b)
 |.some v ps p=>bm ps→ ∃af,bn P C f args h v af∧p af
abbrev kY:=FuncId→Option (List R→I→Option iH)
def hg(P:Program)(C:(Nat→Prop)→World→Prop)(S:kY):Prop:= ∀f g,S f=some g→ ∀args h a,g args h=some a→a.dM P C f args h
def Bo:kY:=fun _=>none
theorem cl{P:Program}{C:(Nat→Prop)→World→Prop} :hg P C Bo:=fun _ _ h=>by cases h
def kY.add(S:kY)(f:FuncId)(g:List R→I→Option iH):kY:=fun k=>_root_.cond (Nat.beq k f) (some g) (S k)
theorem hg.add{P:Program}{C:(Nat→Prop)→World→Prop}{S:kY}(k:hg P C S){f:FuncId}{g:List R→I→Option iH}(ah:∀args h a,g args h=some a→a.dM P C f args h):hg P C (S.add f g):=by
 intro ew fH aM;unfold kY.add at aM;rcases kb ew f with ⟨e,cn⟩|⟨e,cn⟩
 ·rw [cn,cond_true]at aM;simp only [Option.some.injEq]at aM;subst aM;subst e;exact ah
 ·rw [cn,cond_false]at aM;exact k ew fH aM
def b5(l:List UInt8):List R:=l.map fun b=> .int .u8 b.toNat
def strOf(l:List R):List UInt8:=(bytesOf l).getD []
def tJ(l:List R)(i:Nat):Int:=match l[i]? with|some (.int _ n)=>n|_=>0
def xK(E:bq)(draw:Bool)(ops:Array Oper)(au i:Nat)(ρ:Operand→R)(h:I)(o:Op):Option (R×I×List Prop) :=
 match o with
 |.convert s d x =>
  match ρ x with
  |.slice (some a) n c =>
   match E.D s,E.D d,h.get a.id with
   |some jV,some eT,some b =>
    match jV.kind,eT.kind with
    |.slice e,.string =>
     match E.D e with
     |some fU =>
      match fU.kind with
      |.int .u8 =>
       cond (Nat.beq a.fld 0&&Nat.beq a.es 1&&(!draw || (im ops i || gk ops au i ρ (.convert s d x))))
        (some (.str (strOf ((b.bc.drop a.idx).take n)),h,[a.bf=b.bf,a.idx+n≤b.bc.length,∃l,(b.bc.drop a.idx).take n=b5 l])) none
      |_=>none
     |none=>none
    |_,_=>none
   |_,_,_=>none
  |_=>none
 |.load t x =>
  match ρ x with
  |.ptr (some a) =>
   match E.D t,h.get a.id with
   |some d,some b =>
    match d.kind with
    |.int k =>
     cond (Nat.beq a.fld 0&&Nat.beq d.size 1)
      (some (.int k (tJ b.bc a.idx),h,[a.bf=b.bf,b.bc[a.idx]? =some (.int k (tJ b.bc a.idx))]++cond draw (ga ops au i ρ h o h) [])) none
    |_=>none
   |_,_=>none
  |_=>none
 |_=>none
theorem xL:∀(l:List UInt8),bytesOf (b5 l)=some l
 |[]=>rfl
 |b::r=>by have:=xL r;unfold b5 at this;simp only [b5,List.map_cons,bytesOf,this,Option.map_some];simp
theorem Bp(l:List UInt8):strOf (b5 l)=l:=by unfold strOf;rw [xL];rfl
theorem G6{P:Program}{E:bq}{draw:Bool}{ops:Array Oper}{au i:Nat}{ρ:Operand→R}{h af:I}{o:Op}{v:R}{ps:List Prop}(k:xK E draw ops au i ρ h o=some (v,af,ps))(ab:bm ps)(call:cu):h8 E call ops draw au i ρ h o=some (v,af):=by
 cases o<;>simp only [xK]at k<;>try (cases k;done)
 case convert s d x =>
  split at k
  ·rename_i a n c ac;split at k
   ·rename_i jV eT b hs az ah;split at k
    ·rename_i e eV eW;split at k
     ·rename_i fU he;split at k
      ·rename_i iy;cases av:(Nat.beq a.fld 0&&Nat.beq a.es 1&&(!draw || (im ops i || gk ops au i ρ (.convert s d x))))with
       |false=>rw [av]at k;cases k
       |true =>
        rw [av,cond_true]at k;simp only [Option.some.injEq,Prod.mk.injEq]at k;obtain⟨rfl,rfl,rfl⟩:=k;simp only [Bool.and_eq_true]at av;have bY:=Nat.eq_of_beq_eq_true av.1.1;have bU:=Nat.eq_of_beq_eq_true av.1.2;have eZ:a.bf=b.bf:=ab.head;have eM:a.idx+n≤b.bc.length:=ab.tail.head;obtain⟨l,gP⟩:∃l,(b.bc.drop a.idx).take n=b5 l:=ab.tail.tail.head;have ir:b.bL a.bf=b.bc.length:=by rw [eZ];simp [ai.bL]
        have eh:en 1 (.slice (some a) n c) h=some (b5 l):=by
         by_cases aI:n=0
         ·subst aI;simp only [en,bY,bU,if_true,ah];rw [←gP];simp
         ·simp only [en,bY,bU,if_true,ah];rw [if_neg aI,if_pos ⟨by rw [ir];exact eM,eM⟩,gP]
        refine xt E ?_ ?_ ?_
        ·simp only [bb,ac,qB,hs,az];rfl
        ·simp only [dN,ac,nW,hs,az,eV,eW,he,iy,eh,xL,Option.map_some];rw [gP,Bp]
        ·intro pq;refine⟨rfl,?_⟩;have:=av.2;rw [pq]at this;simpa using this
      ·cases k
     ·cases k
    ·cases k
   ·cases k
  ·cases k
 case load t x =>
  split at k
  ·rename_i a ac;split at k
   ·rename_i d b az ah;split at k
    ·rename_i ju ap;cases av:(Nat.beq a.fld 0&&Nat.beq d.size 1)with
     |false=>rw [av]at k;cases k
     |true =>
      rw [av,cond_true]at k;simp only [Option.some.injEq,Prod.mk.injEq]at k;obtain⟨rfl,rfl,rfl⟩:=k;simp only [Bool.and_eq_true]at av;have bY:=Nat.eq_of_beq_eq_true av.1;have eZ:a.bf=b.bf:=ab.head;have eM:b.bc[a.idx]? =some (.int ju (tJ b.bc a.idx)):=ab.tail.head;refine gR E ?_ ab.tail.tail;have c1:=(List.getElem?_eq_some_iff.1 eM).1
      have eh:b.elem? a.bf a.idx=some (.int ju (tJ b.bc a.idx)):=by unfold ai.elem?;rw [if_pos (by rw [eZ];simpa [ai.bL]using c1)];exact eM
      simp only [bb,ac,bp,az,ah,eh,ap,kB.isAgg,gK,bY,if_true,Option.map_some,Bool.false_eq_true,if_false]
    ·cases k
   ·cases k
  ·cases k
section
variable(P:Program)(E:bq)(S:kY)
def tK(draw:Bool)(ops:Array Oper)(au i:Nat)(F:a')(h:I)(o:Op):Option (R×I×List Prop×List fr) :=
 match o with
 |.call c =>
  match c.callee with
  |.value f =>
   match aY F f with
   |.func (.func g) fs cs =>
    match S g with
    |some rH =>
     match rH (fs++c.args.toList.map (aY F)++cs) h with
     |some (.one v af ps)=>some (v,af,ps++cond draw (ga ops au i (aY F) h o af) [],[⟨g,fs++c.args.toList.map (aY F)++cs,h,v,af⟩])
     |_=>none
    |none=>none
   |_=>none
  |_=>match kW E draw ops au i F h o []with|some (v,af,_,cs,cf)=>some (v,af,cs,cf)|none=>none
 |_=>match kW E draw ops au i F h o []with|some (v,af,_,cs,cf)=>some (v,af,cs,cf)|none=>none
def l7(draw:Bool)(ops:Array Oper)(au i:Nat)(F:a')(o:Op)(g:FuncId)(args:List R)(h:I)(K:iG):iH→cv→Prop
 |.one v af ps,hs=>hL (ps++cond draw (ga ops au i (aY F) h o af) []) (K v af hs [⟨g,args,h,v,af⟩])
 |.or p a b,.aO _ y n=>(p→l7 draw ops au i F o g args h K a y)∧(¬p→l7 draw ops au i F o g args h K b n)
 |.or _ _ _,_=>False
 |.some v ps p,hs=>hL ps (∀af,p af→hL (cond draw (ga ops au i (aY F) h o af) []) (K v af hs [⟨g,args,h,v,af⟩]))
def tL(F:a')(h:I)(o:Op):Option (iH×FuncId×List R) :=
 match o with
 |.call c =>
  match c.callee with
  |.value f =>
   match aY F f with
   |.func (.func g) fs cs =>
    match S g with
    |some rH=>match rH (fs++c.args.toList.map (aY F)++cs) h with|some a=>some (a,g,fs++c.args.toList.map (aY F)++cs)|none=>none
    |none=>none
   |_=>none
  |_=>none
 |_=>none
def kZ(draw:Bool)(ops:Array Oper)(au i:Nat)(F:a')(h:I)(o:Op)(hs:cv)(K:iG):Prop :=
 match tK E S draw ops au i F h o with
 |some (v,af,cs,cf)=>hL cs (K v af hs cf)
 |none =>
  match tL S F h o with
  |some (.some v ps p,g,args)=>l7 draw ops au i F o g args h K (.some v ps p) hs
  |_=>False
def xM(draw:Bool)(ops:Array Oper)(au i:Nat)(F:a')(h:I)(o:Op)(y n:cv)(K:iG):Prop :=
 match xJ (aY F) o with
 |some (p,b)=>(p→hL (cond draw (ga ops au i (aY F) h o h) []) (K (.bool b) h y []))∧(¬p→hL (cond draw (ga ops au i (aY F) h o h) []) (K (.bool (!b)) h n []))
 |none =>
  match tK E S draw ops au i F h o with
  |some (.bool b,af,cs,cf)=>hL cs ((b=true→K (.bool true) af y cf)∧(b=false→K (.bool false) af n cf))
  |_=>False
def xN(draw:Bool)(ops:Array Oper)(au i:Nat)(F:a')(h:I)(o:Op)(j:Nat)(y n:cv)(K:iG):Prop :=
 match tL S F h o with
 |some (.or p a b,g,args)=>l7 draw ops au i F o g args h K (.or p a b) (.aO j y n)
 |_=>xM E S draw ops au i F h o y n K
def xO(dW:ni)(draw:Bool)(ops:Array Oper)(au i:Nat)(F:a')(h:I)(o:Op)(x:Hint)(r:cv)(K:iG):Prop :=
 match x with
 |.enter _ =>
  match o with
  |.call c =>
   match c.callee with
   |.value f =>
    match aY F f with
    |.func (.func g) fs cs =>
     dW g (fs++c.args.toList.map (aY F)++cs) h r fun v af dE=>hL (cond draw (ga ops au i (aY F) h o af) []) (K v af dE [⟨g,fs++c.args.toList.map (aY F)++cs,h,v,af⟩])
    |_=>False
   |_=>False
  |_=>False
 |_ =>
  match rB P E (fun _ _ _ _=>none) draw ops au i F h o x []with
  |some (v,af,_,cs,cf)=>hL cs (K v af r cf)
  |none=>match xK E draw ops au i (aY F) h o with|some (v,af,cs)=>hL cs (K v af r [])|none=>False
def k0(dW:ni)(q:Nat)(ops:Array Oper)(draw:Bool)(au i:Nat)(F:a')(h:I)(o:Op)(K:iG):cv→Prop
 |.nil=>kZ E S draw ops au i F h o .nil K
 |.ao x r=>match x.at with|some j=>cond (Nat.beq (1000*q+i) j) (xO P E dW draw ops au i F h o x r K) (kZ E S draw ops au i F h o (.ao x r) K)|none=>kZ E S draw ops au i F h o (.ao x r) K
 |.aO j y n=>cond (Nat.beq (1000*q+i) j) (xN E S draw ops au i F h o j y n K) (kZ E S draw ops au i F h o (.aO j y n) K)
 |.cases j p y n=>cond (Nat.beq (1000*q+i) j) ((p→k0 dW q ops draw au i F h o K y)∧(¬p→k0 dW q ops draw au i F h o K n)) (kZ E S draw ops au i F h o (.cases j p y n) K)
 |.ex j p f=>cond (Nat.beq (1000*q+i) j) ((∃x,p x)∧∀x,p x→k0 dW q ops draw au i F h o K (f x)) (kZ E S draw ops au i F h o (.ex j p f) K)
 |.skip j r=>cond (Nat.beq (1000*q+i) j) (kZ E S draw ops au i F h o r K) (kZ E S draw ops au i F h o (.skip j r) K)
def oJ(ops:Array Oper)(draw:Bool)(au i:Nat)(F:a')(h:I)(o:Op)(K:iG):Prop :=
 ∃v af cI cf,K v af cI cf∧(∀c∈cf,bn P E.cond c.f c.args c.h c.v c.af)∧∀call:cu,(∀c∈cf,c.holds call)→h8 E call ops draw au i (aY F) h o=some (v,af)
def tM(dW:ni):Prop:= ∀f args h hs K,dW f args h hs K→ ∃v af cI,bn P E.cond f args h v af∧K v af cI
variable {P E S}
theorem Bq(bA:e7 P E)(cX:P.follows .mixedOrders=true)(bF:hg P E.cond S){draw:Bool}{ops:Array Oper}{au i:Nat}{F:a'}{h af:I}{o:Op}{v:R}{cs:List Prop}{cf:List fr}(k:tK E S draw ops au i F h o=some (v,af,cs,cf))(al:bm cs) :
 (∀c∈cf,bn P E.cond c.f c.args c.h c.v c.af)∧∀call:cu,(∀c∈cf,c.holds call)→h8 E call ops draw au i (aY F) h o=some (v,af):=by
 have plain:∀{r:Option (R×I×List Prop×List fr)},(match kW E draw ops au i F h o []with|some (v,af,_,cs,cf)=>some (v,af,cs,cf)|none=>none)=some (v,af,cs,cf) →
  (∀c∈cf,bn P E.cond c.f c.args c.h c.v c.af)∧∀call:cu,(∀c∈cf,c.holds call)→h8 E call ops draw au i (aY F) h o=some (v,af):=by
  intro r k;split at k
  ·rename_i v1 aa cK db a7 ab;simp only [Option.some.injEq,Prod.mk.injEq]at k;obtain⟨rfl,rfl,rfl,rfl⟩:=k;have hJ:xv P E (fun _ _ _ _=>none):=fun _ _ _ _ _ _ _ _ h=>by cases h
   have c6:pop P E (fun _ _ _ _=>none) 0 ops draw au i F h o []=some (v1,aa,cK,db,a7):=ab;exact⟨A6 P E bA cX hJ c6 al,fun call ap=>A5 P E c6 al ap⟩
  ·cases k
 unfold tK at k;split at k
 ·rename_i c;split at k
  ·rename_i f aM;split at k
   ·rename_i g fs oF ah;split at k
    ·rename_i rH pt;split at k
     ·rename_i v1 aa ps eb;simp only [Option.some.injEq,Prod.mk.injEq]at k;obtain⟨rfl,rfl,rfl,rfl⟩:=k;refine⟨fun c hm=> ?_,fun call ap=> ?_⟩
      ·rw [List.mem_singleton.1 hm];exact bF _ _ pt _ _ _ eb al.left
      ·refine gR E ?_ al.right;simp only [bb,aM,ah,kD];exact ap _ (List.mem_singleton.2 rfl)
     ·cases k
    ·cases k
   ·cases k
  ·exact plain (r:=none) k
 ·exact plain (r:=none) k
theorem xP{draw:Bool}{ops:Array Oper}{au i:Nat}{F:a'}{h:I}{c:Call}{f:Operand}(aM:c.callee=.value f){g:FuncId}{fs cs:List R}(ah:aY F f=.func (.func g) fs cs){K:iG} :
 ∀(a:iH)(hs:cv),a.dM P E.cond g (fs++c.args.toList.map (aY F)++cs) h→l7 draw ops au i F (.call c) g (fs++c.args.toList.map (aY F)++cs) h K a hs→oJ P E ops draw au i F h (.call c) K
 |.one v af ps,hs,ok,k=>by
  obtain⟨al,cH⟩:=iF (by simpa only [l7]using k);refine⟨v,af,hs,_,cH,fun c hm=> ?_,fun call ap=> ?_⟩
  ·rw [List.mem_singleton.1 hm];exact ok al.left
  ·refine gR E ?_ al.right;simp only [bb,aM,ah,kD];exact ap _ (List.mem_singleton.2 rfl)
 |.some v ps p,hs,ok,k=>by
  obtain⟨al,cH⟩:=iF (by simpa only [l7]using k);obtain⟨af,az,ab⟩:=ok al;obtain⟨lQ,cH⟩:=iF (cH af ab);refine⟨v,af,hs,_,cH,fun c hm=> ?_,fun call ap=> ?_⟩
  ·rw [List.mem_singleton.1 hm];exact az
  ·refine gR E ?_ lQ;simp only [bb,aM,ah,kD];exact ap _ (List.mem_singleton.2 rfl)
 |.or p a b,.aO j y n,ok,k=>by
  simp only [l7]at k;by_cases ab:p
  ·exact xP aM ah a y (ok.1 ab) (k.1 ab)
  ·exact xP aM ah b n (ok.2 ab) (k.2 ab)
 |.or p a b,.nil,ok,k=>k.elim
 |.or p a b,.ao _ _,ok,k=>k.elim
 |.or p a b,.cases _ _ _ _,ok,k=>k.elim
 |.or p a b,.ex _ _ _,ok,k=>k.elim
 |.or p a b,.skip _ _,ok,k=>k.elim
theorem Br(bF:hg P E.cond S){draw:Bool}{ops:Array Oper}{au i:Nat}{F:a'}{h:I}{o:Op}{a:iH}{g:FuncId}{args:List R}(bz:tL S F h o=some (a,g,args)){K:iG}{hs:cv}(k:l7 draw ops au i F o g args h K a hs):oJ P E ops draw au i F h o K:=by
 unfold tL at bz;split at bz
 ·rename_i c;split at bz
  ·rename_i f aM;split at bz
   ·rename_i fH fs cs ah;split at bz
    ·rename_i rH pt;split at bz
     ·rename_i bD eb;simp only [Option.some.injEq,Prod.mk.injEq]at bz;obtain⟨rfl,rfl,rfl⟩:=bz;exact xP aM ah _ _ (bF _ _ pt _ _ _ eb) k
     ·cases bz
    ·cases bz
   ·cases bz
  ·cases bz
 ·cases bz
theorem nj(bA:e7 P E)(cX:P.follows .mixedOrders=true)(bF:hg P E.cond S){draw:Bool}{ops:Array Oper}{au i:Nat}{F:a'}{h:I}{o:Op}{hs:cv}{K:iG}(k:kZ E S draw ops au i F h o hs K):oJ P E ops draw au i F h o K:=by
 unfold kZ at k;split at k
 ·rename_i v af cs cf an;obtain⟨al,cH⟩:=iF k;obtain⟨a7,ba⟩:=Bq bA cX bF an al;exact⟨v,af,hs,cf,cH,a7,ba⟩
 ·split at k
  ·rename_i bz;exact Br bF bz k
  ·exact k.elim
theorem G7(bA:e7 P E)(cX:P.follows .mixedOrders=true)(bF:hg P E.cond S){draw:Bool}{ops:Array Oper}{au i:Nat}{F:a'}{h:I}{o:Op}{y n:cv}{K:iG}(k:xM E S draw ops au i F h o y n K):oJ P E ops draw au i F h o K:=by
 unfold xM at k;split at k
 ·rename_i p b an;by_cases ab:p
  ·obtain⟨al,cH⟩:=iF (k.1 ab);exact⟨_,_,_,_,cH,fun c hm=>by simp at hm,fun call _=>gR E ((Bn an call (au+i) h).1 ab) al⟩
  ·obtain⟨al,cH⟩:=iF (k.2 ab);exact⟨_,_,_,_,cH,fun c hm=>by simp at hm,fun call _=>gR E ((Bn an call (au+i) h).2 ab) al⟩
 ·split at k
  ·rename_i b af cs cf an;obtain⟨al,cH⟩:=iF k;obtain⟨a7,ba⟩:=Bq bA cX bF an al;cases b with
   |true=>exact⟨_,_,_,_,cH.1 rfl,a7,ba⟩
   |false=>exact⟨_,_,_,_,cH.2 rfl,a7,ba⟩
  ·exact k.elim
theorem G8(bA:e7 P E)(cX:P.follows .mixedOrders=true)(bF:hg P E.cond S){draw:Bool}{ops:Array Oper}{au i:Nat}{F:a'}{h:I}{o:Op}{j:Nat}{y n:cv}{K:iG}(k:xN E S draw ops au i F h o j y n K):oJ P E ops draw au i F h o K:=by
 unfold xN at k;split at k
 ·rename_i bz;exact Br bF bz k
 ·exact G7 bA cX bF k
theorem G9(bA:e7 P E)(cX:P.follows .mixedOrders=true)(bF:hg P E.cond S){dW:ni}(hJ:tM P E dW){q:Nat}{draw:Bool}{ops:Array Oper}{au i:Nat}{F:a'}{h:I}{o:Op}{x:Hint}(ac:x.at=some (1000*q+i)){r:cv}{K:iG}(k:xO P E dW draw ops au i F h o x r K) :
 oJ P E ops draw au i F h o K:=by
 unfold xO at k;split at k
 ·split at k
  ·rename_i c;split at k
   ·rename_i f aM;split at k
    ·rename_i g fs cs ah;obtain⟨v,af,cI,az,cH⟩:=hJ _ _ _ _ _ k;obtain⟨al,cH⟩:=iF cH;refine⟨v,af,cI,_,cH,fun c hm=> ?_,fun call ap=> ?_⟩
     ·rw [List.mem_singleton.1 hm];exact az
     ·refine gR E ?_ al;simp only [bb,aM,ah,kD];exact ap _ (List.mem_singleton.2 rfl)
    ·exact k.elim
   ·exact k.elim
  ·exact k.elim
 ·split at k
  ·rename_i v af cK cs cf ab;obtain⟨al,cH⟩:=iF k;have G':xv P E (fun _ _ _ _=>none):=fun _ _ _ _ _ _ _ _ h=>by cases h
   have c6:pop P E (fun _ _ _ _=>none) q ops draw au i F h o [x]=some (v,af,cK,cs,cf):=by unfold pop;simp only [ac];rw [beq_true rfl,cond_true];exact ab
   exact⟨v,af,r,cf,cH,A6 P E bA cX G' c6 al,fun call ap=>A5 P E c6 al ap⟩
  ·split at k
   ·rename_i v af cs ab;obtain⟨al,cH⟩:=iF k;exact⟨v,af,r,[],cH,fun c hm=>by simp at hm,fun call _=>G6 (P:=P) ab al call⟩
   ·exact k.elim
theorem tN(bA:e7 P E)(cX:P.follows .mixedOrders=true)(bF:hg P E.cond S){dW:ni}(hJ:tM P E dW){q:Nat}{draw:Bool}{ops:Array Oper}{au i:Nat}{F:a'}{h:I}{o:Op}{K:iG} :∀(hs:cv),k0 P E S dW q ops draw au i F h o K hs→oJ P E ops draw au i F h o K
 |.nil,k=>nj bA cX bF k
 |.ao x r,k=>by
  simp only [k0]at k;split at k
  ·rename_i j aW;rcases kb (1000*q+i) j with ⟨e,cn⟩|⟨e,cn⟩
   ·rw [cn,cond_true]at k;exact G9 bA cX bF hJ (by rw [aW,e]) k
   ·rw [cn,cond_false]at k;exact nj bA cX bF k
  ·exact nj bA cX bF k
 |.aO j y n,k=>by
  simp only [k0]at k;rcases kb (1000*q+i) j with ⟨e,cn⟩|⟨e,cn⟩
  ·rw [cn,cond_true]at k;exact G8 bA cX bF k
  ·rw [cn,cond_false]at k;exact nj bA cX bF k
 |.cases j p y n,k=>by
  simp only [k0]at k;rcases kb (1000*q+i) j with ⟨e,cn⟩|⟨e,cn⟩
  ·rw [cn,cond_true]at k;by_cases ab:p
   ·exact tN bA cX bF hJ y (k.1 ab)
   ·exact tN bA cX bF hJ n (k.2 ab)
  ·rw [cn,cond_false]at k;exact nj bA cX bF k
 |.ex j p f,k=>by
  simp only [k0]at k;rcases kb (1000*q+i) j with ⟨e,cn⟩|⟨e,cn⟩
  ·rw [cn,cond_true]at k;obtain⟨⟨x,ac⟩,k⟩:=k;exact tN bA cX bF hJ (f x) (k x ac)
  ·rw [cn,cond_false]at k;exact nj bA cX bF k
 |.skip j r,k=>by
  simp only [k0]at k;rcases kb (1000*q+i) j with ⟨e,cn⟩|⟨e,cn⟩
  ·rw [cn,cond_true]at k;exact nj bA cX bF k
  ·rw [cn,cond_false]at k;exact nj bA cX bF k
variable(P E S)
def pP(dW:ni)(q:Nat)(ops:Array Oper)(draw:Bool)(n au:Nat):List Oper→Nat→a'→I→cv→List fr→(a'→I→cv→List fr→Prop)→Prop
 |[],_,F,h,hs,cf,K=>K F h hs cf
 |o::r,i,F,h,hs,cf,K =>
  cond (xw n o)
  (match xl ops F o with
  |some true=>cond (o.op.operands.toList.all (pG F)) (k0 P E S dW q ops draw au i F h o.op (fun v af cI ba=>pP dW q ops draw n au r (i+1) (tv F o.dst v) af cI (cf++ba) K) hs) False
  |some false=>pP dW q ops draw n au r (i+1) (tv F o.dst ek) h hs cf K
  |none=>False) False
variable {P E S}
theorem xQ(bA:e7 P E)(cX:P.follows .mixedOrders=true)(bF:hg P E.cond S){dW:ni}(hJ:tM P E dW){q:Nat}{ops:Array Oper}{draw:Bool}{n au:Nat} :∀(l:List Oper)(i:Nat)(F:a')(h:I)(hs:cv)(cf:List fr){K:a'→I→cv→List fr→Prop},(∀j,l[j]? =ops[i+j]?) →
 pP P E S dW q ops draw n au l i F h hs cf K→ ∃cj af cI ba,K cj af cI (cf++ba)∧(∀c∈ba,bn P E.cond c.f c.args c.h c.v c.af)∧∀call:cu,(∀c∈ba,c.holds call)→ ∀s:List R,s.length=n→Has F s→ ∃aX,aX.length=n∧Has cj aX ∧
  l5 E call ops draw au (List.range' i l.length) ⟨s,h⟩=some ⟨aX,af⟩
 |[],i,F,h,hs,cf,K,ay,k=>⟨F,h,hs,[],by simpa [pP]using k,fun c hm=>by simp at hm,fun call _ s aI df=>⟨s,aI,df,by unfold l5;cases draw<;>rfl⟩⟩
 |o :: r, i,F,h,hs,cf,K,ay,k=>by
  have aj:ops[i]? =some o:=by have:=ay 0;simpa using this.symm
  have aR:∀j,r[j]? =ops[i+1+j]? :=fun j=>by have:=ay (j+1);simp at this;rw [this];congr 1;omega
  simp only [pP]at k;cases az:xw n o with
  |false=>rw [az]at k;exact k.elim
  |true =>
   rw [az,cond_true]at k
   have Bs:∀m,m=n→ ∀t,o.dst=some t→t<m:=by intro m hm t bz;unfold xw at az;rw [bz]at az;rw [hm];exact Nat.blt_eq.mp az
   rw [List.length_cons,List.range'_succ];split at k
   ·rename_i ah;cases fW:o.op.operands.toList.all (pG F)with
    |false=>rw [fW]at k;exact k.elim
    |true =>
     rw [fW,cond_true]at k;obtain⟨v,aa,cK,a7,cH,wI,Ha⟩:=tN bA cX bF hJ hs k;obtain⟨cj,af,cI,ba,xR,oq,xS⟩:=xQ bA cX bF hJ r (i+1) _ _ _ _ aR cH;refine⟨cj,af,cI,a7++ba,by rw [←List.append_assoc];exact xR,fun c hm=>(List.mem_append.1 hm).elim (wI c) (oq c),fun call ap s aI df=> ?_⟩;have oi:=Ha call fun c hm=>ap c (by simp [hm])
     obtain⟨aX,bk,bV,oK⟩:=xS call (fun c hm=>ap c (by simp [hm])) (fl s o.dst v) (by rw [A7];exact aI) (df.set (Bs s.length aI) v);refine⟨aX,bk,bV,?_⟩
     have Hb:h8 E call ops draw au i (bX s) h o.op=some (v,aa):=by
      rw [←oi];have k1:∀x∈o.op.operands.toList,bX s x=aY F x:=fun x ac=>(df.get (List.all_eq_true.1 fW x ac)).symm
      have a6:∀nid,bb E call nid (bX s) h o.op=bb E call nid (aY F) h o.op:=fun nid=>wD k1
      have cU:hx (bX s) o.op=hx (aY F) o.op:=by cases gN:o.op<;>simp only [hx];rename_i t x;rw [gN]at k1;rw [k1 x (by simp [Op.operands])]
      have fY:jW (bX s) o.op=jW (aY F) o.op:=by cases gN:o.op<;>simp only [jW];rename_i t x y;rw [gN]at k1;rw [k1 x (by simp [Op.operands])]
      have q0:∀nid,dN E nid (bX s) h o.op=dN E nid (aY F) h o.op:=fun nid=>GH E k1
      have s9:fA (bX s) o.op=fA (aY F) o.op:=by cases gN:o.op<;>simp only [fA];rename_i c;rw [gN]at k1;rw [pw (xs:=c.args) (fun x ac=>k1 x (by simp only [Op.operands,Call.operands,Array.toList_append,List.mem_append];exact .inr ac))]
      have wJ:gk ops au i (bX s) o.op=gk ops au i (aY F) o.op:=by
       have:kG (bX s) o.op=kG (aY F) o.op:=by cases gN:o.op<;>simp only [kG];rename_i a b x;rw [gN]at k1;rw [k1 x (by simp [Op.operands])]
       unfold gk;rw [this]
      unfold h8 du gz;simp only [a6,cU,fY,q0,s9,wJ]
     exact(GL E aj (AW df ah) Hb).trans oK
   ·rename_i ah;obtain⟨cj,af,cI,ba,xR,oq,xS⟩:=xQ bA cX bF hJ r (i+1) _ _ _ _ aR k;refine⟨cj,af,cI,ba,xR,oq,fun call ap s aI df=> ?_⟩;obtain⟨aX,bk,bV,oK⟩:=xS call ap (fl s o.dst ek) (by rw [A7];exact aI) (df.set (Bs s.length aI) ek);exact⟨aX,bk,bV,(GM E aj (AW df ah)).trans oK⟩
   ·exact k.elim
def tO(step:a'→I→cv→rG→Prop)(K:rG):Nat→a'→I→cv→Prop
 |0,_,_,_=>False
 |m+1,F,h,hs=>step F h hs fun e aA aa cK=>match e with|.normal=>tO step K m aA aa cK|e=>K e aA aa cK
def Bt(D:ci)(gC:List ResultVar)(e:ch)(F:a')(h af:I)(K:R→Prop):Prop :=
 match e with
 |.normal=>match jf D F af gC []with|some (l,cs)=>hL cs (cond (Nat.ble h.U af.U) (K (jt l)) False)|none=>False
 |.ret=>match jf D F af gC []with|some (l,cs)=>hL cs (cond (Nat.ble h.U af.U) (K (jt l)) False)|none=>False
 |_=>False
variable(P E S)
def rI(ex:Nat→Nat→Code→a'→I→cv→rG→Prop):ni:=fun f args h hs K =>
 match P.funcs[f]? with
 |some fn =>
  match fn.body with
  |some c=>ex h.U (args.length+(fn.ntmps-args.length)) c (oG 0 args) h hs fun e F af cI=>Bt E.D fn.results.toList e F h af fun v=>K v af cI
  |none=>False
 |none=>False
def e8(eA:Nat→Nat→Code→a'→I→ch→a'→I→Prop):Nat→Nat→Nat→Option Code→Code→a'→I→cv→rG→Prop
 |0,_,_,_,_,_,_,_,_=>False
 |k + 1,base,n,some body,c,F,h,hs,K =>
  e8 eA k base n none c F h hs fun e aA aa cK =>
   match e with
   |.goto l =>
    match findLabel body l with
    |some rest=>e8 eA k base n (some body) rest aA aa cK K
    |none=>K (.goto l) aA aa cK
   |e=>K e aA aa cK
 |k + 1,base,n,none,c,F,h,hs,K =>
  match c with
  |.skip=>K .normal F h hs
  |.label _=>K .normal F h hs
  |.region q ops draw =>
   cond (Nat.ble base h.U&&(!draw || kF ops))
   (pP P E S (rI P E fun b m c F h hs K=>e8 eA k b m none c F h hs K) q ops draw n h.U ops.toList 0 F {h with U:=h.U+ops.size} hs [] fun aA aa cK cf=>hL (tD cf) (K .normal aA aa cK)) False
  |.seq a b =>
   e8 eA k base n none a F h hs fun e aA aa cK =>
    match e with
    |.normal=>e8 eA k base n none b aA aa cK K
    |e=>K e aA aa cK
  |.cond x a b =>
   cond (pG F x)
   (match aY F x with
   |.bool true=>e8 eA k base n none a F h hs K
   |.bool false=>e8 eA k base n none b F h hs K
   |_=>False) False
  |.block id c =>
   e8 eA k base n none c F h hs fun e aA aa cK =>
    match e with
    |.exit j=>K (cond (Nat.beq j id) .normal (.exit j)) aA aa cK
    |e=>K e aA aa cK
  |.loop c =>
   match hs with
   |.ao (.keep l) (.ao (.loop aA aa e) r)=>eA base n (.loop c) (nb F l) h e aA aa∧K e aA aa r
   |.ao (.loop aA aa e) r=>eA base n (.loop c) F h e aA aa∧K e aA aa r
   |.ao (.rounds m) r=>tO (fun F h hs K=>e8 eA k base n none c F h hs K) K m F h r
   |.cases _ p y pQ=>(p→e8 eA k base n none (.loop c) F h y K)∧(¬p→e8 eA k base n none (.loop c) F h pQ K)
   |.ex _ p f=>(∃x,p x)∧∀x,p x→e8 eA k base n none (.loop c) F h (f x) K
   |_=>False
  |.scope c=>e8 eA k base n (some c) c F h hs K
  |.goto l=>K (.goto l) F h hs
  |.exit id=>K (.exit id) F h hs
  |.ret=>K .ret F h hs
  |_=>False
variable {P E S}
theorem Bu(bA:e7 P E){f:FuncId}{fn:Func}{c:Code}(aM:P.funcs[f]? =some fn)(an:fn.body=some c){args:List R}{h af:I}{e:ch}{cj:a'}{K:R→Prop}
 (aR:cQ P E.cond h.U (args.length+(fn.ntmps-args.length)) c (oG 0 args) h e cj af) (k:Bt E.D fn.results.toList e cj h af K):∃v,bn P E.cond f args h v af∧K v:=by
 have fin:(e=.normal∨e=.ret)→(match jf E.D cj af fn.results.toList []with|some (l,cs)=>hL cs (cond (Nat.ble h.U af.U) (K (jt l)) False)|none=>False)→ ∃v,bn P E.cond f args h v af∧K v:=by
  intro he k;split at k
  ·rename_i l cs ab;obtain⟨al,k⟩:=iF k;cases hle:Nat.ble h.U af.U with
   |false=>rw [hle]at k;exact k.elim
   |true =>
    rw [hle,cond_true]at k;exact⟨_,bn.GP bA aM an he aR ab al (Nat.le_of_ble_eq_true hle),k⟩
  ·exact k.elim
 cases e with
 |normal=>exact fin (.inl rfl) k
 |ret=>exact fin (.inr rfl) k
 |exit j=>exact k.elim
 |goto l=>exact k.elim
theorem Bv(bA:e7 P E)(cX:P.follows .mixedOrders=true)(bF:hg P E.cond S):∀(k:Nat){base n:Nat}(body:Option Code)(c:Code)(F:a')(h:I)(hs:cv){K:rG},
 e8 P E S (cQ P E.cond) k base n body c F h hs K→ ∃e cj af cI,h9 P E.cond base n (oH P body c) F h e cj af∧K e cj af cI:=by
 intro k;induction k with
 |zero=>intro base n body c F h hs K ab;exact ab.elim
 |succ k ih =>
  intro base n body c F h hs K ab;cases body with
  |some body =>
   simp only [e8]at ab;obtain⟨e,aA,aa,cK,t1,ab⟩:=ih none c F h hs ab
   have pass:(∀l,e≠ .goto l)→h9 P E.cond base n (oH P (some body) c) F h e aA aa:=by
    intro bJ S aN bF eO c7 φ a w a6 ap r Q ep;refine td (t1 S aN bF eO c7 φ a w a6 ap r _ fun aZ bD aL cW dE=> ?_);have:=ep aZ bD aL cW dE;cases e with
    |goto l=>exact absurd rfl (bJ l)
    |_=>exact this
   cases e with
   |goto l =>
    simp only at ab;cases ay:findLabel body l with
    |none =>
     rw [ay]at ab;refine⟨.goto l,aA,aa,cK,?_,ab⟩;intro S aN bF eO c7 φ a w a6 ap r Q ep;refine td (t1 S aN bF eO c7 φ a w a6 ap r _ fun aZ bD aL cW dE=> ?_);show mY P body Q (.goto l) bD aL;simp only [mY,ay];exact ep aZ bD aL cW dE
    |some rest =>
     rw [ay]at ab;obtain⟨bV,kc,ae,rJ,t2,ab⟩:=ih (some body) rest aA aa cK ab;refine⟨bV,kc,ae,rJ,?_,ab⟩;intro S aN bF eO c7 φ a w a6 ap r Q ep;refine td (t1 S aN bF eO c7 φ a w a6 ap r _ fun aZ bD aL cW dE=> ?_);show mY P body Q (.goto l) bD aL;simp only [mY,ay];exact t2 S aN bF eO c7 aZ bD aL a6 cW dE Q ep
   |normal=>exact⟨_,aA,aa,cK,pass (fun l=> a1),ab⟩
   |exit j=>exact⟨_,aA,aa,cK,pass (fun l=> a1),ab⟩
   |ret=>exact⟨_,aA,aa,cK,pass (fun l=> a1),ab⟩
  |none =>
   have stop:∀{e0:ch},(∀(Q:Exit→Act→World→Prop)(a:Act)(w:World),Q (rj e0) a w→c.wp P Q a w)→K e0 F h hs→ ∃e cj af cI,h9 P E.cond base n (oH P none c) F h e cj af∧K e cj af cI:=by intro e0 a6 ab;refine⟨e0,F,h,hs,?_,ab⟩;intro S aN bF eO c7 φ a w az ap r Q ep;exact a6 Q a w (ep φ a w ap r)
   cases c;case skip=>exact stop (e0:= .normal) (fun _ _ _ av=>wp_skip av) ab
   case label l=>exact stop (e0:= .normal) (fun _ _ _ av=>wp_label av) ab
   case goto l=>exact stop (e0:= .goto l) (fun _ _ _ av=>wp_goto av) ab
   case exit id=>exact stop (e0:= .exit id) (fun _ _ _ av=>wp_exit av) ab
   case ret=>exact stop (e0:= .ret) (fun _ _ _ av=>wp_ret av) ab
   case region id ops draw =>
    simp only [e8]at ab;cases az:(Nat.ble base h.U&&(!draw || kF ops))with
    |false=>rw [az]at ab;exact ab.elim
    |true =>
     rw [az,cond_true]at ab;simp only [Bool.and_eq_true,Bool.or_eq_true]at az;obtain⟨an,az⟩:=az;have an:base≤h.U:=Nat.le_of_ble_eq_true an;have ay:∀j:Nat,ops.toList[j]? =ops[0+j]? :=fun j=> a1
     have hJ:tM P E (rI P E fun b m c F h hs K=>e8 P E S (cQ P E.cond) k b m none c F h hs K):=by
      intro f args h hs K av;unfold rI at av;split at av
      ·rename_i fn aM;split at av
       ·rename_i c an;obtain⟨e,cj,af,cI,t,av⟩:=ih none c _ _ _ av;obtain⟨v,az,cH⟩:=Bu bA aM an t av;exact⟨v,af,cI,az,cH⟩
       ·exact av.elim
      ·exact av.elim
     obtain⟨aA,aa,cK,a7,cH,vS,hD⟩:=xQ bA cX bF hJ ops.toList 0 F _ hs [] ay ab;rw [List.nil_append]at cH;obtain⟨fK,cH⟩:=iF cH;refine⟨.normal,aA,aa,cK,?_,cH⟩;intro S aN bF eO c7 φ a w a6 ap ⟨s,aI,df,r⟩ Q ep;obtain⟨aX,g1,g2,iY⟩:=hD (nd a7) (A' fK) s aI df;have Hc:List.range' 0 ops.toList.length=List.range ops.size:=by rw [List.range_eq_range',Array.length_toList]
     rw [Hc]at iY
     have Hd:nZ E (nd a7) ops draw ⟨s,h⟩=some ⟨aX,aa⟩:=by
      unfold nZ;unfold l5 at iY;cases draw with
      |false=>simpa using iY
      |true =>
       have az:kF ops=true:=by simpa using az
       simp only [if_true,az];simpa using iY
     exact Ax bA bF (GN P E vS bF eO) cX r Hd fun bD aL aZ bY bU ez=>ep aZ bD aL (ap.trans (bY.mono an)) ⟨aX,g1,g2,bU⟩
   case seq x y =>
    simp only [e8]at ab;obtain⟨e,aA,aa,cK,t1,ab⟩:=ih none x F h hs ab
    have pass:e≠ .normal→h9 P E.cond base n (oH P none (.seq x y)) F h e aA aa:=by
     intro bJ S aN bF eO c7 φ a w a6 ap r Q ep;refine wp_seq (t1 S aN bF eO c7 φ a w a6 ap r _ fun aZ bD aL cW dE=> ?_);have:=ep aZ bD aL cW dE;cases e with
     |normal=>exact absurd rfl bJ
     |_=>exact this
    cases e with
    |normal =>
     obtain⟨bV,kc,ae,rJ,t2,ab⟩:=ih none y aA aa cK ab;refine⟨bV,kc,ae,rJ,?_,ab⟩;intro S aN bF eO c7 φ a w a6 ap r Q ep;exact wp_seq (t1 S aN bF eO c7 φ a w a6 ap r _ fun aZ bD aL cW dE=>t2 S aN bF eO c7 aZ bD aL a6 cW dE Q ep)
    |exit j=>exact⟨_,aA,aa,cK,pass a1,ab⟩
    |goto l=>exact⟨_,aA,aa,cK,pass a1,ab⟩
    |ret=>exact⟨_,aA,aa,cK,pass a1,ab⟩
   case cond x y z =>
    simp only [e8]at ab;cases ap:pG F x with
    |false=>rw [ap]at ab;exact ab.elim
    |true =>
     rw [ap,cond_true]at ab
     have go:∀{q:Bool},aY F x=.bool q→e8 P E S (cQ P E.cond) k base n none (cond q y z) F h hs K→ ∃e cj af cI,h9 P E.cond base n (oH P none (.cond x y z)) F h e cj af∧K e cj af cI:=by
      intro q av ab;obtain⟨e,aA,aa,cK,t1,ab⟩:=ih none (cond q y z) F h hs ab;refine⟨e,aA,aa,cK,?_,ab⟩;intro S aN bF eO c7 φ a w a6 cW r Q ep;have hw:=t1 S aN bF eO c7 φ a w a6 cW r Q ep;obtain⟨s,aI,df,r⟩:=r;have ac:=r.eval x;simp only at ac;rw [←df.get ap,av]at ac;simp only [ar]at ac;cases q
      ·exact wp_cond_false ac hw
      ·exact wp_cond_true ac hw
     split at ab
     ·rename_i av;exact go (q:=true) av ab
     ·rename_i av;exact go (q:=false) av ab
     ·exact ab.elim
   case block id c =>
    simp only [e8]at ab;obtain⟨e,aA,aa,cK,t1,ab⟩:=ih none c F h hs ab
    have pass:(∀j,e≠ .exit j)→h9 P E.cond base n (oH P none (.block id c)) F h e aA aa:=by
     intro bJ S aN bF eO c7 φ a w a6 ap r Q ep;refine wp_block (t1 S aN bF eO c7 φ a w a6 ap r _ fun aZ bD aL cW dE=> ?_);have:=ep aZ bD aL cW dE;cases e with
     |exit j=>exact absurd rfl (bJ j)
     |_=>exact this
    cases e with
    |exit j =>
     refine⟨_,aA,aa,cK,?_,ab⟩;intro S aN bF eO c7 φ a w a6 ap r Q ep;refine wp_block (t1 S aN bF eO c7 φ a w a6 ap r _ fun aZ bD aL cW dE=> ?_);have:=ep aZ bD aL cW dE;simp only [rj,Exit.inBlock];rcases kb j id with ⟨aW,xT⟩|⟨aW,xT⟩
     ·rw [xT,cond_true]at this;rw [if_pos aW];exact this
     ·rw [xT,cond_false]at this;rw [if_neg aW];exact this
    |normal=>exact⟨_,aA,aa,cK,pass (fun j=> a1),ab⟩
    |goto l=>exact⟨_,aA,aa,cK,pass (fun j=> a1),ab⟩
    |ret=>exact⟨_,aA,aa,cK,pass (fun j=> a1),ab⟩
   case loop c =>
    simp only [e8]at ab;split at ab
    ·rename_i l aA aa bk dY;have ac:h9 P E.cond base n (oH P none (.loop c)) (nb F l) h bk aA aa:=ab.1;exact⟨_,_,_,_,ac.pre (cY.facts fun t v bg=>tw bg),ab.2⟩
    ·exact⟨_,_,_,_,ab.1,ab.2⟩
    ·rename_i m r
     have key:∀(m:Nat)(F:a')(h:I)(hs:cv),tO (fun F h hs K=>e8 P E S (cQ P E.cond) k base n none c F h hs K) K m F h hs→ ∃e cj af cI,b8 P E.cond base n c F h e cj af∧K e cj af cI:=by
      intro m;induction m with
      |zero=>intro F h hs ab;exact ab.elim
      |succ m He =>
       intro F h hs ab;simp only [tO]at ab;obtain⟨e,aA,aa,cK,t1,ab⟩:=ih none c F h hs ab;cases e with
       |normal =>
        obtain⟨bV,kc,ae,rJ,t2,ab⟩:=He aA aa cK ab;exact⟨bV,kc,ae,rJ,b8.step t1 t2,ab⟩
       |exit j=>exact⟨_,aA,aa,cK,b8.last a1 t1,ab⟩
       |goto j=>exact⟨_,aA,aa,cK,b8.last a1 t1,ab⟩
       |ret=>exact⟨_,aA,aa,cK,b8.last a1 t1,ab⟩
     obtain⟨e,cj,af,cI,t,cH⟩:=key m F h r ab;exact⟨e,cj,af,cI,cQ.ei t,cH⟩
    ·rename_i p y pQ;by_cases av:p
     ·exact ih none (.loop c) F h y (ab.1 av)
     ·exact ih none (.loop c) F h pQ (ab.2 av)
    ·rename_i α p f;obtain⟨⟨x,ac⟩,ab⟩:=ab;exact ih none (.loop c) F h (f x) (ab x ac)
    ·exact ab.elim
   case scope c =>
    simp only [e8]at ab;obtain⟨e,aA,aa,cK,t1,ab⟩:=ih (some c) c F h hs ab;refine⟨e,aA,aa,cK,?_,ab⟩;intro S aN bF eO c7 φ a w a6 ap r Q ep;exact AA (t1 S aN bF eO c7 φ a w a6 ap r Q ep)
   all_goals exact ab.elim
variable(P E S)
def xU(f:FuncId)(args:List R)(h:I)(hs:cv)(K:R→I→Prop):Prop :=
 rI P E (fun b m c F h hs K=>e8 P E S (cQ P E.cond) 1000 b m none c F h hs K) f args h hs fun v af _=>K v af
def Hf(base n:Nat)(c:Code)(F:a')(h:I)(hs:cv)(keep:List Nat)(K:ch→a'→I→Prop):Prop :=
 e8 P E S (cQ P E.cond) 1000 base n none c F h hs fun e cj af _=>K e (nb cj keep) af
variable {P E S}
theorem Hg(bA:e7 P E)(cX:P.follows .mixedOrders=true)(bF:hg P E.cond S){f:FuncId}{args:List R}{h:I}{hs:cv}{K:R→I→Prop}{p:Prop}(e:xU P E S f args h hs K=p)(k:p):∃v af,bn P E.cond f args h v af∧K v af:=by
 rw [←e]at k;unfold xU rI at k;split at k
 ·rename_i fn aM;split at k
  ·rename_i c an;obtain⟨e,cj,af,cI,t,av⟩:=Bv bA cX bF 1000 none c _ _ _ k;obtain⟨v,az,cH⟩:=Bu bA aM an t av;exact⟨v,af,az,cH⟩
  ·exact k.elim
 ·exact k.elim
theorem eB(bA:e7 P E)(cX:P.follows .mixedOrders=true)(bF:hg P E.cond S){base n:Nat}{c:Code}{F:a'}{h:I}{hs:cv}{keep:List Nat}{K:ch→a'→I→Prop}{p:Prop}(e:Hf P E S base n c F h hs keep K=p)(k:p) :
 ∃e cj af,cQ P E.cond base n c F h e cj af∧K e cj af:=by
 rw [←e]at k;obtain⟨e,cj,af,cI,t,av⟩:=Bv bA cX bF 1000 none c _ _ _ k;exact⟨e,_,af,t.post (cY.facts (a'.pK _ _)),av⟩
end
end
end Go.bh
namespace Go.bh
abbrev ah(n:Nat)(r:cv):cv:= .ao (.go n) r
abbrev he(n:Nat)(r:cv):cv:= .ao (.enter n) r
abbrev Ng(a b x:Int):Prop:=a≤x∧x≤b
abbrev aV(a b:Nat)(p:Prop):Prop:=bif Nat.ble a b&&true then p else False
abbrev fg(a b:Nat)(p:Prop):Prop:=bif Nat.ble a b then p else False
end Go.bh
namespace Go.bh
noncomputable section
open Go.RowKit
mutual
theorem R.tP{D:Nat→Prop}{r:Nat→Nat}(h:∀i,D i→r i=i):∀{v:R},bH D v→v.be r=v
 |.ptr (some a),k=>by simp only [bH]at k;simp only [R.be,di.be,h _ k]
 |.slice (some a) _ _,k=>by simp only [bH]at k;simp only [R.be,di.be,h _ k]
 |.func fn f c,k=>by simp only [bH]at k;simp only [R.be,R.rK h k.1,R.rK h k.2]
 |.iface t v,k=>by simp only [bH]at k;simp only [R.be,R.tP h k]
 |.agg cs,k=>by simp only [bH]at k;simp only [R.be,R.rK h k]
 |.tuple vs,k=>by simp only [bH]at k;simp only [R.be,R.rK h k]
 |.undef,_=>rfl
 |.bool _,_=>rfl
 |.int _ _,_=>rfl
 |.str _,_=>rfl
 |.ptr none,_=>rfl
 |.slice none _ _,_=>rfl
 |.nilFunc,_=>rfl
 |.nilIface,_=>rfl
theorem R.rK{D:Nat→Prop}{r:Nat→Nat}(h:∀i,D i→r i=i):∀{l:List R},ec D l→R.fN r l=l
 |[],_=>rfl
 |a::l,k=>by simp only [ec]at k;simp only [R.fN,R.tP h k.1,R.rK h k.2]
end
def Bw(D:Nat→Prop)(b:ai):Prop:= ∀e∈b.bc,bH D e
theorem ai.tP{D:Nat→Prop}{r:Nat→Nat}(h:∀i,D i→r i=i){b:ai}(k:Bw D b):b.be r=b:=by
 unfold ai.be
 have:b.bc.map (R.be r)=b.bc:=by
  conv=>rhs;rw [←List.map_id b.bc]
  exact List.map_congr_left fun e he=>R.tP h (k e he)
 rw [this]
end
end Go.bh
namespace Go.bh
noncomputable section
open Go.RowKit
def Bx:List (Nat×ai)→Option ai
 |[]=>none
 |(k,b)::r=>_root_.cond (Nat.beq k 0) (some b) (Bx r)
def rL(o:Nat):List (Nat×ai)→List (Nat×ai)
 |[]=> []
 |(k,b)::r=>_root_.cond (Nat.beq k 0) (rL o r) (_root_.cond (Nat.beq (Nat.mod k 2) o) (((k- (2-o))/2,b)::rL o r) (rL o r))
def ofLT:Nat→List (Nat×ai)→ax ai
 |_,[]=> .nil
 |0,_=> .nil
 |d+1,l=> .node (Bx l) (ofLT d (rL 1 l)) (ofLT d (rL 0 l))
def I.ak(n:Nat)(l:List (Nat×ai)):I:=⟨n,ofLT 20 l⟩
def I.lay(H:I)(n:Nat)(l:List (Nat×ai)):I:=l.foldl (fun h p=>h.set p.1 p.2) {H with U:=n}
theorem Hh(l:List (Nat×ai)):∀(h:I),(l.map (·.1)).Nodup→ ∀p∈l,(l.foldl (fun h p=>h.set p.1 p.2) h).get p.1=some p.2:=by
 induction l with
 |nil=>intro h _ p ab;cases ab
 |cons a r ih =>
  intro h aI p ab;simp only [List.map_cons,List.nodup_cons]at aI;rw [List.foldl_cons];rcases List.mem_cons.1 ab with rfl|ab
  ·have:∀(r:List (Nat×ai)) (h:I),p.1 ∉ r.map (·.1)→(r.foldl (fun h p=>h.set p.1 p.2) h).get p.1=h.get p.1:=by
    intro r;induction r with
    |nil=>intro h _;rfl
    |cons b s w1 =>
     intro h hm;simp only [List.map_cons,List.mem_cons,not_or]at hm;rw [List.foldl_cons,w1 _ hm.2,I.dZ _ _ (Ne.symm hm.1)]
   rw [this r _ aI.1,I.eU]
  ·exact ih _ aI.2 p ab
theorem By(l:List (Nat×ai)):∀(h:I)(i:Nat),i ∉ l.map (·.1)→(l.foldl (fun h p=>h.set p.1 p.2) h).get i=h.get i:=by
 induction l with
 |nil=>intro h i _;rfl
 |cons p r ih =>
  intro h i ag;simp only [List.map_cons,List.mem_cons,not_or]at ag;rw [List.foldl_cons,ih _ i ag.2,I.dZ _ _ (Ne.symm ag.1)]
theorem Bz(l:List (Nat×ai)):∀(h:I),(l.foldl (fun h p=>h.set p.1 p.2) h).U=h.U:=by
 induction l with
 |nil=>intro h;rfl
 |cons p r ih=>intro h;rw [List.foldl_cons,ih];rfl
theorem pR{ids:List Nat}{n i:Nat}(h:i<ids.length):er ids n i=ids[i]:=by simp [er,List.getElem?_eq_getElem h]
theorem nk{ids:List Nat}{n i:Nat}(h:ids.length≤i):er ids n i=n+(i-ids.length):=by simp [er,List.getElem?_eq_none h]
theorem Hi{ids:List Nat}{n:Nat}(aI:ids.Nodup)(c1:∀j∈ids,j<n){i j:Nat}(e:er ids n i=er ids n j):i=j:=by
 by_cases db:i<ids.length<;>by_cases c2:j<ids.length
 ·rw [pR db,pR c2]at e;exact(List.getElem_inj aI).1 e
 ·rw [pR db,nk J]at e;have:=c1 _ (List.getElem_mem db);omega
 ·rw [pR c2,nk J]at e;have:=c1 _ (List.getElem_mem c2);omega
 ·rw [nk J,nk J]at e;omega
def ax.ed:ax ai→List (Nat×ai)
 |.nil=> []
 |.node v l r=>(match v with|some b=> [(0,b)]|none=> [])++((ax.ed l).map fun p=>(2*p.1+1,p.2))++((ax.ed r).map fun p=>(2*p.1+2,p.2))
theorem ax.Hj(v:Option ai)(l r:ax ai)(k:Nat):(ax.node v l r).get k=_root_.cond (Nat.beq k 0) v (_root_.cond (Nat.beq (k%2) 1) (l.get (k/2)) (r.get (k/2-1))):=rfl
theorem ax.tQ:∀(t:ax ai)(k:Nat)(b:ai),t.get k=some b→(k,b)∈ax.ed t
 |.nil,k,b,h=>by cases h
 |.node v l r,k,b,h=>by
  rw [ax.Hj]at h;unfold ax.ed;rcases kb k 0 with ⟨e,cn⟩|⟨e,cn⟩
  ·rw [cn,cond_true]at h;subst h;subst e;simp
  ·rw [cn,cond_false]at h;rcases kb (k%2) 1 with ⟨f,ew⟩|⟨f,ew⟩
   ·rw [ew,cond_true]at h;have:=ax.tQ l _ _ h;refine List.mem_append_left _ (List.mem_append_right _ (List.mem_map.2 ⟨_,this,?_⟩));simp only [Prod.mk.injEq,and_true];omega
   ·rw [ew,cond_false]at h;have:=ax.tQ r _ _ h;refine List.mem_append_right _ (List.mem_map.2 ⟨_,this,?_⟩);simp only [Prod.mk.injEq,and_true];omega
theorem ax.xV:∀(t:ax ai),((ax.ed t).map (·.1)).Nodup
 |.nil=>List.nodup_nil
 |.node v l r=>by
  unfold ax.ed;have aa:=ax.xV l;have ae:=ax.xV r;have m1:(((ax.ed l).map fun p=>(2*p.1+1,p.2)).map (·.1))=((ax.ed l).map (·.1)).map fun k=>2*k+1:=by simp [List.map_map,Function.comp_def]
  have m2:(((ax.ed r).map fun p=>(2*p.1+2,p.2)).map (·.1))=((ax.ed r).map (·.1)).map fun k=>2*k+2:=by simp [List.map_map,Function.comp_def]
  rw [List.map_append,List.map_append,m1,m2]
  have inj:∀(l:List Nat)(c:Nat),l.Nodup→(l.map fun k=>2*k+c).Nodup:=by intro l c ay;rw [List.nodup_iff_pairwise_ne,List.pairwise_map];exact List.Pairwise.imp (fun ms e=>ms J) (List.nodup_iff_pairwise_ne.1 ay)
  rw [List.nodup_append,List.nodup_append];refine⟨⟨by cases v<;>simp,inj _ _ aa,?_⟩,inj _ _ ae,?_⟩
  ·intro a aD b an e;obtain⟨k,_,rfl⟩:=List.mem_map.1 an;cases v with
   |none=>simp at aD
   |some x=>simp at aD;omega
  ·intro a aD b an e;obtain⟨k,_,rfl⟩:=List.mem_map.1 an;rcases List.mem_append.1 aD with aD|aD
   ·cases v with
    |none=>simp at aD
    |some x=>simp at aD;omega
   ·obtain⟨j,_,rfl⟩:=List.mem_map.1 aD;omega
theorem bn.place{P:Program}{C:(Nat→Prop)→World→Prop}[jd C]{f:FuncId}{args:List R}{v:R}{l:List ai}{af:I}(k:bn P C f args (I.of l) v af)(hc:l.length≤af.U)
 (an:∀b∈l,Bw (fun i=>i<l.length) b) (aD:ec (fun i=>i<l.length) args) {H:I} (ids:List Nat) (aI:ids.Nodup) (c1:∀j∈ids,j<H.U) (hlen:ids.length=l.length)
 (ay:∀i b,l[i]? =some b→H.get (er ids H.U i)=some (b.be (er ids H.U))) :
 ∃aH,bn P C f (args.map (R.be (er ids H.U))) H (v.be (er ids H.U)) aH∧aH.U=H.U+(af.U-l.length)∧(∀i b,af.get i=some b→aH.get (er ids H.U i)=some (b.be (er ids H.U)))∧∀j,j<H.U→j ∉ ids→aH.get j=H.get j:=by
 let ct:=ax.ed af.aB
 have ie:(ct.map (·.1)).Nodup:=ax.xV _
 let pQ:=af.U
 let r:=er ids H.U
 have BA:∀i j,r i=r j→i=j:=fun i j e=>Hi aI c1 e
 let m:List (Nat×ai):=ct.map fun p=>(r p.1,p.2.be r)
 have BB:m.map (·.1)=(ct.map (·.1)).map r:=by simp [m,List.map_map,Function.comp_def]
 have Hk:(m.map (·.1)).Nodup:=by rw [BB,List.nodup_iff_pairwise_ne,List.pairwise_map];exact List.Pairwise.imp (fun ms e=>ms (BA _ _ e)) (List.nodup_iff_pairwise_ne.1 ie)
 have fo:∀p∈ct,(H.lay (H.U+(pQ-l.length)) m).get (r p.1)=some (p.2.be r):=by intro p ab;exact Hh m _ Hk (r p.1,p.2.be r) (List.mem_map.2 ⟨p,ab,rfl⟩)
 have BC:∀j,j<H.U→(∀i,i<l.length→r i≠j)→j ∉ m.map (·.1):=by
  intro j aW bJ hm;rw [BB]at hm;obtain⟨i,_,e⟩:=List.mem_map.1 hm;by_cases c:i<l.length
  ·exact bJ i c e
  ·have:r i=H.U+(i-ids.length):=nk J;omega
 refine⟨H.lay (H.U+(pQ-l.length)) m,k.frame (r:=r) ⟨?_,?_,?_⟩ ?_ ?_ ?_ ?_ ?_,?_,fun i b ah=>fo (i,b) (ax.tQ _ _ _ ah),?_⟩
 ·intro i b ah;rw [I.iV]at ah;exact⟨by rw [I.of_next];exact(List.getElem?_eq_some_iff.1 ah).1,ay i b ah⟩
 ·intro i j _ _ e;exact BA i j e
 ·intro i b ah e he;rw [I.iV]at ah;exact bH.mono (fun i ag=>I.pM.2 ag) (an b (List.mem_of_getElem? ah) e he)
 ·exact ec.mono (fun i ag=>I.pM.2 ag) aD
 ·intro i ag;rw [I.of_next]at ag;rw [I.of_next,←hlen];exact nk J
 ·intro i b ah _;exact fo (i,b) (ax.tQ _ _ _ ah)
 ·rw [I.of_next];unfold I.lay;rw [Bz]
 ·intro j aW bJ;unfold I.lay;rw [By _ _ _ (BC j aW fun i ag=>bJ i (I.pM.2 ag))];rfl
 ·unfold I.lay;rw [Bz]
 ·intro j aW hm;unfold I.lay;rw [By _ _ _ (BC j aW fun i ag e=>hm (by rw [←e];show er ids H.U i∈ids;rw [pR J];exact List.getElem_mem _))];rfl
theorem bn.cL{P:Program}{C:(Nat→Prop)→World→Prop}[jd C]{f:FuncId}{args:List R}{v:R}(k:∃v1 aa,bn P C f args ⟨0,.nil⟩ v1 aa∧v1=v)(aD:R.kX args=true)(bg:v.jg=true)(H:I):bn P C f args H v H:=by
 obtain⟨v1,aa,az,rfl⟩:=k
 have fk:∀{l:List R},R.kX l=true→ ∀a∈l,cO a:=by
  intro l;induction l with
  |nil=>intro _ a aD;cases aD
  |cons x r ih =>
   intro ay a aD;simp only [R.kX,Bool.and_eq_true]at ay;rcases List.mem_cons.1 aD with rfl|hm
   ·exact cO.of ay.1
   ·exact ih ay.2 a hm
 exact az.bare (fk aD) (cO.of bg) H
def pS(g:List R→Option (R×List Prop)):List R→I→Option iH:=fun args h=>match g args with|some (v,ps)=>some (.one v h ps)|none=>none
theorem tR{P:Program}{C:(Nat→Prop)→World→Prop}{f:FuncId}{g:List R→Option (R×List Prop)}(k:∀args v ps,g args=some (v,ps)→bm ps→ ∀H,bn P C f args H v H):∀args h a,pS g args h=some a→a.dM P C f args h:=by
 intro args h a e;unfold pS at e;split at e
 ·rename_i u Nh hu;simp only [Option.some.injEq]at e;subst e;exact fun ab=>k _ _ _ hu ab h
 ·cases e
end
end Go.bh
namespace Go.Keys
abbrev Bytes:=List UInt8
def lead(b:Nat):Nat×Nat×Nat :=
 if b<128 then(1,0,0)
 else if 194≤b∧b≤223 then(2,128,191)
 else if b=224 then(3,160,191)
 else if b=237 then(3,128,159)
 else if 225≤b∧b≤239 then(3,128,191)
 else if b=240 then(4,144,191)
 else if 241≤b∧b≤243 then(4,128,191)
 else if b=244 then(4,128,143)
 else(0,0,0)
def tail:Nat→Nat→Nat→Nat→Nat→Bytes→Nat×Nat×Bool
 |0,i,_,_,v,_=>(v,i,false)
 |_+1,i,_,_,_,[]=>(65533,i,true)
 |k+1,i,aE,ag,v,c::r=>if c.toNat<aE∨ag<c.toNat then(65533,i,false)else tail k (i+1) 128 191 (v*64+c.toNat%64) r
def first:Bytes→Nat×Nat×Bool
 |[]=>(0,0,false)
 |b::r =>
  if(lead b.toNat).1=0 then(65533,1,false)
  else if(lead b.toNat).1=1 then(b.toNat,1,false)
  else tail ((lead b.toNat).1-1) 1 (lead b.toNat).2.1 (lead b.toNat).2.2 (b.toNat%2^(7- (lead b.toNat).1)) r
structure b1 where
 kind:Int
 code:Int:=0
 dH:Int:=0
 x:Int:=0
 y:Int:=0
 text:Bytes:=[]
 deriving DecidableEq
end Go.Keys
namespace Go.Keys
def BD:Nat→Bytes→List Nat
 |0,_=> []
 |_+1,[]=> []
 |k+1,s=>(first s).1::BD k (s.drop (first s).2.1)
def Hl(s:Bytes):List Nat:=BD s.length s
def u8(n:Nat):UInt8:=UInt8.ofNat n
def put(r:Nat):Bytes :=
 let r:=if 55296≤r∧r≤57343∨1114111<r then 65533 else r
 if r<128 then [u8 r]
 else if r<2048 then [u8 (192+r/64),u8 (128+r%64)]
 else if r<65536 then [u8 (224+r/4096),u8 (128+r/64%64),u8 (128+r%64)]
 else [u8 (240+r/262144),u8 (128+r/4096%64),u8 (128+r/64%64),u8 (128+r%64)]
def Hm(l:List Nat):Bytes:=l.flatMap put
def valid(s:Bytes):Bool:=Hm (Hl s) == s
def xW:Nat→Bytes→List Nat×Bytes
 |0,_=>([],[])
 |_+1,[]=>([],[])
 |k+1,b::r =>
  if(first (b::r)).2.2 then([],b::r)
  else((first (b::r)).1::(xW k ((b::r).drop (first (b::r)).2.1)).1,(xW k ((b::r).drop (first (b::r)).2.1)).2)
def BE(fm:Bytes)(c:UInt8):List Nat×Bytes:=xW (fm.length+1) (fm++[c])
inductive Hn where
 |ground|tS|tT|sequence|single|tU
 deriving DecidableEq
structure dQ where
 oL:Hn:= .ground
 dh:Bytes:=[]
 fm:Bytes:=[]
 jh:Bytes:=[]
 deriving DecidableEq
def hh(c:Int)(m:Int:=0):b1:= {kind:=2,code:=c,dH:=m}
def nl(c:Int)(m:Int:=0):b1:= {kind:=1,code:=c,dH:=m}
def oM(s:Bytes):b1:= {kind:=7,text:=s}
def control(c:Nat):b1 :=
 if c=13 then hh 1 else if c=9 then hh 2 else if c=127 then hh 3 else if c=0 then nl 32 4
 else if c<27 then nl (c+96) 4 else nl (c+64) 4
def tell(s:dQ)(e:b1):dQ×List b1:=({s with dh:=[],oL:= .ground},[e])
def at'(dh:Bytes):Nat:=match dh with|b::_=>if b=27 then 1 else 0 | []=>0
def BF(s:dQ)(c:UInt8)(no:dQ→dQ×List b1):dQ×List b1 :=
 let l:=(BE s.fm c).1
 let s1:= {s with fm:=(BE s.fm c).2,oL:= .tT}
 if s1.fm≠[]∧l=[]then({s1 with dh:=s.dh++[c]},[])
 else if l.length=1∧s.dh.length=at' s.dh∨valid (s.dh.drop (at' s.dh)++[c])=true then
  if valid ((s.dh++[c]).drop (at' s.dh))=true then tell s1 (nl (l.headD 0) (2*at' s.dh))
  else tell s1 (oM (s.dh++[c]))
 else no {s1 with fm:=[]}
def BG(s:dQ)(c:UInt8)(no:dQ→dQ×List b1):dQ×List b1 :=
 if c.toNat<32∨c.toNat=127 then tell s (if s.dh=[]then control c.toNat else {control c.toNat with dH:=(control c.toNat).dH+2})
 else BF s c no
def ground(s:dQ)(c:UInt8):dQ×List b1 :=
 if c=27 then({s with dh:=[27],oL:= .tS},[])
 else BG s c fun s1=>tell s1 (oM s1.dh)
def bad(s:dQ)(c:UInt8):dQ×List b1 :=
 ((ground (tell s (oM s.dh)).1 c).1,oM s.dh::(ground (tell s (oM s.dh)).1 c).2)
def tT(s:dQ)(c:UInt8):dQ×List b1:=BF s c fun s1=>bad s1 c
def plain(s:dQ)(c:UInt8):dQ×List b1:=BG s c fun s1=>bad s1 c
def tS(s:dQ)(c:UInt8):dQ×List b1 :=
 if c=27 then((ground (tell s (hh 4)).1 c).1,hh 4::(ground (tell s (hh 4)).1 c).2)
 else if c=91 then({s with dh:=s.dh++[c],oL:= .sequence},[])
 else if c=79 then({s with dh:=s.dh++[c],oL:= .single},[])
 else plain s c
def pT(c:Nat):Int :=
 if 65≤c∧c≤68 then 5+(c-65)else if c=72 then 9 else if c=70 then 10 else 0
def single(s:dQ)(c:UInt8):dQ×List b1 :=
 if 0<pT c.toNat then tell s (hh (pT c.toNat))
 else if 80≤c.toNat∧c.toNat≤83 then tell s (hh (21+(c.toNat-80)))
 else if c.toNat=77 then tell s (hh 1)
 else((ground (tell s (nl 79 2)).1 c).1,nl 79 2::(ground (tell s (nl 79 2)).1 c).2)
def splitAt(sep:UInt8):Bytes→List Bytes
 |[]=> [[]]
 |b::r=>if b=sep then []::splitAt sep r else match splitAt sep r with|w::t=>(b::w)::t | []=> [[b]]
def digit(b:UInt8):Bool:=decide (48≤b.toNat)&&decide (b.toNat≤57)
def number(w:Bytes):Nat:=w.foldl (fun n b=>10*n+(b.toNat-48)) 0
def BH:List Bytes→Option (List Nat)
 |[]=>some []
 |w::r=>if w=[]∨9<w.length∨w.all digit=false then none else(BH r).map (number w:: ·)
def numbers(words:Bytes):Option (List Nat):=if words=[]then some []else BH (splitAt 59 words)
def tV(n:Nat):Int :=
 if n=1∨n=7 then 9 else if n=4∨n=8 then 10 else if n=2∨n=3 then 11+((n:Int)-2)else if n=5∨n=6 then 13+((n:Int)-5)
 else if 11≤n∧n≤15 then 21+((n:Int)-11)else if 17≤n∧n≤21 then 21+((n:Int)-12)else if n=23∨n=24 then 21+((n:Int)-13)else 0
def shown(r:Int):Bool:=decide (32≤r)&&decide (r≠127)&&decide (r≤1114111)&&(decide (r<55296) || decide (57343<r))
def Ho(c:Nat)(m:Int):Option b1 :=
 if c=13 then some (hh 1 m)else if c=9 then some (hh 2 m)else if c=127 then some (hh 3 m)else if c=27 then some (hh 4 m)
 else if 2097152<c∨shown c=false then none else some (nl c m)
def Hp(words:Bytes)(c:Nat):Option b1 :=
 match words with
 |60 ::rest =>
  match numbers rest with
  |some [au,dU,dn] =>
   let held:=au/4%8
   let b:=au-4*held
   if dU<1∨4096<dU∨dn<1∨4096<dn then none
   else
    let e:b1:= {kind:=3,dH:=held,x:=(dU:Int)-1,y:=(dn:Int)-1}
    if c=109∧b≤3 then some {e with code:=3}
    else if c=77∧b≤2 then some {e with code:=b}
    else if c=77∧32≤b∧b≤35 then some {e with code:=6}
    else if c=77∧b=64 then some {e with code:=4}
    else if c=77∧b=65 then some {e with code:=5}
    else none
  |_=>none
 |_=>none
def told(words:Bytes)(c:UInt8):Option b1 :=
 if c=82∨c=99∨c=110 then some {kind:=6,text:=words++[c]}
 else if c=77∨c=109 then Hp words c.toNat
 else
  match numbers words with
  |none=>none
  |some [] =>
   if c=90 then some (hh 2 1)else if c=73 then some {kind:=5,code:=1} else if c=79 then some {kind:=5}
   else if 0<pT c.toNat then some (hh (pT c.toNat))else none
  |some (au::r) =>
   let m:=match r with | [x]=>x|_=>1
   if 1<r.length∨m<1∨8<m then none
   else if 0<pT c.toNat∧au=1∧r.length=1 then some (hh (pT c.toNat) ((m:Int)-1))
   else if c=126∧0<tV au then some (hh (tV au) ((m:Int)-1))
   else if c=117 then Ho au ((m:Int)-1)
   else none
def Hq(words:Bytes):Bool:=words ==[50,48,48] || (words.dropWhile (· == 48) ==[50,48,48]&&decide (words.length≤9))
def done(s:dQ)(words:Bytes)(c:UInt8):dQ×List b1 :=
 if c=126∧Hq words=true then({s with dh:=[],oL:= .tU},[])
 else tell s ((told words c).getD (oM s.dh))
def sequence(s:dQ)(c:UInt8):dQ×List b1 :=
 if 64≤c.toNat∧c.toNat≤126 then done {s with dh:=s.dh++[c]} (s.dh.drop 2) c
 else if c.toNat<32∨63<c.toNat∨48≤c.toNat∧(s.dh.getLastD 0).toNat<48 then bad s c
 else if s.dh.length+1=64 then tell {s with dh:=s.dh++[c]} (oM (s.dh++[c]))
 else({s with dh:=s.dh++[c]},[])
def xX:Bytes:=[27,91,50,48,49,126]
def shift:Nat→Bytes→Bytes→Bytes×Bytes
 |0,dh,jh=>(dh,jh)
 |_+1,[],jh=>([],jh)
 |k+1,b::r,jh=>if(b::r).isPrefixOf xX then(b::r,jh)else shift k r (if jh.length<65536 then jh++[b]else jh)
def tU(s:dQ)(c:UInt8):dQ×List b1 :=
 let p:=shift (s.dh.length+1) (s.dh++[c]) s.jh
 if p.1.length=6 then tell {s with dh:=p.1,jh:=[]} {kind:=4,text:=p.2}
 else({s with dh:=p.1,jh:=p.2},[])
def step(s:dQ)(c:UInt8):dQ×List b1 :=
 match s.oL with
 |.ground=>ground s c
 |.tS=>tS s c
 |.tT=>tT s c
 |.sequence=>sequence s c
 |.single=>single s c
 |.tU=>tU s c
def tW:dQ→Bytes→dQ×List b1
 |s,[]=>(s,[])
 |s,c::r=>((tW (step s c).1 r).1,(step s c).2++(tW (step s c).1 r).2)
def held(s:dQ):Nat:=s.jh.length+s.dh.length
end Go.Keys
namespace Go.Proofs.YtddnafghiejcoaaGreatDoor
open Go.bh Go.Keys
set_option maxRecDepth 1000000
abbrev bS(x:Nat) : Option di := some ⟨x, 0, 0, 0, 1⟩
abbrev aC(x:Nat) : Option di := some ⟨x, 0, 0, 0, 6⟩
abbrev bW(f:FuncId)(a:List R)(h:I)(K:R → I → Prop) : Prop := ∃v aa, bn Tryz.prog hK f a h v aa ∧ K v aa
abbrev bE := bn Tryz.prog hK
abbrev bu := AZ Tryz.prog hK
abbrev bK := cQ Tryz.prog hK
abbrev eP := b8 Tryz.prog hK
noncomputable abbrev bw := GS Tryz.prog
abbrev l8 := Option (TypeId × Nat)
abbrev bT := R → I → Prop
theorem bZ{S:kY}{f:FuncId}{args:List R}{h:I}{K:R → I → Prop}{p:Prop}(bF:hg Tryz.prog hK S)(hs:cv)(k:p)(e : xU Tryz.prog env S f args h hs K = p := by kernel_rfl) : bW f args h K := Hg dB mixed bF e k
theorem Hr(b:Int)(ad:bT)(aP:(b<128→ad (R.tuple [R.int .i64 (1),R.int .u8 (0),R.int .u8 (0)]) (I.ak 9 []))∧(¬b<128→(194≤b→(b≤223→ad (R.tuple [R.int .i64 (2),R.int .u8 (128),R.int .u8 (191)]) (I.ak 16 []))∧(¬b≤223→(b=224→ad (R.tuple [R.int .i64 (3),R.int .u8 (160),R.int .u8 (191)]) (I.ak 19 []))∧(¬b=224→(b=237→ad (R.tuple [R.int .i64 (3),R.int .u8 (128),R.int .u8 (159)]) (I.ak 22 []))∧(¬b=237→(225≤b→(b≤239→ad (R.tuple [R.int .i64 (3),R.int .u8 (128),R.int .u8 (191)]) (I.ak 29 []))∧(¬b≤239→(b=240→ad (R.tuple [R.int .i64 (4),R.int .u8 (144),R.int .u8 (191)]) (I.ak 32 []))∧(¬b=240→(241≤b→(b≤243→ad (R.tuple [R.int .i64 (4),R.int .u8 (128),R.int .u8 (191)]) (I.ak 39 []))∧(¬b≤243→(b=244→ad (R.tuple [R.int .i64 (4),R.int .u8 (128),R.int .u8 (143)]) (I.ak 42 []))∧(¬b=244→ad (R.tuple [R.int .i64 (0),R.int .u8 (0),R.int .u8 (0)]) (I.ak 42 []))))∧(¬241≤b→(b=244→ad (R.tuple [R.int .i64 (4),R.int .u8 (128),R.int .u8 (143)]) (I.ak 42 []))∧(¬b=244→ad (R.tuple [R.int .i64 (0),R.int .u8 (0),R.int .u8 (0)]) (I.ak 42 []))))))∧(¬225≤b→(b=240→ad (R.tuple [R.int .i64 (4),R.int .u8 (144),R.int .u8 (191)]) (I.ak 32 []))∧(¬b=240→(241≤b→(b≤243→ad (R.tuple [R.int .i64 (4),R.int .u8 (128),R.int .u8 (191)]) (I.ak 39 []))∧(¬b≤243→(b=244→ad (R.tuple [R.int .i64 (4),R.int .u8 (128),R.int .u8 (143)]) (I.ak 42 []))∧(¬b=244→ad (R.tuple [R.int .i64 (0),R.int .u8 (0),R.int .u8 (0)]) (I.ak 42 []))))∧(¬241≤b→(b=244→ad (R.tuple [R.int .i64 (4),R.int .u8 (128),R.int .u8 (143)]) (I.ak 42 []))∧(¬b=244→ad (R.tuple [R.int .i64 (0),R.int .u8 (0),R.int .u8 (0)]) (I.ak 42 [])))))))))∧(¬194≤b→(b=224→ad (R.tuple [R.int .i64 (3),R.int .u8 (160),R.int .u8 (191)]) (I.ak 19 []))∧(¬b=224→(b=237→ad (R.tuple [R.int .i64 (3),R.int .u8 (128),R.int .u8 (159)]) (I.ak 22 []))∧(¬b=237→(225≤b→(b≤239→ad (R.tuple [R.int .i64 (3),R.int .u8 (128),R.int .u8 (191)]) (I.ak 29 []))∧(¬b≤239→(b=240→ad (R.tuple [R.int .i64 (4),R.int .u8 (144),R.int .u8 (191)]) (I.ak 32 []))∧(¬b=240→(241≤b→(b≤243→ad (R.tuple [R.int .i64 (4),R.int .u8 (128),R.int .u8 (191)]) (I.ak 39 []))∧(¬b≤243→(b=244→ad (R.tuple [R.int .i64 (4),R.int .u8 (128),R.int .u8 (143)]) (I.ak 42 []))∧(¬b=244→ad (R.tuple [R.int .i64 (0),R.int .u8 (0),R.int .u8 (0)]) (I.ak 42 []))))∧(¬241≤b→(b=244→ad (R.tuple [R.int .i64 (4),R.int .u8 (128),R.int .u8 (143)]) (I.ak 42 []))∧(¬b=244→ad (R.tuple [R.int .i64 (0),R.int .u8 (0),R.int .u8 (0)]) (I.ak 42 []))))))∧(¬225≤b→(b=240→ad (R.tuple [R.int .i64 (4),R.int .u8 (144),R.int .u8 (191)]) (I.ak 32 []))∧(¬b=240→(241≤b→(b≤243→ad (R.tuple [R.int .i64 (4),R.int .u8 (128),R.int .u8 (191)]) (I.ak 39 []))∧(¬b≤243→(b=244→ad (R.tuple [R.int .i64 (4),R.int .u8 (128),R.int .u8 (143)]) (I.ak 42 []))∧(¬b=244→ad (R.tuple [R.int .i64 (0),R.int .u8 (0),R.int .u8 (0)]) (I.ak 42 []))))∧(¬241≤b→(b=244→ad (R.tuple [R.int .i64 (4),R.int .u8 (128),R.int .u8 (143)]) (I.ak 42 []))∧(¬b=244→ad (R.tuple [R.int .i64 (0),R.int .u8 (0),R.int .u8 (0)]) (I.ak 42 [])))))))))) :
 bW 99 [.int .u8 b] (⟨0,.nil⟩) ad :=
 bZ cl (.aO 1001 .nil (.aO 3001 (.aO 3004 .nil (.aO 5001 .nil (.aO 7001 .nil (.aO 9001 (.aO 9004 .nil (.aO 11001 .nil (.aO 13001 (.aO 13004 .nil (.aO 15001 .nil .nil)) (.aO 15001 .nil .nil)))) (.aO 11001 .nil (.aO 13001 (.aO 13004 .nil (.aO 15001 .nil .nil)) (.aO 15001 .nil .nil))))))) (.aO 5001 .nil (.aO 7001 .nil (.aO 9001 (.aO 9004 .nil (.aO 11001 .nil (.aO 13001 (.aO 13004 .nil (.aO 15001 .nil .nil)) (.aO 15001 .nil .nil)))) (.aO 11001 .nil (.aO 13001 (.aO 13004 .nil (.aO 15001 .nil .nil)) (.aO 15001 .nil .nil)))))))) aP
def et(b:Int):Int×Int×Int :=
 if b<128 then(1,0,0)else if 194≤b∧b≤223 then(2,128,191)else if b=224 then(3,160,191)else if b=237 then(3,128,159)else if 225≤b∧b≤239 then(3,128,191)
 else if b=240 then(4,144,191)else if 241≤b∧b≤243 then(4,128,191)else if b=244 then(4,128,143)else(0,0,0)
def rM(b:Int):R:= .tuple [.int .i64 (et b).1,.int .u8 (et b).2.1,.int .u8 (et b).2.2]
theorem Hs(b x y z:Int)(h:et b=(x,y,z)):R.tuple [.int .i64 x,.int .u8 y,.int .u8 z]=rM b:=by unfold rM;rw [h]
theorem BI(b:Int)(H:I):bE 99 [.int .u8 b] H (rM b) H:=by
 refine bn.cL (Hr b (fun v _=>v=rM b) ?_) rfl rfl H
 repeat' (first|apply And.intro|intro _)
 all_goals (refine Hs _ _ _ _ ?_;unfold et;repeat' split)
 all_goals first|rfl|omega
theorem Ht(c:Int)(ad:bT)(aP:(c=65→(0≤c-65∧c-65≤255)∧(-2147483648≤c-65∧c-65≤2147483647)∧(-2147483648≤5+(c-65)∧5+(c-65)≤2147483647)∧ad (R.int .i32 (5+(c-65))) (I.ak 9 []))∧(¬c=65→(c=66→(0≤c-65∧c-65≤255)∧(-2147483648≤c-65∧c-65≤2147483647)∧(-2147483648≤5+(c-65)∧5+(c-65)≤2147483647)∧ad (R.int .i32 (5+(c-65))) (I.ak 11 []))∧(¬c=66→(c=67→(0≤c-65∧c-65≤255)∧(-2147483648≤c-65∧c-65≤2147483647)∧(-2147483648≤5+(c-65)∧5+(c-65)≤2147483647)∧ad (R.int .i32 (5+(c-65))) (I.ak 13 []))∧(¬c=67→(c=68→(0≤c-65∧c-65≤255)∧(-2147483648≤c-65∧c-65≤2147483647)∧(-2147483648≤5+(c-65)∧5+(c-65)≤2147483647)∧ad (R.int .i32 (5+(c-65))) (I.ak 15 []))∧(¬c=68→(c=72→ad (R.int .i32 (9)) (I.ak 13 []))∧(¬c=72→(c=70→ad (R.int .i32 (10)) (I.ak 15 []))∧(¬c=70→ad (R.int .i32 (0)) (I.ak 15 [])))))))) :
 bW 71 [.int .u8 c] (⟨0,.nil⟩) ad :=
 bZ cl (.aO 2000 (.ao (.go 6001) (.ao (.go 6002) (.ao (.go 6003) .nil))) (.aO 3000 (.ao (.go 6001) (.ao (.go 6002) (.ao (.go 6003) .nil))) (.aO 4000 (.ao (.go 6001) (.ao (.go 6002) (.ao (.go 6003) .nil))) (.aO 5000 (.ao (.go 6001) (.ao (.go 6002) (.ao (.go 6003) .nil))) (.aO 7000 .nil (.aO 9000 .nil .nil)))))) aP
def nn(c:Int):Int:=if 65≤c∧c≤68 then 5+(c-65)else if c=72 then 9 else if c=70 then 10 else 0
theorem Hu(c:Int)(H:I):bE 71 [.int .u8 c] H (.int .i32 (nn c)) H:=by
 refine bn.cL (Ht c (fun v _=>v=.int .i32 (nn c)) ?_) rfl rfl H
 repeat' (first|apply And.intro|intro _)
 all_goals first
  |omega
  |(refine congrArg (R.int .i32) ?_;unfold nn;repeat' split)
 all_goals omega
theorem Hv(n:Int)(ad:bT)(aP:(n=1→ad (R.int .i32 (9)) (I.ak 9 []))∧(¬n=1→(n=7→ad (R.int .i32 (9)) (I.ak 9 []))∧(¬n=7→(n=4→ad (R.int .i32 (10)) (I.ak 16 []))∧(¬n=4→(n=8→ad (R.int .i32 (10)) (I.ak 16 []))∧(¬n=8→(n=2→(-9223372036854775808≤n-2∧n-2≤9223372036854775807)∧(-2147483648≤n-2∧n-2≤2147483647)∧(-2147483648≤11+(n-2)∧11+(n-2)≤2147483647)∧ad (R.int .i32 (11+(n-2))) (I.ak 27 []))∧(¬n=2→(n=3→(-9223372036854775808≤n-2∧n-2≤9223372036854775807)∧(-2147483648≤n-2∧n-2≤2147483647)∧(-2147483648≤11+(n-2)∧11+(n-2)≤2147483647)∧ad (R.int .i32 (11+(n-2))) (I.ak 27 []))∧(¬n=3→(n=5→(-9223372036854775808≤n-5∧n-5≤9223372036854775807)∧(-2147483648≤n-5∧n-5≤2147483647)∧(-2147483648≤13+(n-5)∧13+(n-5)≤2147483647)∧ad (R.int .i32 (13+(n-5))) (I.ak 34 []))∧(¬n=5→(n=6→(-9223372036854775808≤n-5∧n-5≤9223372036854775807)∧(-2147483648≤n-5∧n-5≤2147483647)∧(-2147483648≤13+(n-5)∧13+(n-5)≤2147483647)∧ad (R.int .i32 (13+(n-5))) (I.ak 34 []))∧(¬n=6→(11≤n→(n≤15→(-9223372036854775808≤n-11∧n-11≤9223372036854775807)∧(-2147483648≤n-11∧n-11≤2147483647)∧(-2147483648≤21+(n-11)∧21+(n-11)≤2147483647)∧ad (R.int .i32 (21+(n-11))) (I.ak 41 []))∧(¬n≤15→(17≤n→(n≤21→(-9223372036854775808≤n-12∧n-12≤9223372036854775807)∧(-2147483648≤n-12∧n-12≤2147483647)∧(-2147483648≤21+(n-12)∧21+(n-12)≤2147483647)∧ad (R.int .i32 (21+(n-12))) (I.ak 48 []))∧(¬n≤21→(n=23→(-9223372036854775808≤n-13∧n-13≤9223372036854775807)∧(-2147483648≤n-13∧n-13≤2147483647)∧(-2147483648≤21+(n-13)∧21+(n-13)≤2147483647)∧ad (R.int .i32 (21+(n-13))) (I.ak 55 []))∧(¬n=23→(n=24→(-9223372036854775808≤n-13∧n-13≤9223372036854775807)∧(-2147483648≤n-13∧n-13≤2147483647)∧(-2147483648≤21+(n-13)∧21+(n-13)≤2147483647)∧ad (R.int .i32 (21+(n-13))) (I.ak 55 []))∧(¬n=24→ad (R.int .i32 (0)) (I.ak 51 [])))))∧(¬17≤n→(n=23→(-9223372036854775808≤n-13∧n-13≤9223372036854775807)∧(-2147483648≤n-13∧n-13≤2147483647)∧(-2147483648≤21+(n-13)∧21+(n-13)≤2147483647)∧ad (R.int .i32 (21+(n-13))) (I.ak 55 []))∧(¬n=23→(n=24→(-9223372036854775808≤n-13∧n-13≤9223372036854775807)∧(-2147483648≤n-13∧n-13≤2147483647)∧(-2147483648≤21+(n-13)∧21+(n-13)≤2147483647)∧ad (R.int .i32 (21+(n-13))) (I.ak 55 []))∧(¬n=24→ad (R.int .i32 (0)) (I.ak 51 []))))))∧(¬11≤n→(17≤n→(n≤21→(-9223372036854775808≤n-12∧n-12≤9223372036854775807)∧(-2147483648≤n-12∧n-12≤2147483647)∧(-2147483648≤21+(n-12)∧21+(n-12)≤2147483647)∧ad (R.int .i32 (21+(n-12))) (I.ak 48 []))∧(¬n≤21→(n=23→(-9223372036854775808≤n-13∧n-13≤9223372036854775807)∧(-2147483648≤n-13∧n-13≤2147483647)∧(-2147483648≤21+(n-13)∧21+(n-13)≤2147483647)∧ad (R.int .i32 (21+(n-13))) (I.ak 55 []))∧(¬n=23→(n=24→(-9223372036854775808≤n-13∧n-13≤9223372036854775807)∧(-2147483648≤n-13∧n-13≤2147483647)∧(-2147483648≤21+(n-13)∧21+(n-13)≤2147483647)∧ad (R.int .i32 (21+(n-13))) (I.ak 55 []))∧(¬n=24→ad (R.int .i32 (0)) (I.ak 51 [])))))∧(¬17≤n→(n=23→(-9223372036854775808≤n-13∧n-13≤9223372036854775807)∧(-2147483648≤n-13∧n-13≤2147483647)∧(-2147483648≤21+(n-13)∧21+(n-13)≤2147483647)∧ad (R.int .i32 (21+(n-13))) (I.ak 55 []))∧(¬n=23→(n=24→(-9223372036854775808≤n-13∧n-13≤9223372036854775807)∧(-2147483648≤n-13∧n-13≤2147483647)∧(-2147483648≤21+(n-13)∧21+(n-13)≤2147483647)∧ad (R.int .i32 (21+(n-13))) (I.ak 55 []))∧(¬n=24→ad (R.int .i32 (0)) (I.ak 51 [])))))))))))))) :
 bW 72 [.int .i64 n] (⟨0,.nil⟩) ad :=
 bZ cl (.aO 1001 .nil (.aO 1004 .nil (.aO 3001 .nil (.aO 3004 .nil (.aO 5001 (.ao (.go 6001) (.ao (.go 6002) (.ao (.go 6003) .nil))) (.aO 5004 (.ao (.go 6001) (.ao (.go 6002) (.ao (.go 6003) .nil))) (.aO 7001 (.ao (.go 8001) (.ao (.go 8002) (.ao (.go 8003) .nil))) (.aO 7004 (.ao (.go 8001) (.ao (.go 8002) (.ao (.go 8003) .nil))) (.aO 9001 (.aO 9004 (.ao (.go 10001) (.ao (.go 10002) (.ao (.go 10003) .nil))) (.aO 11001 (.aO 11004 (.ao (.go 12001) (.ao (.go 12002) (.ao (.go 12003) .nil))) (.aO 13001 (.ao (.go 14001) (.ao (.go 14002) (.ao (.go 14003) .nil))) (.aO 13004 (.ao (.go 14001) (.ao (.go 14002) (.ao (.go 14003) .nil))) .nil))) (.aO 13001 (.ao (.go 14001) (.ao (.go 14002) (.ao (.go 14003) .nil))) (.aO 13004 (.ao (.go 14001) (.ao (.go 14002) (.ao (.go 14003) .nil))) .nil)))) (.aO 11001 (.aO 11004 (.ao (.go 12001) (.ao (.go 12002) (.ao (.go 12003) .nil))) (.aO 13001 (.ao (.go 14001) (.ao (.go 14002) (.ao (.go 14003) .nil))) (.aO 13004 (.ao (.go 14001) (.ao (.go 14002) (.ao (.go 14003) .nil))) .nil))) (.aO 13001 (.ao (.go 14001) (.ao (.go 14002) (.ao (.go 14003) .nil))) (.aO 13004 (.ao (.go 14001) (.ao (.go 14002) (.ao (.go 14003) .nil))) .nil)))))))))))) aP
def kd(n:Int):Int :=
 if n=1∨n=7 then 9 else if n=4∨n=8 then 10 else if n=2∨n=3 then 11+(n-2)else if n=5∨n=6 then 13+(n-5)
 else if 11≤n∧n≤15 then 21+(n-11)else if 17≤n∧n≤21 then 21+(n-12)else if n=23∨n=24 then 21+(n-13)else 0
set_option maxHeartbeats 4000000 in
theorem Hw(n:Int)(H:I):bE 72 [.int .i64 n] H (.int .i32 (kd n)) H:=by
 refine bn.cL (Hv n (fun v _=>v=.int .i32 (kd n)) ?_) rfl rfl H
 repeat' (first|apply And.intro|intro _)
 all_goals first
  |omega
  |(refine congrArg (R.int .i32) ?_;unfold kd;repeat' split)
 all_goals omega
theorem Hx(r:Int)(ad:bT)(aP:(32≤r→(r=127→ad (R.bool false) (I.ak 20 []))∧(¬r=127→(r≤1114111→(r<55296→ad (R.bool true) (I.ak 20 []))∧(¬r<55296→(57343<r→ad (R.bool true) (I.ak 20 []))∧(¬57343<r→ad (R.bool false) (I.ak 20 []))))∧(¬r≤1114111→ad (R.bool false) (I.ak 20 []))))∧(¬32≤r→ad (R.bool false) (I.ak 20 []))) :
 bW 41 [.int .i32 r] (⟨0,.nil⟩) ad :=
 bZ cl (.aO 1001 (.aO 1004 .nil (.aO 1008 (.aO 1012 .nil (.aO 1015 .nil .nil)) .nil)) .nil) aP
theorem xY(r:Int)(H:I):bE 41 [.int .i32 r] H (.bool (shown r)) H:=by
 refine bn.cL (Hx r (fun v _=>v=.bool (shown r)) ?_) rfl rfl H
 repeat' (first|apply And.intro|intro _)
 all_goals (refine congrArg R.bool ?_;simp [shown];try omega)
def cc(e:b1):R:= .agg [.int .i8 e.kind,.int .i32 e.code,.int .u8 e.dH,.int .i64 e.x,.int .i64 e.y,.str e.text]
theorem Hy(c:Int)(ad:bT)(aP:(c=13→ad (R.agg [R.int .i8 (2),R.int .i32 (1),R.int .u8 (0),R.int .i64 (0),R.int .i64 (0),R.str []]) (I.ak 6 [(0,(ai.aq ([R.agg [R.int .i8 (2),R.int .i32 (1),R.int .u8 (0),R.int .i64 (0),R.int .i64 (0),R.str []]]) 6 true (some (42,6))))]))∧(¬c=13→(c=9→ad (R.agg [R.int .i8 (2),R.int .i32 (2),R.int .u8 (0),R.int .i64 (0),R.int .i64 (0),R.str []]) (I.ak 8 [(0,(ai.aq ([R.agg [R.int .i8 (2),R.int .i32 (2),R.int .u8 (0),R.int .i64 (0),R.int .i64 (0),R.str []]]) 6 true (some (42,6))))]))∧(¬c=9→(c=127→ad (R.agg [R.int .i8 (2),R.int .i32 (3),R.int .u8 (0),R.int .i64 (0),R.int .i64 (0),R.str []]) (I.ak 10 [(0,(ai.aq ([R.agg [R.int .i8 (2),R.int .i32 (3),R.int .u8 (0),R.int .i64 (0),R.int .i64 (0),R.str []]]) 6 true (some (42,6))))]))∧(¬c=127→(c=0→ad (R.agg [R.int .i8 (1),R.int .i32 (32),R.int .u8 (4),R.int .i64 (0),R.int .i64 (0),R.str []]) (I.ak 12 [(0,(ai.aq ([R.agg [R.int .i8 (1),R.int .i32 (32),R.int .u8 (4),R.int .i64 (0),R.int .i64 (0),R.str []]]) 6 true (some (42,6))))]))∧(¬c=0→(c<27→(-2147483648≤c∧c≤2147483647)∧True∧ad (R.agg [R.int .i8 (1),R.int .i32 (bR .i32 c (96)),R.int .u8 (4),R.int .i64 (0),R.int .i64 (0),R.str []]) (I.ak 17 [(0,(ai.aq ([R.agg [R.int .i8 (1),R.int .i32 (bR .i32 c (96)),R.int .u8 (4),R.int .i64 (0),R.int .i64 (0),R.str []]]) 6 true (some (42,6))))]))∧(¬c<27→(-2147483648≤c∧c≤2147483647)∧True∧ad (R.agg [R.int .i8 (1),R.int .i32 (bR .i32 c (64)),R.int .u8 (4),R.int .i64 (0),R.int .i64 (0),R.str []]) (I.ak 17 [(0,(ai.aq ([R.agg [R.int .i8 (1),R.int .i32 (bR .i32 c (64)),R.int .u8 (4),R.int .i64 (0),R.int .i64 (0),R.str []]]) 6 true (some (42,6))))]))))))) :
 bW 89 [.int .u8 c] (⟨0,.nil⟩) ad :=
 bZ cl (.aO 2000 .nil (.aO 4000 .nil (.aO 6000 .nil (.aO 8000 .nil (.aO 10001 (.ao (.go 11001) (.ao (.go 11002) .nil)) (.ao (.go 12001) (.ao (.go 12002) .nil))))))) aP
theorem Hz:∀n:Fin 27,0<n.val→bR .i32 (n.val:Int) 96=n.val+96:=by decide+kernel
theorem HA:∀n:Fin 32,26<n.val→bR .i32 (n.val:Int) 64=n.val+64:=by decide+kernel
theorem HB(c:Int)(al:0≤c∧(c<32∨c=127))(Ni:c≠27)(H:I):bE 89 [.int .u8 c] H (cc (control c.toNat)) H:=by
 refine bn.cL (Hy c (fun v _=>v=cc (control c.toNat)) ?_) rfl rfl H;obtain⟨n,rfl⟩:=Int.eq_ofNat_of_zero_le al.1
 repeat' (first|apply And.intro|intro _)
 all_goals first
  |omega
  |exact trivial
  |skip
 all_goals simp only [Int.toNat_natCast]
 all_goals unfold Go.Keys.control
 all_goals repeat' split
 all_goals first
  |(exfalso;omega)
  |rfl
  |(have:=Hz ⟨n,J⟩ (by simp;omega);simp only at this;rw [this];rfl)
  |(have:=HA ⟨n,J⟩ (by simp;omega);simp only at this;rw [this];rfl)
theorem HC(b:Int):(et b).1=0∨(et b).1=1∨(et b).1=2∨(et b).1=3∨(et b).1=4:=by
 unfold et
 repeat' split
 all_goals simp
def xZ:List R→I→Option iH:=fun a h =>
 match a with
 |[.int .u8 b]=>some (.or ((et b).1=0) (.one (.tuple [.int .i64 0,.int .u8 (et b).2.1,.int .u8 (et b).2.2]) h []) (.or ((et b).1=1) (.one (.tuple [.int .i64 1,.int .u8 (et b).2.1,.int .u8 (et b).2.2]) h [])
  (.or ((et b).1=2) (.one (.tuple [.int .i64 2,.int .u8 (et b).2.1,.int .u8 (et b).2.2]) h []) (.or ((et b).1=3) (.one (.tuple [.int .i64 3,.int .u8 (et b).2.1,.int .u8 (et b).2.2]) h []) (.one (.tuple [.int .i64 4,.int .u8 (et b).2.1,.int .u8 (et b).2.2]) h [])))))
 |_=>none
theorem HD:∀args h a,xZ args h=some a→a.dM Tryz.prog hK 99 args h:=by
 intro args h a e;unfold xZ at e;split at e<;>first|(cases e;done)|skip
 rename_i b;simp only [Option.some.injEq]at e;subst e;have go:∀n,(et b).1=n→bE 99 [.int .u8 b] h (.tuple [.int .i64 n,.int .u8 (et b).2.1,.int .u8 (et b).2.2]) h:=fun n aI=>by rw [←aI];exact BI b h
 exact⟨fun e _=>go _ e,fun au=>⟨fun e _=>go _ e,fun dU=>⟨fun e _=>go _ e,fun dn=>⟨fun e _=>go _ e,fun i' _=>go _ (by have:=HC b;omega)⟩⟩⟩⟩
def HE:kY:=((((Bo.add 99 xZ).add 71 (pS fun a=>match a with | [.int .u8 b]=>some (.int .i32 (nn b),[])|_=>none)).add
 72 (pS fun a=>match a with | [.int .i64 b]=>some (.int .i32 (kd b),[])|_=>none)).add 41 (pS fun a=>match a with | [.int .i32 b]=>some (.bool (shown b),[])|_=>none)).add
 89 (pS fun a=>match a with | [.int .u8 b]=>some (cc (control b.toNat),[0≤b∧(b<32∨b=127),b≠27])|_=>none)
theorem cP:hg Tryz.prog hK HE:=by
 refine((((cl.add HD).add (tR ?_)).add (tR ?_)).add (tR ?_)).add (tR ?_)
 all_goals
  intro args v ps e ab H;split at e<;>first|(cases e;done)|skip
  simp only [Option.some.injEq,Prod.mk.injEq]at e;obtain⟨rfl,rfl⟩:=e
 ·exact Hu _ H
 ·exact Hw _ H
 ·exact xY _ H
 ·exact HB _ ab.head ab.tail.head H
end Go.Proofs.YtddnafghiejcoaaGreatDoor
namespace Go.bh
theorem HF:∀n:Fin 256,bB .i32 (n.val:Int) 31=(n.val%32:Nat):=by decide+kernel
theorem HG:∀n:Fin 256,bB .i32 (n.val:Int) 15=(n.val%16:Nat):=by decide+kernel
theorem HH:∀n:Fin 256,bB .i32 (n.val:Int) 7=(n.val%8:Nat):=by decide+kernel
theorem HI:∀n:Fin 256,bB .u8 (n.val:Int) 63=(n.val%64:Nat):=by decide+kernel
theorem HJ(b:UInt8):bB .i32 (b.toNat:Int) 31=(b.toNat%32:Nat):=HF ⟨b.toNat,b.toNat_lt⟩
theorem HK(b:UInt8):bB .i32 (b.toNat:Int) 15=(b.toNat%16:Nat):=HG ⟨b.toNat,b.toNat_lt⟩
theorem HL(b:UInt8):bB .i32 (b.toNat:Int) 7=(b.toNat%8:Nat):=HH ⟨b.toNat,b.toNat_lt⟩
theorem oN(b:UInt8):bB .u8 (b.toNat:Int) 63=(b.toNat%64:Nat):=HI ⟨b.toNat,b.toNat_lt⟩
theorem pU(a:Nat)(h:a<33554432):h7 .i32 (a:Int) 6=(a*64:Nat):=by unfold h7;rw [show min (Int.toNat 6) (IntKind.bits .i32)=6 by decide];rw [show((a:Int)*2^6)=(a*64:Nat)by push_cast;rfl];exact l4 (k:= .i32) (by simp only [de];omega)
theorem pV(a x:Nat)(h:a<16777216)(ac:x<64):bR .i32 ((a*64:Nat):Int) (x:Int)=(a*64+x:Nat):=by
 unfold bR
 have e:(BitVec.ofInt (IntKind.bits .i32) ((a*64:Nat):Int) ||| BitVec.ofInt (IntKind.bits .i32) (x:Int)).toNat=a*64+x:=by rw [show IntKind.bits .i32=32 by rfl,BitVec.ofInt_natCast,BitVec.ofInt_natCast,BitVec.toNat_or,BitVec.toNat_ofNat,BitVec.toNat_ofNat,Nat.mod_eq_of_lt J,Nat.mod_eq_of_lt J];rw [show a*64=2^6*a by omega,←Nat.two_pow_add_eq_or_of_lt J a]
 rw [e];exact l4 (k:= .i32) (by simp only [de];omega)
end Go.bh
namespace Go.Proofs.YtddnafghiejcoaaGreatDoor
open Go.bh Go.Keys
set_option maxRecDepth 1000000
def HM(x:Nat×Nat×Nat):Int×Int×Int:=((x.1:Int),(x.2.1:Int),(x.2.2:Int))
theorem HN(n:Nat):et (n:Int)=HM (lead n):=by
 have e1:((n:Int)<128)=(n<128):=propext J;have a2:(194≤(n:Int)∧(n:Int)≤223)=(194≤n∧n≤223):=propext J;have a3:((n:Int)=224)=(n=224):=propext J;have a4:((n:Int)=237)=(n=237):=propext J;have a5:(225≤(n:Int)∧(n:Int)≤239)=(225≤n∧n≤239):=propext J;have xD:((n:Int)=240)=(n=240):=propext J;have HO:(241≤(n:Int)∧(n:Int)≤243)=(241≤n∧n≤243):=propext J;have HP:((n:Int)=244)=(n=244):=propext J;unfold et lead;simp only [e1,a2,a3,a4,a5,xD,HO,HP];by_cases db:n<128
 ·simp only [if_pos db];rfl
 by_cases c2:194≤n∧n≤223
 ·simp only [if_neg db,if_pos c2];rfl
 by_cases c3:n=224
 ·simp only [if_neg db,if_neg c2,if_pos c3];rfl
 by_cases c4:n=237
 ·simp only [if_neg db,if_neg c2,if_neg c3,if_pos c4];rfl
 by_cases c5:225≤n∧n≤239
 ·simp only [if_neg db,if_neg c2,if_neg c3,if_neg c4,if_pos c5];rfl
 by_cases j6:n=240
 ·simp only [if_neg db,if_neg c2,if_neg c3,if_neg c4,if_neg c5,if_pos j6];rfl
 by_cases lT:241≤n∧n≤243
 ·simp only [if_neg db,if_neg c2,if_neg c3,if_neg c4,if_neg c5,if_neg j6,if_pos lT];rfl
 by_cases kT:n=244
 ·simp only [if_neg db,if_neg c2,if_neg c3,if_neg c4,if_neg c5,if_neg j6,if_neg lT,if_pos kT];rfl
 ·simp only [if_neg db,if_neg c2,if_neg c3,if_neg c4,if_neg c5,if_neg j6,if_neg lT,if_neg kT];rfl
theorem HQ(n:Nat):et (n:Int)=(((lead n).1:Int),((lead n).2.1:Int),((lead n).2.2:Int)):=HN n
theorem HR(n:Nat):(lead n).1=0∨(lead n).1=1∨(lead n).1=2∨(lead n).1=3∨(lead n).1=4:=by
 unfold lead
 repeat' split
 all_goals simp
theorem k2(b:UInt8): -2147483648≤(b.toNat:Int)∧(b.toNat:Int)≤2147483647:=by have:=b.toNat_lt;omega
theorem k3(b:UInt8): -2147483648≤bB .u8 (b.toNat:Int) 63∧bB .u8 (b.toNat:Int) 63≤2147483647:=by rw [oN];omega
theorem l9(b:UInt8)(r:Bytes)(n:Nat)(h:(lead b.toNat).1=n+2):first (b::r)=tail (n+1) 1 (lead b.toNat).2.1 (lead b.toNat).2.2 (b.toNat%2^(7- (n+2))) r:=by simp only [first,h];rw [if_neg J,if_neg J];rfl
theorem jI:Int.NonNeg (6-0):=(show(0:Int)≤6 by decide)
end Go.Proofs.YtddnafghiejcoaaGreatDoor
namespace Go.Keys
theorem tX(r:Nat):1≤(put r).length:=by
 unfold put;simp only
 repeat' split
 all_goals simp
end Go.Keys
namespace Go.Keys
end Go.Keys
namespace Go.Proofs.YtddnafghiejcoaaGreatDoor
open Go.bh Go.Keys
set_option maxRecDepth 1000000
theorem HS(ad:bT)(aP:ad (.tuple [.int .i32 0,.int .i64 0]) (I.ak 7 [(0,ai.aq [.str []] 1 true (some (9,1)))])) :
 bW 54 [.str []] (⟨0,.nil⟩) ad :=
 bZ cP (.nil) aP
theorem HT(aw:UInt8)(r:Bytes)(aE ag:Int)(ad:bT)(aP:bu 99 [.int .u8 (↑(UInt8.toNat aw):Int)] (I.ak 36 [(0,ai.aq [.str (aw::r)] 1 true (some (9,1)))]) (.tuple [.int .i64 0,.int .u8 aE,.int .u8 ag]) (I.ak 36 [(0,ai.aq [.str (aw::r)] 1 true (some (9,1)))])∧ad (.tuple [.int .i32 65533,.int .i64 1]) (I.ak 45 [(0,ai.aq [.str (aw::r)] 1 true (some (9,1)))])) :
 bW 54 [.str (aw::r)] (⟨0,.nil⟩) ad :=
 bZ cP (he 3003 (he 1001 (.ao (.val 2001 (.tuple [.int .i64 0,.int .u8 aE,.int .u8 ag])) .nil))) aP
theorem HU(aw:UInt8)(r:Bytes)(aE ag:Int)(ad:bT)(aP:bu 99 [.int .u8 (↑(UInt8.toNat aw):Int)] (I.ak 36 [(0,ai.aq [.str (aw::r)] 1 true (some (9,1)))]) (.tuple [.int .i64 1,.int .u8 aE,.int .u8 ag]) (I.ak 36 [(0,ai.aq [.str (aw::r)] 1 true (some (9,1)))])∧(-2147483648≤(↑(UInt8.toNat aw):Int)∧(↑(UInt8.toNat aw):Int)≤2147483647)∧ad (.tuple [.int .i32 (↑(UInt8.toNat aw):Int),.int .i64 1]) (I.ak 49 [(0,ai.aq [.str (aw::r)] 1 true (some (9,1)))])) :
 bW 54 [.str (aw::r)] (⟨0,.nil⟩) ad :=
 bZ cP (he 3003 (he 1001 (.ao (.val 2001 (.tuple [.int .i64 1,.int .u8 aE,.int .u8 ag])) (ah 6001 .nil)))) aP
theorem HV(aw:UInt8)(aE ag:Int)(ad:bT)(aP:bu 99 [.int .u8 (↑(UInt8.toNat aw):Int)] (I.ak 36 [(0,ai.aq [.str [aw]] 1 true (some (9,1)))]) (.tuple [.int .i64 2,.int .u8 aE,.int .u8 ag]) (I.ak 36 [(0,ai.aq [.str [aw]] 1 true (some (9,1)))])∧(-2147483648≤(↑(UInt8.toNat aw):Int)∧(↑(UInt8.toNat aw):Int)≤2147483647)∧True∧ad (.tuple [.int .i32 65533,.int .i64 1]) (I.ak 61 [(0,ai.aq [.str [aw]] 1 true (some (9,1)))])) :
 bW 54 [.str ([aw])] (⟨0,.nil⟩) ad :=
 bZ cP (he 3003 (he 1001 (.ao (.val 2001 (.tuple [.int .i64 2,.int .u8 aE,.int .u8 ag])) (ah 7001 (ah 7004 (.ao (.rounds 300) .nil)))))) aP
theorem HW(aw aJ:UInt8)(r:Bytes)(aE ag:Int)(ad:bT)(aP:bu 99 [.int .u8 (↑(UInt8.toNat aw):Int)] (I.ak 36 [(0,ai.aq [.str (aw::aJ::r)] 1 true (some (9,1)))]) (.tuple [.int .i64 2,.int .u8 aE,.int .u8 ag]) (I.ak 36 [(0,ai.aq [.str (aw::aJ::r)] 1 true (some (9,1)))])∧(-2147483648≤(↑(UInt8.toNat aw):Int)∧(↑(UInt8.toNat aw):Int)≤2147483647)∧True∧((↑(UInt8.toNat aJ):Int)<aE→ad (.tuple [.int .i32 65533,.int .i64 1]) (I.ak 78 [(0,ai.aq [.str (aw::aJ::r)] 1 true (some (9,1)))]))∧(¬(↑(UInt8.toNat aJ):Int)<aE→(ag<(↑(UInt8.toNat aJ):Int)→ad (.tuple [.int .i32 65533,.int .i64 1]) (I.ak 78 [(0,ai.aq [.str (aw::aJ::r)] 1 true (some (9,1)))]))∧(¬ag<(↑(UInt8.toNat aJ):Int)→Int.NonNeg (6-0)∧True∧(-2147483648≤bB .u8 (↑(UInt8.toNat aJ):Int) (63)∧bB .u8 (↑(UInt8.toNat aJ):Int) (63)≤2147483647)∧True∧ad (.tuple [.int .i32 (bR .i32 (h7 .i32 (bB .i32 (↑(UInt8.toNat aw):Int) (31)) (6)) (bB .u8 (↑(UInt8.toNat aJ):Int) (63))),.int .i64 2]) (I.ak 94 [(0,ai.aq [.str (aw::aJ::r)] 1 true (some (9,1)))])))) :
 bW 54 [.str (aw::aJ::r)] (⟨0,.nil⟩) ad :=
 bZ cP (he 3003 (he 1001 (.ao (.val 2001 (.tuple [.int .i64 2,.int .u8 aE,.int .u8 ag])) (ah 7001 (ah 7004 (.ao (.rounds 300) (he 13002 (.aO 14002 .nil (.aO 14006 .nil (ah 17001 (ah 17003 (ah 17004 (ah 17005 .nil))))))))))))) aP
theorem HX(aw:UInt8)(aE ag:Int)(ad:bT)(aP:bu 99 [.int .u8 (↑(UInt8.toNat aw):Int)] (I.ak 36 [(0,ai.aq [.str [aw]] 1 true (some (9,1)))]) (.tuple [.int .i64 3,.int .u8 aE,.int .u8 ag]) (I.ak 36 [(0,ai.aq [.str [aw]] 1 true (some (9,1)))])∧(-2147483648≤(↑(UInt8.toNat aw):Int)∧(↑(UInt8.toNat aw):Int)≤2147483647)∧True∧ad (.tuple [.int .i32 65533,.int .i64 1]) (I.ak 61 [(0,ai.aq [.str [aw]] 1 true (some (9,1)))])) :
 bW 54 [.str ([aw])] (⟨0,.nil⟩) ad :=
 bZ cP (he 3003 (he 1001 (.ao (.val 2001 (.tuple [.int .i64 3,.int .u8 aE,.int .u8 ag])) (ah 7001 (ah 7004 (.ao (.rounds 300) .nil)))))) aP
theorem HY(aw aJ:UInt8)(aE ag:Int)(ad:bT)(aP:bu 99 [.int .u8 (↑(UInt8.toNat aw):Int)] (I.ak 36 [(0,ai.aq [.str [aw,aJ]] 1 true (some (9,1)))]) (.tuple [.int .i64 3,.int .u8 aE,.int .u8 ag]) (I.ak 36 [(0,ai.aq [.str [aw,aJ]] 1 true (some (9,1)))])∧(-2147483648≤(↑(UInt8.toNat aw):Int)∧(↑(UInt8.toNat aw):Int)≤2147483647)∧True∧((↑(UInt8.toNat aJ):Int)<aE→ad (.tuple [.int .i32 65533,.int .i64 1]) (I.ak 78 [(0,ai.aq [.str [aw,aJ]] 1 true (some (9,1)))]))∧(¬(↑(UInt8.toNat aJ):Int)<aE→(ag<(↑(UInt8.toNat aJ):Int)→ad (.tuple [.int .i32 65533,.int .i64 1]) (I.ak 78 [(0,ai.aq [.str [aw,aJ]] 1 true (some (9,1)))]))∧(¬ag<(↑(UInt8.toNat aJ):Int)→Int.NonNeg (6-0)∧True∧(-2147483648≤bB .u8 (↑(UInt8.toNat aJ):Int) (63)∧bB .u8 (↑(UInt8.toNat aJ):Int) (63)≤2147483647)∧True∧ad (.tuple [.int .i32 65533,.int .i64 2]) (I.ak 96 [(0,ai.aq [.str [aw,aJ]] 1 true (some (9,1)))])))) :
 bW 54 [.str ([aw,aJ])] (⟨0,.nil⟩) ad :=
 bZ cP (he 3003 (he 1001 (.ao (.val 2001 (.tuple [.int .i64 3,.int .u8 aE,.int .u8 ag])) (ah 7001 (ah 7004 (.ao (.rounds 300) (he 13002 (.aO 14002 .nil (.aO 14006 .nil (ah 17001 (ah 17003 (ah 17004 (ah 17005 .nil))))))))))))) aP
theorem HZ(aw aJ bl:UInt8)(r:Bytes)(aE ag:Int)(ad:bT)(aP:bu 99 [.int .u8 (↑(UInt8.toNat aw):Int)] (I.ak 36 [(0,ai.aq [.str (aw::aJ::bl::r)] 1 true (some (9,1)))]) (.tuple [.int .i64 3,.int .u8 aE,.int .u8 ag]) (I.ak 36 [(0,ai.aq [.str (aw::aJ::bl::r)] 1 true (some (9,1)))])∧(-2147483648≤(↑(UInt8.toNat aw):Int)∧(↑(UInt8.toNat aw):Int)≤2147483647)∧True∧((↑(UInt8.toNat aJ):Int)<aE→ad (.tuple [.int .i32 65533,.int .i64 1]) (I.ak 78 [(0,ai.aq [.str (aw::aJ::bl::r)] 1 true (some (9,1)))]))∧(¬(↑(UInt8.toNat aJ):Int)<aE→(ag<(↑(UInt8.toNat aJ):Int)→ad (.tuple [.int .i32 65533,.int .i64 1]) (I.ak 78 [(0,ai.aq [.str (aw::aJ::bl::r)] 1 true (some (9,1)))]))∧(¬ag<(↑(UInt8.toNat aJ):Int)→Int.NonNeg (6-0)∧True∧(-2147483648≤bB .u8 (↑(UInt8.toNat aJ):Int) (63)∧bB .u8 (↑(UInt8.toNat aJ):Int) (63)≤2147483647)∧True∧((↑(UInt8.toNat bl):Int)<128→ad (.tuple [.int .i32 65533,.int .i64 2]) (I.ak 113 [(0,ai.aq [.str (aw::aJ::bl::r)] 1 true (some (9,1)))]))∧(¬(↑(UInt8.toNat bl):Int)<128→(191<(↑(UInt8.toNat bl):Int)→ad (.tuple [.int .i32 65533,.int .i64 2]) (I.ak 113 [(0,ai.aq [.str (aw::aJ::bl::r)] 1 true (some (9,1)))]))∧(¬191<(↑(UInt8.toNat bl):Int)→Int.NonNeg (6-0)∧True∧(-2147483648≤bB .u8 (↑(UInt8.toNat bl):Int) (63)∧bB .u8 (↑(UInt8.toNat bl):Int) (63)≤2147483647)∧True∧ad (.tuple [.int .i32 (bR .i32 (h7 .i32 (bR .i32 (h7 .i32 (bB .i32 (↑(UInt8.toNat aw):Int) (15)) (6)) (bB .u8 (↑(UInt8.toNat aJ):Int) (63))) (6)) (bB .u8 (↑(UInt8.toNat bl):Int) (63))),.int .i64 3]) (I.ak 129 [(0,ai.aq [.str (aw::aJ::bl::r)] 1 true (some (9,1)))])))))) :
 bW 54 [.str (aw::aJ::bl::r)] (⟨0,.nil⟩) ad :=
 bZ cP (he 3003 (he 1001 (.ao (.val 2001 (.tuple [.int .i64 3,.int .u8 aE,.int .u8 ag])) (ah 7001 (ah 7004 (.ao (.rounds 300) (he 13002 (.aO 14002 .nil (.aO 14006 .nil (ah 17001 (ah 17003 (ah 17004 (ah 17005 (he 13002 (.aO 14002 .nil (.aO 14006 .nil (ah 17001 (ah 17003 (ah 17004 (ah 17005 .nil)))))))))))))))))))) aP
theorem H0(aw:UInt8)(aE ag:Int)(ad:bT)(aP:bu 99 [.int .u8 (↑(UInt8.toNat aw):Int)] (I.ak 36 [(0,ai.aq [.str [aw]] 1 true (some (9,1)))]) (.tuple [.int .i64 4,.int .u8 aE,.int .u8 ag]) (I.ak 36 [(0,ai.aq [.str [aw]] 1 true (some (9,1)))])∧(-2147483648≤(↑(UInt8.toNat aw):Int)∧(↑(UInt8.toNat aw):Int)≤2147483647)∧True∧ad (.tuple [.int .i32 65533,.int .i64 1]) (I.ak 61 [(0,ai.aq [.str [aw]] 1 true (some (9,1)))])) :
 bW 54 [.str ([aw])] (⟨0,.nil⟩) ad :=
 bZ cP (he 3003 (he 1001 (.ao (.val 2001 (.tuple [.int .i64 4,.int .u8 aE,.int .u8 ag])) (ah 7001 (ah 7004 (.ao (.rounds 300) .nil)))))) aP
theorem H3(aw aJ:UInt8)(aE ag:Int)(ad:bT)(aP:bu 99 [.int .u8 (↑(UInt8.toNat aw):Int)] (I.ak 36 [(0,ai.aq [.str [aw,aJ]] 1 true (some (9,1)))]) (.tuple [.int .i64 4,.int .u8 aE,.int .u8 ag]) (I.ak 36 [(0,ai.aq [.str [aw,aJ]] 1 true (some (9,1)))])∧(-2147483648≤(↑(UInt8.toNat aw):Int)∧(↑(UInt8.toNat aw):Int)≤2147483647)∧True∧((↑(UInt8.toNat aJ):Int)<aE→ad (.tuple [.int .i32 65533,.int .i64 1]) (I.ak 78 [(0,ai.aq [.str [aw,aJ]] 1 true (some (9,1)))]))∧(¬(↑(UInt8.toNat aJ):Int)<aE→(ag<(↑(UInt8.toNat aJ):Int)→ad (.tuple [.int .i32 65533,.int .i64 1]) (I.ak 78 [(0,ai.aq [.str [aw,aJ]] 1 true (some (9,1)))]))∧(¬ag<(↑(UInt8.toNat aJ):Int)→Int.NonNeg (6-0)∧True∧(-2147483648≤bB .u8 (↑(UInt8.toNat aJ):Int) (63)∧bB .u8 (↑(UInt8.toNat aJ):Int) (63)≤2147483647)∧True∧ad (.tuple [.int .i32 65533,.int .i64 2]) (I.ak 96 [(0,ai.aq [.str [aw,aJ]] 1 true (some (9,1)))])))) :
 bW 54 [.str ([aw,aJ])] (⟨0,.nil⟩) ad :=
 bZ cP (he 3003 (he 1001 (.ao (.val 2001 (.tuple [.int .i64 4,.int .u8 aE,.int .u8 ag])) (ah 7001 (ah 7004 (.ao (.rounds 300) (he 13002 (.aO 14002 .nil (.aO 14006 .nil (ah 17001 (ah 17003 (ah 17004 (ah 17005 .nil))))))))))))) aP
theorem H4(aw aJ bl:UInt8)(aE ag:Int)(ad:bT)(aP:bu 99 [.int .u8 (↑(UInt8.toNat aw):Int)] (I.ak 36 [(0,ai.aq [.str [aw,aJ,bl]] 1 true (some (9,1)))]) (.tuple [.int .i64 4,.int .u8 aE,.int .u8 ag]) (I.ak 36 [(0,ai.aq [.str [aw,aJ,bl]] 1 true (some (9,1)))])∧(-2147483648≤(↑(UInt8.toNat aw):Int)∧(↑(UInt8.toNat aw):Int)≤2147483647)∧True∧((↑(UInt8.toNat aJ):Int)<aE→ad (.tuple [.int .i32 65533,.int .i64 1]) (I.ak 78 [(0,ai.aq [.str [aw,aJ,bl]] 1 true (some (9,1)))]))∧(¬(↑(UInt8.toNat aJ):Int)<aE→(ag<(↑(UInt8.toNat aJ):Int)→ad (.tuple [.int .i32 65533,.int .i64 1]) (I.ak 78 [(0,ai.aq [.str [aw,aJ,bl]] 1 true (some (9,1)))]))∧(¬ag<(↑(UInt8.toNat aJ):Int)→Int.NonNeg (6-0)∧True∧(-2147483648≤bB .u8 (↑(UInt8.toNat aJ):Int) (63)∧bB .u8 (↑(UInt8.toNat aJ):Int) (63)≤2147483647)∧True∧((↑(UInt8.toNat bl):Int)<128→ad (.tuple [.int .i32 65533,.int .i64 2]) (I.ak 113 [(0,ai.aq [.str [aw,aJ,bl]] 1 true (some (9,1)))]))∧(¬(↑(UInt8.toNat bl):Int)<128→(191<(↑(UInt8.toNat bl):Int)→ad (.tuple [.int .i32 65533,.int .i64 2]) (I.ak 113 [(0,ai.aq [.str [aw,aJ,bl]] 1 true (some (9,1)))]))∧(¬191<(↑(UInt8.toNat bl):Int)→Int.NonNeg (6-0)∧True∧(-2147483648≤bB .u8 (↑(UInt8.toNat bl):Int) (63)∧bB .u8 (↑(UInt8.toNat bl):Int) (63)≤2147483647)∧True∧ad (.tuple [.int .i32 65533,.int .i64 3]) (I.ak 131 [(0,ai.aq [.str [aw,aJ,bl]] 1 true (some (9,1)))])))))) :
 bW 54 [.str ([aw,aJ,bl])] (⟨0,.nil⟩) ad :=
 bZ cP (he 3003 (he 1001 (.ao (.val 2001 (.tuple [.int .i64 4,.int .u8 aE,.int .u8 ag])) (ah 7001 (ah 7004 (.ao (.rounds 300) (he 13002 (.aO 14002 .nil (.aO 14006 .nil (ah 17001 (ah 17003 (ah 17004 (ah 17005 (he 13002 (.aO 14002 .nil (.aO 14006 .nil (ah 17001 (ah 17003 (ah 17004 (ah 17005 .nil)))))))))))))))))))) aP
theorem H5(aw aJ bl cZ:UInt8)(r:Bytes)(aE ag:Int)(ad:bT)(aP:bu 99 [.int .u8 (↑(UInt8.toNat aw):Int)] (I.ak 36 [(0,ai.aq [.str (aw::aJ::bl::cZ::r)] 1 true (some (9,1)))]) (.tuple [.int .i64 4,.int .u8 aE,.int .u8 ag]) (I.ak 36 [(0,ai.aq [.str (aw::aJ::bl::cZ::r)] 1 true (some (9,1)))])∧(-2147483648≤(↑(UInt8.toNat aw):Int)∧(↑(UInt8.toNat aw):Int)≤2147483647)∧True∧((↑(UInt8.toNat aJ):Int)<aE→ad (.tuple [.int .i32 65533,.int .i64 1]) (I.ak 78 [(0,ai.aq [.str (aw::aJ::bl::cZ::r)] 1 true (some (9,1)))]))∧(¬(↑(UInt8.toNat aJ):Int)<aE→(ag<(↑(UInt8.toNat aJ):Int)→ad (.tuple [.int .i32 65533,.int .i64 1]) (I.ak 78 [(0,ai.aq [.str (aw::aJ::bl::cZ::r)] 1 true (some (9,1)))]))∧(¬ag<(↑(UInt8.toNat aJ):Int)→Int.NonNeg (6-0)∧True∧(-2147483648≤bB .u8 (↑(UInt8.toNat aJ):Int) (63)∧bB .u8 (↑(UInt8.toNat aJ):Int) (63)≤2147483647)∧True∧((↑(UInt8.toNat bl):Int)<128→ad (.tuple [.int .i32 65533,.int .i64 2]) (I.ak 113 [(0,ai.aq [.str (aw::aJ::bl::cZ::r)] 1 true (some (9,1)))]))∧(¬(↑(UInt8.toNat bl):Int)<128→(191<(↑(UInt8.toNat bl):Int)→ad (.tuple [.int .i32 65533,.int .i64 2]) (I.ak 113 [(0,ai.aq [.str (aw::aJ::bl::cZ::r)] 1 true (some (9,1)))]))∧(¬191<(↑(UInt8.toNat bl):Int)→Int.NonNeg (6-0)∧True∧(-2147483648≤bB .u8 (↑(UInt8.toNat bl):Int) (63)∧bB .u8 (↑(UInt8.toNat bl):Int) (63)≤2147483647)∧True∧((↑(UInt8.toNat cZ):Int)<128→ad (.tuple [.int .i32 65533,.int .i64 3]) (I.ak 148 [(0,ai.aq [.str (aw::aJ::bl::cZ::r)] 1 true (some (9,1)))]))∧(¬(↑(UInt8.toNat cZ):Int)<128→(191<(↑(UInt8.toNat cZ):Int)→ad (.tuple [.int .i32 65533,.int .i64 3]) (I.ak 148 [(0,ai.aq [.str (aw::aJ::bl::cZ::r)] 1 true (some (9,1)))]))∧(¬191<(↑(UInt8.toNat cZ):Int)→Int.NonNeg (6-0)∧True∧(-2147483648≤bB .u8 (↑(UInt8.toNat cZ):Int) (63)∧bB .u8 (↑(UInt8.toNat cZ):Int) (63)≤2147483647)∧True∧ad (.tuple [.int .i32 (bR .i32 (h7 .i32 (bR .i32 (h7 .i32 (bR .i32 (h7 .i32 (bB .i32 (↑(UInt8.toNat aw):Int) (7)) (6)) (bB .u8 (↑(UInt8.toNat aJ):Int) (63))) (6)) (bB .u8 (↑(UInt8.toNat bl):Int) (63))) (6)) (bB .u8 (↑(UInt8.toNat cZ):Int) (63))),.int .i64 4]) (I.ak 164 [(0,ai.aq [.str (aw::aJ::bl::cZ::r)] 1 true (some (9,1)))])))))))) :
 bW 54 [.str (aw::aJ::bl::cZ::r)] (⟨0,.nil⟩) ad :=
 bZ cP (he 3003 (he 1001 (.ao (.val 2001 (.tuple [.int .i64 4,.int .u8 aE,.int .u8 ag])) (ah 7001 (ah 7004 (.ao (.rounds 300) (he 13002 (.aO 14002 .nil (.aO 14006 .nil (ah 17001 (ah 17003 (ah 17004 (ah 17005 (he 13002 (.aO 14002 .nil (.aO 14006 .nil (ah 17001 (ah 17003 (ah 17004 (ah 17005 (he 13002 (.aO 14002 .nil (.aO 14006 .nil (ah 17001 (ah 17003 (ah 17004 (ah 17005 .nil))))))))))))))))))))))))))) aP
def e2(s:Bytes):R:= .tuple [.int .i32 ((first s).1:Int),.int .i64 ((first s).2.1:Int)]
theorem eu{s:Bytes}{a k:Nat}{x:Bool}(h:first s=(a,k,x)){bD dS:Int}(aD:bD=a)(ap:dS=k):R.tuple [.int .i32 bD,.int .i64 dS]=e2 s:=by unfold e2;rw [h,aD,ap]
theorem H6(H:I):bE 54 [.str []] H (e2 []) H:=bn.cL (HS (fun v _=>v=e2 []) rfl) rfl rfl H
theorem ke(b:UInt8)(n:Nat)(h:(lead b.toNat).1=n)(H:I):bE 99 [.int .u8 (b.toNat:Int)] H (.tuple [.int .i64 (n:Int),.int .u8 ((lead b.toNat).2.1:Int),.int .u8 ((lead b.toNat).2.2:Int)]) H:=by have k:=BI b.toNat H;simp only [rM,HQ,h]at k;exact k
theorem H7(aw:UInt8)(r:Bytes)(ay:(lead aw.toNat).1=0)(H:I):bE 54 [.str (aw::r)] H (e2 (aw::r)) H:=by refine bn.cL (HT aw r (lead aw.toNat).2.1 (lead aw.toNat).2.2 (fun v _=>v=e2 (aw::r)) ?_) rfl rfl H;exact⟨⟨ke aw 0 ay _⟩,eu (show first (aw::r)=(65533,1,false)by simp [first,ay]) rfl rfl⟩
theorem H8(aw:UInt8)(r:Bytes)(ay:(lead aw.toNat).1=1)(H:I):bE 54 [.str (aw::r)] H (e2 (aw::r)) H:=by refine bn.cL (HU aw r (lead aw.toNat).2.1 (lead aw.toNat).2.2 (fun v _=>v=e2 (aw::r)) ?_) rfl rfl H;exact⟨⟨ke aw 1 ay _⟩,k2 aw,eu (show first (aw::r)=(aw.toNat,1,false)by simp [first,ay]) rfl rfl⟩
theorem H9(aw:UInt8)(ay:(lead aw.toNat).1=2)(H:I):bE 54 [.str (aw:: [])] H (e2 (aw:: [])) H:=by
 refine bn.cL (HV aw (lead aw.toNat).2.1 (lead aw.toNat).2.2 (fun v _=>v=e2 (aw:: [])) ?_) rfl rfl H;have aM:∀r,first (aw::r)=tail 1 1 (lead aw.toNat).2.1 (lead aw.toNat).2.2 (aw.toNat%2^(7-2)) r:=fun r=>l9 aw r 0 ay
 have hi:first (aw:: [])=(65533,1,true):=by rw [aM];rfl
 exact⟨⟨ke aw 2 ay _⟩,k2 aw,trivial,eu hi rfl rfl⟩
theorem H'(aw aJ:UInt8)(r:Bytes)(ay:(lead aw.toNat).1=2)(H:I):bE 54 [.str (aw::aJ::r)] H (e2 (aw::aJ::r)) H:=by
 refine bn.cL (HW aw aJ r (lead aw.toNat).2.1 (lead aw.toNat).2.2 (fun v _=>v=e2 (aw::aJ::r)) ?_) rfl rfl H;have aM:∀r,first (aw::r)=tail 1 1 (lead aw.toNat).2.1 (lead aw.toNat).2.2 (aw.toNat%2^(7-2)) r:=fun r=>l9 aw r 0 ay
 have hj:∀(al:aJ.toNat<(lead aw.toNat).2.1∨(lead aw.toNat).2.2<aJ.toNat),first (aw::aJ::r)=(65533,1,false):=fun al=>by rw [aM];simp only [tail];rw [if_pos al]
 have hi:∀(aa:¬(aJ.toNat<(lead aw.toNat).2.1∨(lead aw.toNat).2.2<aJ.toNat)),first (aw::aJ::r)=((aw.toNat%32)*64+aJ.toNat%64,2,false):=fun aa=>by rw [aM];simp only [tail];rw [if_neg aa]
 have bg:bR .i32 (h7 .i32 (bB .i32 (aw.toNat:Int) 31) 6) (bB .u8 (aJ.toNat:Int) 63)=(((aw.toNat%32)*64+aJ.toNat%64:Nat):Int):=by rw [HJ,oN aJ,pU _ J,pV _ _ J J]
 exact⟨⟨ke aw 2 ay _⟩,k2 aw,trivial,⟨fun e1=>eu (hj J) rfl rfl,fun rN=>⟨fun db=>eu (hj J) rfl rfl,fun d1=>⟨jI,trivial,k3 aJ,trivial,eu (hi J) bg rfl⟩⟩⟩⟩
theorem Ia(aw:UInt8)(ay:(lead aw.toNat).1=3)(H:I):bE 54 [.str (aw:: [])] H (e2 (aw:: [])) H:=by
 refine bn.cL (HX aw (lead aw.toNat).2.1 (lead aw.toNat).2.2 (fun v _=>v=e2 (aw:: [])) ?_) rfl rfl H;have aM:∀r,first (aw::r)=tail 2 1 (lead aw.toNat).2.1 (lead aw.toNat).2.2 (aw.toNat%2^(7-3)) r:=fun r=>l9 aw r 1 ay
 have hi:first (aw:: [])=(65533,1,true):=by rw [aM];rfl
 exact⟨⟨ke aw 3 ay _⟩,k2 aw,trivial,eu hi rfl rfl⟩
theorem Ib(aw aJ:UInt8)(ay:(lead aw.toNat).1=3)(H:I):bE 54 [.str (aw::aJ:: [])] H (e2 (aw::aJ:: [])) H:=by
 refine bn.cL (HY aw aJ (lead aw.toNat).2.1 (lead aw.toNat).2.2 (fun v _=>v=e2 (aw::aJ:: [])) ?_) rfl rfl H;have aM:∀r,first (aw::r)=tail 2 1 (lead aw.toNat).2.1 (lead aw.toNat).2.2 (aw.toNat%2^(7-3)) r:=fun r=>l9 aw r 1 ay
 have hj:∀(al:aJ.toNat<(lead aw.toNat).2.1∨(lead aw.toNat).2.2<aJ.toNat),first (aw::aJ:: [])=(65533,1,false):=fun al=>by rw [aM];simp only [tail];rw [if_pos al]
 have hi:∀(aa:¬(aJ.toNat<(lead aw.toNat).2.1∨(lead aw.toNat).2.2<aJ.toNat)),first (aw::aJ:: [])=(65533,2,true):=fun aa=>by rw [aM];simp only [tail];rw [if_neg aa]
 exact⟨⟨ke aw 3 ay _⟩,k2 aw,trivial,⟨fun e1=>eu (hj J) rfl rfl,fun rN=>⟨fun db=>eu (hj J) rfl rfl,fun d1=>⟨jI,trivial,k3 aJ,trivial,eu (hi J) rfl rfl⟩⟩⟩⟩
theorem Ic(aw aJ bl:UInt8)(r:Bytes)(ay:(lead aw.toNat).1=3)(H:I):bE 54 [.str (aw::aJ::bl::r)] H (e2 (aw::aJ::bl::r)) H:=by
 refine bn.cL (HZ aw aJ bl r (lead aw.toNat).2.1 (lead aw.toNat).2.2 (fun v _=>v=e2 (aw::aJ::bl::r)) ?_) rfl rfl H;have aM:∀r,first (aw::r)=tail 2 1 (lead aw.toNat).2.1 (lead aw.toNat).2.2 (aw.toNat%2^(7-3)) r:=fun r=>l9 aw r 1 ay
 have hj:∀(al:aJ.toNat<(lead aw.toNat).2.1∨(lead aw.toNat).2.2<aJ.toNat),first (aw::aJ::bl::r)=(65533,1,false):=fun al=>by rw [aM];simp only [tail];rw [if_pos al]
 have np:∀(aa:¬(aJ.toNat<(lead aw.toNat).2.1∨(lead aw.toNat).2.2<aJ.toNat)) (al:bl.toNat<128∨191<bl.toNat),first (aw::aJ::bl::r)=(65533,2,false):=fun aa al=>by rw [aM];simp only [tail];rw [if_neg aa,if_pos al]
 have hi:∀(aa:¬(aJ.toNat<(lead aw.toNat).2.1∨(lead aw.toNat).2.2<aJ.toNat)) (ae:¬(bl.toNat<128∨191<bl.toNat)),first (aw::aJ::bl::r)=(((aw.toNat%16)*64+aJ.toNat%64)*64+bl.toNat%64,3,false):=fun aa ae=>by rw [aM];simp only [tail];rw [if_neg aa,if_neg ae]
 have bg:bR .i32 (h7 .i32 (bR .i32 (h7 .i32 (bB .i32 (aw.toNat:Int) 15) 6) (bB .u8 (aJ.toNat:Int) 63)) 6) (bB .u8 (bl.toNat:Int) 63)=((((aw.toNat%16)*64+aJ.toNat%64)*64+bl.toNat%64:Nat):Int):=by rw [HK,oN aJ,oN bl,pU _ J,pV _ _ J J,pU _ J,pV _ _ J J]
 exact⟨⟨ke aw 3 ay _⟩,k2 aw,trivial,⟨fun e1=>eu (hj J) rfl rfl,fun rN=>⟨fun db=>eu (hj J) rfl rfl,fun d1=>⟨jI,trivial,k3 aJ,trivial,⟨fun a2=>eu (np J J) rfl rfl,fun BJ=>⟨fun c2=>eu (np J J) rfl rfl,fun d2=>⟨jI,trivial,k3 bl,trivial,eu (hi J J) bg rfl⟩⟩⟩⟩⟩⟩⟩
theorem Ie(aw:UInt8)(ay:(lead aw.toNat).1=4)(H:I):bE 54 [.str (aw:: [])] H (e2 (aw:: [])) H:=by
 refine bn.cL (H0 aw (lead aw.toNat).2.1 (lead aw.toNat).2.2 (fun v _=>v=e2 (aw:: [])) ?_) rfl rfl H;have aM:∀r,first (aw::r)=tail 3 1 (lead aw.toNat).2.1 (lead aw.toNat).2.2 (aw.toNat%2^(7-4)) r:=fun r=>l9 aw r 2 ay
 have hi:first (aw:: [])=(65533,1,true):=by rw [aM];rfl
 exact⟨⟨ke aw 4 ay _⟩,k2 aw,trivial,eu hi rfl rfl⟩
theorem If(aw aJ:UInt8)(ay:(lead aw.toNat).1=4)(H:I):bE 54 [.str (aw::aJ:: [])] H (e2 (aw::aJ:: [])) H:=by
 refine bn.cL (H3 aw aJ (lead aw.toNat).2.1 (lead aw.toNat).2.2 (fun v _=>v=e2 (aw::aJ:: [])) ?_) rfl rfl H;have aM:∀r,first (aw::r)=tail 3 1 (lead aw.toNat).2.1 (lead aw.toNat).2.2 (aw.toNat%2^(7-4)) r:=fun r=>l9 aw r 2 ay
 have hj:∀(al:aJ.toNat<(lead aw.toNat).2.1∨(lead aw.toNat).2.2<aJ.toNat),first (aw::aJ:: [])=(65533,1,false):=fun al=>by rw [aM];simp only [tail];rw [if_pos al]
 have hi:∀(aa:¬(aJ.toNat<(lead aw.toNat).2.1∨(lead aw.toNat).2.2<aJ.toNat)),first (aw::aJ:: [])=(65533,2,true):=fun aa=>by rw [aM];simp only [tail];rw [if_neg aa]
 exact⟨⟨ke aw 4 ay _⟩,k2 aw,trivial,⟨fun e1=>eu (hj J) rfl rfl,fun rN=>⟨fun db=>eu (hj J) rfl rfl,fun d1=>⟨jI,trivial,k3 aJ,trivial,eu (hi J) rfl rfl⟩⟩⟩⟩
theorem Ig(aw aJ bl:UInt8)(ay:(lead aw.toNat).1=4)(H:I):bE 54 [.str (aw::aJ::bl:: [])] H (e2 (aw::aJ::bl:: [])) H:=by
 refine bn.cL (H4 aw aJ bl (lead aw.toNat).2.1 (lead aw.toNat).2.2 (fun v _=>v=e2 (aw::aJ::bl:: [])) ?_) rfl rfl H;have aM:∀r,first (aw::r)=tail 3 1 (lead aw.toNat).2.1 (lead aw.toNat).2.2 (aw.toNat%2^(7-4)) r:=fun r=>l9 aw r 2 ay
 have hj:∀(al:aJ.toNat<(lead aw.toNat).2.1∨(lead aw.toNat).2.2<aJ.toNat),first (aw::aJ::bl:: [])=(65533,1,false):=fun al=>by rw [aM];simp only [tail];rw [if_pos al]
 have np:∀(aa:¬(aJ.toNat<(lead aw.toNat).2.1∨(lead aw.toNat).2.2<aJ.toNat)) (al:bl.toNat<128∨191<bl.toNat),first (aw::aJ::bl:: [])=(65533,2,false):=fun aa al=>by rw [aM];simp only [tail];rw [if_neg aa,if_pos al]
 have hi:∀(aa:¬(aJ.toNat<(lead aw.toNat).2.1∨(lead aw.toNat).2.2<aJ.toNat)) (ae:¬(bl.toNat<128∨191<bl.toNat)),first (aw::aJ::bl:: [])=(65533,3,true):=fun aa ae=>by rw [aM];simp only [tail];rw [if_neg aa,if_neg ae]
 exact⟨⟨ke aw 4 ay _⟩,k2 aw,trivial,⟨fun e1=>eu (hj J) rfl rfl,fun rN=>⟨fun db=>eu (hj J) rfl rfl,fun d1=>⟨jI,trivial,k3 aJ,trivial,⟨fun a2=>eu (np J J) rfl rfl,fun BJ=>⟨fun c2=>eu (np J J) rfl rfl,fun d2=>⟨jI,trivial,k3 bl,trivial,eu (hi J J) rfl rfl⟩⟩⟩⟩⟩⟩⟩
theorem Ih(aw aJ bl cZ:UInt8)(r:Bytes)(ay:(lead aw.toNat).1=4)(H:I):bE 54 [.str (aw::aJ::bl::cZ::r)] H (e2 (aw::aJ::bl::cZ::r)) H:=by
 refine bn.cL (H5 aw aJ bl cZ r (lead aw.toNat).2.1 (lead aw.toNat).2.2 (fun v _=>v=e2 (aw::aJ::bl::cZ::r)) ?_) rfl rfl H;have aM:∀r,first (aw::r)=tail 3 1 (lead aw.toNat).2.1 (lead aw.toNat).2.2 (aw.toNat%2^(7-4)) r:=fun r=>l9 aw r 2 ay
 have hj:∀(al:aJ.toNat<(lead aw.toNat).2.1∨(lead aw.toNat).2.2<aJ.toNat),first (aw::aJ::bl::cZ::r)=(65533,1,false):=fun al=>by rw [aM];simp only [tail];rw [if_pos al]
 have np:∀(aa:¬(aJ.toNat<(lead aw.toNat).2.1∨(lead aw.toNat).2.2<aJ.toNat)) (al:bl.toNat<128∨191<bl.toNat),first (aw::aJ::bl::cZ::r)=(65533,2,false):=fun aa al=>by rw [aM];simp only [tail];rw [if_neg aa,if_pos al]
 have BK:∀(aa:¬(aJ.toNat<(lead aw.toNat).2.1∨(lead aw.toNat).2.2<aJ.toNat)) (ae:¬(bl.toNat<128∨191<bl.toNat)) (al:cZ.toNat<128∨191<cZ.toNat),first (aw::aJ::bl::cZ::r)=(65533,3,false):=fun aa ae al=>by rw [aM];simp only [tail];rw [if_neg aa,if_neg ae,if_pos al]
 have hi:∀(aa:¬(aJ.toNat<(lead aw.toNat).2.1∨(lead aw.toNat).2.2<aJ.toNat)) (ae:¬(bl.toNat<128∨191<bl.toNat)) (aS:¬(cZ.toNat<128∨191<cZ.toNat)),first (aw::aJ::bl::cZ::r)=((((aw.toNat%8)*64+aJ.toNat%64)*64+bl.toNat%64)*64+cZ.toNat%64,4,false):=fun aa ae aS=>by rw [aM];simp only [tail];rw [if_neg aa,if_neg ae,if_neg aS]
 have bg:bR .i32 (h7 .i32 (bR .i32 (h7 .i32 (bR .i32 (h7 .i32 (bB .i32 (aw.toNat:Int) 7) 6) (bB .u8 (aJ.toNat:Int) 63)) 6) (bB .u8 (bl.toNat:Int) 63)) 6) (bB .u8 (cZ.toNat:Int) 63)=(((((aw.toNat%8)*64+aJ.toNat%64)*64+bl.toNat%64)*64+cZ.toNat%64:Nat):Int):=by rw [HL,oN aJ,oN bl,oN cZ,pU _ J,pV _ _ J J,pU _ J,pV _ _ J J,pU _ J,pV _ _ J J]
 exact⟨⟨ke aw 4 ay _⟩,k2 aw,trivial,⟨fun e1=>eu (hj J) rfl rfl,fun rN=>⟨fun db=>eu (hj J) rfl rfl,fun d1=>⟨jI,trivial,k3 aJ,trivial,⟨fun a2=>eu (np J J) rfl rfl,fun BJ=>⟨fun c2=>eu (np J J) rfl rfl,fun d2=>⟨jI,trivial,k3 bl,trivial,⟨fun a3=>eu (BK J J J) rfl rfl,fun Nj=>⟨fun c3=>eu (BK J J J) rfl rfl,fun d3=>⟨jI,trivial,k3 cZ,trivial,eu (hi J J J) bg rfl⟩⟩⟩⟩⟩⟩⟩⟩⟩⟩
theorem Ii(s:Bytes)(H:I):bE 54 [.str s] H (e2 s) H:=by
 match s with
 |[]=>exact H6 H
 |aw::t =>
  rcases HR aw.toNat with h|h|h|h|h
  ·exact H7 aw t h H
  ·exact H8 aw t h H
  ·match t with
   |[]=>exact H9 aw h H
   |aJ::r=>exact H' aw aJ r h H
  ·match t with
   |[]=>exact Ia aw h H
   |[aJ]=>exact Ib aw aJ h H
   |aJ::bl::r=>exact Ic aw aJ bl r h H
  ·match t with
   |[]=>exact Ie aw h H
   |[aJ]=>exact If aw aJ h H
   |[aJ,bl]=>exact Ig aw aJ bl h H
   |aJ::bl::cZ::r=>exact Ih aw aJ bl cZ r h H
end Go.Proofs.YtddnafghiejcoaaGreatDoor
namespace Go.Keys
end Go.Keys
namespace Go.Proofs.YtddnafghiejcoaaGreatDoor
open Go.bh Go.Keys
set_option maxRecDepth 1000000
end Go.Proofs.YtddnafghiejcoaaGreatDoor
namespace Go.bh
theorem l'(x:Nat)(h:x<2^31):bB .i32 (x:Int) 63=((x%64:Nat):Int):=by
 unfold bB;rw [BitVec.toNat_and]
 have a:(BitVec.ofInt IntKind.i32.bits (x:Int)).toNat=x:=by show(BitVec.ofInt 32 (x:Int)).toNat=x;rw [BitVec.toNat_ofInt];omega
 have b:(BitVec.ofInt IntKind.i32.bits 63).toNat=63:= cg;rw [a,b,show x &&& 63=x%64 from Nat.and_two_pow_sub_one_eq_mod x 6];exact l4 (k:= .i32) (by simp only [de];omega)
theorem h'(x:Nat):bI .i32 (x:Int) 6=((x/64:Nat):Int):=by unfold bI;show Int.fdiv (x:Int) 64=_;rw [Int.fdiv_eq_ediv_of_nonneg _ cg];rfl
theorem pW:∀m:Fin 64,bR .u8 128 (m.val:Int)=((128+m.val:Nat):Int):=by decide+kernel
theorem Ij:∀m:Fin 32,bR .u8 (m.val:Int) 192=((192+m.val:Nat):Int):=by decide+kernel
theorem Ik:∀m:Fin 16,bR .u8 (m.val:Int) 224=((224+m.val:Nat):Int):=by decide+kernel
theorem Il:∀m:Fin 8,bR .u8 (m.val:Int) 240=((240+m.val:Nat):Int):=by decide+kernel
end Go.bh
namespace Go.Proofs.YtddnafghiejcoaaGreatDoor
open Go.bh Go.Keys
set_option maxRecDepth 1000000
theorem k4{n:Nat}(h:n<256):((u8 n).toNat:Int)=n:=by
 have:(u8 n).toNat=n%256:=by unfold u8;simp [UInt8.toNat_ofNat']
 rw [this];omega
theorem tY{x:Nat}(h:¬(55296≤x∧x≤57343∨1114111<x)):put x=if x<128 then [u8 x]else if x<2048 then [u8 (192+x/64),u8 (128+x%64)]else if x<65536 then [u8 (224+x/4096),u8 (128+x/64%64),u8 (128+x%64)]else [u8 (240+x/262144),u8 (128+x/4096%64),u8 (128+x/64%64),u8 (128+x%64)]:=by unfold put;simp only [if_neg h]
theorem oO{x:Nat}(h:x<128): [R.int .u8 (x:Int)]=b5 (put x):=by rw [tY J,if_pos h];simp only [b5,List.map_cons,List.map_nil,k4 (show x<256 by omega)]
theorem rO{x:Nat}(h:128≤x)(ae:x<2048): [R.int .u8 (bR .u8 (bI .i32 (x:Int) 6) 192),R.int .u8 (bR .u8 128 (bB .i32 (x:Int) 63))]=b5 (put x):=by rw [tY J,if_neg J,if_pos ae];simp only [b5,List.map_cons,List.map_nil,k4 (show 192+x/64<256 by omega),k4 (show 128+x%64<256 by omega)];rw [l' x J,h',Ij ⟨x/64,J⟩,pW ⟨x%64,J⟩]
theorem pX{x:Nat}(h:2048≤x)(ae:x<65536)(aS:¬(55296≤x∧x≤57343)): [R.int .u8 (bR .u8 (bI .i32 (bI .i32 (x:Int) 6) 6) 224),R.int .u8 (bR .u8 128 (bB .i32 (bI .i32 (x:Int) 6) 63)),R.int .u8 (bR .u8 128 (bB .i32 (x:Int) 63))]=b5 (put x):=by rw [tY J,if_neg J,if_neg J,if_pos ae];simp only [b5,List.map_cons,List.map_nil,k4 (show 224+x/4096<256 by omega),k4 (show 128+x/64%64<256 by omega),k4 (show 128+x%64<256 by omega)];rw [l' x J,h',h',l' (x/64) J,Ik ⟨x/64/64,J⟩,pW ⟨x%64,J⟩,pW ⟨x/64%64,J⟩];simp only [show x/64/64=x/4096 by omega]
theorem rP{x:Nat}(h:65536≤x)(ae:x≤1114111): [R.int .u8 (bR .u8 (bI .i32 (bI .i32 (bI .i32 (x:Int) 6) 6) 6) 240),R.int .u8 (bR .u8 128 (bB .i32 (bI .i32 (bI .i32 (x:Int) 6) 6) 63)),R.int .u8 (bR .u8 128 (bB .i32 (bI .i32 (x:Int) 6) 63)),R.int .u8 (bR .u8 128 (bB .i32 (x:Int) 63))]=b5 (put x):=by rw [tY J,if_neg J,if_neg J,if_neg J];simp only [b5,List.map_cons,List.map_nil,k4 (show 240+x/262144<256 by omega),k4 (show 128+x/4096%64<256 by omega),k4 (show 128+x/64%64<256 by omega),k4 (show 128+x%64<256 by omega)];rw [l' x J,h',h',h',l' (x/64) J,l' (x/64/64) J,Il ⟨x/64/64/64,J⟩,pW ⟨x%64,J⟩,pW ⟨x/64%64,J⟩,pW ⟨x/64/64%64,J⟩];simp only [show x/64/64=x/4096 by omega,show x/4096/64=x/262144 by omega]
theorem tZ{x:Nat}(h:x<2^31):0≤bB .i32 (x:Int) 63∧bB .i32 (x:Int) 63≤255:=by rw [l' x h];omega
theorem t'{x:Nat}(h:x<2^31):0≤bB .i32 (bI .i32 (x:Int) 6) 63∧bB .i32 (bI .i32 (x:Int) 6) 63≤255:=by rw [h',l' _ J];omega
theorem BL{x:Nat}(h:x<2^31):0≤bB .i32 (bI .i32 (bI .i32 (x:Int) 6) 6) 63∧bB .i32 (bI .i32 (bI .i32 (x:Int) 6) 6) 63≤255:=by rw [h',h',l' _ J];omega
theorem BM{x:Nat}(h:x<2048):0≤bI .i32 (x:Int) 6∧bI .i32 (x:Int) 6≤255:=by rw [h'];omega
theorem ua{x:Nat}(h:x<65536):0≤bI .i32 (bI .i32 (x:Int) 6) 6∧bI .i32 (bI .i32 (x:Int) 6) 6≤255:=by rw [h',h'];omega
theorem BN{x:Nat}(h:x≤1114111):0≤bI .i32 (bI .i32 (bI .i32 (x:Int) 6) 6) 6∧bI .i32 (bI .i32 (bI .i32 (x:Int) 6) 6) 6≤255:=by rw [h',h',h'];omega
theorem ub(l:Bytes):(b5 l).length=l.length:=by simp [b5]
end Go.Proofs.YtddnafghiejcoaaGreatDoor
namespace Go.bh
noncomputable section
open Go.RowKit
end
end Go.bh
namespace Go.Keys
theorem Im(r:Nat):(put r).length≤4:=by
 unfold put;simp only
 repeat' split
 all_goals simp
end Go.Keys
namespace Go.Proofs.YtddnafghiejcoaaGreatDoor
open Go.bh Go.Keys
set_option maxRecDepth 1000000
end Go.Proofs.YtddnafghiejcoaaGreatDoor
namespace Go.Keys
end Go.Keys
namespace Go.Proofs.YtddnafghiejcoaaGreatDoor
open Go.bh Go.Keys
set_option maxRecDepth 1000000
abbrev uc(l:List R)(es v m f:Nat)(ty:l8):ai:= {bc:=l,es:=es,exact:=false,ro:=false,bf:=v,hY:=m,lD:=f,ty:=ty}
abbrev rQ:l8:=some (42,0)
theorem BO(l:Bytes):∀e∈b5 l,cO e:=by intro e he;obtain⟨b,_,rfl⟩:=List.mem_map.1 he;exact cO.int _ _
set_option maxHeartbeats 4000000
set_option maxHeartbeats 4000000
set_option maxHeartbeats 4000000
theorem Io(s p:Bytes)(ad:bT)(aP:((↑(List.length p):Int)≤(↑(List.length s):Int)→(0≤(↑(List.length p):Int)∧(↑(List.length p):Int)≤(↑(List.length s):Int))∧(List.take (Int.toNat (↑(List.length p):Int)) s=p→(0≤(↑(List.length p):Int)∧(↑(List.length p):Int)≤(↑(List.length s):Int))∧ad (.tuple [.str (List.drop (Int.toNat (↑(List.length p):Int)) s),.bool true]) (I.ak 36 []))∧(¬List.take (Int.toNat (↑(List.length p):Int)) s=p→ad (.tuple [.str s,.bool false]) (I.ak 33 [])))∧(¬(↑(List.length p):Int)≤(↑(List.length s):Int)→ad (.tuple [.str s,.bool false]) (I.ak 33 []))) :
 bW 53 [.str s,.str p] (⟨0,.nil⟩) ad :=
 bZ cl (he 1002 (he 1002 (.aO 1004 (ah 1009 (.aO 1011 (ah 3003 .nil) .nil)) .nil))) aP
theorem pre_true{s p:Bytes}(h:s.take p.length=p):p.isPrefixOf s=true:=by rw [List.isPrefixOf_iff_prefix,List.prefix_iff_eq_take];exact h.symm
theorem pY{s p:Bytes}(h:¬s.take p.length=p):p.isPrefixOf s=false:=by
 cases av:p.isPrefixOf s with
 |false=>rfl
 |true=>rw [List.isPrefixOf_iff_prefix,List.prefix_iff_eq_take]at av;exact absurd av.symm h
theorem take_len{s p:Bytes}(h:¬p.length≤s.length):¬s.take p.length=p:=fun e=>h (by have:=congrArg List.length e;simp at this;omega)
def rR(s p:Bytes):R:= .tuple [.str (if p.isPrefixOf s then s.drop p.length else s),.bool (p.isPrefixOf s)]
theorem Ip(s p:Bytes)(H:I):bE 53 [.str s,.str p] H (rR s p) H:=by
 refine bn.cL (Io s p (fun v _=>v=rR s p) ⟨fun h=>⟨⟨J,h⟩,fun e=>⟨⟨J,h⟩,?_⟩,fun e=> ?_⟩,fun h=> ?_⟩) rfl rfl H
 ·unfold rR;rw [pre_true (by simpa using e)];simp
 ·unfold rR;rw [pY (by simpa using e)];simp
 ·unfold rR;rw [pY (take_len J)];simp
end Go.Proofs.YtddnafghiejcoaaGreatDoor
namespace Go.Keys
end Go.Keys
namespace Go.bh
noncomputable section
open Go.RowKit Go.Shelf
section
variable {P:Program}{φ:Map}
theorem Iq{w aL:World}{a:Addr}(e:aL.heap[a.block]? =w.heap[a.block]?):aL.frozen? a=w.frozen? a:=by unfold World.frozen?;rw [e]
theorem Alike.below{w aL:World}(k:Below w.heap.size w aL):Alike w aL where
 size:=k.size
 cell a aD:=k.cell aD
 frozen a aD:=Iq (k.block _ aD)
 mark b an:=n0 (k.block _ an)
theorem Safe.BP{aF:Nat→Prop}{aN w aL:World}(h:Safe aF aN w)(ck:dq aF aN.heap.size)(k:Below w.heap.size w aL):Safe aF aN aL :=
 h.trans ⟨k.os,k.tape,k.output,k.size,fun i ag=>k.block i (Nat.lt_of_lt_of_le (ck i ag) h.size)⟩
end
end
end Go.bh
namespace Go.Keys
end Go.Keys
namespace Go.Proofs.YtddnafghiejcoaaGreatDoor
open Go.bh Go.Shelf Go.RowKit Go.Keys
set_option maxRecDepth 1000000
end Go.Proofs.YtddnafghiejcoaaGreatDoor
namespace Go.Proofs.YtddnafghiejcoaaGreatDoor
open Go.bh Go.Shelf Go.RowKit Go.Keys
set_option maxRecDepth 1000000
end Go.Proofs.YtddnafghiejcoaaGreatDoor
namespace Go.Proofs.YtddnafghiejcoaaGreatDoor
open Go.bh Go.Keys
set_option maxRecDepth 1000000
set_option maxHeartbeats 8000000
end Go.Proofs.YtddnafghiejcoaaGreatDoor
namespace Go.Keys
end Go.Keys
namespace Go.Proofs.YtddnafghiejcoaaGreatDoor
open Go.bh Go.Keys
set_option maxRecDepth 1000000
set_option maxHeartbeats 4000000
end Go.Proofs.YtddnafghiejcoaaGreatDoor
namespace Go.Keys
end Go.Keys
namespace Go.Proofs.YtddnafghiejcoaaGreatDoor
open Go.bh Go.Keys
set_option maxRecDepth 1000000
set_option maxHeartbeats 4000000
set_option maxHeartbeats 4000000
set_option maxHeartbeats 4000000
section
variable(f Ir Is It:Nat)(X:Bytes)(Iu P O:ai)(dc:R)(Iv:l8)
end
end Go.Proofs.YtddnafghiejcoaaGreatDoor
namespace Go.Keys
end Go.Keys
namespace Go.Proofs.YtddnafghiejcoaaGreatDoor
open Go.bh Go.Keys
set_option maxRecDepth 1000000
section
variable(f Ir Is It:Nat)(X:Bytes)(Iu P O:ai)(dc:R)(Iv:l8)
end
theorem Iw{a b:Nat}(h:a≤b):(Nat.ble a b&&true)=true:=by rw [Nat.ble_eq.mpr h];rfl
theorem aQ{a b:Nat}{p:Prop}(h:a≤b)(k:p):_root_.cond (Nat.ble a b&&true) p False:=by rw [Iw h];exact k
def k5(l:List R):Bool:=l.all fun x=>match x with|.int _ _=>true|_=>false
theorem Ix{h:I}{o bf m f i:Nat}{es:List b1}(e:h.get o=some (uc (es.map cc) 6 bf m f rQ))(aW:i<es.length):bp (bq.D env) 42 ⟨o,bf,i,0,6⟩ h=some (cc es[i]):=by
 have bt:(bq.D env 42).map (fun d=>(d.kind.isAgg,d.size))=some (true,6):= aG;obtain⟨x,aa,ae⟩:=Option.map_eq_some_iff.1 bt;simp only [Prod.mk.injEq]at ae;unfold bp;rw [aa,e]
 have eh:(uc (es.map cc) 6 bf m f rQ).elem? bf i=some (cc es[i]):=by unfold ai.elem?;rw [if_pos (by simpa [ai.bL]using aW)];simp [aW]
 simp only [eh];simp [gK,ae.1,ae.2,cc]
theorem Iy{l:List R}(h:k5 l=true):∀e∈l,cO e:=by intro e he;have:=List.all_eq_true.1 h e he;cases e<;>first|exact cO.int _ _|(simp at this)
abbrev jB:dQ:=⟨.ground,[],[],[]⟩
theorem rS{t:TypeId}{F:a'}{H H1:I}{a:di}{v:R}{nid k m:Nat}(aM:aY F (.tmp k)=.ptr (some a))(hm:aY F (.tmp m)=v)(hs:ii (bq.D env) t a v H=some H1):bb env cz nid (aY F) H (Op.store t (Operand.tmp k) (Operand.tmp m))=some (.tuple [],H1):=by simp only [bb,aM,hm,hs,Option.map_some]
structure hk(H aH:I)(cD hM:Nat→Nat)(L:List Nat):Prop where
 U:H.U≤aH.U
 get:∀x,x<H.U→cD x ∉ L→aH.get x=H.get x
 cD:∀x,x<H.U→cD x ∉ L→hM x=cD x
theorem hk.sub{H aH:I}{c dm:Nat→Nat}{L M:List Nat}(a:hk H aH c dm L)(h:∀x∈L,x∈M):hk H aH c dm M where
 U:=a.U
 get x ac k:=a.get x ac fun q=>k (h _ q)
 cD x ac k:=a.cD x ac fun q=>k (h _ q)
theorem hk.refl(H:I)(c:Nat→Nat):hk H H c c []:=⟨Nat.le_refl _,fun _ _ _=>rfl,fun _ _ _=>rfl⟩
def fresh(H:I)(cD:Nat→Nat):Nat→Nat:=fun x=>if x<H.U then cD x else 8
theorem hk.fresh(H:I)(cD:Nat→Nat)(k:Nat):hk H ⟨H.U+k,H.aB⟩ cD (fresh H cD) [] where
 U:=by show H.U≤H.U+k;omega
 get _ _ _:=rfl
 cD x ac _:=by unfold Proofs.YtddnafghiejcoaaGreatDoor.fresh;rw [if_pos ac]
structure kf(H:I)(cD:Nat→Nat)(c ee:Nat)(ty:l8)(v:R)(l:List R):Prop where
 ex:(v=.slice none 0 0∧l=[])∨(l≠[]∧∃o,o<H.U∧cD o=c∧∃bf m f,v=.slice (some ⟨o,bf,0,0,ee⟩) l.length l.length∧H.get o=some (uc l ee bf m f ty))
theorem kf.ji{H aH:I}{cD hM:Nat→Nat}{c ee:Nat}{ty:l8}{v:R}{l:List R}{L:List Nat}(h:kf H cD c ee ty v l)(m:hk H aH cD hM L)(al:c ∉ L):kf aH hM c ee ty v l:=by
 rcases h.ex with h|⟨aa,o,ae,aS,bf,nq,f,bj,cb⟩
 ·exact⟨.inl h⟩
 ·have aI:=m.U;exact⟨.inr ⟨aa,o,J,by rw [m.cD o ae (by rw [aS];exact al)];exact aS,bf,nq,f,bj,by rw [m.get o ae (by rw [aS];exact al)];exact cb⟩⟩
theorem kf.nil(H:I)(cD:Nat→Nat)(c ee:Nat)(ty:l8):kf H cD c ee ty (.slice none 0 0) []:=⟨.inl ⟨rfl,rfl⟩⟩
theorem kf.fc{H:I}{cD:Nat→Nat}{c ee nid t e iE:Nat}{v w:R}{l new:List R}(hs:nf env.D t e ee iE)(g:kf H cD c ee (some (e,0)) v l)(aI:nid<H.U)(BQ:cD nid=8)(ac:en ee w H=some new)(an:((l.length+new.length)+(l.length+new.length)/4+512)*iE≤2^48)(ay:l.length+new.length<2^62) :
 ∃aK aH hM,e5 env .append #[t,t] [v,w] nid H=some (aK,aH)∧kf aH hM c ee (some (e,0)) aK (l++new)∧hk H aH cD hM [c,8]∧aH.U=H.U:=by
 by_cases dT:new=[]
 ·subst dT;refine⟨v,H,cD,?_,by rw [List.append_nil];exact g,(hk.refl H cD).sub a1,rfl⟩;rcases g.ex with ⟨rfl,rfl⟩|⟨aa,o,ae,aS,bf,nq,f,rfl,cb⟩
  ·exact Bi (b:=ai.aq [] 1 true) hs ac (by simpa using an) cg (fun a aD=>by cases aD) (Nat.le_refl _) (fun _=>rfl)
  ·exact Bi hs ac (by simpa using an) (by simpa using ay) (fun a aD=>by cases aD;exact⟨cb,rfl,rfl⟩) (Nat.le_refl _) (fun h=>by cases h)
 ·rcases g.ex with ⟨rfl,rfl⟩|⟨aa,o,ae,aS,bf,nq,f,rfl,cb⟩
  ·refine⟨_,_,fun x=>if x=nid then c else cD x,G2 hs ac dT (by simpa using an) (by simpa using ay),⟨.inr ⟨by simpa using dT,nid,aI,a1,0,0,0,rfl,I.eU _ _ _⟩⟩,⟨Nat.le_refl _,fun x _ h=> ?_,fun x _ h=> ?_⟩,rfl⟩
   ·refine I.dZ _ _ fun e=> ?_
    subst e;rw [BQ]at h;simp at h
   ·show(if x=nid then c else cD x)=cD x;rw [if_neg];intro e;subst e;rw [BQ]at h;simp at h
  ·have lN:0<new.length:=List.length_pos_iff.2 dT;refine⟨_,_,cD,Bh hs ac dT an ay cb ⟨rfl,rfl⟩ J rfl rfl rfl a1 (.inr rfl),⟨.inr ⟨by simp [aa],o,ae,aS,bf+1,nq,if nq=bf then l.length else min f l.length,by rw [List.length_append],I.eU _ _ _⟩⟩,⟨Nat.le_refl _,fun x _ h=> ?_,fun _ _ _=>rfl⟩,rfl⟩;refine I.dZ _ _ fun e=> ?_
   subst e;rw [aS]at h;simp at h
theorem BR{f:FuncId}{args:List R}{h af:I}{v:R}(k:bE f args h v af):bE f args h v ⟨af.U+1,af.aB⟩:=k.pad (by show af.U≤af.U+1;omega) (fun _ _=>rfl)
theorem Iz:nf env.D 56 42 6 48:=by have aa:(env.D 42).map (fun x=>(x.size,x.bytes,x.nU))=some (6,48,true):= aG;have ae:(env.D 56).map (fun x=>x.kind)=some (.slice 42):= aG;obtain⟨x,ac,k⟩:=Option.map_eq_some_iff.1 aa;obtain⟨d,az,x0⟩:=Option.map_eq_some_iff.1 ae;simp only [Prod.mk.injEq]at k;exact⟨d,x,az,x0,ac,k.1,k.2.1,cg,k.2.2⟩
theorem ud:nf env.D 34 5 1 1:=by have aa:(env.D 5).map (fun x=>(x.size,x.bytes,x.nU))=some (1,1,true):= aG;have ae:(env.D 34).map (fun x=>x.kind)=some (.slice 5):= aG;obtain⟨x,ac,k⟩:=Option.map_eq_some_iff.1 aa;obtain⟨d,az,x0⟩:=Option.map_eq_some_iff.1 ae;simp only [Prod.mk.injEq]at k;exact⟨d,x,az,x0,ac,k.1,k.2.1,cg,k.2.2⟩
end Go.Proofs.YtddnafghiejcoaaGreatDoor
namespace Go.Keys
def zero:dQ:=⟨.ground,[],[],[]⟩
end Go.Keys
namespace Go.Keys
end Go.Keys
namespace Go.Keys
end Go.Keys
namespace Go.Keys
open Go.Lib
def fF:List Nat→Bytes
 |[]=> []
 |[n]=>decDigits n
 |n::m::r=>decDigits n++59::fF (m::r)
def hl(e:Bytes)(l:List Nat):Bytes:=27::91::(fF l++e)
def rT(r:Nat):Option UInt8 :=
 if r=32 then some 0 else if 97≤r∧r≤122∧r≠105∧r≠109 then some (u8 (r%32))else if 92≤r∧r≤95 then some (u8 (r%32))else none
def iI(r m:Nat):Bytes :=
 if m=0 then put r
 else if m=2∧r≠91∧r≠79 then 27::put r
 else if m=4∨m=6 then
  match rT r with
  |some c=>if m=4 then [c]else [27,c]
  |none=>hl [117] [r,m+1]
 else hl [117] [r,m+1]
def nr(k:Nat):Nat:=if k=1 then 13 else if k=2 then 9 else if k=3 then 127 else 27
def pZ(k:Nat):Option UInt8 :=
 if 5≤k∧k≤8 then some (u8 (60+k))else if k=9 then some 72 else if k=10 then some 70 else none
def ma(k:Nat):Option Nat :=
 if k=11∨k=12 then some (k-9)else if k=13∨k=14 then some (k-8)
 else if 21≤k∧k≤25 then some (k-10)else if 26≤k∧k≤30 then some (k-9)else if k=31∨k=32 then some (k-8)else none
def iJ(k m:Nat):Option Bytes :=
 if 1≤k∧k≤4 then
  if m=0 then some [u8 (nr k)]
  else if m=2∧k≠4 then some [27,u8 (nr k)]
  else if m=1∧k=2 then some (hl [90] [])
  else some (hl [117] [nr k,m+1])
 else match pZ k with
 |some c=>if m=0 then some (hl [c] [])else some (hl [c] [1,m+1])
 |none =>
  if m=0∧21≤k∧k≤24 then some [27,79,u8 (80+(k-21))]
  else match ma k with
  |some n=>if m=0 then some (hl [126] [n])else some (hl [126] [n,m+1])
  |none=>none
def IA(c:Nat):Nat:=if c=1 then 1 else if c=2 then 2 else if c=4 then 64 else if c=5 then 65 else if c=6 then 35 else 0
def IB(c m x y:Nat):Bytes:=27::91::60::(fF [IA c+4*m,x+1,y+1]++[if c=3 then 109 else 77])
def IC(e:b1):Bool:=decide (0≤e.code)&&decide (e.code≤6)&&decide (e.dH≤7)&&decide (0≤e.x)&&decide (e.x<4096)&&decide (0≤e.y)&&decide (e.y<4096)&&decide (e.text=[])
def hasEnd:Bytes→Bool
 |[]=>false
 |b::r=>xX.isPrefixOf (b::r) || hasEnd r
def ID:Bytes:=[27,91,50,48,48,126]
def p0(e:b1):Bool:=decide (e.x=0)&&decide (e.y=0)&&decide (e.text=[])
def enc(e:b1):Option Bytes :=
 if e.kind=3 then if IC e=true then some (IB e.code.toNat e.dH.toNat e.x.toNat e.y.toNat)else none
 else if 7<e.dH then none
 else if e.kind=1∧p0 e=true∧shown e.code=true then some (iI e.code.toNat e.dH.toNat)
 else if e.kind=2∧p0 e=true then if 0≤e.code then iJ e.code.toNat e.dH.toNat else none
 else if e=⟨5,0,0,0,0,[]⟩then some (hl [79] [])
 else if e=⟨5,1,0,0,0,[]⟩then some (hl [73] [])
 else if e=⟨4,0,0,0,0,e.text⟩∧e.text.length≤65536∧hasEnd e.text=false then some (ID++(e.text++xX))
 else if e=⟨6,0,0,0,0,e.text⟩∧e.text.length≤62 then
  if(tW zero (27::91::e.text)).2=[e]∧held (tW zero (27::91::e.text)).1=0 then some (27::91::e.text)else none
 else none
theorem IE(n:Nat):decDigits n≠[]:=by intro h;have:=decDigits_length n;rw [h]at this;have:=nDigits_pos n;simp at *; omega
theorem ns{n k:Nat}(h:n<10^(k+1)):(decDigits n).length≤k+1:=by
 rw [decDigits_length];induction k generalizing n with
 |zero=>rw [nDigits_small (by simpa using h)];omega
 |succ k ih =>
  by_cases kK:n<10
  ·rw [nDigits_small kK];omega
  ·rw [nDigits_big kK];have:=ih (n:=n/10) (by rw [Nat.pow_succ]at h;omega);omega
end Go.Keys
namespace Go.Proofs.YtddnafghiejcoaaGreatDoor
open Go.bh Go.Keys
set_option maxRecDepth 1000000
abbrev eQ:R:= .int .u8 0
abbrev k6(l:List R):ai:=ai.aq [.agg l] 24 true (some (154,24))
abbrev hN:ai:=k6 [eQ,eQ,eQ,eQ,eQ,eQ,eQ,eQ,eQ,eQ,eQ,eQ,eQ,eQ,eQ,eQ,eQ,eQ,eQ,eQ,eQ,eQ,eQ,eQ]
def ft:Bytes:=Lib.smalls.data.toList
theorem IF(u:Nat)(ad:bT)(aP:(0≤(u:Int)∧(u:Int)≤4294967295)∧((100:Int)=0→False)∧(0≤Int.tmod (u:Int) 100*2∧Int.tmod (u:Int) 100*2≤4294967295)∧(((100:Int)=0→False)∧de .u32 (Int.tdiv (u:Int) 100))∧(0≤Int.tmod (u:Int) 100*2+1∧Int.tmod (u:Int) 100*2+1≤4294967295)∧(0≤Int.tmod (u:Int) 100*2+1∧Int.tmod (u:Int) 100*2+1<200)∧(0≤Int.tmod (u:Int) 100*2∧Int.tmod (u:Int) 100*2<200)∧(0≤48+Int.tdiv (u:Int) 100∧48+Int.tdiv (u:Int) 100≤4294967295)∧(0≤48+Int.tdiv (u:Int) 100∧48+Int.tdiv (u:Int) 100≤255)∧ad (.tuple []) (I.ak 46 [(0,(ai.aq ([.agg [.int .u8 (48+Int.tdiv (u:Int) 100),.int .u8 (↑(UInt8.toNat (List.getD ft (Int.toNat (Int.tmod (u:Int) 100*2)) 0)):Int),.int .u8 (↑(UInt8.toNat (List.getD ft (Int.toNat (Int.tmod (u:Int) 100*2+1)) 0)):Int),.int .u8 0,.int .u8 0,.int .u8 0,.int .u8 0,.int .u8 0,.int .u8 0,.int .u8 0,.int .u8 0,.int .u8 0,.int .u8 0,.int .u8 0,.int .u8 0,.int .u8 0,.int .u8 0,.int .u8 0,.int .u8 0,.int .u8 0,.int .u8 0,.int .u8 0,.int .u8 0,.int .u8 0]]) 24 true (some (154,24))))])) :
 bW 121 [.slice (some ⟨0,0,0,1,24⟩) 3 24,.int .u64 u] (I.rows 1 [(0,hN)]) ad :=
 bZ cl (.ao (.rounds 300) (ah 12001 (ah 21001 (ah 21002 (ah 22001 (ah 23007 (ah 23008 (ah 23010 (ah 26002 (ah 26003 .nil)))))))))) aP
theorem IG(u:Nat)(ad:bT)(aP:(0≤(u:Int)∧(u:Int)≤4294967295)∧((10000:Int)=0→False)∧(((10000:Int)=0→False)∧de .u32 (Int.tdiv (u:Int) 10000))∧(((100:Int)=0→False)∧de .u32 (Int.tdiv (Int.tmod (u:Int) 10000) 100))∧(0≤Int.tdiv (Int.tmod (u:Int) 10000) 100*2∧Int.tdiv (Int.tmod (u:Int) 10000) 100*2≤4294967295)∧((100:Int)=0→False)∧(0≤Int.tmod (Int.tmod (u:Int) 10000) 100*2∧Int.tmod (Int.tmod (u:Int) 10000) 100*2≤4294967295)∧(0≤Int.tmod (Int.tmod (u:Int) 10000) 100*2+1∧Int.tmod (Int.tmod (u:Int) 10000) 100*2+1≤4294967295)∧(0≤Int.tmod (Int.tmod (u:Int) 10000) 100*2+1∧Int.tmod (Int.tmod (u:Int) 10000) 100*2+1<200)∧(0≤Int.tmod (Int.tmod (u:Int) 10000) 100*2∧Int.tmod (Int.tmod (u:Int) 10000) 100*2<200)∧(0≤Int.tdiv (Int.tmod (u:Int) 10000) 100*2+1∧Int.tdiv (Int.tmod (u:Int) 10000) 100*2+1≤4294967295)∧(0≤Int.tdiv (Int.tmod (u:Int) 10000) 100*2+1∧Int.tdiv (Int.tmod (u:Int) 10000) 100*2+1<200)∧(0≤Int.tdiv (Int.tmod (u:Int) 10000) 100*2∧Int.tdiv (Int.tmod (u:Int) 10000) 100*2<200)∧ad (.tuple []) (I.ak 62 [(0,(ai.aq ([.agg [.int .u8 (↑(UInt8.toNat (List.getD ft (Int.toNat (Int.tdiv (Int.tmod (u:Int) 10000) 100*2)) 0)):Int),.int .u8 (↑(UInt8.toNat (List.getD ft (Int.toNat (Int.tdiv (Int.tmod (u:Int) 10000) 100*2+1)) 0)):Int),.int .u8 (↑(UInt8.toNat (List.getD ft (Int.toNat (Int.tmod (Int.tmod (u:Int) 10000) 100*2)) 0)):Int),.int .u8 (↑(UInt8.toNat (List.getD ft (Int.toNat (Int.tmod (Int.tmod (u:Int) 10000) 100*2+1)) 0)):Int),.int .u8 0,.int .u8 0,.int .u8 0,.int .u8 0,.int .u8 0,.int .u8 0,.int .u8 0,.int .u8 0,.int .u8 0,.int .u8 0,.int .u8 0,.int .u8 0,.int .u8 0,.int .u8 0,.int .u8 0,.int .u8 0,.int .u8 0,.int .u8 0,.int .u8 0,.int .u8 0]]) 24 true (some (154,24))))])) :
 bW 121 [.slice (some ⟨0,0,0,1,24⟩) 4 24,.int .u64 u] (I.rows 1 [(0,hN)]) ad :=
 bZ cl (.ao (.rounds 300) (ah 12001 (ah 14001 (ah 15001 (ah 16001 (ah 16002 (ah 16004 (ah 16005 (ah 17007 (ah 17008 (ah 17010 (ah 18007 (ah 18008 (ah 18010 .nil)))))))))))))) aP
theorem IH(u:Nat)(ad:bT)(aP:(0≤(u:Int)∧(u:Int)≤4294967295)∧((10000:Int)=0→False)∧(((10000:Int)=0→False)∧de .u32 (Int.tdiv (u:Int) 10000))∧(((100:Int)=0→False)∧de .u32 (Int.tdiv (Int.tmod (u:Int) 10000) 100))∧(0≤Int.tdiv (Int.tmod (u:Int) 10000) 100*2∧Int.tdiv (Int.tmod (u:Int) 10000) 100*2≤4294967295)∧((100:Int)=0→False)∧(0≤Int.tmod (Int.tmod (u:Int) 10000) 100*2∧Int.tmod (Int.tmod (u:Int) 10000) 100*2≤4294967295)∧(0≤Int.tmod (Int.tmod (u:Int) 10000) 100*2+1∧Int.tmod (Int.tmod (u:Int) 10000) 100*2+1≤4294967295)∧(0≤Int.tmod (Int.tmod (u:Int) 10000) 100*2+1∧Int.tmod (Int.tmod (u:Int) 10000) 100*2+1<200)∧(0≤Int.tmod (Int.tmod (u:Int) 10000) 100*2∧Int.tmod (Int.tmod (u:Int) 10000) 100*2<200)∧(0≤Int.tdiv (Int.tmod (u:Int) 10000) 100*2+1∧Int.tdiv (Int.tmod (u:Int) 10000) 100*2+1≤4294967295)∧(0≤Int.tdiv (Int.tmod (u:Int) 10000) 100*2+1∧Int.tdiv (Int.tmod (u:Int) 10000) 100*2+1<200)∧(0≤Int.tdiv (Int.tmod (u:Int) 10000) 100*2∧Int.tdiv (Int.tmod (u:Int) 10000) 100*2<200)∧(0≤48+Int.tdiv (u:Int) 10000∧48+Int.tdiv (u:Int) 10000≤4294967295)∧(0≤48+Int.tdiv (u:Int) 10000∧48+Int.tdiv (u:Int) 10000≤255)∧ad (.tuple []) (I.ak 68 [(0,(ai.aq ([.agg [.int .u8 (48+Int.tdiv (u:Int) 10000),.int .u8 (↑(UInt8.toNat (List.getD ft (Int.toNat (Int.tdiv (Int.tmod (u:Int) 10000) 100*2)) 0)):Int),.int .u8 (↑(UInt8.toNat (List.getD ft (Int.toNat (Int.tdiv (Int.tmod (u:Int) 10000) 100*2+1)) 0)):Int),.int .u8 (↑(UInt8.toNat (List.getD ft (Int.toNat (Int.tmod (Int.tmod (u:Int) 10000) 100*2)) 0)):Int),.int .u8 (↑(UInt8.toNat (List.getD ft (Int.toNat (Int.tmod (Int.tmod (u:Int) 10000) 100*2+1)) 0)):Int),.int .u8 0,.int .u8 0,.int .u8 0,.int .u8 0,.int .u8 0,.int .u8 0,.int .u8 0,.int .u8 0,.int .u8 0,.int .u8 0,.int .u8 0,.int .u8 0,.int .u8 0,.int .u8 0,.int .u8 0,.int .u8 0,.int .u8 0,.int .u8 0,.int .u8 0]]) 24 true (some (154,24))))])) :
 bW 121 [.slice (some ⟨0,0,0,1,24⟩) 5 24,.int .u64 u] (I.rows 1 [(0,hN)]) ad :=
 bZ cl (.ao (.rounds 300) (ah 12001 (ah 14001 (ah 15001 (ah 16001 (ah 16002 (ah 16004 (ah 16005 (ah 17007 (ah 17008 (ah 17010 (ah 18007 (ah 18008 (ah 18010 (ah 26002 (ah 26003 .nil)))))))))))))))) aP
theorem II(u:Nat)(ad:bT)(aP:(0≤(u:Int)∧(u:Int)≤4294967295)∧((10000:Int)=0→False)∧(((10000:Int)=0→False)∧de .u32 (Int.tdiv (u:Int) 10000))∧(((100:Int)=0→False)∧de .u32 (Int.tdiv (Int.tmod (u:Int) 10000) 100))∧(0≤Int.tdiv (Int.tmod (u:Int) 10000) 100*2∧Int.tdiv (Int.tmod (u:Int) 10000) 100*2≤4294967295)∧((100:Int)=0→False)∧(0≤Int.tmod (Int.tmod (u:Int) 10000) 100*2∧Int.tmod (Int.tmod (u:Int) 10000) 100*2≤4294967295)∧(0≤Int.tmod (Int.tmod (u:Int) 10000) 100*2+1∧Int.tmod (Int.tmod (u:Int) 10000) 100*2+1≤4294967295)∧(0≤Int.tmod (Int.tmod (u:Int) 10000) 100*2+1∧Int.tmod (Int.tmod (u:Int) 10000) 100*2+1<200)∧(0≤Int.tmod (Int.tmod (u:Int) 10000) 100*2∧Int.tmod (Int.tmod (u:Int) 10000) 100*2<200)∧(0≤Int.tdiv (Int.tmod (u:Int) 10000) 100*2+1∧Int.tdiv (Int.tmod (u:Int) 10000) 100*2+1≤4294967295)∧(0≤Int.tdiv (Int.tmod (u:Int) 10000) 100*2+1∧Int.tdiv (Int.tmod (u:Int) 10000) 100*2+1<200)∧(0≤Int.tdiv (Int.tmod (u:Int) 10000) 100*2∧Int.tdiv (Int.tmod (u:Int) 10000) 100*2<200)∧((100:Int)=0→False)∧(0≤Int.tmod (Int.tdiv (u:Int) 10000) 100*2∧Int.tmod (Int.tdiv (u:Int) 10000) 100*2≤4294967295)∧(((100:Int)=0→False)∧de .u32 (Int.tdiv (Int.tdiv (u:Int) 10000) 100))∧(0≤Int.tmod (Int.tdiv (u:Int) 10000) 100*2+1∧Int.tmod (Int.tdiv (u:Int) 10000) 100*2+1≤4294967295)∧(0≤Int.tmod (Int.tdiv (u:Int) 10000) 100*2+1∧Int.tmod (Int.tdiv (u:Int) 10000) 100*2+1<200)∧(0≤Int.tmod (Int.tdiv (u:Int) 10000) 100*2∧Int.tmod (Int.tdiv (u:Int) 10000) 100*2<200)∧ad (.tuple []) (I.ak 87 [(0,(ai.aq ([.agg [.int .u8 (↑(UInt8.toNat (List.getD ft (Int.toNat (Int.tmod (Int.tdiv (u:Int) 10000) 100*2)) 0)):Int),.int .u8 (↑(UInt8.toNat (List.getD ft (Int.toNat (Int.tmod (Int.tdiv (u:Int) 10000) 100*2+1)) 0)):Int),.int .u8 (↑(UInt8.toNat (List.getD ft (Int.toNat (Int.tdiv (Int.tmod (u:Int) 10000) 100*2)) 0)):Int),.int .u8 (↑(UInt8.toNat (List.getD ft (Int.toNat (Int.tdiv (Int.tmod (u:Int) 10000) 100*2+1)) 0)):Int),.int .u8 (↑(UInt8.toNat (List.getD ft (Int.toNat (Int.tmod (Int.tmod (u:Int) 10000) 100*2)) 0)):Int),.int .u8 (↑(UInt8.toNat (List.getD ft (Int.toNat (Int.tmod (Int.tmod (u:Int) 10000) 100*2+1)) 0)):Int),.int .u8 0,.int .u8 0,.int .u8 0,.int .u8 0,.int .u8 0,.int .u8 0,.int .u8 0,.int .u8 0,.int .u8 0,.int .u8 0,.int .u8 0,.int .u8 0,.int .u8 0,.int .u8 0,.int .u8 0,.int .u8 0,.int .u8 0,.int .u8 0]]) 24 true (some (154,24))))])) :
 bW 121 [.slice (some ⟨0,0,0,1,24⟩) 6 24,.int .u64 u] (I.rows 1 [(0,hN)]) ad :=
 bZ cl (.ao (.rounds 300) (ah 12001 (ah 14001 (ah 15001 (ah 16001 (ah 16002 (ah 16004 (ah 16005 (ah 17007 (ah 17008 (ah 17010 (ah 18007 (ah 18008 (ah 18010 (ah 21001 (ah 21002 (ah 22001 (ah 23007 (ah 23008 (ah 23010 .nil)))))))))))))))))))) aP
theorem IJ(u:Nat)(ad:bT)(aP:(0≤(u:Int)∧(u:Int)≤4294967295)∧((10000:Int)=0→False)∧(((10000:Int)=0→False)∧de .u32 (Int.tdiv (u:Int) 10000))∧(((100:Int)=0→False)∧de .u32 (Int.tdiv (Int.tmod (u:Int) 10000) 100))∧(0≤Int.tdiv (Int.tmod (u:Int) 10000) 100*2∧Int.tdiv (Int.tmod (u:Int) 10000) 100*2≤4294967295)∧((100:Int)=0→False)∧(0≤Int.tmod (Int.tmod (u:Int) 10000) 100*2∧Int.tmod (Int.tmod (u:Int) 10000) 100*2≤4294967295)∧(0≤Int.tmod (Int.tmod (u:Int) 10000) 100*2+1∧Int.tmod (Int.tmod (u:Int) 10000) 100*2+1≤4294967295)∧(0≤Int.tmod (Int.tmod (u:Int) 10000) 100*2+1∧Int.tmod (Int.tmod (u:Int) 10000) 100*2+1<200)∧(0≤Int.tmod (Int.tmod (u:Int) 10000) 100*2∧Int.tmod (Int.tmod (u:Int) 10000) 100*2<200)∧(0≤Int.tdiv (Int.tmod (u:Int) 10000) 100*2+1∧Int.tdiv (Int.tmod (u:Int) 10000) 100*2+1≤4294967295)∧(0≤Int.tdiv (Int.tmod (u:Int) 10000) 100*2+1∧Int.tdiv (Int.tmod (u:Int) 10000) 100*2+1<200)∧(0≤Int.tdiv (Int.tmod (u:Int) 10000) 100*2∧Int.tdiv (Int.tmod (u:Int) 10000) 100*2<200)∧((100:Int)=0→False)∧(0≤Int.tmod (Int.tdiv (u:Int) 10000) 100*2∧Int.tmod (Int.tdiv (u:Int) 10000) 100*2≤4294967295)∧(((100:Int)=0→False)∧de .u32 (Int.tdiv (Int.tdiv (u:Int) 10000) 100))∧(0≤Int.tmod (Int.tdiv (u:Int) 10000) 100*2+1∧Int.tmod (Int.tdiv (u:Int) 10000) 100*2+1≤4294967295)∧(0≤Int.tmod (Int.tdiv (u:Int) 10000) 100*2+1∧Int.tmod (Int.tdiv (u:Int) 10000) 100*2+1<200)∧(0≤Int.tmod (Int.tdiv (u:Int) 10000) 100*2∧Int.tmod (Int.tdiv (u:Int) 10000) 100*2<200)∧(0≤48+Int.tdiv (Int.tdiv (u:Int) 10000) 100∧48+Int.tdiv (Int.tdiv (u:Int) 10000) 100≤4294967295)∧(0≤48+Int.tdiv (Int.tdiv (u:Int) 10000) 100∧48+Int.tdiv (Int.tdiv (u:Int) 10000) 100≤255)∧ad (.tuple []) (I.ak 93 [(0,(ai.aq ([.agg [.int .u8 (48+Int.tdiv (Int.tdiv (u:Int) 10000) 100),.int .u8 (↑(UInt8.toNat (List.getD ft (Int.toNat (Int.tmod (Int.tdiv (u:Int) 10000) 100*2)) 0)):Int),.int .u8 (↑(UInt8.toNat (List.getD ft (Int.toNat (Int.tmod (Int.tdiv (u:Int) 10000) 100*2+1)) 0)):Int),.int .u8 (↑(UInt8.toNat (List.getD ft (Int.toNat (Int.tdiv (Int.tmod (u:Int) 10000) 100*2)) 0)):Int),.int .u8 (↑(UInt8.toNat (List.getD ft (Int.toNat (Int.tdiv (Int.tmod (u:Int) 10000) 100*2+1)) 0)):Int),.int .u8 (↑(UInt8.toNat (List.getD ft (Int.toNat (Int.tmod (Int.tmod (u:Int) 10000) 100*2)) 0)):Int),.int .u8 (↑(UInt8.toNat (List.getD ft (Int.toNat (Int.tmod (Int.tmod (u:Int) 10000) 100*2+1)) 0)):Int),.int .u8 0,.int .u8 0,.int .u8 0,.int .u8 0,.int .u8 0,.int .u8 0,.int .u8 0,.int .u8 0,.int .u8 0,.int .u8 0,.int .u8 0,.int .u8 0,.int .u8 0,.int .u8 0,.int .u8 0,.int .u8 0,.int .u8 0]]) 24 true (some (154,24))))])) :
 bW 121 [.slice (some ⟨0,0,0,1,24⟩) 7 24,.int .u64 u] (I.rows 1 [(0,hN)]) ad :=
 bZ cl (.ao (.rounds 300) (ah 12001 (ah 14001 (ah 15001 (ah 16001 (ah 16002 (ah 16004 (ah 16005 (ah 17007 (ah 17008 (ah 17010 (ah 18007 (ah 18008 (ah 18010 (ah 21001 (ah 21002 (ah 22001 (ah 23007 (ah 23008 (ah 23010 (ah 26002 (ah 26003 .nil)))))))))))))))))))))) aP
end Go.Proofs.YtddnafghiejcoaaGreatDoor
namespace Go.Keys
open Go.Lib
def Scalar(r:Nat):Prop:=r<55296∨(57343<r∧r≤1114111)
theorem jj{n:Nat}(h:n<256):(u8 n).toNat=n:=by unfold u8;rw [UInt8.toNat_ofNat'];omega
theorem put_eq{r:Nat}(hs:Scalar r):put r=if r<128 then [u8 r]else if r<2048 then [u8 (192+r/64),u8 (128+r%64)]
 else if r<65536 then [u8 (224+r/4096),u8 (128+r/64%64),u8 (128+r%64)]
 else [u8 (240+r/262144),u8 (128+r/4096%64),u8 (128+r/64%64),u8 (128+r%64)]:=by
 unfold Scalar at hs;have e:(if 55296≤r∧r≤57343∨1114111<r then 65533 else r)=r:=if_neg J;unfold put;simp only [e]
theorem oO{r:Nat}(h:r<128):put r=[u8 r]:=by rw [put_eq (.inl J),if_pos h]
theorem rO{r:Nat}(aa:128≤r)(h:r<2048):put r=[u8 (192+r/64),u8 (128+r%64)]:=by rw [put_eq (.inl J),if_neg J,if_pos h]
theorem pX{r:Nat}(hs:Scalar r)(aa:2048≤r)(h:r<65536):put r=[u8 (224+r/4096),u8 (128+r/64%64),u8 (128+r%64)]:=by rw [put_eq hs,if_neg J,if_neg J,if_pos h]
theorem rP{r:Nat}(hs:Scalar r)(aa:65536≤r):put r=[u8 (240+r/262144),u8 (128+r/4096%64),u8 (128+r/64%64),u8 (128+r%64)]:=by rw [put_eq hs,if_neg J,if_neg J,if_neg J]
theorem IK{n:Nat}(h:n<128):lead n=(1,0,0):=by unfold lead;rw [if_pos h]
theorem IL{n:Nat}(aa:194≤n)(h:n≤223):lead n=(2,128,191):=by unfold lead;rw [if_neg J,if_pos ⟨aa,h⟩]
theorem IM{n:Nat}(aa:224≤n)(h:n≤239):lead n=(3,if n=224 then 160 else 128,if n=237 then 159 else 191):=by
 unfold lead;rw [if_neg J,if_neg J];by_cases a:n=224
 ·rw [if_pos a,if_pos a,if_neg J]
 ·rw [if_neg a,if_neg a];by_cases b:n=237
  ·rw [if_pos b,if_pos b]
  ·rw [if_neg b,if_neg b,if_pos J]
theorem IN{n:Nat}(aa:240≤n)(h:n≤244):lead n=(4,if n=240 then 144 else 128,if n=244 then 143 else 191):=by
 unfold lead;rw [if_neg J,if_neg J,if_neg J,if_neg J,if_neg J];by_cases a:n=240
 ·rw [if_pos a,if_pos a,if_neg J]
 ·rw [if_neg a,if_neg a];by_cases b:n=244
  ·rw [if_neg J,if_pos b,if_pos b]
  ·rw [if_pos J,if_neg b]
structure x1(r:Nat):Prop where
 whole:first (put r)=(r,(put r).length,false)
 parts:∀k,0<k→k<(put r).length→(first ((put r).take k)).2.2=true
 Nk:1<(put r).length→ ∀b∈put r,128≤b.toNat
theorem x2(i aE ag v:Nat)(l:Bytes):tail 0 i aE ag v l=(v,i,false):=by unfold tail;rfl
theorem tail_nil(k i aE ag v:Nat):tail (k+1) i aE ag v []=(65533,i,true):=rfl
theorem k7{k i aE ag v:Nat}{c:UInt8}{r:Bytes}(aa:aE≤c.toNat)(ae:c.toNat≤ag):tail (k+1) i aE ag v (c::r)=tail k (i+1) 128 191 (v*64+c.toNat%64) r:=by rw [tail,if_neg J]
theorem mb{b:UInt8}{r:Bytes}{k aE ag:Nat}(h:lead b.toNat=(k+2,aE,ag)):first (b::r)=tail (k+1) 1 aE ag (b.toNat%2^(7- (k+2))) r:=by simp only [first,h];rw [if_neg J,if_neg J];rfl
theorem chars{r:Nat}(hs:Scalar r):x1 r:=by
 have cI:=hs;unfold Scalar at cI;by_cases aa:r<128
 ·rw [show x1 r=x1 r from rfl];refine⟨?_,?_,?_⟩
  ·rw [oO aa];simp only [first,jj (show r<256 by omega),IK aa];rfl
  ·rw [oO aa];intro k a b;simp only [List.length_cons,List.length_nil]at b;omega
  ·rw [oO aa];intro a;simp at a
 by_cases ae:r<2048
 ·have e:=rO J ae;have a0:(u8 (192+r/64)).toNat=192+r/64:=jj J;have e1:(u8 (128+r%64)).toNat=128+r%64:=jj J;have hO:lead (u8 (192+r/64)).toNat=(0+2,128,191):=by rw [a0];exact IL J J
  refine⟨?_,?_,?_⟩
  ·rw [e,mb hO,k7 J J,x2,a0,e1];simp only [List.length_cons,List.length_nil,Prod.mk.injEq,and_true,Nat.reduceAdd];omega
  ·intro k c d;rw [e]at d⊢;simp only [List.length_cons,List.length_nil]at d;obtain rfl:k=1:= J;show(first [_]).2.2=true;rw [mb hO,tail_nil]
  ·rw [e];intro _ b an;simp only [List.mem_cons,List.not_mem_nil,or_false]at an;rcases an with rfl|rfl<;>omega
 by_cases aS:r<65536
 ·have e:=pX hs J aS;have a0:(u8 (224+r/4096)).toNat=224+r/4096:=jj J;have e1:(u8 (128+r/64%64)).toNat=128+r/64%64:=jj J;have a2:(u8 (128+r%64)).toNat=128+r%64:=jj J;have hO:lead (u8 (224+r/4096)).toNat=(1+2,if 224+r/4096=224 then 160 else 128,if 224+r/4096=237 then 159 else 191):=by rw [a0];exact IM J J
  refine⟨?_,?_,?_⟩
  ·rw [e,mb hO,k7 (by rw [e1];split<;>omega) (by rw [e1];split<;>omega),k7 J J,x2,a0,e1,a2];simp only [List.length_cons,List.length_nil,Prod.mk.injEq,and_true,Nat.reduceAdd];omega
  ·intro k c d;rw [e]at d⊢;simp only [List.length_cons,List.length_nil]at d;rcases (show k=1∨k=2 by omega)with rfl|rfl
   ·show(first [_]).2.2=true;rw [mb hO,tail_nil]
   ·show(first [_,_]).2.2=true;rw [mb hO,k7 (by rw [e1];split<;>omega) (by rw [e1];split<;>omega),tail_nil]
  ·rw [e];intro _ b an;simp only [List.mem_cons,List.not_mem_nil,or_false]at an;rcases an with rfl|rfl|rfl<;>omega
 ·have e:=rP hs J;have a0:(u8 (240+r/262144)).toNat=240+r/262144:=jj J;have e1:(u8 (128+r/4096%64)).toNat=128+r/4096%64:=jj J;have a2:(u8 (128+r/64%64)).toNat=128+r/64%64:=jj J;have a3:(u8 (128+r%64)).toNat=128+r%64:=jj J;have hO:lead (u8 (240+r/262144)).toNat=(2+2,if 240+r/262144=240 then 144 else 128,if 240+r/262144=244 then 143 else 191):=by rw [a0];exact IN J J
  refine⟨?_,?_,?_⟩
  ·rw [e,mb hO,k7 (by rw [e1];split<;>omega) (by rw [e1];split<;>omega),k7 J J,k7 J J,x2,a0,e1,a2,a3];simp only [List.length_cons,List.length_nil,Prod.mk.injEq,and_true,Nat.reduceAdd];omega
  ·intro k c d;rw [e]at d⊢;simp only [List.length_cons,List.length_nil]at d;rcases (show k=1∨k=2∨k=3 by omega)with rfl|rfl|rfl
   ·show(first [_]).2.2=true;rw [mb hO,tail_nil]
   ·show(first [_,_]).2.2=true;rw [mb hO,k7 (by rw [e1];split<;>omega) (by rw [e1];split<;>omega),tail_nil]
   ·show(first [_,_,_]).2.2=true;rw [mb hO,k7 (by rw [e1];split<;>omega) (by rw [e1];split<;>omega),k7 J J,tail_nil]
  ·rw [e];intro _ b an;simp only [List.mem_cons,List.not_mem_nil,or_false]at an;rcases an with rfl|rfl|rfl|rfl<;>omega
theorem IP(r:Nat):put r≠[]:=by intro h;have:=tX r;rw [h]at this;simp at this
theorem nt{r:Int}(h:shown r=true):Scalar r.toNat∧32≤r.toNat∧r.toNat≠127∧(r.toNat:Int)=r:=by simp only [shown,Bool.and_eq_true,Bool.or_eq_true,decide_eq_true_eq]at h;unfold Scalar;omega
end Go.Keys
namespace Go.Proofs.YtddnafghiejcoaaGreatDoor
open Go.bh Go.Keys Go.Lib
set_option maxRecDepth 1000000
theorem rU(a:Nat):Int.tmod (a:Int) 100=((a%100:Nat):Int):=rfl
theorem rV(a:Nat):Int.tdiv (a:Int) 100=((a/100:Nat):Int):=rfl
theorem ue(a:Nat):Int.tmod (a:Int) 10000=((a%10000:Nat):Int):=rfl
theorem uf(a:Nat):Int.tdiv (a:Int) 10000=((a/10000:Nat):Int):=rfl
theorem rW{u:Nat}(h:10≤u):decDigits u=decDigits (u/10)++[u8 (48+u%10)]:=by rw [decDigits,dif_neg J];rfl
theorem p1{u:Nat}(h:u<10):decDigits u=[u8 (48+u)]:=by rw [decDigits,dif_pos h];rfl
theorem ug{n:Nat}(h:n<256):((u8 n).toNat:Int)=(n:Nat):=by rw [jj h]
theorem kg{p:Nat}(h:p<100):((UInt8.toNat (List.getD ft (Int.toNat ((p:Int)*2)) 0):Nat):Int)=((48+p/10:Nat):Int):=by have e:Int.toNat ((p:Int)*2)=p*2:= J;rw [e];show((sm (p*2)).toNat:Int)=_;rw [sm_hi p h];exact ug J
theorem kh{p:Nat}(h:p<100):((UInt8.toNat (List.getD ft (Int.toNat ((p:Int)*2+1)) 0):Nat):Int)=((48+p%10:Nat):Int):=by have e:Int.toNat ((p:Int)*2+1)=p*2+1:= J;rw [e];show((sm (p*2+1)).toNat:Int)=_;rw [sm_lo p h];exact ug J
theorem ki{n:Nat}(h:n≤4294967295):de .u32 (n:Int):=⟨by show(0:Int)≤_;omega,by show _≤(4294967295:Int);omega⟩
theorem rX{u:Nat}(h:u<10):b5 (decDigits u)=[.int .u8 ((48+u:Nat):Int)]:=by rw [p1 h];show [R.int .u8 ((u8 (48+u)).toNat:Int)]=_;rw [ug J]
theorem gr{u:Nat}(h:10≤u):b5 (decDigits u)=b5 (decDigits (u/10))++[.int .u8 ((48+u%10:Nat):Int)]:=by rw [rW h];show List.map _ (_++_)=_;rw [List.map_append];show _++[R.int .u8 ((u8 (48+u%10)).toNat:Int)]=_;rw [ug J];rfl
def gb(u hP:Nat):ai:=k6 (b5 (decDigits u)++List.replicate (24-hP) eQ)
theorem IQ{u:Nat}(aa:100≤u)(ae:u<1000):bE 121 [.slice (some ⟨0,0,0,1,24⟩) 3 24,.int .u64 u] (I.rows 1 [(0,hN)]) (.tuple []) (I.ak 46 [(0,gb u 3)]):=by
 obtain⟨v,af,az,rfl,rfl⟩:=IF u (fun v af=>v=.tuple []∧af=I.ak 46 [(0,gb u 3)]) (by
  simp only [rU,rV,kg (show u%100<100 by omega),kh (show u%100<100 by omega)];refine⟨J,J,J,⟨J,ki J⟩,J,J,J,J,J,True.intro,?_⟩;unfold gb k6;rw [gr J,gr J,rX J,Nat.div_div_eq_div_mul];simp only [show 10*10=100 from rfl,show u/10%10=u%100/10 by omega,show u%10=u%100%10 by omega]
  rfl)
 exact az
theorem IR{u:Nat}(aa:1000≤u)(ae:u<10000):bE 121 [.slice (some ⟨0,0,0,1,24⟩) 4 24,.int .u64 u] (I.rows 1 [(0,hN)]) (.tuple []) (I.ak 62 [(0,gb u 4)]):=by
 obtain⟨v,af,az,rfl,rfl⟩:=IG u (fun v af=>v=.tuple []∧af=I.ak 62 [(0,gb u 4)]) (by
  simp only [rU,rV,ue,uf,kg (show u%10000%100<100 by omega),kh (show u%10000%100<100 by omega),kg (show u%10000/100<100 by omega),kh (show u%10000/100<100 by omega)];refine⟨J,J,⟨J,ki J⟩,⟨J,ki J⟩,J,J,J,J,J,J,J,J,J,True.intro,?_⟩;unfold gb k6;rw [gr J,gr J,gr J,rX J];simp only [Nat.div_div_eq_div_mul,Nat.reduceMul,show 48+u/1000=48+u%10000/100/10 by omega,show u/100%10=u%10000/100%10 by omega,show u/10%10=u%10000%100/10 by omega,show u%10=u%10000%100%10 by omega]
  rfl)
 exact az
theorem IS{u:Nat}(aa:10000≤u)(ae:u<100000):bE 121 [.slice (some ⟨0,0,0,1,24⟩) 5 24,.int .u64 u] (I.rows 1 [(0,hN)]) (.tuple []) (I.ak 68 [(0,gb u 5)]):=by
 obtain⟨v,af,az,rfl,rfl⟩:=IH u (fun v af=>v=.tuple []∧af=I.ak 68 [(0,gb u 5)]) (by
  simp only [rU,rV,ue,uf,kg (show u%10000%100<100 by omega),kh (show u%10000%100<100 by omega),kg (show u%10000/100<100 by omega),kh (show u%10000/100<100 by omega)];refine⟨J,J,⟨J,ki J⟩,⟨J,ki J⟩,J,J,J,J,J,J,J,J,J,J,J,True.intro,?_⟩;unfold gb k6;rw [gr J,gr J,gr J,gr J,rX J];simp only [Nat.div_div_eq_div_mul,Nat.reduceMul,show u/1000%10=u%10000/100/10 by omega,show u/100%10=u%10000/100%10 by omega,show u/10%10=u%10000%100/10 by omega,show u%10=u%10000%100%10 by omega]
  rfl)
 exact az
theorem IT{u:Nat}(aa:100000≤u)(ae:u<1000000):bE 121 [.slice (some ⟨0,0,0,1,24⟩) 6 24,.int .u64 u] (I.rows 1 [(0,hN)]) (.tuple []) (I.ak 87 [(0,gb u 6)]):=by
 obtain⟨v,af,az,rfl,rfl⟩:=II u (fun v af=>v=.tuple []∧af=I.ak 87 [(0,gb u 6)]) (by
  simp only [rU,rV,ue,uf,kg (show u%10000%100<100 by omega),kh (show u%10000%100<100 by omega),kg (show u%10000/100<100 by omega),kh (show u%10000/100<100 by omega),kg (show u/10000%100<100 by omega),kh (show u/10000%100<100 by omega)];refine⟨J,J,⟨J,ki J⟩,⟨J,ki J⟩,J,J,J,J,J,J,J,J,J,J,J,⟨J,ki J⟩,J,J,J,True.intro,?_⟩;unfold gb k6;rw [gr J,gr J,gr J,gr J,gr J,rX J];simp only [Nat.div_div_eq_div_mul,Nat.reduceMul,show 48+u/100000=48+u/10000%100/10 by omega,show u/10000%10=u/10000%100%10 by omega,show u/1000%10=u%10000/100/10 by omega,show u/100%10=u%10000/100%10 by omega,show u/10%10=u%10000%100/10 by omega,show u%10=u%10000%100%10 by omega]
  rfl)
 exact az
theorem IU{u:Nat}(aa:1000000≤u)(ae:u<10000000):bE 121 [.slice (some ⟨0,0,0,1,24⟩) 7 24,.int .u64 u] (I.rows 1 [(0,hN)]) (.tuple []) (I.ak 93 [(0,gb u 7)]):=by
 obtain⟨v,af,az,rfl,rfl⟩:=IJ u (fun v af=>v=.tuple []∧af=I.ak 93 [(0,gb u 7)]) (by
  simp only [rU,rV,ue,uf,kg (show u%10000%100<100 by omega),kh (show u%10000%100<100 by omega),kg (show u%10000/100<100 by omega),kh (show u%10000/100<100 by omega),kg (show u/10000%100<100 by omega),kh (show u/10000%100<100 by omega)];refine⟨J,J,⟨J,ki J⟩,⟨J,ki J⟩,J,J,J,J,J,J,J,J,J,J,J,⟨J,ki J⟩,J,J,J,J,J,True.intro,?_⟩;unfold gb k6;rw [gr J,gr J,gr J,gr J,gr J,gr J,rX J];simp only [Nat.div_div_eq_div_mul,Nat.reduceMul,show u/100000%10=u/10000%100/10 by omega,show u/10000%10=u/10000%100%10 by omega,show u/1000%10=u%10000/100/10 by omega,show u/100%10=u%10000/100%10 by omega,show u/10%10=u%10000%100/10 by omega,show u%10=u%10000%100%10 by omega]
  rfl)
 exact az
end Go.Proofs.YtddnafghiejcoaaGreatDoor
namespace Go.Proofs.YtddnafghiejcoaaGreatDoor
open Go.bh Go.Keys
set_option maxRecDepth 1000000
structure dI(H:I)(j:Nat)(v:R)(bs:Bytes):Prop where
 ex:∃b:ai,v=.slice (some ⟨j,b.bf,0,0,1⟩) bs.length bs.length∧H.get j=some b∧b.ro=false∧b.bc=b5 bs∧(b.exact=false→b.ty=none∨b.ty=some (5,0))
 lt:j<H.U
theorem dI.keep{H aH:I}{j:Nat}{v:R}{bs:Bytes}(g:dI H j v bs)(ah:aH.get j=H.get j)(aI:H.U≤aH.U):dI aH j v bs:=by obtain⟨b,aa,ae,aS⟩:=g.ex;have ay:=g.lt;exact⟨⟨b,aa,by rw [ah];exact ae,aS⟩,J⟩
theorem dI.bc{H:I}{j:Nat}{v:R}{bs:Bytes}(g:dI H j v bs):en 1 v H=some (b5 bs):=by
 obtain⟨b,rfl,ae,aS,bj,cb⟩:=g.ex;simp only [en,if_true,ae];split
 ·rename_i h;rw [List.eq_nil_of_length_eq_zero h];rfl
 ·rw [if_pos ⟨by simp [ai.bL,bj,b5],by simp [bj,b5]⟩,bj];rw [List.drop_zero,List.take_of_length_le (by rw [ub];omega)]
theorem dI.aq{H:I}{j:Nat}{bs:Bytes}{e:Bool}{ty:l8}(ah:H.get j=some (ai.aq (b5 bs) 1 e ty))(ay:j<H.U)(bz:e=false→ty=none∨ty=some (5,0)):dI H j (.slice (some ⟨j,0,0,0,1⟩) bs.length bs.length) bs:=⟨⟨_,rfl,ah,rfl,rfl,bz⟩,ay⟩
theorem dI.fc{H:I}{j nid:Nat}{v x:R}{bs new:Bytes}(g:dI H j v bs)(ac:en 1 x H=some (b5 new))(bJ:new≠[])(hlen:bs.length+new.length<2^40)(aI:nid<H.U) :
 ∃aK aH eG,fb env.D 34 v x nid H=some (aK,aH)∧dI aH eG aK (bs++new)∧(eG=j∨eG=nid)∧aH.U=H.U∧∀i,i≠j→i≠nid→aH.get i=H.get i:=by
 have eh:=g.bc;obtain⟨b,rfl,ae,aS,bj,cb⟩:=g.ex;have dv:(b5 new).length=new.length:=ub new;have lN:0<new.length:=List.length_pos_iff.2 bJ;rw [←pO ud];cases he:b.exact with
 |true =>
  refine⟨_,_,nid,G3 ud ac (by rw [dv];omega) (by rw [dv];omega) ae ⟨rfl,rfl⟩ (by rw [dv];omega) he eh,?_,.inr rfl,rfl,fun i cS dO=>I.dZ _ _ (Ne.symm dO)⟩;refine⟨⟨_,?_,I.eU _ _ _,rfl,by simp [ai.aq,b5],fun _=> .inr rfl⟩,aI⟩;simp [gL,ai.aq,dv]
 |false =>
  have IV:b5 new≠[]:=by intro h;have:=congrArg List.length h;rw [dv,List.length_nil]at this;omega
  refine⟨_,_,j,Bh ud ac IV (by rw [dv];omega) (by rw [dv];omega) ae ⟨rfl,rfl⟩ (by rw [dv];omega) he aS rfl (by simp [bj,ub]) (cb he),?_,.inl rfl,rfl,fun i cS dO=>I.dZ _ _ (Ne.symm cS)⟩;refine⟨⟨_,?_,I.eU _ _ _,aS,by simp [ai.grow,bj,b5],fun _=>cb he⟩,g.lt⟩;simp [ai.grow,dv]
theorem x3(s x:R)(nid:Nat)(h:I):e5 env .append #[34,34] [s,x] nid h=fb env.D 34 s x nid h:=pO ud s
theorem BS(s x:R)(nid:Nat)(h:I):e5 env .append #[34,9] [s,x] nid h=fb env.D 34 s x nid h:=by have ae:(bq.D env 9).map (fun d=>d.kind)=some .string:= aG;obtain⟨d,aa,k⟩:=Option.map_eq_some_iff.1 ae;simp only [e5,List.getElem?_toArray,List.getElem?_cons_zero,List.getElem?_cons_succ,aa,k]
def x4(i:Nat):Bytes:=if i<10 then [u8 (48+i)]else [u8 (48+i/10),u8 (48+i%10)]
theorem IW{i:Nat}(h:i<100):Lib.decDigits i=x4 i:=by
 unfold x4;split
 ·exact p1 ‹_›
 ·rw [rW J,p1 J];rfl
def BT(r:Option (R×I))(i:Nat):Bool:=match r with|some (.str s,_)=>decide (s=x4 i)|_=>false
theorem IX:∀i:Fin 100,BT (h6 Tryz.prog env 40 119 [.int .i64 (i.val:Int)] ⟨0,.nil⟩) i.val=true:=by decide+kernel
theorem IY{i:Nat}(h:i<100)(H:I):bE 119 [.int .i64 (i:Nat)] H (.str (Lib.decDigits i)) H:=by
 have k:=IX ⟨i,h⟩;simp only at k;unfold BT at k;split at k
 ·rename_i s aa aR;rw [oD]at aR;have hs:=of_decide_eq_true k;rw [IW h,←hs];exact(bn.mZ dB mixed aR).bare (fun a aD=>by rw [List.mem_singleton.1 aD];exact cO.of rfl) (cO.of rfl) H
 ·cases k
abbrev p2(hP x:Nat):R:=R.slice (some ⟨x,0,0,1,24⟩) hP 24
theorem BU(H H1 H2 bd cd:I)(j bf k n hP x:Nat)(s:Bytes)(v1 v2:R)(ad:bT)(aP:aV (H.U) (H.U) (aV (H.U) (H.U+1) (aV (H.U+6) (H.U+6) (aV (H.U+6) (H.U+7) ((0≤(n:Int)∧(n:Int)≤18446744073709551615)∧aV (H.U+6) (H.U+10) (some (R.bool false)=some (R.bool false)∧aV (H.U+6) (H.U+12) (aV (H.U+17) (H.U+17) (aV (H.U+17) (H.U+18) (aV (H.U+17) (H.U+20) (((n:Int)<100→aV (H.U+17) (H.U+22) ((-9223372036854775808≤(n:Int)∧(n:Int)≤9223372036854775807)∧bu 119 [.int .i64 (n:Int)] (I.mk (H.U+28) (H.2)) (.str s) (I.mk (H.U+28) (H.2))∧e5 env Builtin.append {toList:=[34,9]} [.slice (some ⟨j,bf,0,0,1⟩) k k,.str s] (H.U+26) (I.mk (H.U+28) (H.2))=some (v1,H1)∧fg (H.U+17) (H1.U) (fg (H.U+6) (H1.U) (fg (H.U) (H1.U) (ad v1 H1)))))∧(¬(n:Int)<100→aV (H.U+17) (H.U+22) (bb env cz (H.U+22) (aY [(12,.bool false),(11,.int .u64 (n:Int)),(10,.bool true),(9,.int .i64 10),(6,.slice none 0 0),(0,.slice (some ⟨j,bf,0,0,1⟩) k k),(1,.int .u64 (n:Int)),(2,.int .i64 10)]) (I.mk (H.U+23) (H.2)) (Op.alloc 154)=some (R.ptr (some ⟨x,0,0,0,24⟩),H2)∧aV (H.U+17) (H2.U) (bu 120 [.int .u64 (n:Int)] (I.mk (H2.U+3) (H2.2)) (.int .i64 (hP:Int)) (I.mk (H2.U+3) (H2.2))∧aV (H.U+17) (H2.U+3) (eg env.D 154 (.ptr (some ⟨x,0,0,0,24⟩)) none (some (.int .i64 (hP:Int))) none=some ((p2 hP x))∧bu 121 [(p2 hP x),.int .u64 (n:Int)] (I.mk (H2.U+7) (H2.2)) (.tuple []) bd∧aV (H.U+17) (bd.U) (eg env.D 154 (.ptr (some ⟨x,0,0,0,24⟩)) none (some (.int .i64 (hP:Int))) none=some ((p2 hP x))∧e5 env Builtin.append {toList:=[34,34]} [.slice (some ⟨j,bf,0,0,1⟩) k k,(p2 hP x)] (bd.U+3) (I.mk (bd.U+5) (bd.2))=some (v2,cd)∧fg (H.U+17) (cd.U) (fg (H.U+6) (cd.U) (fg (H.U) (cd.U) (ad v2 cd)))))))))))))))))) :
 bW 73 [.slice (some ⟨j,bf,0,0,1⟩) k k,.int .i64 n,.int .i64 10] H ad :=
 bZ cl (he 1003 (ah 1001 (.ao (.val 2001 (.bool false)) (he 5003 (.aO 2001 (ah 3002 (.ao (.val 3003 (.str s)) (.ao (.act 3004 v1 fun x=>H1) .nil))) (.ao (.act 4000 (.ptr (some ⟨x,0,0,0,24⟩)) fun x=>H2) (.ao (.val 5001 (.int .i64 (hP:Int))) (.ao (.val 6001 ((p2 hP x))) (.ao (.act 6003 (.tuple []) fun x=>bd) (.ao (.val 7002 ((p2 hP x))) (.ao (.act 7003 v2 fun x=>cd) .nil))))))))))) aP
theorem IZ{l:List R}(h:k5 l=true):cO (.agg l):=by
 have an:=Iy h;refine⟨fun r=> ?_,?_⟩
 ·have:∀(l:List R),(∀a∈l,cO a)→R.fN r l=l:=by
   intro l;induction l with
   |nil=>intro _;rfl
   |cons a t ih=>intro h;rw [R.fN,(h a a1).1 r,ih fun x ac=>h x (by simp [ac])]
  rw [R.be,this l an]
 ·have:∀(l:List R),(∀a∈l,cO a)→ec (fun _=>False) l:=by
   intro l;induction l with
   |nil=>intro _;exact trivial
   |cons a t ih=>intro h;exact⟨(h a a1).2,ih fun x ac=>h x (by simp [ac])⟩
  exact this l an
theorem x5{l:List R}(h:k5 l=true):iD (k6 l):=by intro e he;simp only [k6,ai.aq,List.mem_singleton]at he;subst he;exact IZ h
theorem I0(a b:List R):k5 (a++b)=(k5 a&&k5 b):=by simp [k5]
theorem I1(l:Bytes):k5 (b5 l)=true:=by simp [k5,b5]
theorem I2(u hP:Nat):iD (gb u hP):=x5 (by rw [I0,I1];simp [k5,eQ])
theorem I3{u:Nat}(aa:100≤u)(ae:u<10000000):∃k,bE 121 [.slice (some ⟨0,0,0,1,24⟩) (gS u) 24,.int .u64 u] (I.of [hN]) (.tuple []) (I.ak (k+1) [(0,gb u (gS u))]):=by
 have e:I.of [hN]=I.rows 1 [(0,hN)]:= aG;rw [e];unfold gS;rw [if_neg J,if_neg J];by_cases a:u<1000
 ·rw [if_pos a];exact⟨45,IQ aa a⟩
 ·rw [if_neg a];by_cases b:u<10000
  ·rw [if_pos b];exact⟨61,IR J b⟩
  ·rw [if_neg b];by_cases c:u<100000
   ·rw [if_pos c];exact⟨67,IS J c⟩
   ·rw [if_neg c];by_cases d:u<1000000
    ·rw [if_pos d];exact⟨86,IT J d⟩
    ·rw [if_neg d,if_pos ae];exact⟨92,IU J ae⟩
theorem I4{u x:Nat}{H:I}(aa:100≤u)(ae:u<10000000)(ah:H.get x=some hN)(ac:x<H.U) :
 ∃aH,bE 121 [.slice (some ⟨x,0,0,1,24⟩) (gS u) 24,.int .u64 u] H (.tuple []) aH∧aH.get x=some (gb u (gS u))∧H.U≤aH.U∧∀i,i<H.U→i≠x→aH.get i=H.get i:=by
 obtain⟨k,az⟩:=I3 aa ae;have gh:er [x] H.U 0=x:=pR (ids:=[x]) a1
 obtain⟨aH,gq,aI,fo,j8⟩:=az.place (by show 1≤k+1;omega) (fun b an=>by rw [List.mem_singleton.1 an];exact(x5 cg).ha _) ⟨by show(0:Nat)<1;decide,trivial,trivial⟩ (H:=H) [x] a1 (fun j aW=>by rw [List.mem_singleton.1 aW];exact ac) rfl (fun i b h=>by
  cases i with
  |zero =>
   simp only [List.getElem?_cons_zero,Option.some.injEq]at h;subst h;rw [gh,(x5 cg).be];exact ah
  |succ i=>simp at h)
 have g:=fo 0 (gb u (gS u)) rfl;rw [gh,(I2 u (gS u)).be]at g;refine⟨aH,?_,g,by rw [aI];omega,fun i ag I5=>j8 i ag (by simpa using I5)⟩;simpa [R.be,R.fN,di.be,gh]using gq
theorem I6{u:Nat}(aa:100≤u)(ae:u<10000000):3≤gS u∧gS u≤7:=by
 unfold gS
 repeat' split
 all_goals omega
theorem BV(u:Nat)(h:u<10000000):(Lib.decDigits u).length=gS u:=by rw [Lib.decDigits_length,Bl _ J]
theorem I7{u x n:Nat}{H:I}(ae:u<10000000)(ah:H.get x=some (gb u n))(aI:n=gS u)(jy:n≠0)(Nl:n≤24):en 1 (.slice (some ⟨x,0,0,1,24⟩) n 24) H=some (b5 (Lib.decDigits u)):=by
 have ay:=BV u ae;have dv:(b5 (Lib.decDigits u)).length=n:=by rw [ub,ay,aI]
 simp only [en];rw [if_neg cg,if_neg jy];simp only [if_true,ah];simp only [gb,k6,ai.aq,ai.elem?,ai.bL,if_true,List.length_cons,List.length_nil];simp only [Nat.lt_add_one,if_true,List.getElem?_cons_zero];have bz:List.take n (b5 (Lib.decDigits u)++List.replicate (24-n) eQ)=b5 (Lib.decDigits u):=by rw [←dv,List.take_left]
 have fW:(List.take n (List.drop (1-1) (b5 (Lib.decDigits u)++List.replicate (24-n) eQ))).all (fun x=>x.gZ)=true:=by show(List.take n (List.drop 0 _)).all _=true;rw [List.drop_zero,bz];simp [b5,R.gZ]
 rw [if_pos ⟨by simp [dv];try omega,fW⟩];show some (List.take n (List.drop 0 _))=_;rw [List.drop_zero,bz]
theorem BW{x n:Nat}(aI:n≤24):eg (bq.D env) 154 (R.ptr (some ⟨x,0,0,0,24⟩)) none (some (R.int .i64 (n:Nat))) none=some (R.slice (some ⟨x,0,0,1,24⟩) n 24):=by have aa:(bq.D env 154).map (fun d=>d.kind)=some (.array 24 5):= aG;have aS:(bq.D env 5).map (fun d=>d.size)=some 1:= aG;obtain⟨lS,d1,a7⟩:=Option.map_eq_some_iff.1 aa;obtain⟨s4,d3,cC⟩:=Option.map_eq_some_iff.1 aS;simp only [eg,d1,a7,d3,cC,eD];rw [if_neg a1,if_pos ⟨J,J⟩];simp
theorem BX{H:I}{j n:Nat}{v:R}{bs:Bytes}(g:dI H j v bs)(an:bs.length<2^32)(aI:n<10000000) :
 ∃aK aH eG,bE 73 [v,.int .i64 (n:Nat),.int .i64 10] H aK aH∧dI aH eG aK (bs++Lib.decDigits n)∧(eG=j∨H.U≤eG)∧H.U≤aH.U∧∀i,i<H.U→i≠j→aH.get i=H.get i:=by
 have e3:∀{a b:Nat}{p:Prop},a≤b→p→_root_.cond (Nat.ble a b) p False:=fun h k=>by rw [Nat.ble_eq.mpr h];exact k
 have ay:=BV n aI;have bJ:=IE n;have Nn:(Lib.decDigits n).length≤7:=ns (k:=6) (by simpa using aI);have I8:=g.lt;obtain⟨b,rfl,_⟩:=g.ex;by_cases hs:n<100
 ·obtain⟨aK,aH,eG,aD,fH,aW,mc,fm⟩:=(g.keep (aH:=⟨H.U+28,H.aB⟩) rfl (by show H.U≤H.U+28;omega)).fc (nid:=H.U+26) (x:= .str (Lib.decDigits n)) (by rfl) bJ J (by show H.U+26<H.U+28;omega);have mc:aH.U=H.U+28:=mc
  obtain⟨v,af,az,rfl,rfl⟩:=BU H aH H H H j b.bf bs.length n 0 0 (Lib.decDigits n) aK (.undef) (fun v af=>v=aK∧af=aH)
   (aQ (Nat.le_refl _) (aQ J (aQ J (aQ J ⟨J,aQ J ⟨rfl,aQ J (aQ J (aQ J (aQ J ⟨fun _=>aQ J ⟨J,⟨IY hs _⟩,(BS _ _ _ _).trans aD,e3 J (e3 J (e3 J ⟨rfl,rfl⟩))⟩,fun h=>absurd J h⟩)))⟩⟩))))
  refine⟨_,_,eG,az,fH,?_,J,fun i ag fV=>fm i fV J⟩;rcases aW with h|h
  ·exact .inl h
  ·exact .inr J
 ·
   have No:=I6 (u:=n) J aI
   obtain⟨H2,p3,x6,kj,p4⟩:∃H2,(∀F,bb env cz (H.U+22) (aY F) ⟨H.U+23,H.aB⟩ (Op.alloc 154)=some (.ptr (some ⟨H.U+22,0,0,0,24⟩),H2))∧H2.get (H.U+22)=some hN∧(∀i,i<H.U→H2.get i=H.get i)∧H2.U=H.U+23 :=
    ⟨(⟨H.U+23,H.aB⟩:I).set (H.U+22) hN,fun F=> aG,I.eU _ _ _,fun i ag=>I.dZ _ _ J,rfl⟩
   obtain⟨bd,aM,me,gT,gU⟩:=I4 (u:=n) (x:=H.U+22) (H:=⟨H2.U+7,H2.aB⟩) J aI x6 (by show H.U+22<H2.U+7;omega);have gT:H2.U+7≤bd.U:=gT
   have I9:bE 120 [.int .u64 (n:Nat)] ⟨H2.U+3,H2.aB⟩ (.int .i64 (gS n:Nat)) ⟨H2.U+3,H2.aB⟩:=bn.Ga Bm (by
    simp only [tI]
    rw [if_pos ⟨J,J⟩,Int.toNat_natCast])
   have g3:dI ⟨bd.U+5,bd.aB⟩ j (.slice (some ⟨j,b.bf,0,0,1⟩) bs.length bs.length) bs:=g.keep (by
    show bd.get j=H.get j;rw [gU j (by show j<H2.U+7;omega) J]
    exact kj j I8) (by show H.U≤bd.U+5;omega)
   obtain⟨aK,aH,eG,aD,fH,aW,mc,fm⟩:=g3.fc (nid:=bd.U+3) (x:= .slice (some ⟨H.U+22,0,0,1,24⟩) (gS n) 24) (I7 (H:=⟨bd.U+5,bd.aB⟩) aI me rfl J J) bJ J (by show bd.U+3<bd.U+5;omega);have mc:aH.U=bd.U+5:=mc
   obtain⟨v,af,az,rfl,rfl⟩:=BU H H H2 bd aH j b.bf bs.length n (gS n) (H.U+22) [] (.undef) aK (fun v af=>v=aK∧af=aH)
    (aQ (Nat.le_refl _) (aQ J (aQ J (aQ J ⟨J,aQ J ⟨rfl,aQ J (aQ J (aQ J (aQ J ⟨fun h=>absurd h J,fun _=>aQ J ⟨p3 _,aQ J ⟨⟨I9⟩,aQ J ⟨BW J,⟨aM⟩,aQ J ⟨BW J,(x3 _ _ _ _).trans aD,e3 J (e3 J (e3 J ⟨rfl,rfl⟩))⟩⟩⟩⟩⟩)))⟩⟩))))
   refine⟨_,_,eG,az,fH,?_,J,fun i ag fV=> ?_⟩
   ·rcases aW with h|h
    ·exact .inl h
    ·exact .inr J
   ·rw [fm i fV J];show bd.get i=_;rw [gU i (by show i<H2.U+7;omega) J];exact kj i ag
end Go.Proofs.YtddnafghiejcoaaGreatDoor
