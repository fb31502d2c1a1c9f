/-
  Parts of the proof of KeysPieces.
-/
import Derived.Test.YtddnafghiejcoaaGreatDoorRows
import Derived.Shelf.Strconv.Itoa1
import Derived.Shelf.Strings.Fields
import Derived.Test.YtddnafghiejcoaaGreatDoorKKeysPiecesB
set_option linter.unusedVariables false
set_option linter.unusedSimpArgs false
set_option linter.unusedSectionVars false
namespace Go.Lift
noncomputable section
open Go.RowKit
def AHeap.rows(n:Nat)(l:List (Nat×ABlk)):AHeap:=l.foldl (fun h p=>h.set p.1 p.2) ⟨n,.nil⟩
theorem AHeap.foldl_get(l:List (Nat×ABlk)): ∀ (h:AHeap) (i:Nat) (b:ABlk),(l.foldl (fun h p=>h.set p.1 p.2) h).get i=some b→h.get i=some b∨(i,b)∈l:=by
  induction l with
  | nil=>intro h i b k;exact .inl k
  | cons p r ih =>
    intro h i b k
    rcases ih _ i b k with k | k
    · rw [AHeap.get_set]at k
      split at k
      · rename_i e;simp only [Option.some.injEq]at k;exact .inr (by rw [← e,← k];exact List.mem_cons_self ..)
      · exact .inl k
    · exact .inr (by simp [k])
theorem AHeap.foldl_in (l:List (Nat×ABlk)): ∀ (h:AHeap) (i:Nat),(In h i∨i∈l.map (·.1))→In (l.foldl (fun h p=>h.set p.1 p.2) h) i:=by
  induction l with
  | nil=>intro h i k;rcases k with k | k;exact k;simp at k
  | cons p r ih =>
    intro h i k
    refine ih _ i ?_
    by_cases e:p.1=i
    · left;unfold In;rw [AHeap.get_set,if_pos e];rfl
    · rcases k with k | k
      · left;unfold In;rw [AHeap.get_set,if_neg e];exact k
      · simp only [List.map_cons,List.mem_cons]at k
        rcases k with k | k
        · exact absurd k.symm e
        · exact .inr k
theorem AHeap.foldl_next(l:List (Nat×ABlk)): ∀ (h:AHeap),(l.foldl (fun h p=>h.set p.1 p.2) h).next=h.next:=by
  induction l with
  | nil=>intro h;rfl
  | cons p r ih=>intro h;rw [List.foldl_cons,ih];rfl
@[simp] theorem AHeap.rows_next (n : Nat) (l : List (Nat × ABlk)) : (AHeap.rows n l).next = n := AHeap.foldl_next _ _
theorem AHeap.rows_get {n:Nat}{l:List (Nat×ABlk)}{i:Nat}{b:ABlk}(h:(AHeap.rows n l).get i=some b):(i,b)∈l:=by
  rcases AHeap.foldl_get l _ i b h with k | k
  · cases k
  · exact k
theorem AHeap.rows_in {n:Nat}{l:List (Nat×ABlk)}{i:Nat}(h:i∈l.map (·.1)):In (AHeap.rows n l) i:=AHeap.foldl_in l _ i (.inr h)
theorem AHeap.rows_in_of {n:Nat}{l:List (Nat×ABlk)}{i:Nat}(h:In (AHeap.rows n l) i):i∈l.map (·.1):=by
  obtain⟨b,hb⟩:=Option.isSome_iff_exists.1 h
  exact List.mem_map.2 ⟨_,AHeap.rows_get hb,rfl⟩
mutual
theorem AVal.ren_id: ∀ (v:AVal),v.ren (fun i=>i)=v
  | .ptr (some a)=>rfl
  | .slice (some a) _ _=>rfl
  | .func fn f c=>by simp only [AVal.ren,AVal.rens_id]
  | .iface t v=>by simp only [AVal.ren,AVal.ren_id v]
  | .agg cs=>by simp only [AVal.ren,AVal.rens_id]
  | .tuple vs=>by simp only [AVal.ren,AVal.rens_id]
  | .undef=>rfl
  | .bool _=>rfl
  | .int _ _=>rfl
  | .str _=>rfl
  | .ptr none=>rfl
  | .slice none _ _=>rfl
  | .nilFunc=>rfl
  | .nilIface=>rfl
theorem AVal.rens_id: ∀ (l:List AVal),AVal.rens (fun i=>i) l=l
  | []=>rfl
  | a::l=>by simp only [AVal.rens,AVal.ren_id a,AVal.rens_id l]
end
theorem ABlk.ren_id(b:ABlk):b.ren (fun i=>i)=b:=by
  unfold ABlk.ren
  have:b.elems.map (AVal.ren fun i=>i)=b.elems:=by
    conv=>rhs;rw [← List.map_id b.elems]
    exact List.map_congr_left fun e he=>AVal.ren_id e
  rw [this]
def BareB(b:ABlk):Prop:= ∀ e∈b.elems,Bare e
theorem BareB.ren {b:ABlk}(h:BareB b)(r:Nat→Nat):b.ren r=b:=by
  unfold ABlk.ren
  have:b.elems.map (AVal.ren r)=b.elems:=by
    conv=>rhs;rw [← List.map_id b.elems]
    exact List.map_congr_left fun e he=>(h e he).1 r
  rw [this]
theorem BareB.clo {b:ABlk}(h:BareB b)(D:Nat→Prop): ∀ e∈b.elems,Clo D e:=fun e he=>Clo.mono (fun _ k=>k.elim) (h e he).2
theorem Bare.ints {α:Type}(l:List α)(k:IntKind)(f:α→Int): ∀ e∈l.map (fun x=>AVal.int k (f x)),Bare e:=by
  intro e he
  obtain⟨x,_,rfl⟩:=List.mem_map.1 he
  exact Bare.int k _
theorem Bare.clo {v:AVal}(h:Bare v)(D:Nat→Prop):Clo D v:=Clo.mono (fun _ k=>k.elim) h.2
def Ids(l:List Nat):Nat→Prop:=fun i=>i∈l
theorem Ent.drop {base n:Nat} {F:Facts} {h:AHeap} {K:Nat} {l:List (Nat×ABlk)} (hl:l.map (fun p=>h.get p.1)=l.map (fun p=>some p.2)) (hK:l.all (fun p=>Nat.blt p.1 K)=true)
    (hb:(List.range base).all (fun i=>(l.map (·.1)).contains i)=true) (hn:F.all (fun p=>Nat.blt p.1 n)=true) (hF:All (F.map fun p=>Clo (Ids (l.map (·.1))) p.2))
    (hc:All (l.map fun p=> ∀ e∈p.2.elems,Clo (Ids (l.map (·.1))) e)):Ent base n F h F (AHeap.rows K l):=by
  have hget: ∀ i b,(AHeap.rows K l).get i=some b→i<K∧h.get i=some b:=by
    intro i b k
    have hm:=AHeap.rows_get k
    refine⟨Nat.blt_eq.mp (List.all_eq_true.1 hK _ hm),?_⟩
    obtain⟨j,hj,e⟩:=List.mem_iff_getElem.1 hm
    have h1:=congrArg (fun(x:List (Option ABlk))=>x[j]?) hl
    simp only [List.getElem?_map,List.getElem?_eq_getElem hj,Option.map_some,e,Option.some.injEq]at h1
    exact h1
  have hmono: ∀ {v:AVal},Clo (Ids (l.map (·.1))) v→Clo (In (AHeap.rows K l)) v:=Clo.mono fun i hi=>AHeap.rows_in hi
  refine Ent.ren (r:=fun i=>i) ⟨fun i b k=>⟨by rw [AHeap.rows_next];exact(hget i b k).1,by rw [ABlk.ren_id];exact(hget i b k).2⟩,fun i j _ _ e=>e,?_⟩ ?_ ?_ ?_ ?_
  · intro i b k e he
    have hm:=AHeap.rows_get k
    exact hmono (hc _ (List.mem_map.2 ⟨_,hm,rfl⟩) e he)
  · intro t v hv
    have hm:(t,v)∈F:=by
      clear hn hF
      induction F with
      | nil=>cases hv
      | cons p r ih =>
        obtain⟨k,u⟩:=p
        rw [lookF_cons]at hv
        split at hv
        · rename_i e;simp only [Option.some.injEq]at hv;subst e;subst hv;simp
        · exact List.mem_cons_of_mem _ (ih hv)
    exact⟨Nat.blt_eq.mp (List.all_eq_true.1 hn _ hm),by rw [AVal.ren_id];exact hv,hmono (hF _ (List.mem_map.2 ⟨_,hm,rfl⟩))⟩
  · intro i hi _
    exact AHeap.rows_in (by simpa using List.all_eq_true.1 hb i (List.mem_range.2 hi))
  · intro i _ _;rfl
  · intro i _ k;exact k
theorem FDoes.clean {P:Program}{C:(Nat→Prop)→World→Prop}[CondOk C]{f:FuncId}{args:List AVal}{h h':AHeap}{v:AVal}(k:FDoes P C f args h v h')(r:Nat→Nat)(v2:AVal)(K:Nat)(l:List (Nat×ABlk))
    (hl:l.map (fun p=>h'.get (r p.1))=l.map (fun p=>some (p.2.ren r))) (hv:v=v2.ren r) (hK:l.all (fun p=>Nat.blt p.1 K)=true) (hr:((l.map (·.1)).map r).Nodup)
    (hb:(List.range h.next).all (fun i=>(l.map (·.1)).contains i && Nat.beq (r i) i)=true) (hnew:l.all (fun p=>Nat.blt p.1 h.next || Nat.ble h.next (r p.1))=true) (hn:Nat.ble h.next K=true)
    (hvc:Clo (Ids (l.map (·.1))) v2) (hc:All (l.map fun p=> ∀ e∈p.2.elems,Clo (Ids (l.map (·.1))) e)):FDoes P C f args h v2 (AHeap.rows K l):=by
  have hget: ∀ i b,(AHeap.rows K l).get i=some b→i<K∧h'.get (r i)=some (b.ren r):=by
    intro i b k
    have hm:=AHeap.rows_get k
    refine⟨Nat.blt_eq.mp (List.all_eq_true.1 hK _ hm),?_⟩
    obtain⟨j,hj,e⟩:=List.mem_iff_getElem.1 hm
    have h1:=congrArg (fun(x:List (Option ABlk))=>x[j]?) hl
    simp only [List.getElem?_map,List.getElem?_eq_getElem hj,Option.map_some,e,Option.some.injEq]at h1
    exact h1
  have hmono: ∀ {v:AVal},Clo (Ids (l.map (·.1))) v→Clo (In (AHeap.rows K l)) v:=Clo.mono fun i hi=>AHeap.rows_in hi
  refine k.ren (r:=r) ⟨fun i b k=>⟨by rw [AHeap.rows_next];exact(hget i b k).1,(hget i b k).2⟩,?_,?_⟩ hv (hmono hvc) ?_ ?_ ?_ (by rw [AHeap.rows_next];exact Nat.le_of_ble_eq_true hn)
  · intro i j hi hj e
    have hi:=AHeap.rows_in_of hi
    have hj:=AHeap.rows_in_of hj
    obtain⟨a,ha,rfl⟩:=List.mem_iff_getElem.1 hi
    obtain⟨b,hb',rfl⟩:=List.mem_iff_getElem.1 hj
    have h1:((l.map (·.1)).map r)[a]'(by simpa using ha)=((l.map (·.1)).map r)[b]'(by simpa using hb'):=by simpa using e
    have:=(List.getElem_inj hr).1 h1
    subst this;rfl
  · intro i b k e he
    have hm:=AHeap.rows_get k
    exact hmono (hc _ (List.mem_map.2 ⟨_,hm,rfl⟩) e he)
  · intro i hi _
    have:=List.all_eq_true.1 hb i (List.mem_range.2 hi)
    simp only [Bool.and_eq_true]at this
    exact AHeap.rows_in (by simpa using this.1)
  · intro i hi _
    have:=List.all_eq_true.1 hb i (List.mem_range.2 hi)
    simp only [Bool.and_eq_true]at this
    exact Nat.eq_of_beq_eq_true this.2
  · intro i hi hlt
    have hi:=AHeap.rows_in_of hi
    obtain⟨p,hm,rfl⟩:=List.mem_map.1 hi
    have:=List.all_eq_true.1 hnew p hm
    simp only [Bool.or_eq_true]at this
    rcases this with h1 | h1
    · exact Nat.blt_eq.mp h1
    · have:=Nat.le_of_ble_eq_true h1;omega
theorem FDoes.to {P:Program}{C:(Nat→Prop)→World→Prop}[CondOk C]{f:FuncId}{args:List AVal}{h h' h2:AHeap}{v:AVal}(k:FDoes P C f args h v h')(e:h'=h2):FDoes P C f args h v h2:=e▸k
def AHeap.ofFrom:Nat→List ABlk→AHeap→AHeap
  | _,[],h=>h
  | i,b::r,h=>AHeap.ofFrom (i+1) r (h.set i b)
def AHeap.of(l:List ABlk):AHeap:=AHeap.ofFrom 0 l ⟨l.length,.nil⟩
theorem AHeap.ofFrom_get: ∀ (l:List ABlk) (i:Nat) (h:AHeap) (j:Nat),(AHeap.ofFrom i l h).get j=if i≤j∧j<i+l.length then l[j-i]? else h.get j
  | [],i,h,j=>by simp only [AHeap.ofFrom,List.length_nil];rw [if_neg (by omega)]
  | b ::r,i,h,j=>by
    simp only [AHeap.ofFrom,AHeap.ofFrom_get r,List.length_cons,AHeap.get_set]
    by_cases e:i=j
    · subst e
      rw [if_neg (by omega),if_pos rfl,if_pos (by omega)];simp
    · by_cases c:i+1≤j∧j<i+1+r.length
      · rw [if_pos c,if_pos (by omega),show j-i=(j- (i+1))+1 by omega];simp
      · rw [if_neg c,if_neg e,if_neg (by omega)]
theorem AHeap.ofFrom_next: ∀ (l:List ABlk) (i:Nat) (h:AHeap),(AHeap.ofFrom i l h).next=h.next
  | [],i,h=>rfl
  | b::r,i,h=>by simp only [AHeap.ofFrom,AHeap.ofFrom_next r];rfl
@[simp] theorem AHeap.of_next (l : List ABlk) : (AHeap.of l).next = l.length := AHeap.ofFrom_next _ _ _
theorem AHeap.of_get(l:List ABlk)(j:Nat):(AHeap.of l).get j=l[j]? :=by
  unfold AHeap.of
  rw [AHeap.ofFrom_get]
  split
  · simp
  · rw [List.getElem?_eq_none (by omega)];rfl
theorem AHeap.of_in {l:List ABlk}{j:Nat} :In (AHeap.of l) j↔j<l.length:=by
  unfold In;rw [AHeap.of_get];simp
def toBig(ids:List Nat)(n:Nat)(i:Nat):Nat :=
  match ids[i]? with
  | some j=>j
  | none=>n+(i-ids.length)
def AHeap.updFrom:List Nat→List ABlk→AHeap→AHeap
  | j::ids,b::r,h=>AHeap.updFrom ids r (h.set j b)
  | [],r,h=>AHeap.ofFrom h.next r {h with next:=h.next+r.length}
  | _::_,[],h=>h
def AHeap.upd(h:AHeap)(ids:List Nat)(l:List ABlk):AHeap:=AHeap.updFrom ids l h
theorem AHeap.updFrom_next: ∀ (ids:List Nat) (l:List ABlk) (h:AHeap),ids.length≤l.length→(AHeap.updFrom ids l h).next=h.next+(l.length-ids.length)
  | [],l,h,_=>by simp [AHeap.updFrom,AHeap.ofFrom_next]
  | j::ids,[],h,k=>by simp at k
  | j::ids,b::r,h,k=>by
    simp only [AHeap.updFrom]
    rw [AHeap.updFrom_next ids r _ (by simpa using k)]
    simp
theorem AHeap.updFrom_out: ∀ (ids:List Nat) (l:List ABlk) (h:AHeap) (j:Nat),ids.length≤l.length→j<h.next→j ∉ ids→(AHeap.updFrom ids l h).get j=h.get j
  | [],l,h,j,_,hj,_=>by simp only [AHeap.updFrom];rw [AHeap.ofFrom_get,if_neg (by omega)];rfl
  | i::ids,[],h,j,k,_,_=>by simp at k
  | i::ids,b::r,h,j,k,hj,hm=>by
    simp only [List.mem_cons,not_or]at hm
    simp only [AHeap.updFrom]
    rw [AHeap.updFrom_out ids r (h.set i b) j (by simpa using k) hj hm.2,AHeap.get_set_ne _ _ (Ne.symm hm.1)]
theorem AHeap.updFrom_at: ∀ (ids:List Nat) (l:List ABlk) (h:AHeap) (i:Nat),ids.length≤l.length→ids.Nodup→(∀ j∈ids,j<h.next)→i<l.length→(AHeap.updFrom ids l h).get (toBig ids h.next i)=l[i]?
  | [],l,h,i,_,_,_,hi=>by
    simp only [AHeap.updFrom,toBig,List.getElem?_nil,List.length_nil,Nat.sub_zero]
    rw [AHeap.ofFrom_get,if_pos (by omega)];congr 1;omega
  | j::ids,[],h,i,k,_,_,_=>by simp at k
  | j ::ids,b::r,h,i,k,hnd,hlt,hi=>by
    simp only [List.nodup_cons]at hnd
    simp only [AHeap.updFrom]
    cases i with
    | zero =>
      simp only [toBig,List.getElem?_cons_zero]
      rw [AHeap.updFrom_out ids r (h.set j b) j (by simpa using k) (hlt j (by simp)) hnd.1,AHeap.get_set_self]
    | succ i =>
      have e:toBig (j::ids) h.next (i+1)=toBig ids (h.set j b).next i:=by
        simp only [toBig,List.getElem?_cons_succ,List.length_cons,AHeap.next_set]
        cases ids[i]? with
        | some x=>rfl
        | none=>simp only;omega
      rw [e,AHeap.updFrom_at ids r (h.set j b) i (by simpa using k) hnd.2 (fun x hx=>hlt x (by simp [hx])) (by simpa using hi)]
      simp
theorem FDoes.up {P:Program}{C:(Nat→Prop)→World→Prop}[CondOk C]{f:FuncId}{args:List AVal}{v:AVal}{l l':List ABlk}(k:FDoes P C f args (AHeap.of l) v (AHeap.of l'))(hb: ∀ b∈l,BareB b)(hb': ∀ b∈l',BareB b)(hll:l.length≤l'.length)(ha:Clos (fun i=>i<l.length) args)
    {H H':AHeap} (ids:List Nat) (hn:ids.Nodup) (hlt: ∀ j∈ids,j<H.next) (hl:ids.map H.get=l.map some) (hnext:H'.next=H.next+(l'.length-l.length)) (hat: ∀ i,i<l'.length→H'.get (toBig ids H.next i)=l'[i]?)
    (hout: ∀ j,j<H.next→j ∉ ids→H'.get j=H.get j):FDoes P C f (args.map (AVal.ren (toBig ids H.next))) H (v.ren (toBig ids H.next)) H':=by
  have hlen:ids.length=l.length:=by have:=congrArg List.length hl;simpa using this
  have hbig: ∀ i (hi:i<ids.length),toBig ids H.next i=ids[i]:=fun i hi=>by simp [toBig,List.getElem?_eq_getElem hi]
  refine k.frame (r:=toBig ids H.next) ⟨?_,?_,?_⟩ ?_ ?_ ?_ ?_ ?_
  · intro i b hg
    rw [AHeap.of_get]at hg
    have hi:=(List.getElem?_eq_some_iff.1 hg).1
    refine⟨by rw [AHeap.of_next];exact hi,?_⟩
    rw [(hb b (List.mem_of_getElem? hg)).ren,hbig i (by omega)]
    have h1:=congrArg (fun(x:List (Option ABlk))=>x[i]?) hl
    simp only [List.getElem?_map,List.getElem?_eq_getElem (show i<ids.length by omega),Option.map_some,hg,Option.some.injEq]at h1
    exact h1
  · intro i j hi hj e
    rw [AHeap.of_in]at hi hj
    rw [hbig i (by omega),hbig j (by omega)]at e
    exact(List.getElem_inj hn).1 e
  · intro i b hg e he
    rw [AHeap.of_get]at hg
    exact(hb b (List.mem_of_getElem? hg) e he).clo _
  · exact Clos.mono (fun i hi=>AHeap.of_in.2 hi) ha
  · intro i hi
    rw [AHeap.of_next]at hi
    simp only [toBig,List.getElem?_eq_none (show ids.length≤i by omega),AHeap.of_next,hlen]
  · intro i b hg _
    rw [AHeap.of_get]at hg
    rw [(hb' b (List.mem_of_getElem? hg)).ren,hat i (List.getElem?_eq_some_iff.1 hg).1,hg]
  · rw [hnext];simp
  · intro j hj hne
    refine hout j hj fun hm=> ?_
    obtain⟨i,hi,e⟩:=List.mem_iff_getElem.1 hm
    exact hne i (AHeap.of_in.2 (by omega)) (by rw [hbig i hi];exact e)
theorem FDoes.upR {P:Program}{C:(Nat→Prop)→World→Prop}[CondOk C]{f:FuncId}{args:List AVal}{v:AVal}{l:List ABlk}(k:FDoes P C f args (AHeap.of l) v (AHeap.of l))(hb: ∀ b∈l,BareB b)(ha:Clos (fun i=>i<l.length) args)
    {H:AHeap} (ids:List Nat) (hn:ids.Nodup) (hlt: ∀ j∈ids,j<H.next) (hl:ids.map H.get=l.map some):FDoes P C f (args.map (AVal.ren (toBig ids H.next))) H (v.ren (toBig ids H.next)) H:=by
  have hlen:ids.length=l.length:=by have:=congrArg List.length hl;simpa using this
  refine k.up hb hb (Nat.le_refl _) ha ids hn hlt hl (by simp) (fun i hi=> ?_) fun _ _ _=>rfl
  have h1:=congrArg (fun(x:List (Option ABlk))=>x[i]?) hl
  simp only [List.getElem?_map,List.getElem?_eq_getElem (show i<ids.length by omega),List.getElem?_eq_getElem hi,Option.map_some,Option.some.injEq]at h1
  simp only [toBig,List.getElem?_eq_getElem (show i<ids.length by omega),h1,List.getElem?_eq_getElem hi]
theorem FDoes.upW {P:Program}{C:(Nat→Prop)→World→Prop}[CondOk C]{f:FuncId}{args:List AVal}{v:AVal}{l l':List ABlk}(k:FDoes P C f args (AHeap.of l) v (AHeap.of l'))(hb: ∀ b∈l,BareB b)(hb': ∀ b∈l',BareB b)(hll:l.length≤l'.length)(ha:Clos (fun i=>i<l.length) args)
    {H:AHeap} (ids:List Nat) (hn:ids.Nodup) (hlt: ∀ j∈ids,j<H.next) (hl:ids.map H.get=l.map some):FDoes P C f (args.map (AVal.ren (toBig ids H.next))) H (v.ren (toBig ids H.next)) (H.upd ids l'):=by
  have hlen:ids.length=l.length:=by have:=congrArg List.length hl;simpa using this
  refine k.up hb hb' hll ha ids hn hlt hl ?_ ?_ ?_
  · rw [← hlen];exact AHeap.updFrom_next ids l' H (by omega)
  · intro i hi;exact AHeap.updFrom_at ids l' H i (by omega) hn hlt hi
  · intro j hj hm;exact AHeap.updFrom_out ids l' H j (by omega) hj hm
theorem FDoes.upN {P:Program}{C:(Nat→Prop)→World→Prop}[CondOk C]{f:FuncId}{args:List AVal}{v:AVal}{l l2:List ABlk}(k:FDoes P C f args (AHeap.of l) v (AHeap.of (l++l2)))(hb: ∀ b∈l,BareB b)(hb': ∀ b∈l2,BareB b)(ha:Clos (fun i=>i<l.length) args)
    {H:AHeap} (ids:List Nat) (hn:ids.Nodup) (hlt: ∀ j∈ids,j<H.next) (hl:ids.map H.get=l.map some):FDoes P C f (args.map (AVal.ren (toBig ids H.next))) H (v.ren (toBig ids H.next)) (H.upd [] l2):=by
  have hlen:ids.length=l.length:=by have:=congrArg List.length hl;simpa using this
  refine k.up hb (fun b hm=>(List.mem_append.1 hm).elim (hb b) (hb' b)) (by simp) ha ids hn hlt hl ?_ ?_ ?_
  · show(AHeap.updFrom [] l2 H).next=_
    rw [AHeap.updFrom_next [] l2 H (by simp)];simp
  · intro i hi
    show(AHeap.updFrom [] l2 H).get _=_
    by_cases c:i<ids.length
    · have h1:=congrArg (fun(x:List (Option ABlk))=>x[i]?) hl
      simp only [List.getElem?_map,List.getElem?_eq_getElem c,List.getElem?_eq_getElem (show i<l.length by omega),Option.map_some,Option.some.injEq]at h1
      simp only [toBig,List.getElem?_eq_getElem c]
      rw [AHeap.updFrom_out [] l2 H _ (by simp) (hlt _ (List.getElem_mem c)) (by simp),h1,List.getElem?_append_left (by omega),List.getElem?_eq_getElem (show i<l.length by omega)]
    · have e:toBig ids H.next i=toBig [] H.next (i-ids.length):=by simp [toBig,List.getElem?_eq_none (show ids.length≤i by omega)]
      rw [List.length_append]at hi
      rw [e,AHeap.updFrom_at [] l2 H (i-ids.length) (by simp) (by simp) (by simp) (by omega),List.getElem?_append_right (by omega),hlen]
  · intro j hj hm
    exact AHeap.updFrom_out [] l2 H j (by simp) hj (by simp)
def idxd:Nat→List ABlk→List (Nat×ABlk)
  | _,[]=> []
  | i,b::r=>(i,b)::idxd (i+1) r
theorem AHeap.ofFrom_eq: ∀ (l:List ABlk) (i:Nat) (h:AHeap),AHeap.ofFrom i l h=(idxd i l).foldl (fun h p=>h.set p.1 p.2) h
  | [],i,h=>rfl
  | b::r,i,h=>by simp only [AHeap.ofFrom,idxd,List.foldl_cons];exact AHeap.ofFrom_eq r _ _
theorem AHeap.of_rows(l:List ABlk):AHeap.of l=AHeap.rows l.length (idxd 0 l):=AHeap.ofFrom_eq _ _ _
theorem idxd_fst: ∀ (l:List ABlk) (i:Nat),(idxd i l).map (·.1)=List.range' i l.length
  | [],i=>rfl
  | b::r,i=>by simp only [idxd,List.map_cons,idxd_fst r,List.length_cons,List.range'_succ]
theorem idxd_snd: ∀ (l:List ABlk) (i:Nat),(idxd i l).map (·.2)=l
  | [],i=>rfl
  | b::r,i=>by simp only [idxd,List.map_cons,idxd_snd r]
theorem List.Nodup.map_on' {f:Nat→Nat}{n:Nat}(h: ∀ a∈List.range n,∀ b∈List.range n,f a=f b→a=b):((List.range n).map f).Nodup:=by
  rw [List.nodup_iff_pairwise_ne,List.pairwise_map]
  refine List.Pairwise.imp_of_mem ?_ (List.nodup_range (n:=n))
  intro a b ha hb hne e
  exact hne (h a ha b hb e)
def finR(k:Nat)(js:List Nat)(i:Nat):Nat:=if i<k then i else(js[i-k]?).getD 0
theorem FDoes.fin {P:Program}{C:(Nat→Prop)→World→Prop}[CondOk C]{f:FuncId}{args:List AVal}{h':AHeap}{v:AVal}{l:List ABlk}(k:FDoes P C f args (AHeap.of l) v h')(js:List Nat)(l':List ABlk)(v2:AVal)(hb': ∀ b∈l',BareB b)
    (hlen:l'.length=l.length+js.length) (hget:(List.range l'.length).map (fun i=>h'.get (finR l.length js i))=l'.map some) (hv:v=v2.ren (finR l.length js)) (hvc:Clo (fun i=>i<l'.length) v2)
    (hjs:js.all (fun j=>Nat.ble l.length j)=true) (hnd:js.Nodup):FDoes P C f args (AHeap.of l) v2 (AHeap.of l'):=by
  have hfst:(idxd 0 l').map (·.1)=List.range l'.length:=by rw [idxd_fst,List.range_eq_range']
  have hge: ∀ j∈js,l.length≤j:=fun j hj=>Nat.le_of_ble_eq_true (List.all_eq_true.1 hjs j hj)
  have hhi: ∀ i,l.length≤i→i<l'.length→ ∃ (h:i-l.length<js.length),finR l.length js i=js[i-l.length]:=by
    intro i h1 h2
    have h3:i-l.length<js.length:=by omega
    exact⟨h3,by simp only [finR,if_neg (show ¬ i<l.length by omega),List.getElem?_eq_getElem h3,Option.getD_some]⟩
  rw [AHeap.of_rows l']
  refine k.clean (finR l.length js) v2 l'.length (idxd 0 l') ?_ hv ?_ ?_ ?_ ?_ (Nat.ble_eq.mpr ?_) ?_ ?_
  · have h1:(idxd 0 l').map (fun p=>h'.get (finR l.length js p.1))=((idxd 0 l').map (·.1)).map (fun i=>h'.get (finR l.length js i)):=by rw [List.map_map];rfl
    have h2:(idxd 0 l').map (fun p=>some (p.2.ren (finR l.length js)))=((idxd 0 l').map (·.2)).map (fun b=>some (b.ren (finR l.length js))):=by rw [List.map_map];rfl
    rw [h1,h2,hfst,idxd_snd,hget]
    exact List.map_congr_left fun b hm=>by rw [(hb' b hm).ren]
  · rw [List.all_eq_true]
    intro p hp
    have:p.1∈(idxd 0 l').map (·.1):=List.mem_map.2 ⟨p,hp,rfl⟩
    rw [hfst]at this
    exact Nat.blt_eq.mpr (List.mem_range.1 this)
  · rw [hfst]
    refine List.Nodup.map_on' ?_
    intro a ha b hb e
    have ha:=List.mem_range.1 ha
    have hb:=List.mem_range.1 hb
    by_cases c1:a<l.length<;>by_cases c2:b<l.length
    · simpa [finR,c1,c2]using e
    · obtain⟨h3,h4⟩:=hhi b (by omega) hb
      rw [h4,show finR l.length js a=a by simp [finR,c1]]at e
      have:=hge _ (List.getElem_mem h3);omega
    · obtain⟨h3,h4⟩:=hhi a (by omega) ha
      rw [h4,show finR l.length js b=b by simp [finR,c2]]at e
      have:=hge _ (List.getElem_mem h3);omega
    · obtain⟨h3,h4⟩:=hhi a (by omega) ha
      obtain⟨h5,h6⟩:=hhi b (by omega) hb
      rw [h4,h6]at e
      have:=(List.getElem_inj hnd).1 e;omega
  · rw [List.all_eq_true,AHeap.of_next]
    intro i hi
    have hi:=List.mem_range.1 hi
    rw [hfst,Bool.and_eq_true]
    exact⟨by simp;omega,beq_true (by simp [finR,hi])⟩
  · rw [List.all_eq_true,AHeap.of_next]
    intro p hp
    have:p.1∈(idxd 0 l').map (·.1):=List.mem_map.2 ⟨p,hp,rfl⟩
    rw [hfst]at this
    have hlt:=List.mem_range.1 this
    rw [Bool.or_eq_true]
    by_cases c:p.1<l.length
    · exact .inl (Nat.blt_eq.mpr c)
    · obtain⟨h3,h4⟩:=hhi p.1 (by omega) hlt
      exact .inr (Nat.ble_eq.mpr (by rw [h4];exact hge _ (List.getElem_mem h3)))
  · rw [AHeap.of_next];omega
  · rw [hfst];exact Clo.mono (fun i hi=>List.mem_range.2 hi) hvc
  · intro p hp
    obtain⟨q,hq,rfl⟩:=List.mem_map.1 hp
    intro e he
    exact(hb' q.2 (by have:q.2∈(idxd 0 l').map (·.2):=List.mem_map.2 ⟨q,hq,rfl⟩;rwa [idxd_snd]at this) e he).clo _
theorem FDoes.pure {P:Program}{C:(Nat→Prop)→World→Prop}[CondOk C]{f:FuncId}{args:List AVal}{h':AHeap}{v:AVal}{l:List ABlk}(k:FDoes P C f args (AHeap.of l) v h')(hb: ∀ b∈l,BareB b)(hget:(List.range l.length).map h'.get=l.map some)(hv:Bare v)
    (ha:Clos (fun i=>i<l.length) args) {H:AHeap} (ids:List Nat) (hn:ids.Nodup) (hlt: ∀ j∈ids,j<H.next) (hl:ids.map H.get=l.map some):FDoes P C f (args.map (AVal.ren (toBig ids H.next))) H v H:=by
  have k1:=k.fin [] l v hb (by simp) (by
    rw [← hget]
    exact List.map_congr_left fun i hi=>by rw [show finR l.length [] i=i by simp [finR,List.mem_range.1 hi]]) (hv.1 _).symm (hv.clo _) rfl (by simp)
  have k2:=k1.upR hb ha ids hn hlt hl
  rwa [hv.1]at k2
theorem FDoes.new1 {P:Program}{C:(Nat→Prop)→World→Prop}[CondOk C]{f:FuncId}{args:List AVal}{h':AHeap}{j es n c ver:Nat}{l:List ABlk}{bn:ABlk}(k:FDoes P C f args (AHeap.of l) (.slice (some ⟨j,ver,0,0,es⟩) n c) h')(hb: ∀ b∈l,BareB b)(hbn:BareB bn)
    (hget:(List.range l.length).map h'.get=l.map some) (hnew:h'.get j=some bn) (hj:l.length≤j) (ha:Clos (fun i=>i<l.length) args) {H:AHeap} (ids:List Nat) (hn:ids.Nodup) (hlt: ∀ j∈ids,j<H.next) (hl:ids.map H.get=l.map some) :
    FDoes P C f (args.map (AVal.ren (toBig ids H.next))) H (.slice (some ⟨H.next,ver,0,0,es⟩) n c) (H.upd [] [bn]):=by
  have hlen:ids.length=l.length:=by have:=congrArg List.length hl;simpa using this
  have k1:=k.fin [j] (l++ [bn]) (.slice (some ⟨l.length,ver,0,0,es⟩) n c) (fun b hm=>(List.mem_append.1 hm).elim (hb b) (fun h=>by rw [List.mem_singleton.1 h];exact hbn)) (by simp) (by
    rw [List.length_append,List.length_singleton,List.range_succ,List.map_append,List.map_append]
    congr 1
    · rw [← hget]
      exact List.map_congr_left fun i hi=>by rw [show finR l.length [j] i=i by simp [finR,List.mem_range.1 hi]]
    · simp [finR,hnew]) (by simp [AVal.ren,AAddr.ren,finR]) (by simp [Clo]) (by simp [hj]) (by simp)
  have k2:=k1.upN hb (fun b hm=>by rw [List.mem_singleton.1 hm];exact hbn) ha ids hn hlt hl
  have e:(AVal.slice (some ⟨l.length,ver,0,0,es⟩) n c).ren (toBig ids H.next)= .slice (some ⟨H.next,ver,0,0,es⟩) n c:=by
    simp only [AVal.ren,AAddr.ren,toBig,List.getElem?_eq_none (show ids.length≤l.length by omega),hlen,Nat.sub_self,Nat.add_zero]
  rwa [e]at k2
theorem HRel.more {φ:Map}{S:Nat→Prop}{h h2:AHeap}{w:World}(r:HRel φ S h w)(hn:h.next≤h2.next)(hg: ∀ i,i<h.next→h2.get i=h.get i):HRel φ S h2 w where
  dom i v p hp:=by
    obtain⟨h1,b,k1,k2⟩:=r.dom i v p hp
    exact⟨Nat.lt_of_lt_of_le h1 hn,b,by rw [hg i h1];exact k1,k2⟩
  apart:=r.apart
  same:=r.same
theorem FDoes.pad {P:Program}{C:(Nat→Prop)→World→Prop}[CondOk C]{f:FuncId}{args:List AVal}{h h' h2:AHeap}{v:AVal}(k:FDoes P C f args h v h')(hn:h'.next≤h2.next)(hg: ∀ i,i<h'.next→h2.get i=h'.get i):FDoes P C f args h v h2 :=
  fun S w0 hS hC0 φ w args' hH hB hA=>by
    obtain⟨g1,g2⟩:=k S w0 hS hC0 φ w args' hH hB hA
    exact⟨g1,g2.mono fun e w' ⟨v',φ',a1,a2,a3,a4,a5,a6⟩=>⟨v',φ',a1,a2,a3,a4.more hn hg,a5,Nat.le_trans a6 hn⟩⟩
theorem Ent.pad {base n:Nat}{F:Facts}{h h2:AHeap}(hn:h.next≤h2.next)(hg: ∀ i,i<h.next→h2.get i=h.get i):Ent base n F h F h2 :=
  fun S w0 φ0 φ a w h0 hk ⟨s,hl,hF,r⟩=>⟨φ,hk,s,hl,hF,r.slots,r.heap.more hn hg,r.below,r.defers⟩
def SlArg(o:Option AAddr)(n c id ver off es:Nat):Prop:=o=some ⟨id,ver,off,0,es⟩∨(o=none∧n=0∧c=0)
theorem SlArg.index {o:Option AAddr}{n c id ver off es:Nat}(h:SlArg o n c id ver off es){D:Tys}{t e:TypeId}{d xd:TyD}(hd:D t=some d)(hk:d.kind= .slice e)(hx:D e=some xd)(hes:es=xd.size){k:IntKind}{i:Int}(h0:0≤i)(hi:i<n) :
    aindexAddr D t (.slice o n c) (.int k i)=some (.ptr (some ⟨id,ver,off+i.toNat,0,es⟩)):=by
  rcases h with rfl | ⟨_,rfl,_⟩
  · simp only [aindexAddr,hd,hk,hx]
    rw [if_pos ⟨h0,hi,hes,trivial⟩]
  · omega
theorem SlArg.ren {o:Option AAddr}{n c id ver off es:Nat}(h:SlArg o n c id ver off es){r:Nat→Nat}{o':Option AAddr}(h':(o'=none∧o=none)∨(∃ x,o=some x∧o'=some {x with id:=r x.id})) :
    (AVal.slice o n c).ren r= .slice o' n c:=by
  rcases h' with ⟨rfl,rfl⟩ | ⟨x,rfl,rfl⟩
  · rfl
  · rfl
def AddrZ(o:Option AAddr):Option AAddr:=o.map fun a=> {a with id:=0}
theorem SlArg.zero {o:Option AAddr}{n c id ver off es:Nat}(h:SlArg o n c id ver off es):SlArg (AddrZ o) n c 0 ver off es:=by
  rcases h with rfl | ⟨rfl,h1,h2⟩
  · exact .inl rfl
  · exact .inr ⟨rfl,h1,h2⟩
theorem SlArg.at {o:Option AAddr}{n c id ver off es:Nat}(h:SlArg o n c id ver off es)(id':Nat):SlArg (o.map fun a=> {a with id:=id'}) n c id' ver off es:=by
  rcases h with rfl | ⟨rfl,h1,h2⟩
  · exact .inl rfl
  · exact .inr ⟨rfl,h1,h2⟩
theorem SlArg.back {o:Option AAddr}{n c id ver off es:Nat}(h:SlArg o n c id ver off es){id':Nat}{r:Nat→Nat}(hr:r id'=id):(AVal.slice (o.map fun a=> {a with id:=id'}) n c).ren r= .slice o n c:=by
  rcases h with rfl | ⟨rfl,h1,h2⟩
  · simp [AVal.ren,AAddr.ren,hr]
  · rfl
theorem SlArg.clo {o:Option AAddr}{n c id ver off es:Nat}(h:SlArg o n c id ver off es){D:Nat→Prop}(hD:D id):Clo D (.slice o n c):=by
  rcases h with rfl | ⟨rfl,_,_⟩
  · exact hD
  · simp [Clo]
structure SlTy(D:Tys)(t e:TypeId)(sz by':Nat):Prop where
  ty: ∃ d xd,D t=some d∧d.kind= .slice e∧D e=some xd∧xd.size=sz∧xd.bytes=by'∧0<sz∧xd.zeroFits=true
section
variable {E:AEnv}{t e:TypeId}{sz by' nid:Nat}{h:AHeap}{x:AVal}{new:List AVal}
theorem app_start(hs:SlTy E.D t e sz by')(s:AVal):abuiltin E .append #[t,t] [s,x] nid h=aappend E.D t s x nid h:=by
  obtain⟨d,xd,h1,h2,h3,rfl,rfl,h4,h5⟩:=hs.ty
  simp only [abuiltin,List.getElem?_toArray,List.getElem?_cons_zero,List.getElem?_cons_succ,h1,h2]
theorem app_new(hs:SlTy E.D t e sz by')(hx:elemsOf sz x h=some new)(hne:new≠ [])(hb:(new.length+new.length / 4+512)*by'≤2^48)(hl:new.length<2^62) :
    abuiltin E .append #[t,t] [.slice none 0 0,x] nid h=some (newSlice nid sz new.length new.length,h.set nid (.made new sz false (some (e,0)))):=by
  rw [app_start hs]
  obtain⟨d,xd,h1,h2,h3,rfl,rfl,h4,h5⟩:=hs.ty
  have hn: ¬ 0+new.length=0:=by rw [Nat.zero_add];intro c;exact hne (List.eq_nil_of_length_eq_zero c)
  simp only [aappend,h1,h2,h3,hx]
  rw [if_pos ⟨h4,by simpa using hb,by simpa using hl,h5⟩]
  rw [if_neg hn,if_pos ⟨trivial,trivial⟩,Nat.zero_add]
theorem app_grow(hs:SlTy E.D t e sz by')(hx:elemsOf sz x h=some new)(hne:new≠ []){a:AAddr}{len cap:Nat}{b:ABlk}(hb:((len+new.length)+(len+new.length) / 4+512)*by'≤2^48)(hl:len+new.length<2^62)
    (hg:h.get a.id=some b) (hes:a.es=sz∧a.fld=0) (hcap: ¬ len+new.length≤cap) (h6:b.exact=false) (h7:b.ro=false) (h8:a.ver=b.ver) (h9:a.idx+len=b.elems.length) (h10:b.ty=none∨b.ty=some (e,0)) :
    abuiltin E .append #[t,t] [.slice (some a) len cap,x] nid h=some (.slice (some {a with ver:=a.ver+1}) (len+new.length) (len+new.length),h.set a.id (b.grow new)):=by
  rw [app_start hs]
  obtain⟨d,xd,h1,h2,h3,rfl,rfl,h4,h5⟩:=hs.ty
  simp only [aappend,h1,h2,h3,hx]
  rw [if_pos ⟨h4,hb,hl,h5⟩]
  rw [if_pos hes]
  simp only [hg]
  rw [if_neg hcap,if_neg (by rw [h6];simp),if_pos ⟨h7,h8,h9,hne,h10⟩]
theorem app_none(hs:SlTy E.D t e sz by')(hx:elemsOf sz x h=some []){o:Option AAddr}{len cap:Nat}{b:ABlk}(hb:(len+len / 4+512)*by'≤2^48)(hl:len<2^62)
    (hg: ∀ a,o=some a→h.get a.id=some b∧a.es=sz∧a.fld=0) (hcap:len≤cap) (hn:o=none→len=0):abuiltin E .append #[t,t] [.slice o len cap,x] nid h=some (.slice o len cap,h):=by
  rw [app_start hs]
  obtain⟨d,xd,h1,h2,h3,rfl,rfl,h4,h5⟩:=hs.ty
  simp only [aappend,h1,h2,h3,hx]
  rw [if_pos ⟨h4,by simpa using hb,by simpa using hl,h5⟩]
  cases o with
  | none=>have:=hn rfl;subst this;simp
  | some a =>
    obtain⟨k1,k2⟩:=hg a rfl
    simp only
    rw [if_pos k2]
    simp only [k1]
    rw [if_pos (by simpa using hcap),if_pos trivial]
    simp
end
theorem elemsOf_slice {h:AHeap} {o:Option AAddr} {n c id ver off sz:Nat} (hs:SlArg o n c id ver off sz) {b:ABlk} (hg:h.get id=some b) {f:Nat→AVal} (hx: ∀ j,j<n→b.elem? ver (off+j)=some (f j)) :
    elemsOf sz (.slice o n c) h=some ((List.range n).map f):=by
  rcases hs with rfl | ⟨rfl,rfl,rfl⟩
  · simp only [elemsOf,if_true,hg]
    by_cases hn:n=0
    · subst hn;simp
    · rw [if_neg hn]
      have key: ∀ j,j<n→off+j<b.lim ver∧b.elems[off+j]? =some (f j):=by
        intro j hj
        have:=hx j hj
        unfold ABlk.elem? at this
        split at this
        · exact⟨‹_›,this⟩
        · cases this
      have hlast:=key (n-1) (by omega)
      have hlen:=(List.getElem?_eq_some_iff.1 hlast.2).1
      rw [if_pos ⟨by omega,by omega⟩]
      congr 1
      apply List.ext_getElem?
      intro j
      by_cases hj:j<n
      · rw [List.getElem?_take,if_pos hj,List.getElem?_drop,(key j hj).2];simp [hj]
      · rw [List.getElem?_take,if_neg hj,List.getElem?_eq_none (by simp;omega)]
  · simp [elemsOf]
theorem Loops.round {P:Program}{C:(Nat→Prop)→World→Prop}{base n:Nat}{c:Code}{F F1 F2:Facts}{h h1 h1' h2:AHeap}{e:AExit}(k1:Runs P C base n c F h .normal F1 h1)(i:Ent base n F1 h1 F1 h1')(k2:Loops P C base n c F1 h1' e F2 h2):Loops P C base n c F h e F2 h2 :=
  Loops.step (k1.post i) k2
end
end Go.Lift
namespace Go.Proofs.YtddnafghiejcoaaGreatDoor
open Go.Lift Go.Shelf
set_option maxRecDepth 1000000
def rho:Ren where
  f:=fun x=>if x=129 then 136 else if x=284 then 120 else if x=317 then 135 else if x=318 then 137 else 0
  t:=fun x=>if x=0 then 0 else if x=3 then 3 else if x=4 then 4 else if x=5 then 5 else if x=9 then 9 else if x=46 then 108 else if x=53 then 151 else if x=212 then 179 else 0
  g:=fun x=>if x=17 then 5 else 0
theorem lays0:Lays.n284 Tryz.prog rho:=by
  constructor
  all_goals first | kernel_rfl | (intro w;kernel_rfl)
theorem lays284:LaysM.n284 Tryz.prog rho:=by
  constructor
  all_goals first | exact lays0 | kernel_rfl
end Go.Proofs.YtddnafghiejcoaaGreatDoor
namespace Go.Proofs.YtddnafghiejcoaaGreatDoor
open Go.Lift
set_option maxRecDepth 1000000
structure cnd(N0:Nat→Prop)(w:World):Prop where
  p:N0 5
  pow:Lib.TabIs Tryz.prog w "internal/strconv.uint64pow10" .u64 Lib.pow10Tab
  q:N0 0
  sp:Lib.TabIs Tryz.prog w "strings.asciiSpace" .u8 Lib.asciiSpaceTab
  s:N0 3
  syn: ∃ te pe,w.cell? ⟨3,0,none⟩=some (.iface te pe)
  r:N0 4
  rng: ∃ te pe,w.cell? ⟨4,0,none⟩=some (.iface te pe)
theorem gPow:Tryz.prog.globalNamed "internal/strconv.uint64pow10" =some 5:=by kernel_rfl
theorem gSp:Tryz.prog.globalNamed "strings.asciiSpace" =some 0:=by kernel_rfl
theorem tab_keep {w w':World}{n:String}{g:Nat}{k:IntKind}{t:List Int}(hg:Tryz.prog.globalNamed n=some g)(hb:w'.heap[g]? =w.heap[g]?)(h:Lib.TabIs Tryz.prog w n k t):Lib.TabIs Tryz.prog w' n k t:=by
  unfold Lib.TabIs World.var? at h ⊢
  rw [hg]at h ⊢
  simp only [Option.bind_some]at h ⊢
  rw [hb];exact h
theorem cnd.keep {N0 N1:Nat→Prop}{w0 w:World}(h:cnd N0 w0)(hs:Go.Lift.Safe N0 w0 w)(hn: ∀ x,N0 x→N1 x):cnd N1 w where
  p:=hn _ h.p
  pow:=tab_keep gPow (hs.block _ h.p) h.pow
  q:=hn _ h.q
  sp:=tab_keep gSp (hs.block _ h.q) h.sp
  s:=hn _ h.s
  syn:=by obtain⟨te,pe,e⟩:=h.syn;exact⟨te,pe,by rw [World.cell?_of_block (hs.block _ h.s)];exact e⟩
  r:=hn _ h.r
  rng:=by obtain⟨te,pe,e⟩:=h.rng;exact⟨te,pe,by rw [World.cell?_of_block (hs.block _ h.r)];exact e⟩
instance:CondOk cnd where
  mono _ hC hs hn:=hC.keep hs hn
def nDig(n:Nat):Nat :=
  if n<10 then 1 else if n<100 then 2 else if n<1000 then 3 else if n<10000 then 4 else if n<100000 then 5 else if n<1000000 then 6 else if n<10000000 then 7 else if n<100000000 then 8 else if n<1000000000 then 9 else 10
theorem nDig_eq(n:Nat)(h:n<10000000000):nDig n=Lib.nDigits n:=by
  unfold nDig
  repeat' split
  · exact(Lib.nDigits_small ‹_›).symm
  · exact(Lib.nDigits_unique 1 n (by omega) (by omega)).symm
  · exact(Lib.nDigits_unique 2 n (by omega) (by omega)).symm
  · exact(Lib.nDigits_unique 3 n (by omega) (by omega)).symm
  · exact(Lib.nDigits_unique 4 n (by omega) (by omega)).symm
  · exact(Lib.nDigits_unique 5 n (by omega) (by omega)).symm
  · exact(Lib.nDigits_unique 6 n (by omega) (by omega)).symm
  · exact(Lib.nDigits_unique 7 n (by omega) (by omega)).symm
  · exact(Lib.nDigits_unique 8 n (by omega) (by omega)).symm
  · exact(Lib.nDigits_unique 9 n (by omega) (by omega)).symm
def digitsP:APrim:=fun args h =>
  match args with
  | [.int .u64 n]=>if 1≤n∧n<10000000000 then some (.int .i64 (nDig n.toNat),h)else none
  | _=>none
theorem digits_ok:PrimOk Tryz.prog cnd 120 digitsP:=by
  intro N0 w0 hN hC args h v h' hg φ w args' hH hB hA
  unfold digitsP at hg
  split at hg
  · rename_i n
    split at hg
    · rename_i hn
      simp only [Option.some.injEq,Prod.mk.injEq]at hg
      obtain⟨rfl,rfl⟩:=hg
      obtain⟨l⟩:=args'
      simp only [VRels]at hA
      obtain⟨a,t,rfl,ha,rfl⟩:=hA
      simp only [VRel]at ha
      subst ha
      have hCw:=hC.keep hB fun _ hx=>hx
      refine⟨⟨Tryz.f120,_,by kernel_rfl,rfl⟩,?_⟩
      have k:=Any.internal_strconv_numDigits lays284 n.toNat (by omega) (by omega) w hCw.pow
      rw [Int.toNat_of_nonneg (by omega)]at k
      refine k.mono fun e w' hh=> ?_
      obtain⟨he,hw⟩:=hh
      subst hw
      exact⟨_,φ,he,Keep.refl _ _,by simp only [VRel];rw [nDig_eq _ (by omega)],hH,hB,Nat.le_refl _⟩
    · cases hg
  · cases hg
noncomputable def env:AEnv:= {cond:=cnd,prim:=fun f=>if f=120 then some digitsP else none,D:=tyD Tryz.prog,eqs:= [42],ext:=fun f=>if f=170 then some 0 else if f=133 then some 1 else none}
instance:CondOk env.cond:=inferInstanceAs (CondOk cnd)
theorem env_ok:EnvOk Tryz.prog env where
  tys:=Tys.ok_self _
  eqs:=eqs_of (by decide+kernel)
  names:=names_of (by decide+kernel)
  prims:=fun f g h=>by
    simp only [env]at h
    split at h
    · rename_i e;subst e;simp only [Option.some.injEq]at h;subst h;exact digits_ok
    · cases h
  exts :=fun f k h=>by
    simp only [env]at h
    split at h
    · rename_i e;subst e;simp only [Option.some.injEq]at h;subst h
      exact⟨Tryz.f170,_,by kernel_rfl,by kernel_rfl,by kernel_rfl,by kernel_rfl,rfl⟩
    · split at h
      · rename_i e;subst e;simp only [Option.some.injEq]at h;subst h
        exact⟨Tryz.f133,_,by kernel_rfl,by kernel_rfl,by kernel_rfl,by kernel_rfl,rfl⟩
      · cases h
theorem mixed:Tryz.prog.follows .mixedOrders=true:=by decide+kernel
end Go.Proofs.YtddnafghiejcoaaGreatDoor
namespace Go.Lift
noncomputable section
open Go.RowKit
inductive HT:Type 1 where
  | nil
  | hint (x:Hint) (r:HT)
  | br (i:Nat) (y n:HT)
  | cases (i:Nat) (p:Prop) (y n:HT)
  | ex (i:Nat) {α:Type} (p:α→Prop) (f:α→HT)
  | skip (i:Nat) (r:HT)
def AllC:List Prop→Prop→Prop
  | [],k=>k
  | p::r,k=>p∧AllC r k
theorem AllC_spec: ∀ {l:List Prop} {k:Prop},AllC l k→All l∧k
  | [],k,h=>⟨All.nil,h⟩
  | p::r,k,h=>⟨All.cons h.1 (AllC_spec h.2).1,(AllC_spec h.2).2⟩
abbrev TPost:=AVal→AHeap→HT→List CFact→Prop
abbrev TEnter:=FuncId→List AVal→AHeap→HT→(AVal→AHeap→HT→Prop)→Prop
abbrev TX:=AExit→Facts→AHeap→HT→Prop
def brOp (ρ:Operand→AVal) (o:Op):Option (Prop×Bool) :=
  match o with
  | .binOp op t x y _ =>
    match ρ x,ρ y with
    | .int k a,.int k' b =>
      match decEq k k' with
      | isTrue _ =>
        match op with
        | .eql=>some (a=b,true)
        | .neq=>some (a=b,false)
        | .lss=>some (a<b,true)
        | .leq=>some (a≤b,true)
        | .gtr=>some (b<a,true)
        | .geq=>some (b≤a,true)
        | _=>none
      | isFalse _=>none
    | .str a,.str b =>
      match op with
      | .eql=>some (a=b,true)
      | .neq=>some (a=b,false)
      | _=>none
    | _,_=>none
  | _=>none
theorem brOp_spec {E:AEnv}{ρ:Operand→AVal}{o:Op}{p:Prop}{b:Bool}(k:brOp ρ o=some (p,b))(call:ACall)(nid:Nat)(h:AHeap):(p→aop E call nid ρ h o=some (.bool b,h))∧(¬ p→aop E call nid ρ h o=some (.bool (!b),h)):=by
  cases o<;>simp only [brOp]at k<;>try (cases k;done)
  rename_i op t x y ty
  split at k
  · rename_i k1 a k2 c hx hy
    split at k
    · rename_i hk _
      subst hk
      split at k<;>first | (cases k;done) | (simp only [Option.some.injEq,Prod.mk.injEq]at k)
      all_goals (obtain⟨rfl,rfl⟩:=k)
      all_goals (constructor<;>intro hp<;>simp [aop,hx,hy,abin,aint,hp])
      all_goals omega
    · cases k
  · rename_i a c hx hy
    split at k<;>first | (cases k;done) | (simp only [Option.some.injEq,Prod.mk.injEq]at k)
    all_goals (obtain⟨rfl,rfl⟩:=k)
    all_goals (constructor<;>intro hp<;>simp [aop,hx,hy,abin,astr,hp])
  · cases k
inductive Alts where
  | one (v:AVal) (h:AHeap) (ps:List Prop)
  | or (p:Prop) (a b:Alts)
  | some (v:AVal) (ps:List Prop) (p:AHeap→Prop)
def Alts.Ok(P:Program)(C:(Nat→Prop)→World→Prop)(f:FuncId)(args:List AVal)(h:AHeap):Alts→Prop
  | .one v h' ps=>All ps→FDoes P C f args h v h'
  | .or p a b=>(p→Alts.Ok P C f args h a)∧(¬ p→Alts.Ok P C f args h b)
  | .some v ps p=>All ps→ ∃ h',FDoes P C f args h v h'∧p h'
abbrev Specs:=FuncId→Option (List AVal→AHeap→Option Alts)
def SpecsOk(P:Program)(C:(Nat→Prop)→World→Prop)(S:Specs):Prop:= ∀ f g,S f=some g→ ∀ args h a,g args h=some a→a.Ok P C f args h
def noSpecs:Specs:=fun _=>none
theorem noSpecs_ok {P:Program}{C:(Nat→Prop)→World→Prop} :SpecsOk P C noSpecs:=fun _ _ h=>by cases h
def Specs.add(S:Specs)(f:FuncId)(g:List AVal→AHeap→Option Alts):Specs:=fun k=>_root_.cond (Nat.beq k f) (some g) (S k)
theorem SpecsOk.add {P:Program}{C:(Nat→Prop)→World→Prop}{S:Specs}(k:SpecsOk P C S){f:FuncId}{g:List AVal→AHeap→Option Alts}(hg: ∀ args h a,g args h=some a→a.Ok P C f args h):SpecsOk P C (S.add f g):=by
  intro f' g' hf
  unfold Specs.add at hf
  rcases beq_cases f' f with ⟨e,e'⟩ | ⟨e,e'⟩
  · rw [e',cond_true]at hf;simp only [Option.some.injEq]at hf;subst hf;subst e;exact hg
  · rw [e',cond_false]at hf;exact k f' g' hf
def bytesA(l:List UInt8):List AVal:=l.map fun b=> .int .u8 b.toNat
def strOf(l:List AVal):List UInt8:=(bytesOf l).getD []
def intAt(l:List AVal)(i:Nat):Int:=match l[i]? with | some (.int _ n)=>n | _=>0
def goX (E:AEnv) (draw:Bool) (ops:Array Oper) (n0 i:Nat) (ρ:Operand→AVal) (h:AHeap) (o:Op):Option (AVal×AHeap×List Prop) :=
  match o with
  | .convert s d x =>
    match ρ x with
    | .slice (some a) n c =>
      match E.D s,E.D d,h.get a.id with
      | some sd,some dd,some b =>
        match sd.kind,dd.kind with
        | .slice e,.string =>
          match E.D e with
          | some ed =>
            match ed.kind with
            | .int .u8 =>
              cond (Nat.beq a.fld 0 && Nat.beq a.es 1 && (!draw || (soloOk ops i || readOk ops n0 i ρ (.convert s d x))))
                (some (.str (strOf ((b.elems.drop a.idx).take n)),h,[a.ver=b.ver,a.idx+n≤b.elems.length,∃ l,(b.elems.drop a.idx).take n=bytesA l])) none
            | _=>none
          | none=>none
        | _,_=>none
      | _,_,_=>none
    | _=>none
  | .load t x =>
    match ρ x with
    | .ptr (some a) =>
      match E.D t,h.get a.id with
      | some d,some b =>
        match d.kind with
        | .int k =>
          cond (Nat.beq a.fld 0 && Nat.beq d.size 1)
            (some (.int k (intAt b.elems a.idx),h,[a.ver=b.ver,b.elems[a.idx]? =some (.int k (intAt b.elems a.idx))]++cond draw (drawCond ops n0 i ρ h o h) [])) none
        | _=>none
      | _,_=>none
    | _=>none
  | _=>none
theorem bytesOf_bytesA: ∀ (l:List UInt8),bytesOf (bytesA l)=some l
  | []=>rfl
  | b::r=>by
    have:=bytesOf_bytesA r
    unfold bytesA at this
    simp only [bytesA,List.map_cons,bytesOf,this,Option.map_some]
    simp
theorem strOf_bytesA(l:List UInt8):strOf (bytesA l)=l:=by unfold strOf;rw [bytesOf_bytesA];rfl
theorem goX_spec {P :Program} {E:AEnv} {draw:Bool} {ops:Array Oper} {n0 i:Nat} {ρ:Operand→AVal} {h h':AHeap} {o:Op} {v:AVal} {ps:List Prop} (k:goX E draw ops n0 i ρ h o=some (v,h',ps)) (hp:All ps) (call:ACall):runOp E call ops draw n0 i ρ h o=some (v,h'):=by
  cases o<;>simp only [goX]at k<;>try (cases k;done)
  case convert s d x =>
    split at k
    · rename_i a n c hx
      split at k
      · rename_i sd dd b hs hd hg
        split at k
        · rename_i e hk1 hk2
          split at k
          · rename_i ed he
            split at k
            · rename_i hek
              cases hq:(Nat.beq a.fld 0 && Nat.beq a.es 1 && (!draw || (soloOk ops i || readOk ops n0 i ρ (.convert s d x))))with
              | false=>rw [hq]at k;cases k
              | true =>
                rw [hq,cond_true]at k
                simp only [Option.some.injEq,Prod.mk.injEq]at k
                obtain⟨rfl,rfl,rfl⟩:=k
                simp only [Bool.and_eq_true]at hq
                have q1:=Nat.eq_of_beq_eq_true hq.1.1
                have q2:=Nat.eq_of_beq_eq_true hq.1.2
                have p1:a.ver=b.ver:=hp.head
                have p2:a.idx+n≤b.elems.length:=hp.tail.head
                obtain⟨l,p3⟩: ∃ l,(b.elems.drop a.idx).take n=bytesA l:=hp.tail.tail.head
                have hlim:b.lim a.ver=b.elems.length:=by rw [p1];simp [ABlk.lim]
                have hel:elemsOf 1 (.slice (some a) n c) h=some (bytesA l):=by
                  by_cases hn:n=0
                  · subst hn
                    simp only [elemsOf,q1,q2,if_true,hg]
                    rw [← p3];simp
                  · simp only [elemsOf,q1,q2,if_true,hg]
                    rw [if_neg hn,if_pos ⟨by rw [hlim];exact p2,p2⟩,p3]
                refine runOp_ofX E ?_ ?_ ?_
                · simp only [aop,hx,aconvert,hs,hd];rfl
                · simp only [xop,hx,aconvX,hs,hd,hk1,hk2,he,hek,hel,bytesOf_bytesA,Option.map_some]
                  rw [p3,strOf_bytesA]
                · intro hdr
                  refine⟨rfl,?_⟩
                  have:=hq.2;rw [hdr]at this;simpa using this
            · cases k
          · cases k
        · cases k
      · cases k
    · cases k
  case load t x =>
    split at k
    · rename_i a hx
      split at k
      · rename_i d b hd hg
        split at k
        · rename_i kk hk
          cases hq:(Nat.beq a.fld 0 && Nat.beq d.size 1)with
          | false=>rw [hq]at k;cases k
          | true =>
            rw [hq,cond_true]at k
            simp only [Option.some.injEq,Prod.mk.injEq]at k
            obtain⟨rfl,rfl,rfl⟩:=k
            simp only [Bool.and_eq_true]at hq
            have q1:=Nat.eq_of_beq_eq_true hq.1
            have p1:a.ver=b.ver:=hp.head
            have p2:b.elems[a.idx]? =some (.int kk (intAt b.elems a.idx)):=hp.tail.head
            refine runOp_of E ?_ hp.tail.tail
            have hlt:=(List.getElem?_eq_some_iff.1 p2).1
            have hel:b.elem? a.ver a.idx=some (.int kk (intAt b.elems a.idx)):=by
              unfold ABlk.elem?
              rw [if_pos (by rw [p1];simpa [ABlk.lim]using hlt)];exact p2
            simp only [aop,hx,aload,hd,hg,hel,hk,TK.isAgg,loadElem,q1,if_true,Option.map_some,Bool.false_eq_true,if_false]
        · cases k
      · cases k
    · cases k
section
variable(P:Program)(E:AEnv)(S:Specs)
def tbase (draw:Bool) (ops:Array Oper) (n0 i:Nat) (F:Facts) (h:AHeap) (o:Op):Option (AVal×AHeap×List Prop×List CFact) :=
  match o with
  | .call c =>
    match c.callee with
    | .value f =>
      match getF F f with
      | .func (.func g) fs cs =>
        match S g with
        | some pr =>
          match pr (fs++c.args.toList.map (getF F)++cs) h with
          | some (.one v h' ps)=>some (v,h',ps++cond draw (drawCond ops n0 i (getF F) h o h') [],[⟨g,fs++c.args.toList.map (getF F)++cs,h,v,h'⟩])
          | _=>none
        | none=>none
      | _=>none
    | _=>match popPlain E draw ops n0 i F h o []with | some (v,h',_,cs,ks)=>some (v,h',cs,ks) | none=>none
  | _=>match popPlain E draw ops n0 i F h o []with | some (v,h',_,cs,ks)=>some (v,h',cs,ks) | none=>none
def talts(draw:Bool)(ops:Array Oper)(n0 i:Nat)(F:Facts)(o:Op)(g:FuncId)(args:List AVal)(h:AHeap)(K:TPost):Alts→HT→Prop
  | .one v h' ps,hs=>AllC (ps++cond draw (drawCond ops n0 i (getF F) h o h') []) (K v h' hs [⟨g,args,h,v,h'⟩])
  | .or p a b,.br _ y n=>(p→talts draw ops n0 i F o g args h K a y)∧(¬ p→talts draw ops n0 i F o g args h K b n)
  | .or _ _ _,_=>False
  | .some v ps p,hs=>AllC ps (∀ h',p h'→AllC (cond draw (drawCond ops n0 i (getF F) h o h') []) (K v h' hs [⟨g,args,h,v,h'⟩]))
def tspec (F:Facts) (h:AHeap) (o:Op):Option (Alts×FuncId×List AVal) :=
  match o with
  | .call c =>
    match c.callee with
    | .value f =>
      match getF F f with
      | .func (.func g) fs cs =>
        match S g with
        | some pr=>match pr (fs++c.args.toList.map (getF F)++cs) h with | some a=>some (a,g,fs++c.args.toList.map (getF F)++cs) | none=>none
        | none=>none
      | _=>none
    | _=>none
  | _=>none
def tdo (draw:Bool) (ops:Array Oper) (n0 i:Nat) (F:Facts) (h:AHeap) (o:Op) (hs:HT) (K:TPost):Prop :=
  match tbase E S draw ops n0 i F h o with
  | some (v,h',cs,ks)=>AllC cs (K v h' hs ks)
  | none =>
    match tspec S F h o with
    | some (.some v ps p,g,args)=>talts draw ops n0 i F o g args h K (.some v ps p) hs
    | _=>False
def tbr (draw:Bool) (ops:Array Oper) (n0 i:Nat) (F:Facts) (h:AHeap) (o:Op) (y n:HT) (K:TPost):Prop :=
  match brOp (getF F) o with
  | some (p,b)=>(p→AllC (cond draw (drawCond ops n0 i (getF F) h o h) []) (K (.bool b) h y []))∧(¬ p→AllC (cond draw (drawCond ops n0 i (getF F) h o h) []) (K (.bool (!b)) h n []))
  | none =>
    match tbase E S draw ops n0 i F h o with
    | some (.bool b,h',cs,ks)=>AllC cs ((b=true→K (.bool true) h' y ks)∧(b=false→K (.bool false) h' n ks))
    | _=>False
def tbrX(draw:Bool)(ops:Array Oper)(n0 i:Nat)(F:Facts)(h:AHeap)(o:Op)(j:Nat)(y n:HT)(K:TPost):Prop :=
  match tspec S F h o with
  | some (.or p a b,g,args)=>talts draw ops n0 i F o g args h K (.or p a b) (.br j y n)
  | _=>tbr E S draw ops n0 i F h o y n K
def tact (en:TEnter) (draw:Bool) (ops:Array Oper) (n0 i:Nat) (F:Facts) (h:AHeap) (o:Op) (x:Hint) (r:HT) (K:TPost):Prop :=
  match x with
  | .enter _ =>
    match o with
    | .call c =>
      match c.callee with
      | .value f =>
        match getF F f with
        | .func (.func g) fs cs =>
          en g (fs++c.args.toList.map (getF F)++cs) h r fun v h' r'=>AllC (cond draw (drawCond ops n0 i (getF F) h o h') []) (K v h' r' [⟨g,fs++c.args.toList.map (getF F)++cs,h,v,h'⟩])
        | _=>False
      | _=>False
    | _=>False
  | _ =>
    match popHint P E (fun _ _ _ _=>none) draw ops n0 i F h o x []with
    | some (v,h',_,cs,ks)=>AllC cs (K v h' r ks)
    | none=>match goX E draw ops n0 i (getF F) h o with | some (v,h',cs)=>AllC cs (K v h' r []) | none=>False
def tpop(en:TEnter)(q:Nat)(ops:Array Oper)(draw:Bool)(n0 i:Nat)(F:Facts)(h:AHeap)(o:Op)(K:TPost):HT→Prop
  | .nil=>tdo E S draw ops n0 i F h o .nil K
  | .hint x r=>match x.at with | some j=>cond (Nat.beq (1000*q+i) j) (tact P E en draw ops n0 i F h o x r K) (tdo E S draw ops n0 i F h o (.hint x r) K) | none=>tdo E S draw ops n0 i F h o (.hint x r) K
  | .br j y n=>cond (Nat.beq (1000*q+i) j) (tbrX E S draw ops n0 i F h o j y n K) (tdo E S draw ops n0 i F h o (.br j y n) K)
  | .cases j p y n=>cond (Nat.beq (1000*q+i) j) ((p→tpop en q ops draw n0 i F h o K y)∧(¬ p→tpop en q ops draw n0 i F h o K n)) (tdo E S draw ops n0 i F h o (.cases j p y n) K)
  | .ex j p f=>cond (Nat.beq (1000*q+i) j) ((∃ x,p x)∧ ∀ x,p x→tpop en q ops draw n0 i F h o K (f x)) (tdo E S draw ops n0 i F h o (.ex j p f) K)
  | .skip j r=>cond (Nat.beq (1000*q+i) j) (tdo E S draw ops n0 i F h o r K) (tdo E S draw ops n0 i F h o (.skip j r) K)
def TDoes(ops:Array Oper)(draw:Bool)(n0 i:Nat)(F:Facts)(h:AHeap)(o:Op)(K:TPost):Prop :=
  ∃ v h' hs' ks,K v h' hs' ks∧(∀ c∈ks,FDoes P E.cond c.f c.args c.h c.v c.h')∧ ∀ call:ACall,(∀ c∈ks,c.holds call)→runOp E call ops draw n0 i (getF F) h o=some (v,h')
def TEnterOk(en:TEnter):Prop:= ∀ f args h hs K,en f args h hs K→ ∃ v h' hs',FDoes P E.cond f args h v h'∧K v h' hs'
variable {P E S}
theorem tbase_spec (hE:EnvOk P E) (hmix:P.follows .mixedOrders=true) (hS:SpecsOk P E.cond S) {draw:Bool} {ops:Array Oper} {n0 i:Nat} {F:Facts} {h h':AHeap} {o:Op} {v:AVal} {cs:List Prop} {ks:List CFact} (k:tbase E S draw ops n0 i F h o=some (v,h',cs,ks)) (hc:All cs) :
    (∀ c∈ks,FDoes P E.cond c.f c.args c.h c.v c.h')∧ ∀ call:ACall,(∀ c∈ks,c.holds call)→runOp E call ops draw n0 i (getF F) h o=some (v,h'):=by
  have plain: ∀ {r:Option (AVal×AHeap×List Prop×List CFact)},(match popPlain E draw ops n0 i F h o []with | some (v,h',_,cs,ks)=>some (v,h',cs,ks) | none=>none)=some (v,h',cs,ks) →
      (∀ c∈ks,FDoes P E.cond c.f c.args c.h c.v c.h')∧ ∀ call:ACall,(∀ c∈ks,c.holds call)→runOp E call ops draw n0 i (getF F) h o=some (v,h'):=by
    intro r k
    split at k
    · rename_i v1 h1 hs1 c1 k1 hp
      simp only [Option.some.injEq,Prod.mk.injEq]at k
      obtain⟨rfl,rfl,rfl,rfl⟩:=k
      have hen:EnterOk P E (fun _ _ _ _=>none):=fun _ _ _ _ _ _ _ _ h=>by cases h
      have hp':pop P E (fun _ _ _ _=>none) 0 ops draw n0 i F h o []=some (v1,h1,hs1,c1,k1):=hp
      exact⟨pop_does P E hE hmix hen hp' hc,fun call hk=>pop_spec P E hp' hc hk⟩
    · cases k
  unfold tbase at k
  split at k
  · rename_i c
    split at k
    · rename_i f hf
      split at k
      · rename_i g fs cs' hg
        split at k
        · rename_i pr hpr
          split at k
          · rename_i v1 h1 ps hcall
            simp only [Option.some.injEq,Prod.mk.injEq]at k
            obtain⟨rfl,rfl,rfl,rfl⟩:=k
            refine⟨fun c hm=> ?_,fun call hk=> ?_⟩
            · rw [List.mem_singleton.1 hm];exact hS _ _ hpr _ _ _ hcall hc.left
            · refine runOp_of E ?_ hc.right
              simp only [aop,hf,hg,acallVal]
              exact hk _ (List.mem_singleton.2 rfl)
          · cases k
        · cases k
      · cases k
    · exact plain (r:=none) k
  · exact plain (r:=none) k
theorem talts_spec {draw:Bool}{ops:Array Oper}{n0 i:Nat}{F:Facts}{h:AHeap}{c:Call}{f:Operand}(hf:c.callee= .value f){g:FuncId}{fs cs:List AVal}(hg:getF F f= .func (.func g) fs cs){K:TPost} :
    ∀ (a:Alts) (hs:HT),a.Ok P E.cond g (fs++c.args.toList.map (getF F)++cs) h→talts draw ops n0 i F (.call c) g (fs++c.args.toList.map (getF F)++cs) h K a hs→TDoes P E ops draw n0 i F h (.call c) K
  | .one v h' ps,hs,ok,k=>by
    obtain⟨hc,hK⟩:=AllC_spec (by simpa only [talts]using k)
    refine⟨v,h',hs,_,hK,fun c hm=> ?_,fun call hk=> ?_⟩
    · rw [List.mem_singleton.1 hm];exact ok hc.left
    · refine runOp_of E ?_ hc.right
      simp only [aop,hf,hg,acallVal]
      exact hk _ (List.mem_singleton.2 rfl)
  | .some v ps p,hs,ok,k=>by
    obtain⟨hc,hK⟩:=AllC_spec (by simpa only [talts]using k)
    obtain⟨h',hd,hp⟩:=ok hc
    obtain⟨hc2,hK⟩:=AllC_spec (hK h' hp)
    refine⟨v,h',hs,_,hK,fun c hm=> ?_,fun call hk=> ?_⟩
    · rw [List.mem_singleton.1 hm];exact hd
    · refine runOp_of E ?_ hc2
      simp only [aop,hf,hg,acallVal]
      exact hk _ (List.mem_singleton.2 rfl)
  | .or p a b,.br j y n,ok,k=>by
    simp only [talts]at k
    by_cases hp:p
    · exact talts_spec hf hg a y (ok.1 hp) (k.1 hp)
    · exact talts_spec hf hg b n (ok.2 hp) (k.2 hp)
  | .or p a b,.nil,ok,k=>k.elim
  | .or p a b,.hint _ _,ok,k=>k.elim
  | .or p a b,.cases _ _ _ _,ok,k=>k.elim
  | .or p a b,.ex _ _ _,ok,k=>k.elim
  | .or p a b,.skip _ _,ok,k=>k.elim
theorem tspec_spec (hS:SpecsOk P E.cond S) {draw:Bool} {ops:Array Oper} {n0 i:Nat} {F:Facts} {h:AHeap} {o:Op} {a:Alts} {g:FuncId} {args:List AVal} (ht:tspec S F h o=some (a,g,args)) {K:TPost} {hs:HT} (k:talts draw ops n0 i F o g args h K a hs):TDoes P E ops draw n0 i F h o K:=by
  unfold tspec at ht
  split at ht
  · rename_i c
    split at ht
    · rename_i f hf
      split at ht
      · rename_i g' fs cs hg
        split at ht
        · rename_i pr hpr
          split at ht
          · rename_i a' hcall
            simp only [Option.some.injEq,Prod.mk.injEq]at ht
            obtain⟨rfl,rfl,rfl⟩:=ht
            exact talts_spec hf hg _ _ (hS _ _ hpr _ _ _ hcall) k
          · cases ht
        · cases ht
      · cases ht
    · cases ht
  · cases ht
theorem tdo_spec(hE:EnvOk P E)(hmix:P.follows .mixedOrders=true)(hS:SpecsOk P E.cond S){draw:Bool}{ops:Array Oper}{n0 i:Nat}{F:Facts}{h:AHeap}{o:Op}{hs:HT}{K:TPost}(k:tdo E S draw ops n0 i F h o hs K):TDoes P E ops draw n0 i F h o K:=by
  unfold tdo at k
  split at k
  · rename_i v h' cs ks hb
    obtain⟨hc,hK⟩:=AllC_spec k
    obtain⟨k1,k2⟩:=tbase_spec hE hmix hS hb hc
    exact⟨v,h',hs,ks,hK,k1,k2⟩
  · split at k
    · rename_i ht;exact tspec_spec hS ht k
    · exact k.elim
theorem tbr_spec(hE:EnvOk P E)(hmix:P.follows .mixedOrders=true)(hS:SpecsOk P E.cond S){draw:Bool}{ops:Array Oper}{n0 i:Nat}{F:Facts}{h:AHeap}{o:Op}{y n:HT}{K:TPost}(k:tbr E S draw ops n0 i F h o y n K):TDoes P E ops draw n0 i F h o K:=by
  unfold tbr at k
  split at k
  · rename_i p b hb
    by_cases hp:p
    · obtain⟨hc,hK⟩:=AllC_spec (k.1 hp)
      exact⟨_,_,_,_,hK,fun c hm=>by simp at hm,fun call _=>runOp_of E ((brOp_spec hb call (n0+i) h).1 hp) hc⟩
    · obtain⟨hc,hK⟩:=AllC_spec (k.2 hp)
      exact⟨_,_,_,_,hK,fun c hm=>by simp at hm,fun call _=>runOp_of E ((brOp_spec hb call (n0+i) h).2 hp) hc⟩
  · split at k
    · rename_i b h' cs ks hb
      obtain⟨hc,hK⟩:=AllC_spec k
      obtain⟨k1,k2⟩:=tbase_spec hE hmix hS hb hc
      cases b with
      | true=>exact⟨_,_,_,_,hK.1 rfl,k1,k2⟩
      | false=>exact⟨_,_,_,_,hK.2 rfl,k1,k2⟩
    · exact k.elim
theorem tbrX_spec(hE:EnvOk P E)(hmix:P.follows .mixedOrders=true)(hS:SpecsOk P E.cond S){draw:Bool}{ops:Array Oper}{n0 i:Nat}{F:Facts}{h:AHeap}{o:Op}{j:Nat}{y n:HT}{K:TPost}(k:tbrX E S draw ops n0 i F h o j y n K):TDoes P E ops draw n0 i F h o K:=by
  unfold tbrX at k
  split at k
  · rename_i ht;exact tspec_spec hS ht k
  · exact tbr_spec hE hmix hS k
theorem tact_spec (hE:EnvOk P E) (hmix:P.follows .mixedOrders=true) (hS:SpecsOk P E.cond S) {en:TEnter} (hen:TEnterOk P E en) {q:Nat} {draw:Bool} {ops:Array Oper} {n0 i:Nat} {F:Facts} {h:AHeap} {o:Op} {x:Hint} (hx:x.at=some (1000*q+i)) {r:HT} {K:TPost} (k:tact P E en draw ops n0 i F h o x r K) :
    TDoes P E ops draw n0 i F h o K:=by
  unfold tact at k
  split at k
  · split at k
    · rename_i c
      split at k
      · rename_i f hf
        split at k
        · rename_i g fs cs hg
          obtain⟨v,h',hs',hd,hK⟩:=hen _ _ _ _ _ k
          obtain⟨hc,hK⟩:=AllC_spec hK
          refine⟨v,h',hs',_,hK,fun c hm=> ?_,fun call hk=> ?_⟩
          · rw [List.mem_singleton.1 hm];exact hd
          · refine runOp_of E ?_ hc
            simp only [aop,hf,hg,acallVal]
            exact hk _ (List.mem_singleton.2 rfl)
        · exact k.elim
      · exact k.elim
    · exact k.elim
  · split at k
    · rename_i v h' hs1 cs ks hp
      obtain⟨hc,hK⟩:=AllC_spec k
      have hen':EnterOk P E (fun _ _ _ _=>none):=fun _ _ _ _ _ _ _ _ h=>by cases h
      have hp':pop P E (fun _ _ _ _=>none) q ops draw n0 i F h o [x]=some (v,h',hs1,cs,ks):=by
        unfold pop
        simp only [hx]
        rw [beq_true rfl,cond_true];exact hp
      exact⟨v,h',r,ks,hK,pop_does P E hE hmix hen' hp' hc,fun call hk=>pop_spec P E hp' hc hk⟩
    · split at k
      · rename_i v h' cs hp
        obtain⟨hc,hK⟩:=AllC_spec k
        exact⟨v,h',r,[],hK,fun c hm=>by simp at hm,fun call _=>goX_spec (P:=P) hp hc call⟩
      · exact k.elim
theorem tpop_spec(hE:EnvOk P E)(hmix:P.follows .mixedOrders=true)(hS:SpecsOk P E.cond S){en:TEnter}(hen:TEnterOk P E en){q:Nat}{draw:Bool}{ops:Array Oper}{n0 i:Nat}{F:Facts}{h:AHeap}{o:Op}{K:TPost} : ∀ (hs:HT),tpop P E S en q ops draw n0 i F h o K hs→TDoes P E ops draw n0 i F h o K
  | .nil,k=>tdo_spec hE hmix hS k
  | .hint x r,k=>by
    simp only [tpop]at k
    split at k
    · rename_i j hj
      rcases beq_cases (1000*q+i) j with ⟨e,e'⟩ | ⟨e,e'⟩
      · rw [e',cond_true]at k;exact tact_spec hE hmix hS hen (by rw [hj,e]) k
      · rw [e',cond_false]at k;exact tdo_spec hE hmix hS k
    · exact tdo_spec hE hmix hS k
  | .br j y n,k=>by
    simp only [tpop]at k
    rcases beq_cases (1000*q+i) j with ⟨e,e'⟩ | ⟨e,e'⟩
    · rw [e',cond_true]at k;exact tbrX_spec hE hmix hS k
    · rw [e',cond_false]at k;exact tdo_spec hE hmix hS k
  | .cases j p y n,k=>by
    simp only [tpop]at k
    rcases beq_cases (1000*q+i) j with ⟨e,e'⟩ | ⟨e,e'⟩
    · rw [e',cond_true]at k
      by_cases hp:p
      · exact tpop_spec hE hmix hS hen y (k.1 hp)
      · exact tpop_spec hE hmix hS hen n (k.2 hp)
    · rw [e',cond_false]at k;exact tdo_spec hE hmix hS k
  | .ex j p f,k=>by
    simp only [tpop]at k
    rcases beq_cases (1000*q+i) j with ⟨e,e'⟩ | ⟨e,e'⟩
    · rw [e',cond_true]at k
      obtain⟨⟨x,hx⟩,k⟩:=k
      exact tpop_spec hE hmix hS hen (f x) (k x hx)
    · rw [e',cond_false]at k;exact tdo_spec hE hmix hS k
  | .skip j r,k=>by
    simp only [tpop]at k
    rcases beq_cases (1000*q+i) j with ⟨e,e'⟩ | ⟨e,e'⟩
    · rw [e',cond_true]at k;exact tdo_spec hE hmix hS k
    · rw [e',cond_false]at k;exact tdo_spec hE hmix hS k
variable(P E S)
def trun (en:TEnter) (q:Nat) (ops:Array Oper) (draw:Bool) (n n0:Nat):List Oper→Nat→Facts→AHeap→HT→List CFact→(Facts→AHeap→HT→List CFact→Prop)→Prop
  | [],_,F,h,hs,ks,K=>K F h hs ks
  | o::r,i,F,h,hs,ks,K =>
    cond (ltDst n o)
    (match awantedF ops F o with
    | some true=>cond (o.op.operands.toList.all (knownF F)) (tpop P E S en q ops draw n0 i F h o.op (fun v h' hs' k2=>trun en q ops draw n n0 r (i+1) (setF F o.dst v) h' hs' (ks++k2) K) hs) False
    | some false=>trun en q ops draw n n0 r (i+1) (setF F o.dst skipped) h hs ks K
    | none=>False) False
variable {P E S}
theorem trun_spec (hE:EnvOk P E) (hmix:P.follows .mixedOrders=true) (hS:SpecsOk P E.cond S) {en:TEnter} (hen:TEnterOk P E en) {q:Nat} {ops:Array Oper} {draw:Bool} {n n0:Nat} : ∀ (l:List Oper) (i:Nat) (F:Facts) (h:AHeap) (hs:HT) (ks:List CFact) {K:Facts→AHeap→HT→List CFact→Prop},(∀ j,l[j]? =ops[i+j]?) →
    trun P E S en q ops draw n n0 l i F h hs ks K→ ∃ F' h' hs' k2,K F' h' hs' (ks++k2)∧(∀ c∈k2,FDoes P E.cond c.f c.args c.h c.v c.h')∧ ∀ call:ACall,(∀ c∈k2,c.holds call)→ ∀ s:List AVal,s.length=n→Has F s→ ∃ s',s'.length=n∧Has F' s' ∧
      runL E call ops draw n0 (List.range' i l.length) ⟨s,h⟩=some ⟨s',h'⟩
  | [],i,F,h,hs,ks,K,hl,k=>⟨F,h,hs,[],by simpa [trun]using k,fun c hm=>by simp at hm,fun call _ s hn hF=>⟨s,hn,hF,by unfold runL;cases draw<;>rfl⟩⟩
  | o :: r, i,F,h,hs,ks,K,hl,k=>by
    have ho:ops[i]? =some o:=by have:=hl 0;simpa using this.symm
    have hr: ∀ j,r[j]? =ops[i+1+j]? :=fun j=>by have:=hl (j+1);simp at this;rw [this];congr 1;omega
    simp only [trun]at k
    cases hd:ltDst n o with
    | false=>rw [hd]at k;exact k.elim
    | true =>
      rw [hd,cond_true]at k
      have hdst: ∀ m,m=n→ ∀ t,o.dst=some t→t<m:=by
        intro m hm t ht
        unfold ltDst at hd
        rw [ht]at hd
        rw [hm];exact Nat.blt_eq.mp hd
      rw [List.length_cons,List.range'_succ]
      split at k
      · rename_i hg
        cases hall:o.op.operands.toList.all (knownF F)with
        | false=>rw [hall]at k;exact k.elim
        | true =>
          rw [hall,cond_true]at k
          obtain⟨v,h1,hs1,k1,hK,hd1,hrun1⟩:=tpop_spec hE hmix hS hen hs k
          obtain⟨F',h',hs',k2,hK2,hd2,hrun2⟩:=trun_spec hE hmix hS hen r (i+1) _ _ _ _ hr hK
          refine⟨F',h',hs',k1++k2,by rw [← List.append_assoc];exact hK2,fun c hm=>(List.mem_append.1 hm).elim (hd1 c) (hd2 c),fun call hk s hn hF=> ?_⟩
          have ha1:=hrun1 call fun c hm=>hk c (by simp [hm])
          obtain⟨s',e1,e2,hm2⟩:=hrun2 call (fun c hm=>hk c (by simp [hm])) (aput s o.dst v) (by rw [length_aput];exact hn) (hF.set (hdst s.length hn) v)
          refine⟨s',e1,e2,?_⟩
          have heq:runOp E call ops draw n0 i (agetOp s) h o.op=some (v,h1):=by
            rw [← ha1]
            have hcg: ∀ x∈o.op.operands.toList,agetOp s x=getF F x:=fun x hx=>(hF.get (List.all_eq_true.1 hall x hx)).symm
            have h0: ∀ nid,aop E call nid (agetOp s) h o.op=aop E call nid (getF F) h o.op:=fun nid=>aop_congr hcg
            have hlo:loadId (agetOp s) o.op=loadId (getF F) o.op:=by
              cases hoo:o.op<;>simp only [loadId]
              rename_i t x
              rw [hoo]at hcg
              rw [hcg x (by simp [Op.operands])]
            have hso:storeId (agetOp s) o.op=storeId (getF F) o.op:=by
              cases hoo:o.op<;>simp only [storeId]
              rename_i t x y
              rw [hoo]at hcg
              rw [hcg x (by simp [Op.operands])]
            have hxo: ∀ nid,xop E nid (agetOp s) h o.op=xop E nid (getF F) h o.op:=fun nid=>xop_congr E hcg
            have hap:appIds (agetOp s) o.op=appIds (getF F) o.op:=by
              cases hoo:o.op<;>simp only [appIds]
              rename_i c
              rw [hoo]at hcg
              rw [map_congr_ops (xs:=c.args) (fun x hx=>hcg x (by simp only [Op.operands,Call.operands,Array.toList_append,List.mem_append];exact .inr hx))]
            have hrd:readOk ops n0 i (agetOp s) o.op=readOk ops n0 i (getF F) o.op:=by
              have:convSrc (agetOp s) o.op=convSrc (getF F) o.op:=by
                cases hoo:o.op<;>simp only [convSrc]
                rename_i a b x
                rw [hoo]at hcg
                rw [hcg x (by simp [Op.operands])]
              unfold readOk;rw [this]
            unfold runOp dop aopX
            simp only [h0,hlo,hso,hxo,hap,hrd]
          exact(runL_cons_true E ho (awantedF_eq hF hg) heq).trans hm2
      · rename_i hg
        obtain⟨F',h',hs',k2,hK2,hd2,hrun2⟩:=trun_spec hE hmix hS hen r (i+1) _ _ _ _ hr k
        refine⟨F',h',hs',k2,hK2,hd2,fun call hk s hn hF=> ?_⟩
        obtain⟨s',e1,e2,hm2⟩:=hrun2 call hk (aput s o.dst skipped) (by rw [length_aput];exact hn) (hF.set (hdst s.length hn) skipped)
        exact⟨s',e1,e2,(runL_cons_false E ho (awantedF_eq hF hg)).trans hm2⟩
      · exact k.elim
def trounds(step:Facts→AHeap→HT→TX→Prop)(K:TX):Nat→Facts→AHeap→HT→Prop
  | 0,_,_,_=>False
  | m+1,F,h,hs=>step F h hs fun e F1 h1 hs1=>match e with | .normal=>trounds step K m F1 h1 hs1 | e=>K e F1 h1 hs1
def tres(D:Tys)(rs:List ResultVar)(e:AExit)(F:Facts)(h h':AHeap)(K:AVal→Prop):Prop :=
  match e with
  | .normal=>match presults D F h' rs []with | some (l,cs)=>AllC cs (cond (Nat.ble h.next h'.next) (K (aresult l)) False) | none=>False
  | .ret=>match presults D F h' rs []with | some (l,cs)=>AllC cs (cond (Nat.ble h.next h'.next) (K (aresult l)) False) | none=>False
  | _=>False
variable(P E S)
def tenter (ex:Nat→Nat→Code→Facts→AHeap→HT→TX→Prop):TEnter:=fun f args h hs K =>
  match P.funcs[f]? with
  | some fn =>
    match fn.body with
    | some c=>ex h.next (args.length+(fn.ntmps-args.length)) c (factsFrom 0 args) h hs fun e F h' hs'=>tres E.D fn.results.toList e F h h' fun v=>K v h' hs'
    | none=>False
  | none=>False
def texec (R:Nat→Nat→Code→Facts→AHeap→AExit→Facts→AHeap→Prop):Nat→Nat→Nat→Option Code→Code→Facts→AHeap→HT→TX→Prop
  | 0,_,_,_,_,_,_,_,_=>False
  | k + 1,base,n,some body,c,F,h,hs,K =>
    texec R k base n none c F h hs fun e F1 h1 hs1 =>
      match e with
      | .goto l =>
        match findLabel body l with
        | some rest=>texec R k base n (some body) rest F1 h1 hs1 K
        | none=>K (.goto l) F1 h1 hs1
      | e=>K e F1 h1 hs1
  | k + 1,base,n,none,c,F,h,hs,K =>
    match c with
    | .skip=>K .normal F h hs
    | .label _=>K .normal F h hs
    | .region q ops draw =>
      cond (Nat.ble base h.next && (!draw || drawOk ops))
      (trun P E S (tenter P E fun b m c F h hs K=>texec R k b m none c F h hs K) q ops draw n h.next ops.toList 0 F {h with next:=h.next+ops.size} hs [] fun F1 h1 hs1 ks=>AllC (clashes ks) (K .normal F1 h1 hs1)) False
    | .seq a b =>
      texec R k base n none a F h hs fun e F1 h1 hs1 =>
        match e with
        | .normal=>texec R k base n none b F1 h1 hs1 K
        | e=>K e F1 h1 hs1
    | .cond x a b =>
      cond (knownF F x)
      (match getF F x with
      | .bool true=>texec R k base n none a F h hs K
      | .bool false=>texec R k base n none b F h hs K
      | _=>False) False
    | .block id c =>
      texec R k base n none c F h hs fun e F1 h1 hs1 =>
        match e with
        | .exit j=>K (cond (Nat.beq j id) .normal (.exit j)) F1 h1 hs1
        | e=>K e F1 h1 hs1
    | .loop c =>
      match hs with
      | .hint (.keep l) (.hint (.loop F1 h1 e) r)=>R base n (.loop c) (onlyF F l) h e F1 h1∧K e F1 h1 r
      | .hint (.loop F1 h1 e) r=>R base n (.loop c) F h e F1 h1∧K e F1 h1 r
      | .hint (.rounds m) r=>trounds (fun F h hs K=>texec R k base n none c F h hs K) K m F h r
      | .cases _ p y n'=>(p→texec R k base n none (.loop c) F h y K)∧(¬ p→texec R k base n none (.loop c) F h n' K)
      | .ex _ p f=>(∃ x,p x)∧ ∀ x,p x→texec R k base n none (.loop c) F h (f x) K
      | _=>False
    | .scope c=>texec R k base n (some c) c F h hs K
    | .goto l=>K (.goto l) F h hs
    | .exit id=>K (.exit id) F h hs
    | .ret=>K .ret F h hs
    | _=>False
variable {P E S}
theorem tres_does (hE:EnvOk P E) {f:FuncId} {fn:Func} {c:Code} (hf:P.funcs[f]? =some fn) (hb:fn.body=some c) {args:List AVal} {h h':AHeap} {e:AExit} {F':Facts} {K:AVal→Prop}
    (hr:Runs P E.cond h.next (args.length+(fn.ntmps-args.length)) c (factsFrom 0 args) h e F' h') (k:tres E.D fn.results.toList e F' h h' K): ∃ v,FDoes P E.cond f args h v h'∧K v:=by
  have fin:(e= .normal∨e= .ret)→(match presults E.D F' h' fn.results.toList []with | some (l,cs)=>AllC cs (cond (Nat.ble h.next h'.next) (K (aresult l)) False) | none=>False)→ ∃ v,FDoes P E.cond f args h v h'∧K v:=by
    intro he k
    split at k
    · rename_i l cs hp
      obtain⟨hc,k⟩:=AllC_spec k
      cases hle:Nat.ble h.next h'.next with
      | false=>rw [hle]at k;exact k.elim
      | true =>
        rw [hle,cond_true]at k
        exact⟨_,FDoes.of_runs hE hf hb he hr hp hc (Nat.le_of_ble_eq_true hle),k⟩
    · exact k.elim
  cases e with
  | normal=>exact fin (.inl rfl) k
  | ret=>exact fin (.inr rfl) k
  | exit j=>exact k.elim
  | goto l=>exact k.elim
theorem texec_spec (hE:EnvOk P E) (hmix:P.follows .mixedOrders=true) (hS:SpecsOk P E.cond S): ∀ (k:Nat) {base n:Nat} (body:Option Code) (c:Code) (F:Facts) (h:AHeap) (hs:HT) {K:TX},
    texec P E S (Runs P E.cond) k base n body c F h hs K→ ∃ e F' h' hs',Tri P E.cond base n (goalOf P body c) F h e F' h'∧K e F' h' hs':=by
  intro k
  induction k with
  | zero=>intro base n body c F h hs K hp;exact hp.elim
  | succ k ih =>
    intro base n body c F h hs K hp
    cases body with
    | some body =>
      simp only [texec]at hp
      obtain⟨e,F1,h1,hs1,t1,hp⟩:=ih none c F h hs hp
      have pass:(∀ l,e≠ .goto l)→Tri P E.cond base n (goalOf P (some body) c) F h e F1 h1:=by
        intro hne S w0 hS hC0 φ0 φ a w h0 hk r Q hQ
        refine scopeW_of_wp (t1 S w0 hS hC0 φ0 φ a w h0 hk r _ fun φ' a' w' hk' r'=> ?_)
        have:=hQ φ' a' w' hk' r'
        cases e with
        | goto l=>exact absurd rfl (hne l)
        | _=>exact this
      cases e with
      | goto l =>
        simp only at hp
        cases hl:findLabel body l with
        | none =>
          rw [hl]at hp
          refine⟨.goto l,F1,h1,hs1,?_,hp⟩
          intro S w0 hS hC0 φ0 φ a w h0 hk r Q hQ
          refine scopeW_of_wp (t1 S w0 hS hC0 φ0 φ a w h0 hk r _ fun φ' a' w' hk' r'=> ?_)
          show scopePost P body Q (.goto l) a' w'
          simp only [scopePost,hl]
          exact hQ φ' a' w' hk' r'
        | some rest =>
          rw [hl]at hp
          obtain⟨e2,F2,h2,hs2,t2,hp⟩:=ih (some body) rest F1 h1 hs1 hp
          refine⟨e2,F2,h2,hs2,?_,hp⟩
          intro S w0 hS hC0 φ0 φ a w h0 hk r Q hQ
          refine scopeW_of_wp (t1 S w0 hS hC0 φ0 φ a w h0 hk r _ fun φ' a' w' hk' r'=> ?_)
          show scopePost P body Q (.goto l) a' w'
          simp only [scopePost,hl]
          exact t2 S w0 hS hC0 φ0 φ' a' w' h0 hk' r' Q hQ
      | normal=>exact⟨_,F1,h1,hs1,pass (fun l=>by simp),hp⟩
      | exit j=>exact⟨_,F1,h1,hs1,pass (fun l=>by simp),hp⟩
      | ret=>exact⟨_,F1,h1,hs1,pass (fun l=>by simp),hp⟩
    | none =>
      have stop: ∀ {e0:AExit},(∀ (Q:Exit→Act→World→Prop) (a:Act) (w:World),Q (toExit e0) a w→c.wp P Q a w)→K e0 F h hs→ ∃ e F' h' hs',Tri P E.cond base n (goalOf P none c) F h e F' h'∧K e F' h' hs':=by
        intro e0 h0 hp
        refine⟨e0,F,h,hs,?_,hp⟩
        intro S w0 hS hC0 φ0 φ a w hd hk r Q hQ
        exact h0 Q a w (hQ φ a w hk r)
      cases c
      case skip=>exact stop (e0:= .normal) (fun _ _ _ hq=>wp_skip hq) hp
      case label l=>exact stop (e0:= .normal) (fun _ _ _ hq=>wp_label hq) hp
      case goto l=>exact stop (e0:= .goto l) (fun _ _ _ hq=>wp_goto hq) hp
      case exit id=>exact stop (e0:= .exit id) (fun _ _ _ hq=>wp_exit hq) hp
      case ret=>exact stop (e0:= .ret) (fun _ _ _ hq=>wp_ret hq) hp
      case region id ops draw =>
        simp only [texec]at hp
        cases hd:(Nat.ble base h.next && (!draw || drawOk ops))with
        | false=>rw [hd]at hp;exact hp.elim
        | true =>
          rw [hd,cond_true]at hp
          simp only [Bool.and_eq_true,Bool.or_eq_true]at hd
          obtain⟨hb,hd⟩:=hd
          have hb:base≤h.next:=Nat.le_of_ble_eq_true hb
          have hl: ∀ j:Nat,ops.toList[j]? =ops[0+j]? :=fun j=>by simp
          have hen:TEnterOk P E (tenter P E fun b m c F h hs K=>texec P E S (Runs P E.cond) k b m none c F h hs K):=by
            intro f args h hs K hq
            unfold tenter at hq
            split at hq
            · rename_i fn hf
              split at hq
              · rename_i c hb
                obtain⟨e,F',h',hs',t,hq⟩:=ih none c _ _ _ hq
                obtain⟨v,hd,hK⟩:=tres_does hE hf hb t hq
                exact⟨v,h',hs',hd,hK⟩
              · exact hq.elim
            · exact hq.elim
          obtain⟨F1,h1,hs1,k1,hK,hkd,hrun⟩:=trun_spec hE hmix hS hen ops.toList 0 F _ hs [] hl hp
          rw [List.nil_append]at hK
          obtain⟨hcl,hK⟩:=AllC_spec hK
          refine⟨.normal,F1,h1,hs1,?_,hK⟩
          intro S w0 hS hC0 φ0 φ a w h0 hk ⟨s,hn,hF,r⟩ Q hQ
          obtain⟨s',g1,g2,hm'⟩:=hrun (callK k1) (callK_holds hcl) s hn hF
          have hrg:List.range' 0 ops.toList.length=List.range ops.size:=by rw [List.range_eq_range',Array.length_toList]
          rw [hrg]at hm'
          have hreg:aregion E (callK k1) ops draw ⟨s,h⟩=some ⟨s',h1⟩:=by
            unfold aregion
            unfold runL at hm'
            cases draw with
            | false=>simpa using hm'
            | true =>
              have hd:drawOk ops=true:=by simpa using hd
              simp only [if_true,hd]
              simpa using hm'
          exact aregion_sound hE hS (callK_ok P E hkd hS hC0) hmix r hreg fun a' w' φ' q1 q2 q3=>hQ φ' a' w' (hk.trans (q1.mono hb)) ⟨s',g1,g2,q2⟩
      case seq x y =>
        simp only [texec]at hp
        obtain⟨e,F1,h1,hs1,t1,hp⟩:=ih none x F h hs hp
        have pass:e≠ .normal→Tri P E.cond base n (goalOf P none (.seq x y)) F h e F1 h1:=by
          intro hne S w0 hS hC0 φ0 φ a w h0 hk r Q hQ
          refine wp_seq (t1 S w0 hS hC0 φ0 φ a w h0 hk r _ fun φ' a' w' hk' r'=> ?_)
          have:=hQ φ' a' w' hk' r'
          cases e with
          | normal=>exact absurd rfl hne
          | _=>exact this
        cases e with
        | normal =>
          obtain⟨e2,F2,h2,hs2,t2,hp⟩:=ih none y F1 h1 hs1 hp
          refine⟨e2,F2,h2,hs2,?_,hp⟩
          intro S w0 hS hC0 φ0 φ a w h0 hk r Q hQ
          exact wp_seq (t1 S w0 hS hC0 φ0 φ a w h0 hk r _ fun φ' a' w' hk' r'=>t2 S w0 hS hC0 φ0 φ' a' w' h0 hk' r' Q hQ)
        | exit j=>exact⟨_,F1,h1,hs1,pass (by simp),hp⟩
        | goto l=>exact⟨_,F1,h1,hs1,pass (by simp),hp⟩
        | ret=>exact⟨_,F1,h1,hs1,pass (by simp),hp⟩
      case cond x y z =>
        simp only [texec]at hp
        cases hk:knownF F x with
        | false=>rw [hk]at hp;exact hp.elim
        | true =>
          rw [hk,cond_true]at hp
          have go: ∀ {q:Bool},getF F x= .bool q→texec P E S (Runs P E.cond) k base n none (cond q y z) F h hs K→ ∃ e F' h' hs',Tri P E.cond base n (goalOf P none (.cond x y z)) F h e F' h'∧K e F' h' hs':=by
            intro q hq hp
            obtain⟨e,F1,h1,hs1,t1,hp⟩:=ih none (cond q y z) F h hs hp
            refine⟨e,F1,h1,hs1,?_,hp⟩
            intro S w0 hS hC0 φ0 φ a w h0 hk' r Q hQ
            have hw:=t1 S w0 hS hC0 φ0 φ a w h0 hk' r Q hQ
            obtain⟨s,hn,hF,r⟩:=r
            have hx:=r.eval x
            simp only at hx
            rw [← hF.get hk,hq]at hx
            simp only [VRel]at hx
            cases q
            · exact wp_cond_false hx hw
            · exact wp_cond_true hx hw
          split at hp
          · rename_i hq;exact go (q:=true) hq hp
          · rename_i hq;exact go (q:=false) hq hp
          · exact hp.elim
      case block id c =>
        simp only [texec]at hp
        obtain⟨e,F1,h1,hs1,t1,hp⟩:=ih none c F h hs hp
        have pass:(∀ j,e≠ .exit j)→Tri P E.cond base n (goalOf P none (.block id c)) F h e F1 h1:=by
          intro hne S w0 hS hC0 φ0 φ a w h0 hk r Q hQ
          refine wp_block (t1 S w0 hS hC0 φ0 φ a w h0 hk r _ fun φ' a' w' hk' r'=> ?_)
          have:=hQ φ' a' w' hk' r'
          cases e with
          | exit j=>exact absurd rfl (hne j)
          | _=>exact this
        cases e with
        | exit j =>
          refine⟨_,F1,h1,hs1,?_,hp⟩
          intro S w0 hS hC0 φ0 φ a w h0 hk r Q hQ
          refine wp_block (t1 S w0 hS hC0 φ0 φ a w h0 hk r _ fun φ' a' w' hk' r'=> ?_)
          have:=hQ φ' a' w' hk' r'
          simp only [toExit,Exit.inBlock]
          rcases beq_cases j id with ⟨hj,ej⟩ | ⟨hj,ej⟩
          · rw [ej,cond_true]at this;rw [if_pos hj];exact this
          · rw [ej,cond_false]at this;rw [if_neg hj];exact this
        | normal=>exact⟨_,F1,h1,hs1,pass (fun j=>by simp),hp⟩
        | goto l=>exact⟨_,F1,h1,hs1,pass (fun j=>by simp),hp⟩
        | ret=>exact⟨_,F1,h1,hs1,pass (fun j=>by simp),hp⟩
      case loop c =>
        simp only [texec]at hp
        split at hp
        · rename_i l F1 h1 e1 r1
          have hx:Tri P E.cond base n (goalOf P none (.loop c)) (onlyF F l) h e1 F1 h1:=hp.1
          exact⟨_,_,_,_,hx.pre (Ent.facts fun t v hv=>lookF_only hv),hp.2⟩
        · exact⟨_,_,_,_,hp.1,hp.2⟩
        · rename_i m r
          have key: ∀ (m:Nat) (F:Facts) (h:AHeap) (hs:HT),trounds (fun F h hs K=>texec P E S (Runs P E.cond) k base n none c F h hs K) K m F h hs→ ∃ e F' h' hs',Loops P E.cond base n c F h e F' h'∧K e F' h' hs':=by
            intro m
            induction m with
            | zero=>intro F h hs hp;exact hp.elim
            | succ m im =>
              intro F h hs hp
              simp only [trounds]at hp
              obtain⟨e,F1,h1,hs1,t1,hp⟩:=ih none c F h hs hp
              cases e with
              | normal =>
                obtain⟨e2,F2,h2,hs2,t2,hp⟩:=im F1 h1 hs1 hp
                exact⟨e2,F2,h2,hs2,Loops.step t1 t2,hp⟩
              | exit j=>exact⟨_,F1,h1,hs1,Loops.last (by simp) t1,hp⟩
              | goto j=>exact⟨_,F1,h1,hs1,Loops.last (by simp) t1,hp⟩
              | ret=>exact⟨_,F1,h1,hs1,Loops.last (by simp) t1,hp⟩
          obtain⟨e,F',h',hs',t,hK⟩:=key m F h r hp
          exact⟨e,F',h',hs',Runs.of_loops t,hK⟩
        · rename_i p y n'
          by_cases hq:p
          · exact ih none (.loop c) F h y (hp.1 hq)
          · exact ih none (.loop c) F h n' (hp.2 hq)
        · rename_i α p f
          obtain⟨⟨x,hx⟩,hp⟩:=hp
          exact ih none (.loop c) F h (f x) (hp x hx)
        · exact hp.elim
      case scope c =>
        simp only [texec]at hp
        obtain⟨e,F1,h1,hs1,t1,hp⟩:=ih (some c) c F h hs hp
        refine⟨e,F1,h1,hs1,?_,hp⟩
        intro S w0 hS hC0 φ0 φ a w h0 hk r Q hQ
        exact wp_of_scopeW (t1 S w0 hS hC0 φ0 φ a w h0 hk r Q hQ)
      all_goals exact hp.elim
variable(P E S)
def tcall(f:FuncId)(args:List AVal)(h:AHeap)(hs:HT)(K:AVal→AHeap→Prop):Prop :=
  tenter P E (fun b m c F h hs K=>texec P E S (Runs P E.cond) 1000 b m none c F h hs K) f args h hs fun v h' _=>K v h'
def tpath(base n:Nat)(c:Code)(F:Facts)(h:AHeap)(hs:HT)(keep:List Nat)(K:AExit→Facts→AHeap→Prop):Prop :=
  texec P E S (Runs P E.cond) 1000 base n none c F h hs fun e F' h' _=>K e (onlyF F' keep) h'
variable {P E S}
theorem tcall_does(hE:EnvOk P E)(hmix:P.follows .mixedOrders=true)(hS:SpecsOk P E.cond S){f:FuncId}{args:List AVal}{h:AHeap}{hs:HT}{K:AVal→AHeap→Prop}{p:Prop}(e:tcall P E S f args h hs K=p)(k:p): ∃ v h',FDoes P E.cond f args h v h'∧K v h':=by
  rw [← e]at k
  unfold tcall tenter at k
  split at k
  · rename_i fn hf
    split at k
    · rename_i c hb
      obtain⟨e,F',h',hs',t,hq⟩:=texec_spec hE hmix hS 1000 none c _ _ _ k
      obtain⟨v,hd,hK⟩:=tres_does hE hf hb t hq
      exact⟨v,h',hd,hK⟩
    · exact k.elim
  · exact k.elim
theorem tpath_runs(hE:EnvOk P E)(hmix:P.follows .mixedOrders=true)(hS:SpecsOk P E.cond S){base n:Nat}{c:Code}{F:Facts}{h:AHeap}{hs:HT}{keep:List Nat}{K:AExit→Facts→AHeap→Prop}{p:Prop}(e:tpath P E S base n c F h hs keep K=p)(k:p) :
    ∃ e F' h',Runs P E.cond base n c F h e F' h'∧K e F' h':=by
  rw [← e]at k
  obtain⟨e,F',h',hs',t,hq⟩:=texec_spec hE hmix hS 1000 none c _ _ _ k
  exact⟨e,_,h',t.post (Ent.facts (Facts.only_le _ _)),hq⟩
end
end
end Go.Lift
namespace Go.Lift
abbrev hg(n:Nat)(r:HT):HT:= .hint (.go n) r
abbrev he(n:Nat)(r:HT):HT:= .hint (.enter n) r
abbrev fI(a b x:Int):Prop:=a≤x∧x≤b
end Go.Lift
namespace Go.Lift
noncomputable section
open Go.RowKit
mutual
theorem AVal.ren_on {D:Nat→Prop}{r:Nat→Nat}(h: ∀ i,D i→r i=i): ∀ {v:AVal},Clo D v→v.ren r=v
  | .ptr (some a),k=>by simp only [Clo]at k;simp only [AVal.ren,AAddr.ren,h _ k]
  | .slice (some a) _ _,k=>by simp only [Clo]at k;simp only [AVal.ren,AAddr.ren,h _ k]
  | .func fn f c,k=>by simp only [Clo]at k;simp only [AVal.ren,AVal.rens_on h k.1,AVal.rens_on h k.2]
  | .iface t v,k=>by simp only [Clo]at k;simp only [AVal.ren,AVal.ren_on h k]
  | .agg cs,k=>by simp only [Clo]at k;simp only [AVal.ren,AVal.rens_on h k]
  | .tuple vs,k=>by simp only [Clo]at k;simp only [AVal.ren,AVal.rens_on h k]
  | .undef,_=>rfl
  | .bool _,_=>rfl
  | .int _ _,_=>rfl
  | .str _,_=>rfl
  | .ptr none,_=>rfl
  | .slice none _ _,_=>rfl
  | .nilFunc,_=>rfl
  | .nilIface,_=>rfl
theorem AVal.rens_on {D:Nat→Prop}{r:Nat→Nat}(h: ∀ i,D i→r i=i): ∀ {l:List AVal},Clos D l→AVal.rens r l=l
  | [],_=>rfl
  | a::l,k=>by simp only [Clos]at k;simp only [AVal.rens,AVal.ren_on h k.1,AVal.rens_on h k.2]
end
def CloB(D:Nat→Prop)(b:ABlk):Prop:= ∀ e∈b.elems,Clo D e
theorem ABlk.ren_on {D:Nat→Prop}{r:Nat→Nat}(h: ∀ i,D i→r i=i){b:ABlk}(k:CloB D b):b.ren r=b:=by
  unfold ABlk.ren
  have:b.elems.map (AVal.ren r)=b.elems:=by
    conv=>rhs;rw [← List.map_id b.elems]
    exact List.map_congr_left fun e he=>AVal.ren_on h (k e he)
  rw [this]
theorem FDoes.closed {P:Program} {C:(Nat→Prop)→World→Prop} [CondOk C] {f:FuncId} {args:List AVal} {h':AHeap} {v:AVal} {l l':List ABlk} (k:FDoes P C f args (AHeap.of l) v h') (hlen:l'.length=l.length) (hget:(List.range l'.length).map h'.get=l'.map some) (hv:Bare v)
    (hc: ∀ b∈l',CloB (fun i=>i<l'.length) b):FDoes P C f args (AHeap.of l) v (AHeap.of l'):=by
  have hfst:(idxd 0 l').map (·.1)=List.range l'.length:=by rw [idxd_fst,List.range_eq_range']
  rw [AHeap.of_rows l']
  refine k.clean (fun i=>i) v l'.length (idxd 0 l') ?_ (hv.1 _).symm ?_ ?_ ?_ ?_ (Nat.ble_eq.mpr ?_) (hv.clo _) ?_
  · have h1:(idxd 0 l').map (fun p=>h'.get p.1)=((idxd 0 l').map (·.1)).map h'.get:=by rw [List.map_map];rfl
    have h2:(idxd 0 l').map (fun p=>some (p.2.ren fun i=>i))=((idxd 0 l').map (·.2)).map some:=by
      rw [List.map_map];exact List.map_congr_left fun p _=>by rw [ABlk.ren_id];rfl
    rw [h1,h2,hfst,idxd_snd,hget]
  · rw [List.all_eq_true]
    intro p hp
    have:p.1∈(idxd 0 l').map (·.1):=List.mem_map.2 ⟨p,hp,rfl⟩
    rw [hfst]at this
    exact Nat.blt_eq.mpr (List.mem_range.1 this)
  · rw [hfst];rw [List.map_id'];exact List.nodup_range
  · rw [List.all_eq_true,AHeap.of_next]
    intro i hi
    have hi:=List.mem_range.1 hi
    rw [hfst,Bool.and_eq_true]
    exact⟨by simp;omega,beq_true rfl⟩
  · rw [List.all_eq_true,AHeap.of_next]
    intro p hp
    have:p.1∈(idxd 0 l').map (·.1):=List.mem_map.2 ⟨p,hp,rfl⟩
    rw [hfst]at this
    have hlt:=List.mem_range.1 this
    rw [Bool.or_eq_true]
    exact .inl (Nat.blt_eq.mpr (by omega))
  · rw [AHeap.of_next];omega
  · rw [hfst]
    have: ∀ (q:List (Nat×ABlk)),(∀ p∈q,CloB (fun i=>i<l'.length) p.2)→All (q.map fun p=> ∀ e∈p.2.elems,Clo (Ids (List.range l'.length)) e):=by
      intro q
      induction q with
      | nil=>intro _;exact All.nil
      | cons p r ih =>
        intro hq
        exact All.cons (fun e he=>Clo.mono (fun i hi=>List.mem_range.2 hi) (hq p (by simp) e he)) (ih fun p hp=>hq p (by simp [hp]))
    refine this _ fun p hp=>hc p.2 ?_
    have:p.2∈(idxd 0 l').map (·.2):=List.mem_map.2 ⟨p,hp,rfl⟩
    rwa [idxd_snd]at this
end
end Go.Lift
namespace Go.Lift
noncomputable section
open Go.RowKit
def find0:List (Nat×ABlk)→Option ABlk
  | []=>none
  | (k,b)::r=>_root_.cond (Nat.beq k 0) (some b) (find0 r)
def partL(o:Nat):List (Nat×ABlk)→List (Nat×ABlk)
  | []=> []
  | (k,b)::r=>_root_.cond (Nat.beq k 0) (partL o r) (_root_.cond (Nat.beq (Nat.mod k 2) o) (((k- (2-o)) / 2,b)::partL o r) (partL o r))
def ofLT:Nat→List (Nat×ABlk)→Trie ABlk
  | _,[]=> .nil
  | 0,_=> .nil
  | d+1,l=> .node (find0 l) (ofLT d (partL 1 l)) (ofLT d (partL 0 l))
def AHeap.rowsT(n:Nat)(l:List (Nat×ABlk)):AHeap:=⟨n,ofLT 20 l⟩
def AHeap.lay(H:AHeap)(n:Nat)(l:List (Nat×ABlk)):AHeap:=l.foldl (fun h p=>h.set p.1 p.2) {H with next:=n}
theorem foldl_set_mem (l:List (Nat×ABlk)): ∀ (h:AHeap),(l.map (·.1)).Nodup→ ∀ p∈l,(l.foldl (fun h p=>h.set p.1 p.2) h).get p.1=some p.2:=by
  induction l with
  | nil=>intro h _ p hp;cases hp
  | cons a r ih =>
    intro h hn p hp
    simp only [List.map_cons,List.nodup_cons]at hn
    rw [List.foldl_cons]
    rcases List.mem_cons.1 hp with rfl | hp
    · have: ∀ (r:List (Nat×ABlk)) (h:AHeap),p.1 ∉ r.map (·.1)→(r.foldl (fun h p=>h.set p.1 p.2) h).get p.1=h.get p.1:=by
        intro r
        induction r with
        | nil=>intro h _;rfl
        | cons b s ih2 =>
          intro h hm
          simp only [List.map_cons,List.mem_cons,not_or]at hm
          rw [List.foldl_cons,ih2 _ hm.2,AHeap.get_set_ne _ _ (Ne.symm hm.1)]
      rw [this r _ hn.1,AHeap.get_set_self]
    · exact ih _ hn.2 p hp
theorem foldl_set_out(l:List (Nat×ABlk)): ∀ (h:AHeap) (i:Nat),i ∉ l.map (·.1)→(l.foldl (fun h p=>h.set p.1 p.2) h).get i=h.get i:=by
  induction l with
  | nil=>intro h i _;rfl
  | cons p r ih =>
    intro h i hi
    simp only [List.map_cons,List.mem_cons,not_or]at hi
    rw [List.foldl_cons,ih _ i hi.2,AHeap.get_set_ne _ _ (Ne.symm hi.1)]
theorem foldl_set_next(l:List (Nat×ABlk)): ∀ (h:AHeap),(l.foldl (fun h p=>h.set p.1 p.2) h).next=h.next:=by
  induction l with
  | nil=>intro h;rfl
  | cons p r ih=>intro h;rw [List.foldl_cons,ih];rfl
theorem toBig_lt {ids:List Nat}{n i:Nat}(h:i<ids.length):toBig ids n i=ids[i]:=by simp [toBig,List.getElem?_eq_getElem h]
theorem toBig_ge {ids:List Nat}{n i:Nat}(h:ids.length≤i):toBig ids n i=n+(i-ids.length):=by simp [toBig,List.getElem?_eq_none h]
theorem toBig_inj {ids:List Nat}{n:Nat}(hn:ids.Nodup)(hlt: ∀ j∈ids,j<n){i j:Nat}(e:toBig ids n i=toBig ids n j):i=j:=by
  by_cases c1:i<ids.length<;>by_cases c2:j<ids.length
  · rw [toBig_lt c1,toBig_lt c2]at e
    exact(List.getElem_inj hn).1 e
  · rw [toBig_lt c1,toBig_ge (by omega)]at e
    have:=hlt _ (List.getElem_mem c1);omega
  · rw [toBig_lt c2,toBig_ge (by omega)]at e
    have:=hlt _ (List.getElem_mem c2);omega
  · rw [toBig_ge (by omega),toBig_ge (by omega)]at e;omega
def Trie.toL:Trie ABlk→List (Nat×ABlk)
  | .nil=> []
  | .node v l r=>(match v with | some b=> [(0,b)] | none=> [])++((Trie.toL l).map fun p=>(2*p.1+1,p.2))++((Trie.toL r).map fun p=>(2*p.1+2,p.2))
theorem Trie.get_node(v:Option ABlk)(l r:Trie ABlk)(k:Nat):(Trie.node v l r).get k=_root_.cond (Nat.beq k 0) v (_root_.cond (Nat.beq (k % 2) 1) (l.get (k / 2)) (r.get (k / 2-1))):=rfl
theorem Trie.toL_mem: ∀ (t:Trie ABlk) (k:Nat) (b:ABlk),t.get k=some b→(k,b)∈Trie.toL t
  | .nil,k,b,h=>by cases h
  | .node v l r,k,b,h=>by
    rw [Trie.get_node]at h
    unfold Trie.toL
    rcases beq_cases k 0 with ⟨e,e'⟩ | ⟨e,e'⟩
    · rw [e',cond_true]at h;subst h;subst e;simp
    · rw [e',cond_false]at h
      rcases beq_cases (k % 2) 1 with ⟨f,f'⟩ | ⟨f,f'⟩
      · rw [f',cond_true]at h
        have:=Trie.toL_mem l _ _ h
        refine List.mem_append_left _ (List.mem_append_right _ (List.mem_map.2 ⟨_,this,?_⟩))
        simp only [Prod.mk.injEq,and_true];omega
      · rw [f',cond_false]at h
        have:=Trie.toL_mem r _ _ h
        refine List.mem_append_right _ (List.mem_map.2 ⟨_,this,?_⟩)
        simp only [Prod.mk.injEq,and_true];omega
theorem Trie.toL_nodup: ∀ (t:Trie ABlk),((Trie.toL t).map (·.1)).Nodup
  | .nil=>List.nodup_nil
  | .node v l r=>by
    unfold Trie.toL
    have h1:=Trie.toL_nodup l
    have h2:=Trie.toL_nodup r
    have m1:(((Trie.toL l).map fun p=>(2*p.1+1,p.2)).map (·.1))=((Trie.toL l).map (·.1)).map fun k=>2*k+1:=by simp [List.map_map,Function.comp_def]
    have m2:(((Trie.toL r).map fun p=>(2*p.1+2,p.2)).map (·.1))=((Trie.toL r).map (·.1)).map fun k=>2*k+2:=by simp [List.map_map,Function.comp_def]
    rw [List.map_append,List.map_append,m1,m2]
    have inj: ∀ (l:List Nat) (c:Nat),l.Nodup→(l.map fun k=>2*k+c).Nodup:=by
      intro l c hl
      rw [List.nodup_iff_pairwise_ne,List.pairwise_map]
      exact List.Pairwise.imp (fun hab e=>hab (by omega)) (List.nodup_iff_pairwise_ne.1 hl)
    rw [List.nodup_append,List.nodup_append]
    refine⟨⟨by cases v<;>simp,inj _ _ h1,?_⟩,inj _ _ h2,?_⟩
    · intro a ha b hb e
      obtain⟨k,_,rfl⟩:=List.mem_map.1 hb
      cases v with
      | none=>simp at ha
      | some x=>simp at ha;omega
    · intro a ha b hb e
      obtain⟨k,_,rfl⟩:=List.mem_map.1 hb
      rcases List.mem_append.1 ha with ha | ha
      · cases v with
        | none=>simp at ha
        | some x=>simp at ha;omega
      · obtain⟨j,_,rfl⟩:=List.mem_map.1 ha
        omega
theorem FDoes.place {P:Program}{C:(Nat→Prop)→World→Prop}[CondOk C]{f:FuncId}{args:List AVal}{v:AVal}{l:List ABlk}{h':AHeap}(k:FDoes P C f args (AHeap.of l) v h')(hn':l.length≤h'.next)
    (hb: ∀ b∈l,CloB (fun i=>i<l.length) b) (ha:Clos (fun i=>i<l.length) args) {H:AHeap} (ids:List Nat) (hn:ids.Nodup) (hlt: ∀ j∈ids,j<H.next) (hlen:ids.length=l.length)
    (hl: ∀ i b,l[i]? =some b→H.get (toBig ids H.next i)=some (b.ren (toBig ids H.next))) :
    ∃ H',FDoes P C f (args.map (AVal.ren (toBig ids H.next))) H (v.ren (toBig ids H.next)) H'∧H'.next=H.next+(h'.next-l.length)∧(∀ i b,h'.get i=some b→H'.get (toBig ids H.next i)=some (b.ren (toBig ids H.next)))∧ ∀ j,j<H.next→j ∉ ids→H'.get j=H.get j:=by
  let l':=Trie.toL h'.blks
  have hnd:(l'.map (·.1)).Nodup:=Trie.toL_nodup _
  let n':=h'.next
  let r:=toBig ids H.next
  have hinj: ∀ i j,r i=r j→i=j:=fun i j e=>toBig_inj hn hlt e
  let m:List (Nat×ABlk):=l'.map fun p=>(r p.1,p.2.ren r)
  have hmfst:m.map (·.1)=(l'.map (·.1)).map r:=by simp [m,List.map_map,Function.comp_def]
  have hmnd:(m.map (·.1)).Nodup:=by
    rw [hmfst,List.nodup_iff_pairwise_ne,List.pairwise_map]
    exact List.Pairwise.imp (fun hab e=>hab (hinj _ _ e)) (List.nodup_iff_pairwise_ne.1 hnd)
  have hget: ∀ p∈l',(H.lay (H.next+(n'-l.length)) m).get (r p.1)=some (p.2.ren r):=by
    intro p hp
    exact foldl_set_mem m _ hmnd (r p.1,p.2.ren r) (List.mem_map.2 ⟨p,hp,rfl⟩)
  have hout': ∀ j,j<H.next→(∀ i,i<l.length→r i≠j)→j ∉ m.map (·.1):=by
    intro j hj hne hm
    rw [hmfst]at hm
    obtain⟨i,_,e⟩:=List.mem_map.1 hm
    by_cases c:i<l.length
    · exact hne i c e
    · have:r i=H.next+(i-ids.length):=toBig_ge (by omega)
      omega
  refine⟨H.lay (H.next+(n'-l.length)) m,k.frame (r:=r) ⟨?_,?_,?_⟩ ?_ ?_ ?_ ?_ ?_,?_,fun i b hg=>hget (i,b) (Trie.toL_mem _ _ _ hg),?_⟩
  · intro i b hg
    rw [AHeap.of_get]at hg
    exact⟨by rw [AHeap.of_next];exact(List.getElem?_eq_some_iff.1 hg).1,hl i b hg⟩
  · intro i j _ _ e;exact hinj i j e
  · intro i b hg e he
    rw [AHeap.of_get]at hg
    exact Clo.mono (fun i hi=>AHeap.of_in.2 hi) (hb b (List.mem_of_getElem? hg) e he)
  · exact Clos.mono (fun i hi=>AHeap.of_in.2 hi) ha
  · intro i hi
    rw [AHeap.of_next]at hi
    rw [AHeap.of_next,← hlen];exact toBig_ge (by omega)
  · intro i b hg _
    exact hget (i,b) (Trie.toL_mem _ _ _ hg)
  · rw [AHeap.of_next]
    unfold AHeap.lay
    rw [foldl_set_next]
  · intro j hj hne
    unfold AHeap.lay
    rw [foldl_set_out _ _ _ (hout' j hj fun i hi=>hne i (AHeap.of_in.2 hi))];rfl
  · unfold AHeap.lay
    rw [foldl_set_next]
  · intro j hj hm
    unfold AHeap.lay
    rw [foldl_set_out _ _ _ (hout' j hj fun i hi e=>hm (by rw [← e];show toBig ids H.next i∈ids;rw [toBig_lt (by omega)];exact List.getElem_mem _))];rfl
theorem FDoes.less {P:Program}{C:(Nat→Prop)→World→Prop}{f:FuncId}{args:List AVal}{h h2 h':AHeap}{v:AVal}(k:FDoes P C f args h2 v h')(hn:h.next≤h2.next)(hg: ∀ i,i<h.next→h2.get i=h.get i):FDoes P C f args h v h' :=
  fun S w0 hS hC0 φ w args' hH hB hA=>by
    obtain⟨g1,g2⟩:=k S w0 hS hC0 φ w args' (hH.more hn hg) hB hA
    exact⟨g1,g2.mono fun e w' ⟨v',φ',a1,a2,a3,a4,a5,a6⟩=>⟨v',φ',a1,a2.mono hn,a3,a4,a5,Nat.le_trans hn a6⟩⟩
theorem FDoes.ofVC {P:Program}{C:(Nat→Prop)→World→Prop}[CondOk C]{f:FuncId}{args:List AVal}{v:AVal}(k: ∃ v1 h1,FDoes P C f args ⟨0,.nil⟩ v1 h1∧v1=v)(ha:AVal.baresB args=true)(hv:v.bareB=true)(H:AHeap):FDoes P C f args H v H:=by
  obtain⟨v1,h1,hd,rfl⟩:=k
  have hargs: ∀ {l:List AVal},AVal.baresB l=true→ ∀ a∈l,Bare a:=by
    intro l
    induction l with
    | nil=>intro _ a ha;cases ha
    | cons x r ih =>
      intro hl a ha
      simp only [AVal.baresB,Bool.and_eq_true]at hl
      rcases List.mem_cons.1 ha with rfl | hm
      · exact Bare.of hl.1
      · exact ih hl.2 a hm
  exact hd.bare (hargs ha) (Bare.of hv) H
def pureS(g:List AVal→Option (AVal×List Prop)):List AVal→AHeap→Option Alts:=fun args h=>match g args with | some (v,ps)=>some (.one v h ps) | none=>none
theorem pureS_ok {P:Program}{C:(Nat→Prop)→World→Prop}{f:FuncId}{g:List AVal→Option (AVal×List Prop)}(k: ∀ args v ps,g args=some (v,ps)→All ps→ ∀ H,FDoes P C f args H v H): ∀ args h a,pureS g args h=some a→a.Ok P C f args h:=by
  intro args h a e
  unfold pureS at e
  split at e
  · rename_i u qs hu
    simp only [Option.some.injEq]at e
    subst e
    exact fun hp=>k _ _ _ hu hp h
  · cases e
end
end Go.Lift
namespace Go.Keys
abbrev Bytes:=List UInt8
def lead(b:Nat):Nat×Nat×Nat :=
  if b<128 then(1,0,0)
  else if 194≤b∧b≤223 then(2,128,191)
  else if b=224 then(3,160,191)
  else if b=237 then(3,128,159)
  else if 225≤b∧b≤239 then(3,128,191)
  else if b=240 then(4,144,191)
  else if 241≤b∧b≤243 then(4,128,191)
  else if b=244 then(4,128,143)
  else(0,0,0)
def tail:Nat→Nat→Nat→Nat→Nat→Bytes→Nat×Nat×Bool
  | 0,i,_,_,v,_=>(v,i,false)
  | _+1,i,_,_,_,[]=>(65533,i,true)
  | k+1,i,lo,hi,v,c::r=>if c.toNat<lo∨hi<c.toNat then(65533,i,false)else tail k (i+1) 128 191 (v*64+c.toNat % 64) r
def first:Bytes→Nat×Nat×Bool
  | []=>(0,0,false)
  | b::r =>
    if(lead b.toNat).1=0 then(65533,1,false)
    else if(lead b.toNat).1=1 then(b.toNat,1,false)
    else tail ((lead b.toNat).1-1) 1 (lead b.toNat).2.1 (lead b.toNat).2.2 (b.toNat % 2^(7- (lead b.toNat).1)) r
structure Ev where
  kind:Int
  code:Int:=0
  mods:Int:=0
  x:Int:=0
  y:Int:=0
  text:Bytes:= []
  deriving DecidableEq
theorem lead_le(b:Nat):(lead b).1≤4:=by
  unfold lead
  repeat' split
  all_goals simp
end Go.Keys
namespace Go.Keys
def runesN:Nat→Bytes→List Nat
  | 0,_=> []
  | _+1,[]=> []
  | k+1,s=>(first s).1::runesN k (s.drop (first s).2.1)
def runes(s:Bytes):List Nat:=runesN s.length s
def u8(n:Nat):UInt8:=UInt8.ofNat n
def put(r:Nat):Bytes :=
  let r:=if 55296≤r∧r≤57343∨1114111<r then 65533 else r
  if r<128 then [u8 r]
  else if r<2048 then [u8 (192+r / 64),u8 (128+r % 64)]
  else if r<65536 then [u8 (224+r / 4096),u8 (128+r / 64 % 64),u8 (128+r % 64)]
  else [u8 (240+r / 262144),u8 (128+r / 4096 % 64),u8 (128+r / 64 % 64),u8 (128+r % 64)]
def textOf(l:List Nat):Bytes:=l.flatMap put
def valid(s:Bytes):Bool:=textOf (runes s) == s
def feedN:Nat→Bytes→List Nat×Bytes
  | 0,_=>([],[])
  | _+1,[]=>([],[])
  | k+1,b::r =>
    if(first (b::r)).2.2 then([],b::r)
    else((first (b::r)).1::(feedN k ((b::r).drop (first (b::r)).2.1)).1,(feedN k ((b::r).drop (first (b::r)).2.1)).2)
def feed1(hold:Bytes)(c:UInt8):List Nat×Bytes:=feedN (hold.length+1) (hold++ [c])
inductive Nx where
  | ground | escape | char | sequence | single | pasted
  deriving DecidableEq
structure DS where
  nx:Nx:= .ground
  kept:Bytes:= []
  hold:Bytes:= []
  paste:Bytes:= []
  deriving DecidableEq
def EvKey(c:Int)(m:Int:=0):Ev:= {kind:=2,code:=c,mods:=m}
def EvRune(c:Int)(m:Int:=0):Ev:= {kind:=1,code:=c,mods:=m}
def EvBad(s:Bytes):Ev:= {kind:=7,text:=s}
def control(c:Nat):Ev :=
  if c=13 then EvKey 1 else if c=9 then EvKey 2 else if c=127 then EvKey 3 else if c=0 then EvRune 32 4
  else if c<27 then EvRune (c+96) 4 else EvRune (c+64) 4
def tell(s:DS)(e:Ev):DS×List Ev:=({s with kept:= [],nx:= .ground},[e])
def at'(kept:Bytes):Nat:=match kept with | b::_=>if b=27 then 1 else 0 | []=>0
def char0 (s:DS) (c:UInt8) (no:DS→DS×List Ev):DS×List Ev :=
  let l:=(feed1 s.hold c).1
  let s1:= {s with hold:=(feed1 s.hold c).2,nx:= .char}
  if s1.hold≠ []∧l= []then({s1 with kept:=s.kept++ [c]},[])
  else if l.length=1∧s.kept.length=at' s.kept∨valid (s.kept.drop (at' s.kept)++ [c])=true then
    if valid ((s.kept++ [c]).drop (at' s.kept))=true then tell s1 (EvRune (l.headD 0) (2*at' s.kept))
    else tell s1 (EvBad (s.kept++ [c]))
  else no {s1 with hold:= []}
def plain0(s:DS)(c:UInt8)(no:DS→DS×List Ev):DS×List Ev :=
  if c.toNat<32∨c.toNat=127 then tell s (if s.kept= []then control c.toNat else {control c.toNat with mods:=(control c.toNat).mods+2})
  else char0 s c no
def ground(s:DS)(c:UInt8):DS×List Ev :=
  if c=27 then({s with kept:= [27],nx:= .escape},[])
  else plain0 s c fun s1=>tell s1 (EvBad s1.kept)
def bad(s:DS)(c:UInt8):DS×List Ev :=
  ((ground (tell s (EvBad s.kept)).1 c).1,EvBad s.kept::(ground (tell s (EvBad s.kept)).1 c).2)
def char(s:DS)(c:UInt8):DS×List Ev:=char0 s c fun s1=>bad s1 c
def plain(s:DS)(c:UInt8):DS×List Ev:=plain0 s c fun s1=>bad s1 c
def escape(s:DS)(c:UInt8):DS×List Ev :=
  if c=27 then((ground (tell s (EvKey 4)).1 c).1,EvKey 4::(ground (tell s (EvKey 4)).1 c).2)
  else if c=91 then({s with kept:=s.kept++ [c],nx:= .sequence},[])
  else if c=79 then({s with kept:=s.kept++ [c],nx:= .single},[])
  else plain s c
def arrow(c:Nat):Int :=
  if 65≤c∧c≤68 then 5+(c-65)else if c=72 then 9 else if c=70 then 10 else 0
def single(s:DS)(c:UInt8):DS×List Ev :=
  if 0<arrow c.toNat then tell s (EvKey (arrow c.toNat))
  else if 80≤c.toNat∧c.toNat≤83 then tell s (EvKey (21+(c.toNat-80)))
  else if c.toNat=77 then tell s (EvKey 1)
  else((ground (tell s (EvRune 79 2)).1 c).1,EvRune 79 2::(ground (tell s (EvRune 79 2)).1 c).2)
def splitAt(sep:UInt8):Bytes→List Bytes
  | []=> [[]]
  | b::r=>if b=sep then []::splitAt sep r else match splitAt sep r with | w::t=>(b::w)::t | []=> [[b]]
def digit(b:UInt8):Bool:=decide (48≤b.toNat) && decide (b.toNat≤57)
def number(w:Bytes):Nat:=w.foldl (fun n b=>10*n+(b.toNat-48)) 0
def numbersOf:List Bytes→Option (List Nat)
  | []=>some []
  | w::r=>if w= []∨9<w.length∨w.all digit=false then none else(numbersOf r).map (number w:: ·)
def numbers(words:Bytes):Option (List Nat):=if words= []then some []else numbersOf (splitAt 59 words)
def tilde(n:Nat):Int :=
  if n=1∨n=7 then 9 else if n=4∨n=8 then 10 else if n=2∨n=3 then 11+((n:Int)-2)else if n=5∨n=6 then 13+((n:Int)-5)
  else if 11≤n∧n≤15 then 21+((n:Int)-11)else if 17≤n∧n≤21 then 21+((n:Int)-12)else if n=23∨n=24 then 21+((n:Int)-13)else 0
def shown(r:Int):Bool:=decide (32≤r) && decide (r≠127) && decide (r≤1114111) && (decide (r<55296) || decide (57343<r))
def coded(c:Nat)(m:Int):Option Ev :=
  if c=13 then some (EvKey 1 m)else if c=9 then some (EvKey 2 m)else if c=127 then some (EvKey 3 m)else if c=27 then some (EvKey 4 m)
  else if 2097152<c∨shown c=false then none else some (EvRune c m)
def mouse (words:Bytes) (c:Nat):Option Ev :=
  match words with
  | 60 ::rest =>
    match numbers rest with
    | some [n0,n1,n2] =>
      let held:=n0 / 4 % 8
      let b:=n0-4*held
      if n1<1∨4096<n1∨n2<1∨4096<n2 then none
      else
        let e:Ev:= {kind:=3,mods:=held,x:=(n1:Int)-1,y:=(n2:Int)-1}
        if c=109∧b≤3 then some {e with code:=3}
        else if c=77∧b≤2 then some {e with code:=b}
        else if c=77∧32≤b∧b≤35 then some {e with code:=6}
        else if c=77∧b=64 then some {e with code:=4}
        else if c=77∧b=65 then some {e with code:=5}
        else none
    | _=>none
  | _=>none
def told (words:Bytes) (c:UInt8):Option Ev :=
  if c=82∨c=99∨c=110 then some {kind:=6,text:=words++ [c]}
  else if c=77∨c=109 then mouse words c.toNat
  else
    match numbers words with
    | none=>none
    | some [] =>
      if c=90 then some (EvKey 2 1)else if c=73 then some {kind:=5,code:=1} else if c=79 then some {kind:=5}
      else if 0<arrow c.toNat then some (EvKey (arrow c.toNat))else none
    | some (n0::r) =>
      let m:=match r with | [x]=>x | _=>1
      if 1<r.length∨m<1∨8<m then none
      else if 0<arrow c.toNat∧n0=1∧r.length=1 then some (EvKey (arrow c.toNat) ((m:Int)-1))
      else if c=126∧0<tilde n0 then some (EvKey (tilde n0) ((m:Int)-1))
      else if c=117 then coded n0 ((m:Int)-1)
      else none
def isPaste(words:Bytes):Bool:=words == [50,48,48] || (words.dropWhile (· == 48) == [50,48,48] && decide (words.length≤9))
def done(s:DS)(words:Bytes)(c:UInt8):DS×List Ev :=
  if c=126∧isPaste words=true then({s with kept:= [],nx:= .pasted},[])
  else tell s ((told words c).getD (EvBad s.kept))
def sequence(s:DS)(c:UInt8):DS×List Ev :=
  if 64≤c.toNat∧c.toNat≤126 then done {s with kept:=s.kept++ [c]} (s.kept.drop 2) c
  else if c.toNat<32∨63<c.toNat∨48≤c.toNat∧(s.kept.getLastD 0).toNat<48 then bad s c
  else if s.kept.length+1=64 then tell {s with kept:=s.kept++ [c]} (EvBad (s.kept++ [c]))
  else({s with kept:=s.kept++ [c]},[])
def pasteEnd:Bytes:= [27,91,50,48,49,126]
def shift:Nat→Bytes→Bytes→Bytes×Bytes
  | 0,kept,paste=>(kept,paste)
  | _+1,[],paste=>([],paste)
  | k+1,b::r,paste=>if(b::r).isPrefixOf pasteEnd then(b::r,paste)else shift k r (if paste.length<65536 then paste++ [b]else paste)
def pasted(s:DS)(c:UInt8):DS×List Ev :=
  let p:=shift (s.kept.length+1) (s.kept++ [c]) s.paste
  if p.1.length=6 then tell {s with kept:=p.1,paste:= []} {kind:=4,text:=p.2}
  else({s with kept:=p.1,paste:=p.2},[])
def step(s:DS)(c:UInt8):DS×List Ev :=
  match s.nx with
  | .ground=>ground s c
  | .escape=>escape s c
  | .char=>char s c
  | .sequence=>sequence s c
  | .single=>single s c
  | .pasted=>pasted s c
def feedAll:DS→Bytes→DS×List Ev
  | s,[]=>(s,[])
  | s,c::r=>((feedAll (step s c).1 r).1,(step s c).2++(feedAll (step s c).1 r).2)
theorem feedAll_append(s:DS)(a b:Bytes):feedAll s (a++b)=((feedAll (feedAll s a).1 b).1,(feedAll s a).2++(feedAll (feedAll s a).1 b).2):=by
  induction a generalizing s with
  | nil=>simp [feedAll]
  | cons c r ih=>simp only [List.cons_append,feedAll,ih,List.append_assoc]
def held(s:DS):Nat:=s.paste.length+s.kept.length
def flush(s:DS):DS×List Ev :=
  if s.nx= .pasted∨s.kept= []then(s,[])
  else if s.kept= [27]then tell {s with hold:= []} (EvKey 4)
  else if s.kept= [27,91]∨s.kept= [27,79]then tell {s with hold:= []} (EvRune ((s.kept.getD 1 0).toNat) 2)
  else tell {s with hold:= []} (EvBad s.kept)
end Go.Keys
namespace Go.Proofs.YtddnafghiejcoaaGreatDoor
open Go.Lift Go.Keys
set_option maxRecDepth 1000000
theorem lead_vc(b:Int)(K0:AVal→AHeap→Prop)(vc:(b<128→K0 (AVal.tuple [AVal.int IntKind.i64 (1),AVal.int IntKind.u8 (0),AVal.int IntKind.u8 (0)]) (AHeap.rowsT 9 []))∧(¬b<128→(194≤b→(b≤223→K0 (AVal.tuple [AVal.int IntKind.i64 (2),AVal.int IntKind.u8 (128),AVal.int IntKind.u8 (191)]) (AHeap.rowsT 16 []))∧(¬b≤223→(b=224→K0 (AVal.tuple [AVal.int IntKind.i64 (3),AVal.int IntKind.u8 (160),AVal.int IntKind.u8 (191)]) (AHeap.rowsT 19 []))∧(¬b=224→(b=237→K0 (AVal.tuple [AVal.int IntKind.i64 (3),AVal.int IntKind.u8 (128),AVal.int IntKind.u8 (159)]) (AHeap.rowsT 22 []))∧(¬b=237→(225≤b→(b≤239→K0 (AVal.tuple [AVal.int IntKind.i64 (3),AVal.int IntKind.u8 (128),AVal.int IntKind.u8 (191)]) (AHeap.rowsT 29 []))∧(¬b≤239→(b=240→K0 (AVal.tuple [AVal.int IntKind.i64 (4),AVal.int IntKind.u8 (144),AVal.int IntKind.u8 (191)]) (AHeap.rowsT 32 []))∧(¬b=240→(241≤b→(b≤243→K0 (AVal.tuple [AVal.int IntKind.i64 (4),AVal.int IntKind.u8 (128),AVal.int IntKind.u8 (191)]) (AHeap.rowsT 39 []))∧(¬b≤243→(b=244→K0 (AVal.tuple [AVal.int IntKind.i64 (4),AVal.int IntKind.u8 (128),AVal.int IntKind.u8 (143)]) (AHeap.rowsT 42 []))∧(¬b=244→K0 (AVal.tuple [AVal.int IntKind.i64 (0),AVal.int IntKind.u8 (0),AVal.int IntKind.u8 (0)]) (AHeap.rowsT 42 []))))∧(¬241≤b→(b=244→K0 (AVal.tuple [AVal.int IntKind.i64 (4),AVal.int IntKind.u8 (128),AVal.int IntKind.u8 (143)]) (AHeap.rowsT 42 []))∧(¬b=244→K0 (AVal.tuple [AVal.int IntKind.i64 (0),AVal.int IntKind.u8 (0),AVal.int IntKind.u8 (0)]) (AHeap.rowsT 42 []))))))∧(¬225≤b→(b=240→K0 (AVal.tuple [AVal.int IntKind.i64 (4),AVal.int IntKind.u8 (144),AVal.int IntKind.u8 (191)]) (AHeap.rowsT 32 []))∧(¬b=240→(241≤b→(b≤243→K0 (AVal.tuple [AVal.int IntKind.i64 (4),AVal.int IntKind.u8 (128),AVal.int IntKind.u8 (191)]) (AHeap.rowsT 39 []))∧(¬b≤243→(b=244→K0 (AVal.tuple [AVal.int IntKind.i64 (4),AVal.int IntKind.u8 (128),AVal.int IntKind.u8 (143)]) (AHeap.rowsT 42 []))∧(¬b=244→K0 (AVal.tuple [AVal.int IntKind.i64 (0),AVal.int IntKind.u8 (0),AVal.int IntKind.u8 (0)]) (AHeap.rowsT 42 []))))∧(¬241≤b→(b=244→K0 (AVal.tuple [AVal.int IntKind.i64 (4),AVal.int IntKind.u8 (128),AVal.int IntKind.u8 (143)]) (AHeap.rowsT 42 []))∧(¬b=244→K0 (AVal.tuple [AVal.int IntKind.i64 (0),AVal.int IntKind.u8 (0),AVal.int IntKind.u8 (0)]) (AHeap.rowsT 42 [])))))))))∧(¬194≤b→(b=224→K0 (AVal.tuple [AVal.int IntKind.i64 (3),AVal.int IntKind.u8 (160),AVal.int IntKind.u8 (191)]) (AHeap.rowsT 19 []))∧(¬b=224→(b=237→K0 (AVal.tuple [AVal.int IntKind.i64 (3),AVal.int IntKind.u8 (128),AVal.int IntKind.u8 (159)]) (AHeap.rowsT 22 []))∧(¬b=237→(225≤b→(b≤239→K0 (AVal.tuple [AVal.int IntKind.i64 (3),AVal.int IntKind.u8 (128),AVal.int IntKind.u8 (191)]) (AHeap.rowsT 29 []))∧(¬b≤239→(b=240→K0 (AVal.tuple [AVal.int IntKind.i64 (4),AVal.int IntKind.u8 (144),AVal.int IntKind.u8 (191)]) (AHeap.rowsT 32 []))∧(¬b=240→(241≤b→(b≤243→K0 (AVal.tuple [AVal.int IntKind.i64 (4),AVal.int IntKind.u8 (128),AVal.int IntKind.u8 (191)]) (AHeap.rowsT 39 []))∧(¬b≤243→(b=244→K0 (AVal.tuple [AVal.int IntKind.i64 (4),AVal.int IntKind.u8 (128),AVal.int IntKind.u8 (143)]) (AHeap.rowsT 42 []))∧(¬b=244→K0 (AVal.tuple [AVal.int IntKind.i64 (0),AVal.int IntKind.u8 (0),AVal.int IntKind.u8 (0)]) (AHeap.rowsT 42 []))))∧(¬241≤b→(b=244→K0 (AVal.tuple [AVal.int IntKind.i64 (4),AVal.int IntKind.u8 (128),AVal.int IntKind.u8 (143)]) (AHeap.rowsT 42 []))∧(¬b=244→K0 (AVal.tuple [AVal.int IntKind.i64 (0),AVal.int IntKind.u8 (0),AVal.int IntKind.u8 (0)]) (AHeap.rowsT 42 []))))))∧(¬225≤b→(b=240→K0 (AVal.tuple [AVal.int IntKind.i64 (4),AVal.int IntKind.u8 (144),AVal.int IntKind.u8 (191)]) (AHeap.rowsT 32 []))∧(¬b=240→(241≤b→(b≤243→K0 (AVal.tuple [AVal.int IntKind.i64 (4),AVal.int IntKind.u8 (128),AVal.int IntKind.u8 (191)]) (AHeap.rowsT 39 []))∧(¬b≤243→(b=244→K0 (AVal.tuple [AVal.int IntKind.i64 (4),AVal.int IntKind.u8 (128),AVal.int IntKind.u8 (143)]) (AHeap.rowsT 42 []))∧(¬b=244→K0 (AVal.tuple [AVal.int IntKind.i64 (0),AVal.int IntKind.u8 (0),AVal.int IntKind.u8 (0)]) (AHeap.rowsT 42 []))))∧(¬241≤b→(b=244→K0 (AVal.tuple [AVal.int IntKind.i64 (4),AVal.int IntKind.u8 (128),AVal.int IntKind.u8 (143)]) (AHeap.rowsT 42 []))∧(¬b=244→K0 (AVal.tuple [AVal.int IntKind.i64 (0),AVal.int IntKind.u8 (0),AVal.int IntKind.u8 (0)]) (AHeap.rowsT 42 [])))))))))) :
    ∃ v h1,FDoes Tryz.prog cnd 99 [.int .u8 b] (⟨0,.nil⟩) v h1∧K0 v h1 :=
  tcall_does env_ok mixed noSpecs_ok (hs:= .br 1001 .nil (.br 3001 (.br 3004 .nil (.br 5001 .nil (.br 7001 .nil (.br 9001 (.br 9004 .nil (.br 11001 .nil (.br 13001 (.br 13004 .nil (.br 15001 .nil .nil)) (.br 15001 .nil .nil)))) (.br 11001 .nil (.br 13001 (.br 13004 .nil (.br 15001 .nil .nil)) (.br 15001 .nil .nil))))))) (.br 5001 .nil (.br 7001 .nil (.br 9001 (.br 9004 .nil (.br 11001 .nil (.br 13001 (.br 13004 .nil (.br 15001 .nil .nil)) (.br 15001 .nil .nil)))) (.br 11001 .nil (.br 13001 (.br 13004 .nil (.br 15001 .nil .nil)) (.br 15001 .nil .nil)))))))) (by kernel_rfl) vc
def leadI(b:Int):Int×Int×Int :=
  if b<128 then(1,0,0)else if 194≤b∧b≤223 then(2,128,191)else if b=224 then(3,160,191)else if b=237 then(3,128,159)else if 225≤b∧b≤239 then(3,128,191)
  else if b=240 then(4,144,191)else if 241≤b∧b≤243 then(4,128,191)else if b=244 then(4,128,143)else(0,0,0)
def leadV(b:Int):AVal:= .tuple [.int .i64 (leadI b).1,.int .u8 (leadI b).2.1,.int .u8 (leadI b).2.2]
theorem leadV_eq(b x y z:Int)(h:leadI b=(x,y,z)):AVal.tuple [.int .i64 x,.int .u8 y,.int .u8 z]=leadV b:=by unfold leadV;rw [h]
theorem lead_does(b:Int)(H:AHeap):FDoes Tryz.prog cnd 99 [.int .u8 b] H (leadV b) H:=by
  refine FDoes.ofVC (lead_vc b (fun v _=>v=leadV b) ?_) rfl rfl H
  repeat' (first | apply And.intro | intro _)
  all_goals (refine leadV_eq _ _ _ _ ?_;unfold leadI;repeat' split)
  all_goals first | rfl | omega
theorem arrow_vc(c:Int)(K0:AVal→AHeap→Prop)(vc:(c=65→(0≤c-65∧c-65≤255)∧(-2147483648≤c-65∧c-65≤2147483647)∧(-2147483648≤5+(c-65)∧5+(c-65)≤2147483647)∧K0 (AVal.int IntKind.i32 (5+(c-65))) (AHeap.rowsT 9 []))∧(¬c=65→(c=66→(0≤c-65∧c-65≤255)∧(-2147483648≤c-65∧c-65≤2147483647)∧(-2147483648≤5+(c-65)∧5+(c-65)≤2147483647)∧K0 (AVal.int IntKind.i32 (5+(c-65))) (AHeap.rowsT 11 []))∧(¬c=66→(c=67→(0≤c-65∧c-65≤255)∧(-2147483648≤c-65∧c-65≤2147483647)∧(-2147483648≤5+(c-65)∧5+(c-65)≤2147483647)∧K0 (AVal.int IntKind.i32 (5+(c-65))) (AHeap.rowsT 13 []))∧(¬c=67→(c=68→(0≤c-65∧c-65≤255)∧(-2147483648≤c-65∧c-65≤2147483647)∧(-2147483648≤5+(c-65)∧5+(c-65)≤2147483647)∧K0 (AVal.int IntKind.i32 (5+(c-65))) (AHeap.rowsT 15 []))∧(¬c=68→(c=72→K0 (AVal.int IntKind.i32 (9)) (AHeap.rowsT 13 []))∧(¬c=72→(c=70→K0 (AVal.int IntKind.i32 (10)) (AHeap.rowsT 15 []))∧(¬c=70→K0 (AVal.int IntKind.i32 (0)) (AHeap.rowsT 15 [])))))))) :
    ∃ v h1,FDoes Tryz.prog cnd 71 [.int .u8 c] (⟨0,.nil⟩) v h1∧K0 v h1 :=
  tcall_does env_ok mixed noSpecs_ok (hs:= .br 2000 (.hint (.go 6001) (.hint (.go 6002) (.hint (.go 6003) .nil))) (.br 3000 (.hint (.go 6001) (.hint (.go 6002) (.hint (.go 6003) .nil))) (.br 4000 (.hint (.go 6001) (.hint (.go 6002) (.hint (.go 6003) .nil))) (.br 5000 (.hint (.go 6001) (.hint (.go 6002) (.hint (.go 6003) .nil))) (.br 7000 .nil (.br 9000 .nil .nil)))))) (by kernel_rfl) vc
def arrowI(c:Int):Int:=if 65≤c∧c≤68 then 5+(c-65)else if c=72 then 9 else if c=70 then 10 else 0
theorem arrow_does(c:Int)(H:AHeap):FDoes Tryz.prog cnd 71 [.int .u8 c] H (.int .i32 (arrowI c)) H:=by
  refine FDoes.ofVC (arrow_vc c (fun v _=>v= .int .i32 (arrowI c)) ?_) rfl rfl H
  repeat' (first | apply And.intro | intro _)
  all_goals first
    | omega
    | (refine congrArg (AVal.int .i32) ?_;unfold arrowI;repeat' split)
  all_goals omega
theorem tilde_vc(n:Int)(K0:AVal→AHeap→Prop)(vc:(n=1→K0 (AVal.int IntKind.i32 (9)) (AHeap.rowsT 9 []))∧(¬n=1→(n=7→K0 (AVal.int IntKind.i32 (9)) (AHeap.rowsT 9 []))∧(¬n=7→(n=4→K0 (AVal.int IntKind.i32 (10)) (AHeap.rowsT 16 []))∧(¬n=4→(n=8→K0 (AVal.int IntKind.i32 (10)) (AHeap.rowsT 16 []))∧(¬n=8→(n=2→(-9223372036854775808≤n-2∧n-2≤9223372036854775807)∧(-2147483648≤n-2∧n-2≤2147483647)∧(-2147483648≤11+(n-2)∧11+(n-2)≤2147483647)∧K0 (AVal.int IntKind.i32 (11+(n-2))) (AHeap.rowsT 27 []))∧(¬n=2→(n=3→(-9223372036854775808≤n-2∧n-2≤9223372036854775807)∧(-2147483648≤n-2∧n-2≤2147483647)∧(-2147483648≤11+(n-2)∧11+(n-2)≤2147483647)∧K0 (AVal.int IntKind.i32 (11+(n-2))) (AHeap.rowsT 27 []))∧(¬n=3→(n=5→(-9223372036854775808≤n-5∧n-5≤9223372036854775807)∧(-2147483648≤n-5∧n-5≤2147483647)∧(-2147483648≤13+(n-5)∧13+(n-5)≤2147483647)∧K0 (AVal.int IntKind.i32 (13+(n-5))) (AHeap.rowsT 34 []))∧(¬n=5→(n=6→(-9223372036854775808≤n-5∧n-5≤9223372036854775807)∧(-2147483648≤n-5∧n-5≤2147483647)∧(-2147483648≤13+(n-5)∧13+(n-5)≤2147483647)∧K0 (AVal.int IntKind.i32 (13+(n-5))) (AHeap.rowsT 34 []))∧(¬n=6→(11≤n→(n≤15→(-9223372036854775808≤n-11∧n-11≤9223372036854775807)∧(-2147483648≤n-11∧n-11≤2147483647)∧(-2147483648≤21+(n-11)∧21+(n-11)≤2147483647)∧K0 (AVal.int IntKind.i32 (21+(n-11))) (AHeap.rowsT 41 []))∧(¬n≤15→(17≤n→(n≤21→(-9223372036854775808≤n-12∧n-12≤9223372036854775807)∧(-2147483648≤n-12∧n-12≤2147483647)∧(-2147483648≤21+(n-12)∧21+(n-12)≤2147483647)∧K0 (AVal.int IntKind.i32 (21+(n-12))) (AHeap.rowsT 48 []))∧(¬n≤21→(n=23→(-9223372036854775808≤n-13∧n-13≤9223372036854775807)∧(-2147483648≤n-13∧n-13≤2147483647)∧(-2147483648≤21+(n-13)∧21+(n-13)≤2147483647)∧K0 (AVal.int IntKind.i32 (21+(n-13))) (AHeap.rowsT 55 []))∧(¬n=23→(n=24→(-9223372036854775808≤n-13∧n-13≤9223372036854775807)∧(-2147483648≤n-13∧n-13≤2147483647)∧(-2147483648≤21+(n-13)∧21+(n-13)≤2147483647)∧K0 (AVal.int IntKind.i32 (21+(n-13))) (AHeap.rowsT 55 []))∧(¬n=24→K0 (AVal.int IntKind.i32 (0)) (AHeap.rowsT 51 [])))))∧(¬17≤n→(n=23→(-9223372036854775808≤n-13∧n-13≤9223372036854775807)∧(-2147483648≤n-13∧n-13≤2147483647)∧(-2147483648≤21+(n-13)∧21+(n-13)≤2147483647)∧K0 (AVal.int IntKind.i32 (21+(n-13))) (AHeap.rowsT 55 []))∧(¬n=23→(n=24→(-9223372036854775808≤n-13∧n-13≤9223372036854775807)∧(-2147483648≤n-13∧n-13≤2147483647)∧(-2147483648≤21+(n-13)∧21+(n-13)≤2147483647)∧K0 (AVal.int IntKind.i32 (21+(n-13))) (AHeap.rowsT 55 []))∧(¬n=24→K0 (AVal.int IntKind.i32 (0)) (AHeap.rowsT 51 []))))))∧(¬11≤n→(17≤n→(n≤21→(-9223372036854775808≤n-12∧n-12≤9223372036854775807)∧(-2147483648≤n-12∧n-12≤2147483647)∧(-2147483648≤21+(n-12)∧21+(n-12)≤2147483647)∧K0 (AVal.int IntKind.i32 (21+(n-12))) (AHeap.rowsT 48 []))∧(¬n≤21→(n=23→(-9223372036854775808≤n-13∧n-13≤9223372036854775807)∧(-2147483648≤n-13∧n-13≤2147483647)∧(-2147483648≤21+(n-13)∧21+(n-13)≤2147483647)∧K0 (AVal.int IntKind.i32 (21+(n-13))) (AHeap.rowsT 55 []))∧(¬n=23→(n=24→(-9223372036854775808≤n-13∧n-13≤9223372036854775807)∧(-2147483648≤n-13∧n-13≤2147483647)∧(-2147483648≤21+(n-13)∧21+(n-13)≤2147483647)∧K0 (AVal.int IntKind.i32 (21+(n-13))) (AHeap.rowsT 55 []))∧(¬n=24→K0 (AVal.int IntKind.i32 (0)) (AHeap.rowsT 51 [])))))∧(¬17≤n→(n=23→(-9223372036854775808≤n-13∧n-13≤9223372036854775807)∧(-2147483648≤n-13∧n-13≤2147483647)∧(-2147483648≤21+(n-13)∧21+(n-13)≤2147483647)∧K0 (AVal.int IntKind.i32 (21+(n-13))) (AHeap.rowsT 55 []))∧(¬n=23→(n=24→(-9223372036854775808≤n-13∧n-13≤9223372036854775807)∧(-2147483648≤n-13∧n-13≤2147483647)∧(-2147483648≤21+(n-13)∧21+(n-13)≤2147483647)∧K0 (AVal.int IntKind.i32 (21+(n-13))) (AHeap.rowsT 55 []))∧(¬n=24→K0 (AVal.int IntKind.i32 (0)) (AHeap.rowsT 51 [])))))))))))))) :
    ∃ v h1,FDoes Tryz.prog cnd 72 [.int .i64 n] (⟨0,.nil⟩) v h1∧K0 v h1 :=
  tcall_does env_ok mixed noSpecs_ok (hs:= .br 1001 .nil (.br 1004 .nil (.br 3001 .nil (.br 3004 .nil (.br 5001 (.hint (.go 6001) (.hint (.go 6002) (.hint (.go 6003) .nil))) (.br 5004 (.hint (.go 6001) (.hint (.go 6002) (.hint (.go 6003) .nil))) (.br 7001 (.hint (.go 8001) (.hint (.go 8002) (.hint (.go 8003) .nil))) (.br 7004 (.hint (.go 8001) (.hint (.go 8002) (.hint (.go 8003) .nil))) (.br 9001 (.br 9004 (.hint (.go 10001) (.hint (.go 10002) (.hint (.go 10003) .nil))) (.br 11001 (.br 11004 (.hint (.go 12001) (.hint (.go 12002) (.hint (.go 12003) .nil))) (.br 13001 (.hint (.go 14001) (.hint (.go 14002) (.hint (.go 14003) .nil))) (.br 13004 (.hint (.go 14001) (.hint (.go 14002) (.hint (.go 14003) .nil))) .nil))) (.br 13001 (.hint (.go 14001) (.hint (.go 14002) (.hint (.go 14003) .nil))) (.br 13004 (.hint (.go 14001) (.hint (.go 14002) (.hint (.go 14003) .nil))) .nil)))) (.br 11001 (.br 11004 (.hint (.go 12001) (.hint (.go 12002) (.hint (.go 12003) .nil))) (.br 13001 (.hint (.go 14001) (.hint (.go 14002) (.hint (.go 14003) .nil))) (.br 13004 (.hint (.go 14001) (.hint (.go 14002) (.hint (.go 14003) .nil))) .nil))) (.br 13001 (.hint (.go 14001) (.hint (.go 14002) (.hint (.go 14003) .nil))) (.br 13004 (.hint (.go 14001) (.hint (.go 14002) (.hint (.go 14003) .nil))) .nil)))))))))))) (by kernel_rfl) vc
def tildeI(n:Int):Int :=
  if n=1∨n=7 then 9 else if n=4∨n=8 then 10 else if n=2∨n=3 then 11+(n-2)else if n=5∨n=6 then 13+(n-5)
  else if 11≤n∧n≤15 then 21+(n-11)else if 17≤n∧n≤21 then 21+(n-12)else if n=23∨n=24 then 21+(n-13)else 0
set_option maxHeartbeats 4000000 in
theorem tilde_does(n:Int)(H:AHeap):FDoes Tryz.prog cnd 72 [.int .i64 n] H (.int .i32 (tildeI n)) H:=by
  refine FDoes.ofVC (tilde_vc n (fun v _=>v= .int .i32 (tildeI n)) ?_) rfl rfl H
  repeat' (first | apply And.intro | intro _)
  all_goals first
    | omega
    | (refine congrArg (AVal.int .i32) ?_;unfold tildeI;repeat' split)
  all_goals omega
theorem shown_vc(r:Int)(K0:AVal→AHeap→Prop)(vc:(32≤r→(r=127→K0 (AVal.bool false) (AHeap.rowsT 20 []))∧(¬r=127→(r≤1114111→(r<55296→K0 (AVal.bool true) (AHeap.rowsT 20 []))∧(¬r<55296→(57343<r→K0 (AVal.bool true) (AHeap.rowsT 20 []))∧(¬57343<r→K0 (AVal.bool false) (AHeap.rowsT 20 []))))∧(¬r≤1114111→K0 (AVal.bool false) (AHeap.rowsT 20 []))))∧(¬32≤r→K0 (AVal.bool false) (AHeap.rowsT 20 []))) :
    ∃ v h1,FDoes Tryz.prog cnd 41 [.int .i32 r] (⟨0,.nil⟩) v h1∧K0 v h1 :=
  tcall_does env_ok mixed noSpecs_ok (hs:= .br 1001 (.br 1004 .nil (.br 1008 (.br 1012 .nil (.br 1015 .nil .nil)) .nil)) .nil) (by kernel_rfl) vc
theorem shown_does(r:Int)(H:AHeap):FDoes Tryz.prog cnd 41 [.int .i32 r] H (.bool (shown r)) H:=by
  refine FDoes.ofVC (shown_vc r (fun v _=>v= .bool (shown r)) ?_) rfl rfl H
  repeat' (first | apply And.intro | intro _)
  all_goals (refine congrArg AVal.bool ?_;simp [shown];try omega)
def evA(e:Ev):AVal:= .agg [.int .i8 e.kind,.int .i32 e.code,.int .u8 e.mods,.int .i64 e.x,.int .i64 e.y,.str e.text]
theorem control_vc(c:Int)(K0:AVal→AHeap→Prop)(vc:(c=13→K0 (AVal.agg [AVal.int IntKind.i8 (2),AVal.int IntKind.i32 (1),AVal.int IntKind.u8 (0),AVal.int IntKind.i64 (0),AVal.int IntKind.i64 (0),AVal.str []]) (AHeap.rowsT 6 [(0,(ABlk.made ([AVal.agg [AVal.int IntKind.i8 (2),AVal.int IntKind.i32 (1),AVal.int IntKind.u8 (0),AVal.int IntKind.i64 (0),AVal.int IntKind.i64 (0),AVal.str []]]) 6 true (some (42,6))))]))∧(¬c=13→(c=9→K0 (AVal.agg [AVal.int IntKind.i8 (2),AVal.int IntKind.i32 (2),AVal.int IntKind.u8 (0),AVal.int IntKind.i64 (0),AVal.int IntKind.i64 (0),AVal.str []]) (AHeap.rowsT 8 [(0,(ABlk.made ([AVal.agg [AVal.int IntKind.i8 (2),AVal.int IntKind.i32 (2),AVal.int IntKind.u8 (0),AVal.int IntKind.i64 (0),AVal.int IntKind.i64 (0),AVal.str []]]) 6 true (some (42,6))))]))∧(¬c=9→(c=127→K0 (AVal.agg [AVal.int IntKind.i8 (2),AVal.int IntKind.i32 (3),AVal.int IntKind.u8 (0),AVal.int IntKind.i64 (0),AVal.int IntKind.i64 (0),AVal.str []]) (AHeap.rowsT 10 [(0,(ABlk.made ([AVal.agg [AVal.int IntKind.i8 (2),AVal.int IntKind.i32 (3),AVal.int IntKind.u8 (0),AVal.int IntKind.i64 (0),AVal.int IntKind.i64 (0),AVal.str []]]) 6 true (some (42,6))))]))∧(¬c=127→(c=0→K0 (AVal.agg [AVal.int IntKind.i8 (1),AVal.int IntKind.i32 (32),AVal.int IntKind.u8 (4),AVal.int IntKind.i64 (0),AVal.int IntKind.i64 (0),AVal.str []]) (AHeap.rowsT 12 [(0,(ABlk.made ([AVal.agg [AVal.int IntKind.i8 (1),AVal.int IntKind.i32 (32),AVal.int IntKind.u8 (4),AVal.int IntKind.i64 (0),AVal.int IntKind.i64 (0),AVal.str []]]) 6 true (some (42,6))))]))∧(¬c=0→(c<27→(-2147483648≤c∧c≤2147483647)∧True∧K0 (AVal.agg [AVal.int IntKind.i8 (1),AVal.int IntKind.i32 (ior IntKind.i32 c (96)),AVal.int IntKind.u8 (4),AVal.int IntKind.i64 (0),AVal.int IntKind.i64 (0),AVal.str []]) (AHeap.rowsT 17 [(0,(ABlk.made ([AVal.agg [AVal.int IntKind.i8 (1),AVal.int IntKind.i32 (ior IntKind.i32 c (96)),AVal.int IntKind.u8 (4),AVal.int IntKind.i64 (0),AVal.int IntKind.i64 (0),AVal.str []]]) 6 true (some (42,6))))]))∧(¬c<27→(-2147483648≤c∧c≤2147483647)∧True∧K0 (AVal.agg [AVal.int IntKind.i8 (1),AVal.int IntKind.i32 (ior IntKind.i32 c (64)),AVal.int IntKind.u8 (4),AVal.int IntKind.i64 (0),AVal.int IntKind.i64 (0),AVal.str []]) (AHeap.rowsT 17 [(0,(ABlk.made ([AVal.agg [AVal.int IntKind.i8 (1),AVal.int IntKind.i32 (ior IntKind.i32 c (64)),AVal.int IntKind.u8 (4),AVal.int IntKind.i64 (0),AVal.int IntKind.i64 (0),AVal.str []]]) 6 true (some (42,6))))]))))))) :
    ∃ v h1,FDoes Tryz.prog cnd 89 [.int .u8 c] (⟨0,.nil⟩) v h1∧K0 v h1 :=
  tcall_does env_ok mixed noSpecs_ok (hs:= .br 2000 .nil (.br 4000 .nil (.br 6000 .nil (.br 8000 .nil (.br 10001 (.hint (.go 11001) (.hint (.go 11002) .nil)) (.hint (.go 12001) (.hint (.go 12002) .nil))))))) (by kernel_rfl) vc
theorem ior96: ∀ n:Fin 27,0<n.val→ior .i32 (n.val:Int) 96=n.val+96:=by decide+kernel
theorem ior64: ∀ n:Fin 32,26<n.val→ior .i32 (n.val:Int) 64=n.val+64:=by decide+kernel
theorem control_does(c:Int)(hc:0≤c∧(c<32∨c=127))(h27:c≠27)(H:AHeap):FDoes Tryz.prog cnd 89 [.int .u8 c] H (evA (control c.toNat)) H:=by
  refine FDoes.ofVC (control_vc c (fun v _=>v=evA (control c.toNat)) ?_) rfl rfl H
  obtain⟨n,rfl⟩:=Int.eq_ofNat_of_zero_le hc.1
  repeat' (first | apply And.intro | intro _)
  all_goals first
    | omega
    | exact trivial
    | skip
  all_goals simp only [Int.toNat_natCast]
  all_goals unfold Go.Keys.control
  all_goals repeat' split
  all_goals first
    | (exfalso;omega)
    | rfl
    | (have:=ior96 ⟨n,by omega⟩ (by simp;omega);simp only at this;rw [this];rfl)
    | (have:=ior64 ⟨n,by omega⟩ (by simp;omega);simp only at this;rw [this];rfl)
theorem leadI_le(b:Int):(leadI b).1=0∨(leadI b).1=1∨(leadI b).1=2∨(leadI b).1=3∨(leadI b).1=4:=by
  unfold leadI
  repeat' split
  all_goals simp
def leadS:List AVal→AHeap→Option Alts:=fun a h =>
  match a with
  | [.int .u8 b]=>some (.or ((leadI b).1=0) (.one (.tuple [.int .i64 0,.int .u8 (leadI b).2.1,.int .u8 (leadI b).2.2]) h []) (.or ((leadI b).1=1) (.one (.tuple [.int .i64 1,.int .u8 (leadI b).2.1,.int .u8 (leadI b).2.2]) h [])
    (.or ((leadI b).1=2) (.one (.tuple [.int .i64 2,.int .u8 (leadI b).2.1,.int .u8 (leadI b).2.2]) h []) (.or ((leadI b).1=3) (.one (.tuple [.int .i64 3,.int .u8 (leadI b).2.1,.int .u8 (leadI b).2.2]) h []) (.one (.tuple [.int .i64 4,.int .u8 (leadI b).2.1,.int .u8 (leadI b).2.2]) h [])))))
  | _=>none
theorem leadS_ok: ∀ args h a,leadS args h=some a→a.Ok Tryz.prog cnd 99 args h:=by
  intro args h a e
  unfold leadS at e
  split at e<;>first | (cases e;done) | skip
  rename_i b
  simp only [Option.some.injEq]at e
  subst e
  have go: ∀ n,(leadI b).1=n→FDoes Tryz.prog cnd 99 [.int .u8 b] h (.tuple [.int .i64 n,.int .u8 (leadI b).2.1,.int .u8 (leadI b).2.2]) h:=fun n hn=>by rw [← hn];exact lead_does b h
  exact⟨fun e _=>go _ e,fun n0=>⟨fun e _=>go _ e,fun n1=>⟨fun e _=>go _ e,fun n2=>⟨fun e _=>go _ e,fun n3 _=>go _ (by have:=leadI_le b;omega)⟩⟩⟩⟩
def specs1:Specs:=((((noSpecs.add 99 leadS).add 71 (pureS fun a=>match a with | [.int .u8 b]=>some (.int .i32 (arrowI b),[]) | _=>none)).add
  72 (pureS fun a=>match a with | [.int .i64 b]=>some (.int .i32 (tildeI b),[]) | _=>none)).add 41 (pureS fun a=>match a with | [.int .i32 b]=>some (.bool (shown b),[]) | _=>none)).add
  89 (pureS fun a=>match a with | [.int .u8 b]=>some (evA (control b.toNat),[0≤b∧(b<32∨b=127),b≠27]) | _=>none)
theorem specs1_ok:SpecsOk Tryz.prog cnd specs1:=by
  refine((((noSpecs_ok.add leadS_ok).add (pureS_ok ?_)).add (pureS_ok ?_)).add (pureS_ok ?_)).add (pureS_ok ?_)
  all_goals
    intro args v ps e hp H
    split at e<;>first | (cases e;done) | skip
    simp only [Option.some.injEq,Prod.mk.injEq]at e
    obtain⟨rfl,rfl⟩:=e
  · exact arrow_does _ H
  · exact tilde_does _ H
  · exact shown_does _ H
  · exact control_does _ hp.head hp.tail.head H
abbrev uRow(k0 k1 k2 k3 n:Int)(ty:Option (TypeId×Nat)):ABlk:=ABlk.made [.agg [.int .u8 k0,.int .u8 k1,.int .u8 k2,.int .u8 k3,.int .i64 n]] 5 true ty
abbrev bRow(c:Int):ABlk:=ABlk.made [.int .u8 c] 1 true
abbrev zv0_0(c:Int):ABlk:=(ABlk.made ([.int .u8 c]) 1 true)
abbrev zv0_1:HT:=(hg 7001 (hg 7004 (.hint (.rounds 300) .nil)))
abbrev zv0_2:ABlk:=(ABlk.made ([.slice (some ⟨19,0,0,0,1⟩) 1 1]) 1 true (some (34,1)))
abbrev zv0_3(k1:Int)(k2:Int)(k3:Int)(c:Int):AVal:=AVal.agg [.int .u8 c,.int .u8 k1,.int .u8 k2,.int .u8 k3,.int .i64 1]
abbrev zv0_4(k0:Int)(k1:Int)(k2:Int)(k3:Int)(ty:Option (TypeId×Nat)):ABlk:=⟨[.agg [.int .u8 k0,.int .u8 k1,.int .u8 k2,.int .u8 k3,.int .i64 0]],5,true,false,0,0,0,ty⟩
abbrev zv0_5(k1:Int)(k2:Int)(k3:Int)(c:Int)(ty:Option (TypeId×Nat)):ABlk:=⟨[(zv0_3 k1 k2 k3 c)],5,true,false,0,0,0,ty⟩
abbrev zv0_6(k1:Int)(k2:Int)(k3:Int)(c:Int)(ty:Option (TypeId×Nat)):AHeap:=(AHeap.rowsT 95 [(0,(zv0_5 k1 k2 k3 c ty)),(1,(zv0_0 c)),(5,ABlk.made (List.replicate 0 (.int .u8 0)) 1 true),(15,zv0_2),(19,ABlk.made [.int .u8 c] 1 false (some (5,0)))])
theorem feed0_vc(k0 k1 k2 k3 c lo hi:Int)(ty:Option (TypeId×Nat))(K0:AVal→AHeap→Prop)(vc:(Prod.fst (leadI c)=0→K0 (.slice (some ⟨70,0,0,0,1⟩) 1 1) (AHeap.rowsT 81 [(0,(zv0_4 k0 k1 k2 k3 ty)),(1,(zv0_0 c)),(5,ABlk.made (List.replicate 0 (.int .u8 0)) 1 true),(15,(ABlk.made ([.slice (some ⟨19,0,1,0,1⟩) 0 0]) 1 true (some (34,1)))),(19,ABlk.made [.int .u8 c] 1 false (some (5,0))),(69,ABlk.made [.int .i32 65533] 1 true),(70,ABlk.made [.int .i32 65533] 1 false (some (21,0)))]))∧(¬Prod.fst (leadI c)=0→(Prod.fst (leadI c)=1→(-2147483648≤c∧c≤2147483647)∧K0 (.slice (some ⟨74,0,0,0,1⟩) 1 1) (AHeap.rowsT 85 [(0,(zv0_4 k0 k1 k2 k3 ty)),(1,(zv0_0 c)),(5,ABlk.made (List.replicate 0 (.int .u8 0)) 1 true),(15,(ABlk.made ([.slice (some ⟨19,0,1,0,1⟩) 0 0]) 1 true (some (34,1)))),(19,ABlk.made [.int .u8 c] 1 false (some (5,0))),(73,ABlk.made [.int .i32 c] 1 true),(74,ABlk.made [.int .i32 c] 1 false (some (21,0)))]))∧(¬Prod.fst (leadI c)=1→(Prod.fst (leadI c)=2→(-2147483648≤c∧c≤2147483647)∧True∧K0 (.slice none 0 0) (zv0_6 k1 k2 k3 c ty))∧(¬Prod.fst (leadI c)=2→(Prod.fst (leadI c)=3→(-2147483648≤c∧c≤2147483647)∧True∧K0 (.slice none 0 0) (zv0_6 k1 k2 k3 c ty))∧(¬Prod.fst (leadI c)=3→(-2147483648≤c∧c≤2147483647)∧True∧K0 (.slice none 0 0) (zv0_6 k1 k2 k3 c ty)))))) :
    ∃ v h1,FDoes Tryz.prog cnd 107 [.ptr (some ⟨0,0,0,0,5⟩),.slice (some ⟨1,0,0,0,1⟩) 1 1] (AHeap.of [uRow k0 k1 k2 k3 0 ty,bRow c]) v h1∧K0 v h1 :=
  tcall_does env_ok mixed specs1_ok (hs:= .hint (.rounds 300) (he 8003 (he 1001 (.br 2001 .nil (.br 2001 (hg 6001 .nil) (.br 2001 zv0_1 (.br 2001 zv0_1 zv0_1))))))) (by kernel_rfl) vc
abbrev zv1_0:AVal:=AVal.slice (some ⟨14,1,1,0,1⟩) 1 1
abbrev zv1_1:AVal:=AVal.slice (some ⟨14,1,2,0,1⟩) 0 0
abbrev zv1_2:AVal:=AVal.slice (some ⟨104,0,0,0,1⟩) 1 1
abbrev zv1_3:AVal:=AVal.slice (some ⟨104,1,0,0,1⟩) 2 2
abbrev zv1_4(k0:Int)(k1:Int)(k2:Int)(k3:Int):AVal:=AVal.agg [.int .u8 k0,.int .u8 k1,.int .u8 k2,.int .u8 k3,.int .i64 0]
abbrev zv1_5(k0:Int)(c:Int)(ty:Option (TypeId×Nat)):ABlk:=⟨[.int .u8 k0,.int .u8 c],1,false,false,1,0,1,some (5,0)⟩
abbrev zv1_6(c:Int)(ty:Option (TypeId×Nat)):ABlk:=⟨[.int .i32 65533,.int .i32 c],1,false,false,1,0,1,some (21,0)⟩
abbrev zv1_7(ty:Option (TypeId×Nat)):ABlk:=⟨[.int .i32 65533,.int .i32 65533],1,false,false,1,0,1,some (21,0)⟩
abbrev zv1_8:ABlk:=(ABlk.made ([zv1_0]) 1 true (some (34,1)))
abbrev zv1_9:ABlk:=(ABlk.made ([zv1_1]) 1 true (some (34,1)))
abbrev zv1_10:HT:=(he 1001 (.br 2001 .nil (.br 2001 (hg 6001 .nil) (.br 2001 zv0_1 (.br 2001 zv0_1 zv0_1)))))
abbrev zv1_11(k0:Int)(k1:Int)(k2:Int)(k3:Int)(ty:Option (TypeId×Nat)):ABlk:=⟨[(zv1_4 k0 k1 k2 k3)],5,true,false,0,0,0,ty⟩
abbrev zv1_12(k0:Int)(k1:Int)(k2:Int)(k3:Int)(c:Int)(ty:Option (TypeId×Nat)):AHeap:=(AHeap.rowsT 61 [(0,(zv1_11 k0 k1 k2 k3 ty)),(1,(zv0_0 c)),(5,ABlk.made (List.replicate 0 (.int .u8 0)) 1 true),(14,(zv1_5 k0 c ty)),(15,(ABlk.made ([.slice (some ⟨14,1,0,0,1⟩) 2 2]) 1 true (some (34,1))))])
abbrev zv1_13(k0:Int)(k1:Int)(k2:Int)(k3:Int)(c:Int)(ty:Option (TypeId×Nat)):AHeap:=(AHeap.rowsT 179 [(0,(zv0_5 k1 k2 k3 c ty)),(1,(zv0_0 c)),(5,ABlk.made (List.replicate 0 (.int .u8 0)) 1 true),(14,(zv1_5 k0 c ty)),(15,zv1_8),(103,ABlk.made [.int .i32 65533] 1 true),(104,ABlk.made [.int .i32 65533] 1 false (some (21,0)))])
abbrev zv1_14(k0:Int)(k1:Int)(k2:Int)(k3:Int)(c:Int)(ty:Option (TypeId×Nat)):AHeap:=(AHeap.rowsT 169 [(0,(zv1_11 k0 k1 k2 k3 ty)),(1,(zv0_0 c)),(5,ABlk.made (List.replicate 0 (.int .u8 0)) 1 true),(14,(zv1_5 k0 c ty)),(15,zv1_9),(103,ABlk.made [.int .i32 65533] 1 true),(104,(zv1_6 c ty)),(157,ABlk.made [.int .i32 c] 1 true)])
abbrev zv1_15(k0:Int)(k1:Int)(k2:Int)(k3:Int)(c:Int)(ty:Option (TypeId×Nat)):AHeap:=(AHeap.rowsT 165 [(0,(zv1_11 k0 k1 k2 k3 ty)),(1,(zv0_0 c)),(5,ABlk.made (List.replicate 0 (.int .u8 0)) 1 true),(14,(zv1_5 k0 c ty)),(15,zv1_9),(103,ABlk.made [.int .i32 65533] 1 true),(104,(zv1_7 ty)),(153,ABlk.made [.int .i32 65533] 1 true)])
abbrev zv1_16(k0:Int)(k1:Int)(k2:Int)(k3:Int)(c:Int)(ty:Option (TypeId×Nat))(K0:AVal→AHeap→Prop):Prop:=(¬Prod.fst (leadI c)=2→(Prod.fst (leadI c)=3→(-2147483648≤c∧c≤2147483647)∧True∧K0 (zv1_2) (zv1_13 k0 k1 k2 k3 c ty))∧(¬Prod.fst (leadI c)=3→(-2147483648≤c∧c≤2147483647)∧True∧K0 (zv1_2) (zv1_13 k0 k1 k2 k3 c ty)))
abbrev zv1_17(k0:Int)(k1:Int)(k2:Int)(k3:Int)(c:Int)(ty:Option (TypeId×Nat))(K0:AVal→AHeap→Prop):Prop:=(¬Prod.fst (leadI c)=0→(Prod.fst (leadI c)=1→(-2147483648≤c∧c≤2147483647)∧K0 (zv1_3) (zv1_14 k0 k1 k2 k3 c ty))∧(¬Prod.fst (leadI c)=1→(Prod.fst (leadI c)=2→(-2147483648≤c∧c≤2147483647)∧True∧K0 (zv1_2) (zv1_13 k0 k1 k2 k3 c ty))∧(zv1_16 k0 k1 k2 k3 c ty K0)))
theorem feed12_vc(k0 k1 k2 k3 c lo hi:Int)(ty:Option (TypeId×Nat))(K0:AVal→AHeap→Prop)(vc:CallT Tryz.prog cnd 99 [.int .u8 k0] (zv1_12 k0 k1 k2 k3 c ty) (.tuple [.int .i64 2,.int .u8 lo,.int .u8 hi]) (zv1_12 k0 k1 k2 k3 c ty)∧(-2147483648≤k0∧k0≤2147483647)∧True∧(c<lo→(Prod.fst (leadI c)=0→K0 (zv1_3) (zv1_15 k0 k1 k2 k3 c ty))∧(zv1_17 k0 k1 k2 k3 c ty K0))∧(¬c<lo→(hi<c→(Prod.fst (leadI c)=0→K0 (zv1_3) (zv1_15 k0 k1 k2 k3 c ty))∧(zv1_17 k0 k1 k2 k3 c ty K0))∧(¬hi<c→Int.NonNeg (6-0)∧True∧(-2147483648≤iand IntKind.u8 c (63)∧iand IntKind.u8 c (63)≤2147483647)∧True∧K0 (.slice (some ⟨120,0,0,0,1⟩) 1 1) (AHeap.rowsT 131 [(0,(zv1_11 k0 k1 k2 k3 ty)),(1,(zv0_0 c)),(5,ABlk.made (List.replicate 0 (.int .u8 0)) 1 true),(14,(zv1_5 k0 c ty)),(15,zv1_9),(119,ABlk.made [.int .i32 (ior IntKind.i32 (ishl IntKind.i32 (iand IntKind.i32 k0 (31)) (6)) (iand IntKind.u8 c (63)))] 1 true),(120,ABlk.made [.int .i32 (ior IntKind.i32 (ishl IntKind.i32 (iand IntKind.i32 k0 (31)) (6)) (iand IntKind.u8 c (63)))] 1 false (some (21,0)))])))) :
    ∃ v h1,FDoes Tryz.prog cnd 107 [.ptr (some ⟨0,0,0,0,5⟩),.slice (some ⟨1,0,0,0,1⟩) 1 1] (AHeap.of [uRow k0 k1 k2 k3 1 ty,bRow c]) v h1∧K0 v h1 :=
  tcall_does env_ok mixed specs1_ok (hs:= .hint (.rounds 300) (he 8003 (he 1001 (.hint (.val 2001 (.tuple [.int .i64 2,.int .u8 lo,.int .u8 hi])) (hg 7001 (hg 7004 (.hint (.rounds 300) (he 13002 (.br 14002 (he 8003 zv1_10) (.br 14006 (he 8003 zv1_10) (hg 17001 (hg 17003 (hg 17004 (hg 17005 .nil)))))))))))))) (by kernel_rfl) vc
abbrev zv2_0:ABlk:=(ABlk.made ([.slice (some ⟨14,1,0,0,1⟩) 2 2]) 1 true (some (34,1)))
theorem feed13_vc(k0 k1 k2 k3 c lo hi:Int)(ty:Option (TypeId×Nat))(K0:AVal→AHeap→Prop)(vc:CallT Tryz.prog cnd 99 [.int .u8 k0] (AHeap.rowsT 61 [(0,(zv1_11 k0 k1 k2 k3 ty)),(1,(zv0_0 c)),(5,ABlk.made (List.replicate 0 (.int .u8 0)) 1 true),(14,(zv1_5 k0 c ty)),(15,zv2_0)]) (.tuple [.int .i64 3,.int .u8 lo,.int .u8 hi]) (AHeap.rowsT 61 [(0,(zv1_11 k0 k1 k2 k3 ty)),(1,(zv0_0 c)),(5,ABlk.made (List.replicate 0 (.int .u8 0)) 1 true),(14,(zv1_5 k0 c ty)),(15,zv2_0)])∧(-2147483648≤k0∧k0≤2147483647)∧True∧(c<lo→(Prod.fst (leadI c)=0→K0 (zv1_3) (zv1_15 k0 k1 k2 k3 c ty))∧(zv1_17 k0 k1 k2 k3 c ty K0))∧(¬c<lo→(hi<c→(Prod.fst (leadI c)=0→K0 (zv1_3) (zv1_15 k0 k1 k2 k3 c ty))∧(zv1_17 k0 k1 k2 k3 c ty K0))∧(¬hi<c→Int.NonNeg (6-0)∧True∧(-2147483648≤iand IntKind.u8 c (63)∧iand IntKind.u8 c (63)≤2147483647)∧True∧K0 (.slice none 0 0) (AHeap.rowsT 131 [(0,⟨[.agg [.int .u8 k0,.int .u8 c,.int .u8 k2,.int .u8 k3,.int .i64 2]],5,true,false,0,0,0,ty⟩),(1,(zv0_0 c)),(5,ABlk.made (List.replicate 0 (.int .u8 0)) 1 true),(14,(zv1_5 k0 c ty)),(15,zv2_0)])))) :
    ∃ v h1,FDoes Tryz.prog cnd 107 [.ptr (some ⟨0,0,0,0,5⟩),.slice (some ⟨1,0,0,0,1⟩) 1 1] (AHeap.of [uRow k0 k1 k2 k3 1 ty,bRow c]) v h1∧K0 v h1 :=
  tcall_does env_ok mixed specs1_ok (hs:= .hint (.rounds 300) (he 8003 (he 1001 (.hint (.val 2001 (.tuple [.int .i64 3,.int .u8 lo,.int .u8 hi])) (hg 7001 (hg 7004 (.hint (.rounds 300) (he 13002 (.br 14002 (he 8003 zv1_10) (.br 14006 (he 8003 zv1_10) (hg 17001 (hg 17003 (hg 17004 (hg 17005 .nil)))))))))))))) (by kernel_rfl) vc
theorem feed14_vc(k0 k1 k2 k3 c lo hi:Int)(ty:Option (TypeId×Nat))(K0:AVal→AHeap→Prop)(vc:CallT Tryz.prog cnd 99 [.int .u8 k0] (AHeap.rowsT 61 [(0,(zv1_11 k0 k1 k2 k3 ty)),(1,(zv0_0 c)),(5,ABlk.made (List.replicate 0 (.int .u8 0)) 1 true),(14,(zv1_5 k0 c ty)),(15,zv2_0)]) (.tuple [.int .i64 4,.int .u8 lo,.int .u8 hi]) (AHeap.rowsT 61 [(0,(zv1_11 k0 k1 k2 k3 ty)),(1,(zv0_0 c)),(5,ABlk.made (List.replicate 0 (.int .u8 0)) 1 true),(14,(zv1_5 k0 c ty)),(15,zv2_0)])∧(-2147483648≤k0∧k0≤2147483647)∧True∧(c<lo→(Prod.fst (leadI c)=0→K0 (zv1_3) (zv1_15 k0 k1 k2 k3 c ty))∧(zv1_17 k0 k1 k2 k3 c ty K0))∧(¬c<lo→(hi<c→(Prod.fst (leadI c)=0→K0 (zv1_3) (zv1_15 k0 k1 k2 k3 c ty))∧(zv1_17 k0 k1 k2 k3 c ty K0))∧(¬hi<c→Int.NonNeg (6-0)∧True∧(-2147483648≤iand IntKind.u8 c (63)∧iand IntKind.u8 c (63)≤2147483647)∧True∧K0 (.slice none 0 0) (AHeap.rowsT 131 [(0,⟨[.agg [.int .u8 k0,.int .u8 c,.int .u8 k2,.int .u8 k3,.int .i64 2]],5,true,false,0,0,0,ty⟩),(1,(zv0_0 c)),(5,ABlk.made (List.replicate 0 (.int .u8 0)) 1 true),(14,(zv1_5 k0 c ty)),(15,zv2_0)])))) :
    ∃ v h1,FDoes Tryz.prog cnd 107 [.ptr (some ⟨0,0,0,0,5⟩),.slice (some ⟨1,0,0,0,1⟩) 1 1] (AHeap.of [uRow k0 k1 k2 k3 1 ty,bRow c]) v h1∧K0 v h1 :=
  tcall_does env_ok mixed specs1_ok (hs:= .hint (.rounds 300) (he 8003 (he 1001 (.hint (.val 2001 (.tuple [.int .i64 4,.int .u8 lo,.int .u8 hi])) (hg 7001 (hg 7004 (.hint (.rounds 300) (he 13002 (.br 14002 (he 8003 zv1_10) (.br 14006 (he 8003 zv1_10) (hg 17001 (hg 17003 (hg 17004 (hg 17005 .nil)))))))))))))) (by kernel_rfl) vc
abbrev zv4_0:AVal:=AVal.slice (some ⟨14,1,2,0,1⟩) 1 1
abbrev zv4_1:AVal:=AVal.slice (some ⟨14,1,3,0,1⟩) 0 0
abbrev zv4_2:AVal:=AVal.slice (some ⟨140,0,0,0,1⟩) 1 1
abbrev zv4_3:AVal:=AVal.slice (some ⟨140,1,0,0,1⟩) 2 2
abbrev zv4_4(k0:Int)(k1:Int)(c:Int)(ty:Option (TypeId×Nat)):ABlk:=⟨[.int .u8 k0,.int .u8 k1,.int .u8 c],1,false,false,1,0,2,some (5,0)⟩
abbrev zv4_5:ABlk:=(ABlk.made ([zv4_0]) 1 true (some (34,1)))
abbrev zv4_6:ABlk:=(ABlk.made ([zv4_1]) 1 true (some (34,1)))
abbrev zv4_7(k0:Int)(k1:Int)(k2:Int)(k3:Int)(c:Int)(ty:Option (TypeId×Nat)):AHeap:=(AHeap.rowsT 61 [(0,(zv1_11 k0 k1 k2 k3 ty)),(1,(zv0_0 c)),(5,ABlk.made (List.replicate 0 (.int .u8 0)) 1 true),(14,(zv4_4 k0 k1 c ty)),(15,(ABlk.made ([.slice (some ⟨14,1,0,0,1⟩) 3 3]) 1 true (some (34,1))))])
abbrev zv4_8(k0:Int)(k1:Int)(k2:Int)(k3:Int)(c:Int)(ty:Option (TypeId×Nat)):AHeap:=(AHeap.rowsT 215 [(0,(zv0_5 k1 k2 k3 c ty)),(1,(zv0_0 c)),(5,ABlk.made (List.replicate 0 (.int .u8 0)) 1 true),(14,(zv4_4 k0 k1 c ty)),(15,zv4_5),(139,ABlk.made [.int .i32 65533] 1 true),(140,ABlk.made [.int .i32 65533] 1 false (some (21,0)))])
abbrev zv4_9(k0:Int)(k1:Int)(k2:Int)(k3:Int)(c:Int)(ty:Option (TypeId×Nat)):AHeap:=(AHeap.rowsT 205 [(0,(zv1_11 k0 k1 k2 k3 ty)),(1,(zv0_0 c)),(5,ABlk.made (List.replicate 0 (.int .u8 0)) 1 true),(14,(zv4_4 k0 k1 c ty)),(15,zv4_6),(139,ABlk.made [.int .i32 65533] 1 true),(140,(zv1_6 c ty)),(193,ABlk.made [.int .i32 c] 1 true)])
abbrev zv4_10(k0:Int)(k1:Int)(k2:Int)(k3:Int)(c:Int)(ty:Option (TypeId×Nat)):AHeap:=(AHeap.rowsT 201 [(0,(zv1_11 k0 k1 k2 k3 ty)),(1,(zv0_0 c)),(5,ABlk.made (List.replicate 0 (.int .u8 0)) 1 true),(14,(zv4_4 k0 k1 c ty)),(15,zv4_6),(139,ABlk.made [.int .i32 65533] 1 true),(140,(zv1_7 ty)),(189,ABlk.made [.int .i32 65533] 1 true)])
abbrev zv4_11(k0:Int)(k1:Int)(k2:Int)(k3:Int)(c:Int)(ty:Option (TypeId×Nat))(K0:AVal→AHeap→Prop):Prop:=(¬Prod.fst (leadI c)=2→(Prod.fst (leadI c)=3→(-2147483648≤c∧c≤2147483647)∧True∧K0 (zv4_2) (zv4_8 k0 k1 k2 k3 c ty))∧(¬Prod.fst (leadI c)=3→(-2147483648≤c∧c≤2147483647)∧True∧K0 (zv4_2) (zv4_8 k0 k1 k2 k3 c ty)))
abbrev zv4_12(k0:Int)(k1:Int)(k2:Int)(k3:Int)(c:Int)(ty:Option (TypeId×Nat))(K0:AVal→AHeap→Prop):Prop:=(¬Prod.fst (leadI c)=0→(Prod.fst (leadI c)=1→(-2147483648≤c∧c≤2147483647)∧K0 (zv4_3) (zv4_9 k0 k1 k2 k3 c ty))∧(¬Prod.fst (leadI c)=1→(Prod.fst (leadI c)=2→(-2147483648≤c∧c≤2147483647)∧True∧K0 (zv4_2) (zv4_8 k0 k1 k2 k3 c ty))∧(zv4_11 k0 k1 k2 k3 c ty K0)))
theorem feed23_vc(k0 k1 k2 k3 c lo hi:Int)(ty:Option (TypeId×Nat))(K0:AVal→AHeap→Prop)(vc:CallT Tryz.prog cnd 99 [.int .u8 k0] (zv4_7 k0 k1 k2 k3 c ty) (.tuple [.int .i64 3,.int .u8 lo,.int .u8 hi]) (zv4_7 k0 k1 k2 k3 c ty)∧(-2147483648≤k0∧k0≤2147483647)∧True∧some (AVal.bool (decide (k1<lo)))=some (AVal.bool false)∧some (AVal.bool (decide (k1>hi)))=some (AVal.bool false)∧Int.NonNeg (6-0)∧True∧(-2147483648≤iand IntKind.u8 k1 (63)∧iand IntKind.u8 k1 (63)≤2147483647)∧True∧(c<128→(Prod.fst (leadI c)=0→K0 (zv4_3) (zv4_10 k0 k1 k2 k3 c ty))∧(zv4_12 k0 k1 k2 k3 c ty K0))∧(¬c<128→(191<c→(Prod.fst (leadI c)=0→K0 (zv4_3) (zv4_10 k0 k1 k2 k3 c ty))∧(zv4_12 k0 k1 k2 k3 c ty K0))∧(¬191<c→Int.NonNeg (6-0)∧True∧(-2147483648≤iand IntKind.u8 c (63)∧iand IntKind.u8 c (63)≤2147483647)∧True∧K0 (.slice (some ⟨156,0,0,0,1⟩) 1 1) (AHeap.rowsT 167 [(0,(zv1_11 k0 k1 k2 k3 ty)),(1,(zv0_0 c)),(5,ABlk.made (List.replicate 0 (.int .u8 0)) 1 true),(14,(zv4_4 k0 k1 c ty)),(15,zv4_6),(155,ABlk.made [.int .i32 (ior IntKind.i32 (ishl IntKind.i32 (ior IntKind.i32 (ishl IntKind.i32 (iand IntKind.i32 k0 (15)) (6)) (iand IntKind.u8 k1 (63))) (6)) (iand IntKind.u8 c (63)))] 1 true),(156,ABlk.made [.int .i32 (ior IntKind.i32 (ishl IntKind.i32 (ior IntKind.i32 (ishl IntKind.i32 (iand IntKind.i32 k0 (15)) (6)) (iand IntKind.u8 k1 (63))) (6)) (iand IntKind.u8 c (63)))] 1 false (some (21,0)))])))) :
    ∃ v h1,FDoes Tryz.prog cnd 107 [.ptr (some ⟨0,0,0,0,5⟩),.slice (some ⟨1,0,0,0,1⟩) 1 1] (AHeap.of [uRow k0 k1 k2 k3 2 ty,bRow c]) v h1∧K0 v h1 :=
  tcall_does env_ok mixed specs1_ok (hs:= .hint (.rounds 300) (he 8003 (he 1001 (.hint (.val 2001 (.tuple [.int .i64 3,.int .u8 lo,.int .u8 hi])) (hg 7001 (hg 7004 (.hint (.rounds 300) (he 13002 (.hint (.val 14002 (.bool false)) (.hint (.val 14006 (.bool false)) (hg 17001 (hg 17003 (hg 17004 (hg 17005 (he 13002 (.br 14002 (he 8003 zv1_10) (.br 14006 (he 8003 zv1_10) (hg 17001 (hg 17003 (hg 17004 (hg 17005 .nil))))))))))))))))))))) (by kernel_rfl) vc
abbrev zv5_0:ABlk:=(ABlk.made ([.slice (some ⟨14,1,0,0,1⟩) 3 3]) 1 true (some (34,1)))
theorem feed24_vc(k0 k1 k2 k3 c lo hi:Int)(ty:Option (TypeId×Nat))(K0:AVal→AHeap→Prop)(vc:CallT Tryz.prog cnd 99 [.int .u8 k0] (AHeap.rowsT 61 [(0,(zv1_11 k0 k1 k2 k3 ty)),(1,(zv0_0 c)),(5,ABlk.made (List.replicate 0 (.int .u8 0)) 1 true),(14,(zv4_4 k0 k1 c ty)),(15,zv5_0)]) (.tuple [.int .i64 4,.int .u8 lo,.int .u8 hi]) (AHeap.rowsT 61 [(0,(zv1_11 k0 k1 k2 k3 ty)),(1,(zv0_0 c)),(5,ABlk.made (List.replicate 0 (.int .u8 0)) 1 true),(14,(zv4_4 k0 k1 c ty)),(15,zv5_0)])∧(-2147483648≤k0∧k0≤2147483647)∧True∧some (AVal.bool (decide (k1<lo)))=some (AVal.bool false)∧some (AVal.bool (decide (k1>hi)))=some (AVal.bool false)∧Int.NonNeg (6-0)∧True∧(-2147483648≤iand IntKind.u8 k1 (63)∧iand IntKind.u8 k1 (63)≤2147483647)∧True∧(c<128→(Prod.fst (leadI c)=0→K0 (zv4_3) (zv4_10 k0 k1 k2 k3 c ty))∧(zv4_12 k0 k1 k2 k3 c ty K0))∧(¬c<128→(191<c→(Prod.fst (leadI c)=0→K0 (zv4_3) (zv4_10 k0 k1 k2 k3 c ty))∧(zv4_12 k0 k1 k2 k3 c ty K0))∧(¬191<c→Int.NonNeg (6-0)∧True∧(-2147483648≤iand IntKind.u8 c (63)∧iand IntKind.u8 c (63)≤2147483647)∧True∧K0 (.slice none 0 0) (AHeap.rowsT 167 [(0,⟨[.agg [.int .u8 k0,.int .u8 k1,.int .u8 c,.int .u8 k3,.int .i64 3]],5,true,false,0,0,0,ty⟩),(1,(zv0_0 c)),(5,ABlk.made (List.replicate 0 (.int .u8 0)) 1 true),(14,(zv4_4 k0 k1 c ty)),(15,zv5_0)])))) :
    ∃ v h1,FDoes Tryz.prog cnd 107 [.ptr (some ⟨0,0,0,0,5⟩),.slice (some ⟨1,0,0,0,1⟩) 1 1] (AHeap.of [uRow k0 k1 k2 k3 2 ty,bRow c]) v h1∧K0 v h1 :=
  tcall_does env_ok mixed specs1_ok (hs:= .hint (.rounds 300) (he 8003 (he 1001 (.hint (.val 2001 (.tuple [.int .i64 4,.int .u8 lo,.int .u8 hi])) (hg 7001 (hg 7004 (.hint (.rounds 300) (he 13002 (.hint (.val 14002 (.bool false)) (.hint (.val 14006 (.bool false)) (hg 17001 (hg 17003 (hg 17004 (hg 17005 (he 13002 (.br 14002 (he 8003 zv1_10) (.br 14006 (he 8003 zv1_10) (hg 17001 (hg 17003 (hg 17004 (hg 17005 .nil))))))))))))))))))))) (by kernel_rfl) vc
abbrev zv6_0:AVal:=AVal.slice (some ⟨14,1,3,0,1⟩) 1 1
abbrev zv6_1:AVal:=AVal.slice (some ⟨14,1,4,0,1⟩) 0 0
abbrev zv6_2:AVal:=AVal.slice (some ⟨176,0,0,0,1⟩) 1 1
abbrev zv6_3:AVal:=AVal.slice (some ⟨176,1,0,0,1⟩) 2 2
abbrev zv6_4(k0:Int)(k1:Int)(k2:Int)(c:Int)(ty:Option (TypeId×Nat)):ABlk:=⟨[.int .u8 k0,.int .u8 k1,.int .u8 k2,.int .u8 c],1,false,false,1,0,3,some (5,0)⟩
abbrev zv6_5:ABlk:=(ABlk.made ([zv6_0]) 1 true (some (34,1)))
abbrev zv6_6:ABlk:=(ABlk.made ([zv6_1]) 1 true (some (34,1)))
abbrev zv6_7(k0:Int)(k1:Int)(k2:Int)(k3:Int)(c:Int)(ty:Option (TypeId×Nat)):AHeap:=(AHeap.rowsT 61 [(0,(zv1_11 k0 k1 k2 k3 ty)),(1,(zv0_0 c)),(5,ABlk.made (List.replicate 0 (.int .u8 0)) 1 true),(14,(zv6_4 k0 k1 k2 c ty)),(15,(ABlk.made ([.slice (some ⟨14,1,0,0,1⟩) 4 4]) 1 true (some (34,1))))])
abbrev zv6_8(k0:Int)(k1:Int)(k2:Int)(k3:Int)(c:Int)(ty:Option (TypeId×Nat)):AHeap:=(AHeap.rowsT 251 [(0,(zv0_5 k1 k2 k3 c ty)),(1,(zv0_0 c)),(5,ABlk.made (List.replicate 0 (.int .u8 0)) 1 true),(14,(zv6_4 k0 k1 k2 c ty)),(15,zv6_5),(175,ABlk.made [.int .i32 65533] 1 true),(176,ABlk.made [.int .i32 65533] 1 false (some (21,0)))])
abbrev zv6_9(k0:Int)(k1:Int)(k2:Int)(k3:Int)(c:Int)(ty:Option (TypeId×Nat)):AHeap:=(AHeap.rowsT 241 [(0,(zv1_11 k0 k1 k2 k3 ty)),(1,(zv0_0 c)),(5,ABlk.made (List.replicate 0 (.int .u8 0)) 1 true),(14,(zv6_4 k0 k1 k2 c ty)),(15,zv6_6),(175,ABlk.made [.int .i32 65533] 1 true),(176,(zv1_6 c ty)),(229,ABlk.made [.int .i32 c] 1 true)])
abbrev zv6_10(k0:Int)(k1:Int)(k2:Int)(k3:Int)(c:Int)(ty:Option (TypeId×Nat)):AHeap:=(AHeap.rowsT 237 [(0,(zv1_11 k0 k1 k2 k3 ty)),(1,(zv0_0 c)),(5,ABlk.made (List.replicate 0 (.int .u8 0)) 1 true),(14,(zv6_4 k0 k1 k2 c ty)),(15,zv6_6),(175,ABlk.made [.int .i32 65533] 1 true),(176,(zv1_7 ty)),(225,ABlk.made [.int .i32 65533] 1 true)])
abbrev zv6_11(k0:Int)(k1:Int)(k2:Int)(k3:Int)(c:Int)(ty:Option (TypeId×Nat))(K0:AVal→AHeap→Prop):Prop:=(¬Prod.fst (leadI c)=2→(Prod.fst (leadI c)=3→(-2147483648≤c∧c≤2147483647)∧True∧K0 (zv6_2) (zv6_8 k0 k1 k2 k3 c ty))∧(¬Prod.fst (leadI c)=3→(-2147483648≤c∧c≤2147483647)∧True∧K0 (zv6_2) (zv6_8 k0 k1 k2 k3 c ty)))
abbrev zv6_12(k0:Int)(k1:Int)(k2:Int)(k3:Int)(c:Int)(ty:Option (TypeId×Nat))(K0:AVal→AHeap→Prop):Prop:=(¬Prod.fst (leadI c)=0→(Prod.fst (leadI c)=1→(-2147483648≤c∧c≤2147483647)∧K0 (zv6_3) (zv6_9 k0 k1 k2 k3 c ty))∧(¬Prod.fst (leadI c)=1→(Prod.fst (leadI c)=2→(-2147483648≤c∧c≤2147483647)∧True∧K0 (zv6_2) (zv6_8 k0 k1 k2 k3 c ty))∧(zv6_11 k0 k1 k2 k3 c ty K0)))
theorem feed34_vc(k0 k1 k2 k3 c lo hi:Int)(ty:Option (TypeId×Nat))(K0:AVal→AHeap→Prop)(vc:CallT Tryz.prog cnd 99 [.int .u8 k0] (zv6_7 k0 k1 k2 k3 c ty) (.tuple [.int .i64 4,.int .u8 lo,.int .u8 hi]) (zv6_7 k0 k1 k2 k3 c ty)∧(-2147483648≤k0∧k0≤2147483647)∧True∧some (AVal.bool (decide (k1<lo)))=some (AVal.bool false)∧some (AVal.bool (decide (k1>hi)))=some (AVal.bool false)∧Int.NonNeg (6-0)∧True∧(-2147483648≤iand IntKind.u8 k1 (63)∧iand IntKind.u8 k1 (63)≤2147483647)∧True∧some (AVal.bool (decide (k2<128)))=some (AVal.bool false)∧some (AVal.bool (decide (k2>191)))=some (AVal.bool false)∧Int.NonNeg (6-0)∧True∧(-2147483648≤iand IntKind.u8 k2 (63)∧iand IntKind.u8 k2 (63)≤2147483647)∧True∧(c<128→(Prod.fst (leadI c)=0→K0 (zv6_3) (zv6_10 k0 k1 k2 k3 c ty))∧(zv6_12 k0 k1 k2 k3 c ty K0))∧(¬c<128→(191<c→(Prod.fst (leadI c)=0→K0 (zv6_3) (zv6_10 k0 k1 k2 k3 c ty))∧(zv6_12 k0 k1 k2 k3 c ty K0))∧(¬191<c→Int.NonNeg (6-0)∧True∧(-2147483648≤iand IntKind.u8 c (63)∧iand IntKind.u8 c (63)≤2147483647)∧True∧K0 (.slice (some ⟨192,0,0,0,1⟩) 1 1) (AHeap.rowsT 203 [(0,(zv1_11 k0 k1 k2 k3 ty)),(1,(zv0_0 c)),(5,ABlk.made (List.replicate 0 (.int .u8 0)) 1 true),(14,(zv6_4 k0 k1 k2 c ty)),(15,zv6_6),(191,ABlk.made [.int .i32 (ior IntKind.i32 (ishl IntKind.i32 (ior IntKind.i32 (ishl IntKind.i32 (ior IntKind.i32 (ishl IntKind.i32 (iand IntKind.i32 k0 (7)) (6)) (iand IntKind.u8 k1 (63))) (6)) (iand IntKind.u8 k2 (63))) (6)) (iand IntKind.u8 c (63)))] 1 true),(192,ABlk.made [.int .i32 (ior IntKind.i32 (ishl IntKind.i32 (ior IntKind.i32 (ishl IntKind.i32 (ior IntKind.i32 (ishl IntKind.i32 (iand IntKind.i32 k0 (7)) (6)) (iand IntKind.u8 k1 (63))) (6)) (iand IntKind.u8 k2 (63))) (6)) (iand IntKind.u8 c (63)))] 1 false (some (21,0)))])))) :
    ∃ v h1,FDoes Tryz.prog cnd 107 [.ptr (some ⟨0,0,0,0,5⟩),.slice (some ⟨1,0,0,0,1⟩) 1 1] (AHeap.of [uRow k0 k1 k2 k3 3 ty,bRow c]) v h1∧K0 v h1 :=
  tcall_does env_ok mixed specs1_ok (hs:= .hint (.rounds 300) (he 8003 (he 1001 (.hint (.val 2001 (.tuple [.int .i64 4,.int .u8 lo,.int .u8 hi])) (hg 7001 (hg 7004 (.hint (.rounds 300) (he 13002 (.hint (.val 14002 (.bool false)) (.hint (.val 14006 (.bool false)) (hg 17001 (hg 17003 (hg 17004 (hg 17005 (he 13002 (.hint (.val 14002 (.bool false)) (.hint (.val 14006 (.bool false)) (hg 17001 (hg 17003 (hg 17004 (hg 17005 (he 13002 (.br 14002 (he 8003 zv1_10) (.br 14006 (he 8003 zv1_10) (hg 17001 (hg 17003 (hg 17004 (hg 17005 .nil)))))))))))))))))))))))))))) (by kernel_rfl) vc
end Go.Proofs.YtddnafghiejcoaaGreatDoor
namespace Go.Lift
theorem mask2: ∀ n:Fin 256,iand .i32 (n.val:Int) 31=(n.val % 32:Nat):=by decide+kernel
theorem mask3: ∀ n:Fin 256,iand .i32 (n.val:Int) 15=(n.val % 16:Nat):=by decide+kernel
theorem mask4: ∀ n:Fin 256,iand .i32 (n.val:Int) 7=(n.val % 8:Nat):=by decide+kernel
theorem mask6: ∀ n:Fin 256,iand .u8 (n.val:Int) 63=(n.val % 64:Nat):=by decide+kernel
theorem mask2b(b:UInt8):iand .i32 (b.toNat:Int) 31=(b.toNat % 32:Nat):=mask2 ⟨b.toNat,b.toNat_lt⟩
theorem mask3b(b:UInt8):iand .i32 (b.toNat:Int) 15=(b.toNat % 16:Nat):=mask3 ⟨b.toNat,b.toNat_lt⟩
theorem mask4b(b:UInt8):iand .i32 (b.toNat:Int) 7=(b.toNat % 8:Nat):=mask4 ⟨b.toNat,b.toNat_lt⟩
theorem mask6b(b:UInt8):iand .u8 (b.toNat:Int) 63=(b.toNat % 64:Nat):=mask6 ⟨b.toNat,b.toNat_lt⟩
theorem shl6(a:Nat)(h:a<33554432):ishl .i32 (a:Int) 6=(a*64:Nat):=by
  unfold ishl
  rw [show min (Int.toNat 6) (IntKind.bits .i32)=6 by decide]
  rw [show((a:Int)*2^6)=(a*64:Nat)by push_cast;rfl]
  exact wrap_fit (k:= .i32) (by simp only [FitK];omega)
theorem or6(a x:Nat)(h:a<16777216)(hx:x<64):ior .i32 ((a*64:Nat):Int) (x:Int)=(a*64+x:Nat):=by
  unfold ior
  have e:(BitVec.ofInt (IntKind.bits .i32) ((a*64:Nat):Int) ||| BitVec.ofInt (IntKind.bits .i32) (x:Int)).toNat=a*64+x:=by
    rw [show IntKind.bits .i32=32 by rfl,BitVec.ofInt_natCast,BitVec.ofInt_natCast,BitVec.toNat_or,BitVec.toNat_ofNat,BitVec.toNat_ofNat,Nat.mod_eq_of_lt (by omega),Nat.mod_eq_of_lt (by omega)]
    rw [show a*64=2^6*a by omega,← Nat.two_pow_add_eq_or_of_lt (by omega) a]
  rw [e]
  exact wrap_fit (k:= .i32) (by simp only [FitK];omega)
end Go.Lift
namespace Go.Proofs.YtddnafghiejcoaaGreatDoor
open Go.Lift Go.Keys
set_option maxRecDepth 1000000
def castT(x:Nat×Nat×Nat):Int×Int×Int:=((x.1:Int),(x.2.1:Int),(x.2.2:Int))
theorem leadI_cast(n:Nat):leadI (n:Int)=castT (lead n):=by
  have a1:((n:Int)<128)=(n<128):=propext (by omega)
  have a2:(194≤(n:Int)∧(n:Int)≤223)=(194≤n∧n≤223):=propext (by omega)
  have a3:((n:Int)=224)=(n=224):=propext (by omega)
  have a4:((n:Int)=237)=(n=237):=propext (by omega)
  have a5:(225≤(n:Int)∧(n:Int)≤239)=(225≤n∧n≤239):=propext (by omega)
  have a6:((n:Int)=240)=(n=240):=propext (by omega)
  have a7:(241≤(n:Int)∧(n:Int)≤243)=(241≤n∧n≤243):=propext (by omega)
  have a8:((n:Int)=244)=(n=244):=propext (by omega)
  unfold leadI lead
  simp only [a1,a2,a3,a4,a5,a6,a7,a8]
  by_cases c1:n<128
  · simp only [if_pos c1];rfl
  by_cases c2:194≤n∧n≤223
  · simp only [if_neg c1,if_pos c2];rfl
  by_cases c3:n=224
  · simp only [if_neg c1,if_neg c2,if_pos c3];rfl
  by_cases c4:n=237
  · simp only [if_neg c1,if_neg c2,if_neg c3,if_pos c4];rfl
  by_cases c5:225≤n∧n≤239
  · simp only [if_neg c1,if_neg c2,if_neg c3,if_neg c4,if_pos c5];rfl
  by_cases c6:n=240
  · simp only [if_neg c1,if_neg c2,if_neg c3,if_neg c4,if_neg c5,if_pos c6];rfl
  by_cases c7:241≤n∧n≤243
  · simp only [if_neg c1,if_neg c2,if_neg c3,if_neg c4,if_neg c5,if_neg c6,if_pos c7];rfl
  by_cases c8:n=244
  · simp only [if_neg c1,if_neg c2,if_neg c3,if_neg c4,if_neg c5,if_neg c6,if_neg c7,if_pos c8];rfl
  · simp only [if_neg c1,if_neg c2,if_neg c3,if_neg c4,if_neg c5,if_neg c6,if_neg c7,if_neg c8];rfl
theorem leadI_nat(n:Nat):leadI (n:Int)=(((lead n).1:Int),((lead n).2.1:Int),((lead n).2.2:Int)):=leadI_cast n
theorem leadI_1(b:UInt8):(leadI (b.toNat:Int)).1=(lead b.toNat).1:=by rw [leadI_nat]
theorem lead_cases(n:Nat):(lead n).1=0∨(lead n).1=1∨(lead n).1=2∨(lead n).1=3∨(lead n).1=4:=by
  unfold lead
  repeat' split
  all_goals simp
def uK(h:Bytes)(i:Nat)(k:Int):Int:=match h[i]? with | some b=>b.toNat | none=>k
abbrev uRowH(h:Bytes)(k0 k1 k2 k3:Int)(ty:Option (TypeId×Nat)):ABlk:=uRow (uK h 0 k0) (uK h 1 k1) (uK h 2 k2) (uK h 3 k3) h.length ty
abbrev lRow1(r:Nat):ABlk:=ABlk.made [.int .i32 r] 1 false (some (21,0))
abbrev lRow2(r s:Nat):ABlk:= {elems:= [.int .i32 r,.int .i32 s],es:=1,exact:=false,ro:=false,ver:=1,minVer:=0,forkLen:=1,ty:=some (21,0)}
def FeedPost(k0 k1 k2 k3 c:Int)(ty:Option (TypeId×Nat))(q:List Nat×Bytes)(v:AVal)(h:AHeap):Prop :=
  h.get 0=some (uRowH q.2 k0 k1 k2 k3 ty)∧h.get 1=some (bRow c) ∧
  match q.1 with
  | []=>v= .slice none 0 0
  | [r]=> ∃ j,2≤j∧v= .slice (some ⟨j,0,0,0,1⟩) 1 1∧h.get j=some (lRow1 r)
  | [r,s]=> ∃ j,2≤j∧v= .slice (some ⟨j,1,0,0,1⟩) 2 2∧h.get j=some (lRow2 r s)
  | _=>False
theorem feedPost0 {k0 k1 k2 k3 c:Int}{ty:Option (TypeId×Nat)}{q:List Nat×Bytes}{h2:Bytes}(e:q=([],h2)){h:AHeap}(h0:h.get 0=some (uRowH h2 k0 k1 k2 k3 ty))(h1:h.get 1=some (bRow c)):FeedPost k0 k1 k2 k3 c ty q (.slice none 0 0) h:=by
  subst e;exact⟨h0,h1,rfl⟩
theorem feedPost1 {k0 k1 k2 k3 c:Int}{ty:Option (TypeId×Nat)}{q:List Nat×Bytes}{r:Nat}{h2:Bytes}(e:q=([r],h2)){h:AHeap}{j:Nat}(hj:2≤j)(h0:h.get 0=some (uRowH h2 k0 k1 k2 k3 ty))(h1:h.get 1=some (bRow c))(hr:h.get j=some (lRow1 r)) :
    FeedPost k0 k1 k2 k3 c ty q (.slice (some ⟨j,0,0,0,1⟩) 1 1) h:=by
  subst e;exact⟨h0,h1,j,hj,rfl,hr⟩
theorem feedPost2 {k0 k1 k2 k3 c:Int}{ty:Option (TypeId×Nat)}{q:List Nat×Bytes}{r s:Nat}{h2:Bytes}(e:q=([r,s],h2)){h:AHeap}{j:Nat}(hj:2≤j)(h0:h.get 0=some (uRowH h2 k0 k1 k2 k3 ty))(h1:h.get 1=some (bRow c))(hr:h.get j=some (lRow2 r s)) :
    FeedPost k0 k1 k2 k3 c ty q (.slice (some ⟨j,1,0,0,1⟩) 2 2) h:=by
  subst e;exact⟨h0,h1,j,hj,rfl,hr⟩
theorem byte_fit(b:UInt8): -2147483648≤(b.toNat:Int)∧(b.toNat:Int)≤2147483647:=by have:=b.toNat_lt;omega
theorem iand_fit(b:UInt8): -2147483648≤iand .u8 (b.toNat:Int) 63∧iand .u8 (b.toNat:Int) 63≤2147483647:=by rw [mask6b];omega
theorem feed1_nil0(c:UInt8)(h:(lead c.toNat).1=0):feed1 [] c=([65533],[]):=by simp [feed1,feedN,first,h]
theorem feed1_nil1(c:UInt8)(h:(lead c.toNat).1=1):feed1 [] c=([c.toNat],[]):=by simp [feed1,feedN,first,h]
theorem first_more(b:UInt8)(r:Bytes)(n:Nat)(h:(lead b.toNat).1=n+2):first (b::r)=tail (n+1) 1 (lead b.toNat).2.1 (lead b.toNat).2.2 (b.toNat % 2^(7- (n+2))) r:=by
  simp only [first,h]
  rw [if_neg (by omega),if_neg (by omega)];rfl
theorem feed1_nil2(c:UInt8)(n:Nat)(h:(lead c.toNat).1=n+2):feed1 [] c=([],[c]):=by
  simp [feed1,feedN,first_more c [] n h,tail]
theorem feed0_post(c:UInt8)(k0 k1 k2 k3:Int)(ty:Option (TypeId×Nat)) :
    ∃ v h1,FDoes Tryz.prog cnd 107 [.ptr (some ⟨0,0,0,0,5⟩),.slice (some ⟨1,0,0,0,1⟩) 1 1] (AHeap.of [uRow k0 k1 k2 k3 0 ty,bRow c.toNat]) v h1∧FeedPost k0 k1 k2 k3 c.toNat ty (feed1 [] c) v h1:=by
  refine feed0_vc k0 k1 k2 k3 c.toNat 0 0 ty _ ?_
  delta zv0_6 zv0_2 zv0_0 zv0_5 zv0_3 zv0_4
  rw [leadI_1]
  refine⟨fun e=>feedPost1 (feed1_nil0 c (by omega)) (by decide) rfl rfl rfl,fun n0=>⟨fun e=>⟨byte_fit c,feedPost1 (feed1_nil1 c (by omega)) (by decide) rfl rfl rfl⟩,fun n1=>⟨fun e=>⟨byte_fit c,trivial,feedPost0 (feed1_nil2 c 0 (by omega)) rfl rfl⟩,
    fun n2=>⟨fun e=>⟨byte_fit c,trivial,feedPost0 (feed1_nil2 c 1 (by omega)) rfl rfl⟩,fun n3=>⟨byte_fit c,trivial,feedPost0 (feed1_nil2 c 2 (by have:=lead_cases c.toNat;omega)) rfl rfl⟩⟩⟩⟩⟩
theorem nn6:Int.NonNeg (6-0):=(show(0:Int)≤6 by decide)
theorem feedN_nil(k:Nat):feedN k []=([],[]):=by cases k<;>rfl
theorem feedN_one (k:Nat) (c:UInt8):feedN (k+1) [c]=feedN 1 [c]:=by
  have hd: ∀ n,1≤n→List.drop n [c]= []:=fun n hn=>by rw [List.drop_eq_nil_iff];simpa using hn
  have hn:(first [c]).2.2=false→1≤(first [c]).2.1:=by
    intro h
    by_cases h0:(lead c.toNat).1=0
    · simp [first,h0]
    · by_cases h1:(lead c.toNat).1=1
      · simp [first,h1]
      · rw [first_more c [] ((lead c.toNat).1-2) (by omega)]at h
        simp [tail]at h
  simp only [feedN]
  cases h:(first [c]).2.2 with
  | true=>simp
  | false=>simp only [Bool.false_eq_true,if_false];rw [hd _ (hn h),feedN_nil]
theorem feed1_bad(b:UInt8)(r:Bytes)(c:UInt8)(v:Nat)(hb:first (b::r++ [c])=(v,(b::r).length,false)):feed1 (b::r) c=(v::(feed1 [] c).1,(feed1 [] c).2):=by
  unfold feed1
  simp only [List.cons_append,List.length_cons,feedN]
  have hb':first (b::(r++ [c]))=(v,r.length+1,false):=hb
  simp only [hb',Bool.false_eq_true,if_false,List.drop_succ_cons]
  rw [List.drop_left,feedN_one];rfl
theorem feed1_done(b:UInt8)(r:Bytes)(c:UInt8)(v:Nat)(hb:first (b::r++ [c])=(v,(b::r).length+1,false)):feed1 (b::r) c=([v],[]):=by
  unfold feed1
  simp only [List.cons_append,List.length_cons,feedN]
  have hb':first (b::(r++ [c]))=(v,r.length+1+1,false):=hb
  simp only [hb',Bool.false_eq_true,if_false,List.drop_succ_cons]
  rw [List.drop_eq_nil_of_le (by simp),feedN_nil]
theorem feed1_open(b:UInt8)(r:Bytes)(c:UInt8)(hb:(first (b::r++ [c])).2.2=true):feed1 (b::r) c=([],b::r++ [c]):=by
  unfold feed1
  simp only [List.cons_append,List.length_cons,feedN]
  have hb':(first (b::(r++ [c]))).2.2=true:=hb
  rw [if_pos hb']
theorem feed12_post(b0 c:UInt8)(k1 k2 k3:Int)(ty:Option (TypeId×Nat))(hl:(lead b0.toNat).1=2) :
    ∃ v h1,FDoes Tryz.prog cnd 107 [.ptr (some ⟨0,0,0,0,5⟩),.slice (some ⟨1,0,0,0,1⟩) 1 1] (AHeap.of [uRow b0.toNat k1 k2 k3 1 ty,bRow c.toNat]) v h1∧FeedPost b0.toNat k1 k2 k3 c.toNat ty (feed1 (b0:: []) c) v h1:=by
  have hf: ∀ r,first (b0::r)=tail 1 1 (lead b0.toNat).2.1 (lead b0.toNat).2.2 (b0.toNat % 2^(7-2)) r:=fun r=>first_more b0 r 0 hl
  have hbad:(c.toNat<(lead b0.toNat).2.1∨(lead b0.toNat).2.2<c.toNat)→feed1 (b0:: []) c=(65533::(feed1 [] c).1,(feed1 [] c).2):=fun hc=>feed1_bad _ _ _ _ (by rw [show(b0:: [])++ [c]=b0:: [c]by rfl,hf];simp only [tail];rw [if_pos hc];rfl)
  have hgood: ¬ (c.toNat<(lead b0.toNat).2.1∨(lead b0.toNat).2.2<c.toNat)→feed1 (b0:: []) c=([(b0.toNat % 32)*64+c.toNat % 64],[]):=fun hc=>feed1_done _ _ _ _ (by rw [show(b0:: [])++ [c]=b0:: [c]by rfl,hf];simp only [tail];rw [if_neg hc];rfl)
  have hv:ior .i32 (ishl .i32 (iand .i32 (b0.toNat:Int) 31) 6) (iand .u8 (c.toNat:Int) 63)=(((b0.toNat % 32)*64+c.toNat % 64:Nat):Int):=by
    rw [mask2b,mask6b c,shl6 _ (by omega),or6 _ _ (by omega) (by omega)]
  refine feed12_vc b0.toNat k1 k2 k3 c.toNat (lead b0.toNat).2.1 (lead b0.toNat).2.2 ty _ ?_
  delta zv1_9 zv1_1 zv1_5 zv0_0 zv1_11 zv1_4 zv1_17 zv1_16 zv1_13 zv1_8 zv1_0 zv0_5 zv0_3 zv1_2 zv1_14 zv1_6 zv1_3 zv1_15 zv1_7 zv1_12
  rw [leadI_1]
  refine⟨⟨by have k:=fun H=>lead_does b0.toNat H;simp only [leadV,leadI_nat,hl]at k;exact k _⟩,byte_fit b0,trivial,fun hlt=> ?_,fun hge=>⟨fun hgt=> ?_,fun hle=>⟨nn6,trivial,iand_fit c,trivial,feedPost1 (hgood (by omega)) (by decide) rfl rfl (congrArg (fun x=>some (ABlk.made [.int .i32 x] 1 false (some (21,0)))) hv)⟩⟩⟩
  · exact⟨fun e=>feedPost2 (by rw [hbad (by omega),feed1_nil0 c (by omega)]) (by decide) rfl rfl rfl,fun n0=>⟨fun e=>⟨byte_fit c,feedPost2 (by rw [hbad (by omega),feed1_nil1 c (by omega)]) (by decide) rfl rfl rfl⟩,fun n1=>⟨fun e=>⟨byte_fit c,trivial,feedPost1 (by rw [hbad (by omega),feed1_nil2 c 0 (by omega)]) (by decide) rfl rfl rfl⟩,
      fun n2=>⟨fun e=>⟨byte_fit c,trivial,feedPost1 (by rw [hbad (by omega),feed1_nil2 c 1 (by omega)]) (by decide) rfl rfl rfl⟩,fun n3=>⟨byte_fit c,trivial,feedPost1 (by rw [hbad (by omega),feed1_nil2 c 2 (by have:=lead_cases c.toNat;omega)]) (by decide) rfl rfl rfl⟩⟩⟩⟩⟩
  · exact⟨fun e=>feedPost2 (by rw [hbad (by omega),feed1_nil0 c (by omega)]) (by decide) rfl rfl rfl,fun n0=>⟨fun e=>⟨byte_fit c,feedPost2 (by rw [hbad (by omega),feed1_nil1 c (by omega)]) (by decide) rfl rfl rfl⟩,fun n1=>⟨fun e=>⟨byte_fit c,trivial,feedPost1 (by rw [hbad (by omega),feed1_nil2 c 0 (by omega)]) (by decide) rfl rfl rfl⟩,
      fun n2=>⟨fun e=>⟨byte_fit c,trivial,feedPost1 (by rw [hbad (by omega),feed1_nil2 c 1 (by omega)]) (by decide) rfl rfl rfl⟩,fun n3=>⟨byte_fit c,trivial,feedPost1 (by rw [hbad (by omega),feed1_nil2 c 2 (by have:=lead_cases c.toNat;omega)]) (by decide) rfl rfl rfl⟩⟩⟩⟩⟩
theorem feed13_post(b0 c:UInt8)(k1 k2 k3:Int)(ty:Option (TypeId×Nat))(hl:(lead b0.toNat).1=3) :
    ∃ v h1,FDoes Tryz.prog cnd 107 [.ptr (some ⟨0,0,0,0,5⟩),.slice (some ⟨1,0,0,0,1⟩) 1 1] (AHeap.of [uRow b0.toNat k1 k2 k3 1 ty,bRow c.toNat]) v h1∧FeedPost b0.toNat k1 k2 k3 c.toNat ty (feed1 (b0:: []) c) v h1:=by
  have hf: ∀ r,first (b0::r)=tail 2 1 (lead b0.toNat).2.1 (lead b0.toNat).2.2 (b0.toNat % 2^(7-3)) r:=fun r=>first_more b0 r 1 hl
  have hbad:(c.toNat<(lead b0.toNat).2.1∨(lead b0.toNat).2.2<c.toNat)→feed1 (b0:: []) c=(65533::(feed1 [] c).1,(feed1 [] c).2):=fun hc=>feed1_bad _ _ _ _ (by rw [show(b0:: [])++ [c]=b0:: [c]by rfl,hf];simp only [tail];rw [if_pos hc];rfl)
  have hgood: ¬ (c.toNat<(lead b0.toNat).2.1∨(lead b0.toNat).2.2<c.toNat)→feed1 (b0:: []) c=([],b0:: []++ [c]):=fun hc=>feed1_open _ _ _ (by rw [show(b0:: [])++ [c]=b0:: [c]by rfl,hf];simp only [tail];rw [if_neg hc])
  refine feed13_vc b0.toNat k1 k2 k3 c.toNat (lead b0.toNat).2.1 (lead b0.toNat).2.2 ty _ ?_
  delta zv2_0 zv1_5 zv0_0 zv1_17 zv1_16 zv1_13 zv1_8 zv1_0 zv0_5 zv0_3 zv1_2 zv1_14 zv1_6 zv1_9 zv1_1 zv1_11 zv1_4 zv1_3 zv1_15 zv1_7
  rw [leadI_1]
  refine⟨⟨by have k:=fun H=>lead_does b0.toNat H;simp only [leadV,leadI_nat,hl]at k;exact k _⟩,byte_fit b0,trivial,fun hlt=> ?_,fun hge=>⟨fun hgt=> ?_,fun hle=>⟨nn6,trivial,iand_fit c,trivial,feedPost0 (hgood (by omega)) rfl rfl⟩⟩⟩
  · exact⟨fun e=>feedPost2 (by rw [hbad (by omega),feed1_nil0 c (by omega)]) (by decide) rfl rfl rfl,fun n0=>⟨fun e=>⟨byte_fit c,feedPost2 (by rw [hbad (by omega),feed1_nil1 c (by omega)]) (by decide) rfl rfl rfl⟩,fun n1=>⟨fun e=>⟨byte_fit c,trivial,feedPost1 (by rw [hbad (by omega),feed1_nil2 c 0 (by omega)]) (by decide) rfl rfl rfl⟩,
      fun n2=>⟨fun e=>⟨byte_fit c,trivial,feedPost1 (by rw [hbad (by omega),feed1_nil2 c 1 (by omega)]) (by decide) rfl rfl rfl⟩,fun n3=>⟨byte_fit c,trivial,feedPost1 (by rw [hbad (by omega),feed1_nil2 c 2 (by have:=lead_cases c.toNat;omega)]) (by decide) rfl rfl rfl⟩⟩⟩⟩⟩
  · exact⟨fun e=>feedPost2 (by rw [hbad (by omega),feed1_nil0 c (by omega)]) (by decide) rfl rfl rfl,fun n0=>⟨fun e=>⟨byte_fit c,feedPost2 (by rw [hbad (by omega),feed1_nil1 c (by omega)]) (by decide) rfl rfl rfl⟩,fun n1=>⟨fun e=>⟨byte_fit c,trivial,feedPost1 (by rw [hbad (by omega),feed1_nil2 c 0 (by omega)]) (by decide) rfl rfl rfl⟩,
      fun n2=>⟨fun e=>⟨byte_fit c,trivial,feedPost1 (by rw [hbad (by omega),feed1_nil2 c 1 (by omega)]) (by decide) rfl rfl rfl⟩,fun n3=>⟨byte_fit c,trivial,feedPost1 (by rw [hbad (by omega),feed1_nil2 c 2 (by have:=lead_cases c.toNat;omega)]) (by decide) rfl rfl rfl⟩⟩⟩⟩⟩
theorem feed14_post(b0 c:UInt8)(k1 k2 k3:Int)(ty:Option (TypeId×Nat))(hl:(lead b0.toNat).1=4) :
    ∃ v h1,FDoes Tryz.prog cnd 107 [.ptr (some ⟨0,0,0,0,5⟩),.slice (some ⟨1,0,0,0,1⟩) 1 1] (AHeap.of [uRow b0.toNat k1 k2 k3 1 ty,bRow c.toNat]) v h1∧FeedPost b0.toNat k1 k2 k3 c.toNat ty (feed1 (b0:: []) c) v h1:=by
  have hf: ∀ r,first (b0::r)=tail 3 1 (lead b0.toNat).2.1 (lead b0.toNat).2.2 (b0.toNat % 2^(7-4)) r:=fun r=>first_more b0 r 2 hl
  have hbad:(c.toNat<(lead b0.toNat).2.1∨(lead b0.toNat).2.2<c.toNat)→feed1 (b0:: []) c=(65533::(feed1 [] c).1,(feed1 [] c).2):=fun hc=>feed1_bad _ _ _ _ (by rw [show(b0:: [])++ [c]=b0:: [c]by rfl,hf];simp only [tail];rw [if_pos hc];rfl)
  have hgood: ¬ (c.toNat<(lead b0.toNat).2.1∨(lead b0.toNat).2.2<c.toNat)→feed1 (b0:: []) c=([],b0:: []++ [c]):=fun hc=>feed1_open _ _ _ (by rw [show(b0:: [])++ [c]=b0:: [c]by rfl,hf];simp only [tail];rw [if_neg hc])
  refine feed14_vc b0.toNat k1 k2 k3 c.toNat (lead b0.toNat).2.1 (lead b0.toNat).2.2 ty _ ?_
  delta zv2_0 zv1_5 zv0_0 zv1_17 zv1_16 zv1_13 zv1_8 zv1_0 zv0_5 zv0_3 zv1_2 zv1_14 zv1_6 zv1_9 zv1_1 zv1_11 zv1_4 zv1_3 zv1_15 zv1_7
  rw [leadI_1]
  refine⟨⟨by have k:=fun H=>lead_does b0.toNat H;simp only [leadV,leadI_nat,hl]at k;exact k _⟩,byte_fit b0,trivial,fun hlt=> ?_,fun hge=>⟨fun hgt=> ?_,fun hle=>⟨nn6,trivial,iand_fit c,trivial,feedPost0 (hgood (by omega)) rfl rfl⟩⟩⟩
  · exact⟨fun e=>feedPost2 (by rw [hbad (by omega),feed1_nil0 c (by omega)]) (by decide) rfl rfl rfl,fun n0=>⟨fun e=>⟨byte_fit c,feedPost2 (by rw [hbad (by omega),feed1_nil1 c (by omega)]) (by decide) rfl rfl rfl⟩,fun n1=>⟨fun e=>⟨byte_fit c,trivial,feedPost1 (by rw [hbad (by omega),feed1_nil2 c 0 (by omega)]) (by decide) rfl rfl rfl⟩,
      fun n2=>⟨fun e=>⟨byte_fit c,trivial,feedPost1 (by rw [hbad (by omega),feed1_nil2 c 1 (by omega)]) (by decide) rfl rfl rfl⟩,fun n3=>⟨byte_fit c,trivial,feedPost1 (by rw [hbad (by omega),feed1_nil2 c 2 (by have:=lead_cases c.toNat;omega)]) (by decide) rfl rfl rfl⟩⟩⟩⟩⟩
  · exact⟨fun e=>feedPost2 (by rw [hbad (by omega),feed1_nil0 c (by omega)]) (by decide) rfl rfl rfl,fun n0=>⟨fun e=>⟨byte_fit c,feedPost2 (by rw [hbad (by omega),feed1_nil1 c (by omega)]) (by decide) rfl rfl rfl⟩,fun n1=>⟨fun e=>⟨byte_fit c,trivial,feedPost1 (by rw [hbad (by omega),feed1_nil2 c 0 (by omega)]) (by decide) rfl rfl rfl⟩,
      fun n2=>⟨fun e=>⟨byte_fit c,trivial,feedPost1 (by rw [hbad (by omega),feed1_nil2 c 1 (by omega)]) (by decide) rfl rfl rfl⟩,fun n3=>⟨byte_fit c,trivial,feedPost1 (by rw [hbad (by omega),feed1_nil2 c 2 (by have:=lead_cases c.toNat;omega)]) (by decide) rfl rfl rfl⟩⟩⟩⟩⟩
theorem feed23_post(b0 b1 c:UInt8)(k2 k3:Int)(ty:Option (TypeId×Nat))(hl:(lead b0.toNat).1=3)(h1: ¬ (b1.toNat<(lead b0.toNat).2.1∨(lead b0.toNat).2.2<b1.toNat)) :
    ∃ v h1,FDoes Tryz.prog cnd 107 [.ptr (some ⟨0,0,0,0,5⟩),.slice (some ⟨1,0,0,0,1⟩) 1 1] (AHeap.of [uRow b0.toNat b1.toNat k2 k3 2 ty,bRow c.toNat]) v h1∧FeedPost b0.toNat b1.toNat k2 k3 c.toNat ty (feed1 (b0:: [b1]) c) v h1:=by
  have hf: ∀ r,first (b0::r)=tail 2 1 (lead b0.toNat).2.1 (lead b0.toNat).2.2 (b0.toNat % 2^(7-3)) r:=fun r=>first_more b0 r 1 hl
  have hbad:(c.toNat<128∨191<c.toNat)→feed1 (b0:: [b1]) c=(65533::(feed1 [] c).1,(feed1 [] c).2):=fun hc=>feed1_bad _ _ _ _ (by rw [show(b0:: [b1])++ [c]=b0:: [b1,c]by rfl,hf];simp only [tail];rw [if_neg h1,if_pos hc];rfl)
  have hgood: ¬ (c.toNat<128∨191<c.toNat)→feed1 (b0:: [b1]) c=([((b0.toNat % 16)*64+b1.toNat % 64)*64+c.toNat % 64],[]):=fun hc=>feed1_done _ _ _ _ (by rw [show(b0:: [b1])++ [c]=b0:: [b1,c]by rfl,hf];simp only [tail];rw [if_neg h1,if_neg hc];rfl)
  have hv:ior .i32 (ishl .i32 (ior .i32 (ishl .i32 (iand .i32 (b0.toNat:Int) 15) 6) (iand .u8 (b1.toNat:Int) 63)) 6) (iand .u8 (c.toNat:Int) 63)=((((b0.toNat % 16)*64+b1.toNat % 64)*64+c.toNat % 64:Nat):Int):=by
    rw [mask3b,mask6b b1,mask6b c,shl6 _ (by omega),or6 _ _ (by omega) (by omega),shl6 _ (by omega),or6 _ _ (by omega) (by omega)]
  refine feed23_vc b0.toNat b1.toNat k2 k3 c.toNat (lead b0.toNat).2.1 (lead b0.toNat).2.2 ty _ ?_
  delta zv4_6 zv4_1 zv4_4 zv0_0 zv1_11 zv1_4 zv4_12 zv4_11 zv4_8 zv4_5 zv4_0 zv0_5 zv0_3 zv4_2 zv4_9 zv1_6 zv4_3 zv4_10 zv1_7 zv4_7
  rw [leadI_1]
  refine⟨⟨by have k:=fun H=>lead_does b0.toNat H;simp only [leadV,leadI_nat,hl]at k;exact k _⟩,byte_fit b0,trivial,okF (by omega),okF (by omega),nn6,trivial,iand_fit b1,trivial,fun hlt=> ?_,fun hge=>⟨fun hgt=> ?_,fun hle=>⟨nn6,trivial,iand_fit c,trivial,feedPost1 (hgood (by omega)) (by decide) rfl rfl (congrArg (fun x=>some (ABlk.made [.int .i32 x] 1 false (some (21,0)))) hv)⟩⟩⟩
  · exact⟨fun e=>feedPost2 (by rw [hbad (by omega),feed1_nil0 c (by omega)]) (by decide) rfl rfl rfl,fun n0=>⟨fun e=>⟨byte_fit c,feedPost2 (by rw [hbad (by omega),feed1_nil1 c (by omega)]) (by decide) rfl rfl rfl⟩,fun n1=>⟨fun e=>⟨byte_fit c,trivial,feedPost1 (by rw [hbad (by omega),feed1_nil2 c 0 (by omega)]) (by decide) rfl rfl rfl⟩,
      fun n2=>⟨fun e=>⟨byte_fit c,trivial,feedPost1 (by rw [hbad (by omega),feed1_nil2 c 1 (by omega)]) (by decide) rfl rfl rfl⟩,fun n3=>⟨byte_fit c,trivial,feedPost1 (by rw [hbad (by omega),feed1_nil2 c 2 (by have:=lead_cases c.toNat;omega)]) (by decide) rfl rfl rfl⟩⟩⟩⟩⟩
  · exact⟨fun e=>feedPost2 (by rw [hbad (by omega),feed1_nil0 c (by omega)]) (by decide) rfl rfl rfl,fun n0=>⟨fun e=>⟨byte_fit c,feedPost2 (by rw [hbad (by omega),feed1_nil1 c (by omega)]) (by decide) rfl rfl rfl⟩,fun n1=>⟨fun e=>⟨byte_fit c,trivial,feedPost1 (by rw [hbad (by omega),feed1_nil2 c 0 (by omega)]) (by decide) rfl rfl rfl⟩,
      fun n2=>⟨fun e=>⟨byte_fit c,trivial,feedPost1 (by rw [hbad (by omega),feed1_nil2 c 1 (by omega)]) (by decide) rfl rfl rfl⟩,fun n3=>⟨byte_fit c,trivial,feedPost1 (by rw [hbad (by omega),feed1_nil2 c 2 (by have:=lead_cases c.toNat;omega)]) (by decide) rfl rfl rfl⟩⟩⟩⟩⟩
theorem feed24_post(b0 b1 c:UInt8)(k2 k3:Int)(ty:Option (TypeId×Nat))(hl:(lead b0.toNat).1=4)(h1: ¬ (b1.toNat<(lead b0.toNat).2.1∨(lead b0.toNat).2.2<b1.toNat)) :
    ∃ v h1,FDoes Tryz.prog cnd 107 [.ptr (some ⟨0,0,0,0,5⟩),.slice (some ⟨1,0,0,0,1⟩) 1 1] (AHeap.of [uRow b0.toNat b1.toNat k2 k3 2 ty,bRow c.toNat]) v h1∧FeedPost b0.toNat b1.toNat k2 k3 c.toNat ty (feed1 (b0:: [b1]) c) v h1:=by
  have hf: ∀ r,first (b0::r)=tail 3 1 (lead b0.toNat).2.1 (lead b0.toNat).2.2 (b0.toNat % 2^(7-4)) r:=fun r=>first_more b0 r 2 hl
  have hbad:(c.toNat<128∨191<c.toNat)→feed1 (b0:: [b1]) c=(65533::(feed1 [] c).1,(feed1 [] c).2):=fun hc=>feed1_bad _ _ _ _ (by rw [show(b0:: [b1])++ [c]=b0:: [b1,c]by rfl,hf];simp only [tail];rw [if_neg h1,if_pos hc];rfl)
  have hgood: ¬ (c.toNat<128∨191<c.toNat)→feed1 (b0:: [b1]) c=([],b0:: [b1]++ [c]):=fun hc=>feed1_open _ _ _ (by rw [show(b0:: [b1])++ [c]=b0:: [b1,c]by rfl,hf];simp only [tail];rw [if_neg h1,if_neg hc])
  refine feed24_vc b0.toNat b1.toNat k2 k3 c.toNat (lead b0.toNat).2.1 (lead b0.toNat).2.2 ty _ ?_
  delta zv5_0 zv4_4 zv0_0 zv4_12 zv4_11 zv4_8 zv4_5 zv4_0 zv0_5 zv0_3 zv4_2 zv4_9 zv1_6 zv4_6 zv4_1 zv1_11 zv1_4 zv4_3 zv4_10 zv1_7
  rw [leadI_1]
  refine⟨⟨by have k:=fun H=>lead_does b0.toNat H;simp only [leadV,leadI_nat,hl]at k;exact k _⟩,byte_fit b0,trivial,okF (by omega),okF (by omega),nn6,trivial,iand_fit b1,trivial,fun hlt=> ?_,fun hge=>⟨fun hgt=> ?_,fun hle=>⟨nn6,trivial,iand_fit c,trivial,feedPost0 (hgood (by omega)) rfl rfl⟩⟩⟩
  · exact⟨fun e=>feedPost2 (by rw [hbad (by omega),feed1_nil0 c (by omega)]) (by decide) rfl rfl rfl,fun n0=>⟨fun e=>⟨byte_fit c,feedPost2 (by rw [hbad (by omega),feed1_nil1 c (by omega)]) (by decide) rfl rfl rfl⟩,fun n1=>⟨fun e=>⟨byte_fit c,trivial,feedPost1 (by rw [hbad (by omega),feed1_nil2 c 0 (by omega)]) (by decide) rfl rfl rfl⟩,
      fun n2=>⟨fun e=>⟨byte_fit c,trivial,feedPost1 (by rw [hbad (by omega),feed1_nil2 c 1 (by omega)]) (by decide) rfl rfl rfl⟩,fun n3=>⟨byte_fit c,trivial,feedPost1 (by rw [hbad (by omega),feed1_nil2 c 2 (by have:=lead_cases c.toNat;omega)]) (by decide) rfl rfl rfl⟩⟩⟩⟩⟩
  · exact⟨fun e=>feedPost2 (by rw [hbad (by omega),feed1_nil0 c (by omega)]) (by decide) rfl rfl rfl,fun n0=>⟨fun e=>⟨byte_fit c,feedPost2 (by rw [hbad (by omega),feed1_nil1 c (by omega)]) (by decide) rfl rfl rfl⟩,fun n1=>⟨fun e=>⟨byte_fit c,trivial,feedPost1 (by rw [hbad (by omega),feed1_nil2 c 0 (by omega)]) (by decide) rfl rfl rfl⟩,
      fun n2=>⟨fun e=>⟨byte_fit c,trivial,feedPost1 (by rw [hbad (by omega),feed1_nil2 c 1 (by omega)]) (by decide) rfl rfl rfl⟩,fun n3=>⟨byte_fit c,trivial,feedPost1 (by rw [hbad (by omega),feed1_nil2 c 2 (by have:=lead_cases c.toNat;omega)]) (by decide) rfl rfl rfl⟩⟩⟩⟩⟩
theorem feed34_post(b0 b1 b2 c:UInt8)(k3:Int)(ty:Option (TypeId×Nat))(hl:(lead b0.toNat).1=4)(h1: ¬ (b1.toNat<(lead b0.toNat).2.1∨(lead b0.toNat).2.2<b1.toNat))(h2: ¬ (b2.toNat<128∨191<b2.toNat)) :
    ∃ v h1,FDoes Tryz.prog cnd 107 [.ptr (some ⟨0,0,0,0,5⟩),.slice (some ⟨1,0,0,0,1⟩) 1 1] (AHeap.of [uRow b0.toNat b1.toNat b2.toNat k3 3 ty,bRow c.toNat]) v h1∧FeedPost b0.toNat b1.toNat b2.toNat k3 c.toNat ty (feed1 (b0:: [b1,b2]) c) v h1:=by
  have hf: ∀ r,first (b0::r)=tail 3 1 (lead b0.toNat).2.1 (lead b0.toNat).2.2 (b0.toNat % 2^(7-4)) r:=fun r=>first_more b0 r 2 hl
  have hbad:(c.toNat<128∨191<c.toNat)→feed1 (b0:: [b1,b2]) c=(65533::(feed1 [] c).1,(feed1 [] c).2):=fun hc=>feed1_bad _ _ _ _ (by rw [show(b0:: [b1,b2])++ [c]=b0:: [b1,b2,c]by rfl,hf];simp only [tail];rw [if_neg h1,if_neg h2,if_pos hc];rfl)
  have hgood: ¬ (c.toNat<128∨191<c.toNat)→feed1 (b0:: [b1,b2]) c=([(((b0.toNat % 8)*64+b1.toNat % 64)*64+b2.toNat % 64)*64+c.toNat % 64],[]):=fun hc=>feed1_done _ _ _ _ (by rw [show(b0:: [b1,b2])++ [c]=b0:: [b1,b2,c]by rfl,hf];simp only [tail];rw [if_neg h1,if_neg h2,if_neg hc];rfl)
  have hv:ior .i32 (ishl .i32 (ior .i32 (ishl .i32 (ior .i32 (ishl .i32 (iand .i32 (b0.toNat:Int) 7) 6) (iand .u8 (b1.toNat:Int) 63)) 6) (iand .u8 (b2.toNat:Int) 63)) 6) (iand .u8 (c.toNat:Int) 63)=(((((b0.toNat % 8)*64+b1.toNat % 64)*64+b2.toNat % 64)*64+c.toNat % 64:Nat):Int):=by
    rw [mask4b,mask6b b1,mask6b b2,mask6b c,shl6 _ (by omega),or6 _ _ (by omega) (by omega),shl6 _ (by omega),or6 _ _ (by omega) (by omega),shl6 _ (by omega),or6 _ _ (by omega) (by omega)]
  refine feed34_vc b0.toNat b1.toNat b2.toNat k3 c.toNat (lead b0.toNat).2.1 (lead b0.toNat).2.2 ty _ ?_
  delta zv6_6 zv6_1 zv6_4 zv0_0 zv1_11 zv1_4 zv6_12 zv6_11 zv6_8 zv6_5 zv6_0 zv0_5 zv0_3 zv6_2 zv6_9 zv1_6 zv6_3 zv6_10 zv1_7 zv6_7
  rw [leadI_1]
  refine⟨⟨by have k:=fun H=>lead_does b0.toNat H;simp only [leadV,leadI_nat,hl]at k;exact k _⟩,byte_fit b0,trivial,okF (by omega),okF (by omega),nn6,trivial,iand_fit b1,trivial,okF (by omega),okF (by omega),nn6,trivial,iand_fit b2,trivial,fun hlt=> ?_,fun hge=>⟨fun hgt=> ?_,fun hle=>⟨nn6,trivial,iand_fit c,trivial,feedPost1 (hgood (by omega)) (by decide) rfl rfl (congrArg (fun x=>some (ABlk.made [.int .i32 x] 1 false (some (21,0)))) hv)⟩⟩⟩
  · exact⟨fun e=>feedPost2 (by rw [hbad (by omega),feed1_nil0 c (by omega)]) (by decide) rfl rfl rfl,fun n0=>⟨fun e=>⟨byte_fit c,feedPost2 (by rw [hbad (by omega),feed1_nil1 c (by omega)]) (by decide) rfl rfl rfl⟩,fun n1=>⟨fun e=>⟨byte_fit c,trivial,feedPost1 (by rw [hbad (by omega),feed1_nil2 c 0 (by omega)]) (by decide) rfl rfl rfl⟩,
      fun n2=>⟨fun e=>⟨byte_fit c,trivial,feedPost1 (by rw [hbad (by omega),feed1_nil2 c 1 (by omega)]) (by decide) rfl rfl rfl⟩,fun n3=>⟨byte_fit c,trivial,feedPost1 (by rw [hbad (by omega),feed1_nil2 c 2 (by have:=lead_cases c.toNat;omega)]) (by decide) rfl rfl rfl⟩⟩⟩⟩⟩
  · exact⟨fun e=>feedPost2 (by rw [hbad (by omega),feed1_nil0 c (by omega)]) (by decide) rfl rfl rfl,fun n0=>⟨fun e=>⟨byte_fit c,feedPost2 (by rw [hbad (by omega),feed1_nil1 c (by omega)]) (by decide) rfl rfl rfl⟩,fun n1=>⟨fun e=>⟨byte_fit c,trivial,feedPost1 (by rw [hbad (by omega),feed1_nil2 c 0 (by omega)]) (by decide) rfl rfl rfl⟩,
      fun n2=>⟨fun e=>⟨byte_fit c,trivial,feedPost1 (by rw [hbad (by omega),feed1_nil2 c 1 (by omega)]) (by decide) rfl rfl rfl⟩,fun n3=>⟨byte_fit c,trivial,feedPost1 (by rw [hbad (by omega),feed1_nil2 c 2 (by have:=lead_cases c.toNat;omega)]) (by decide) rfl rfl rfl⟩⟩⟩⟩⟩
end Go.Proofs.YtddnafghiejcoaaGreatDoor
namespace Go.Keys
def Good(s:DS):Prop :=
  match s.nx with
  | .ground=>s.kept= []∧s.hold= []∧s.paste= []
  | .escape=>s.kept= [27]∧s.hold= []∧s.paste= []
  | .char=>s.paste= []∧s.hold=s.kept.drop (at' s.kept)∧0<s.hold.length∧s.hold.length≤3∧(first s.hold).2.2=true
  | .sequence=>s.hold= []∧s.paste= []∧2≤s.kept.length∧s.kept.length<64
  | .single=>s.hold= []∧s.paste= []∧s.kept= [27,79]
  | .pasted=>s.hold= []∧s.kept.length<6∧s.kept.isPrefixOf pasteEnd=true∧s.paste.length≤65536
theorem tail_le: ∀ (k i lo hi v:Nat) (l:Bytes),(tail k i lo hi v l).2.2=true→l.length<k∧(tail k i lo hi v l).2.1=i+l.length
  | 0,i,lo,hi,v,l,h=>by simp [tail]at h
  | k+1,i,lo,hi,v,[],h=>by simp [tail]
  | k +1,i,lo,hi,v,c::r,h=>by
    simp only [tail]at h ⊢
    split at h
    · simp at h
    · rename_i hc
      rw [if_neg hc]
      have:=tail_le k (i+1) 128 191 (v*64+c.toNat % 64) r h
      simp only [List.length_cons]
      omega
theorem tail_snoc: ∀ (k i lo hi v:Nat) (l:Bytes) (c:UInt8),(tail k i lo hi v l).2.2=true →
    (tail k i lo hi v (l++ [c])).2.2=true∨((tail k i lo hi v (l++ [c])).2.2=false∧(tail k i lo hi v (l++ [c])).2.1=i+l.length+1)∨(tail k i lo hi v (l++ [c]))=(65533,i+l.length,false)
  | 0,i,lo,hi,v,l,c,h=>by simp [tail]at h
  | k +1,i,lo,hi,v,[],c,h=>by
    simp only [List.nil_append,tail,List.length_nil]
    split
    · exact .inr (.inr rfl)
    · cases k with
      | zero=>exact .inr (.inl ⟨rfl,rfl⟩)
      | succ k=>exact .inl rfl
  | k +1,i,lo,hi,v,b::r,c,h=>by
    simp only [tail,List.cons_append]at h ⊢
    split at h
    · simp at h
    · rename_i hc
      rw [if_neg hc]
      have:=tail_snoc k (i+1) 128 191 (v*64+b.toNat % 64) r c h
      simp only [List.length_cons]
      have e:i+1+r.length=i+(r.length+1):=by omega
      rwa [e]at this
theorem first_open {h:Bytes}(ho:(first h).2.2=true): ∃ b r,h=b::r∧1<(lead b.toNat).1∧first h=tail ((lead b.toNat).1-1) 1 (lead b.toNat).2.1 (lead b.toNat).2.2 (b.toNat % 2^(7- (lead b.toNat).1)) r:=by
  cases h with
  | nil=>simp [first]at ho
  | cons b r =>
    refine⟨b,r,rfl,?_⟩
    by_cases h0:(lead b.toNat).1=0
    · simp [first,h0]at ho
    · by_cases h1:(lead b.toNat).1=1
      · simp [first,h1]at ho
      · exact⟨by omega,by simp only [first,if_neg h0,if_neg h1]⟩
theorem first_open_len {h:Bytes}(ho:(first h).2.2=true):h.length≤3:=by
  obtain⟨b,r,rfl,hl,e⟩:=first_open ho
  rw [e]at ho
  have:=(tail_le _ _ _ _ _ _ ho).1
  have:=lead_le b.toNat
  simp only [List.length_cons];omega
theorem first_snoc {h:Bytes}(ho:(first h).2.2=true)(c:UInt8) :
    (first (h++ [c])).2.2=true∨((first (h++ [c])).2.2=false∧(first (h++ [c])).2.1=h.length+1)∨first (h++ [c])=(65533,h.length,false):=by
  obtain⟨b,r,rfl,hl,e⟩:=first_open ho
  rw [e]at ho
  have k:=tail_snoc _ _ _ _ _ _ c ho
  have e2:first (b::r++ [c])=tail ((lead b.toNat).1-1) 1 (lead b.toNat).2.1 (lead b.toNat).2.2 (b.toNat % 2^(7- (lead b.toNat).1)) (r++ [c]):=by
    simp only [List.cons_append,first]
    rw [if_neg (by omega),if_neg (by omega)]
  rw [e2]
  have e3:1+r.length=(b::r).length:=by simp only [List.length_cons];omega
  rw [e3]at k
  exact k
theorem first_one(c:UInt8):((first [c]).2.2=true)∨((first [c]).2.2=false∧(first [c]).2.1=1):=by
  simp only [first]
  split
  · exact .inr ⟨rfl,rfl⟩
  · split
    · exact .inr ⟨rfl,rfl⟩
    · have h:(lead c.toNat).1-1≠0:=by omega
      obtain⟨k,hk⟩:=Nat.exists_eq_succ_of_ne_zero h
      rw [hk]
      exact .inl rfl
theorem feedN_nil(k:Nat):feedN k []=([],[]):=by cases k<;>rfl
theorem drop_len {c:UInt8}{h:Bytes} :(h++ [c]).drop (h.length+1)= []:=by
  rw [List.drop_eq_nil_iff];simp
theorem drop_len0 {c:UInt8}{h:Bytes} :(h++ [c]).drop h.length= [c]:=by
  rw [List.drop_append_of_le_length (Nat.le_refl _),List.drop_length];rfl
inductive Fed(h:Bytes)(c:UInt8):Prop where
  | more (e:feed1 h c=([],h++ [c])) (o:(first (h++ [c])).2.2=true)
  | whole (r:Nat) (e:feed1 h c=([r],[]))
  | broken (l:List Nat) (t:Bytes) (e:feed1 h c=(65533::l,t)) (h0:h≠ []) (e2:first (h++ [c])=(65533,h.length,false))
theorem fed(h:Bytes)(c:UInt8)(ho:h= []∨(first h).2.2=true):Fed h c:=by
  have ex: ∀ x:Bytes,x≠ []→ ∀ k,feedN (k+1) x=if(first x).2.2 then([],x)else((first x).1::(feedN k (x.drop (first x).2.1)).1,(feedN k (x.drop (first x).2.1)).2):=by
    intro x hx k
    cases x with
    | nil=>exact absurd rfl hx
    | cons b r=>rfl
  have hne:h++ [c]≠ []:=by simp
  have hf:feed1 h c=feedN (h.length+1) (h++ [c]):=rfl
  rw [ex _ hne]at hf
  rcases ho with rfl | ho
  · simp only [List.nil_append]at hf
    rcases first_one c with o | ⟨o,n⟩
    · rw [o,if_pos rfl]at hf;exact .more hf o
    · rw [o,if_neg (by simp),n]at hf
      exact .whole (first [c]).1 (by rw [hf];simp [feedN_nil])
  · rcases first_snoc ho c with o | ⟨o,n⟩ | e
    · rw [o,if_pos rfl]at hf;exact .more hf o
    · rw [o,if_neg (by simp),n,drop_len,feedN_nil]at hf
      exact .whole _ hf
    · rw [e]at hf
      simp only [if_neg (show ¬ (false=true)by simp)]at hf
      exact .broken _ _ hf (by rintro rfl;simp [first]at ho) e
theorem put_len(r:Nat):1≤(put r).length:=by
  unfold put
  simp only
  repeat' split
  all_goals simp
theorem put_bad:put 65533= [239,191,189]:=by decide
theorem runesN_append_bad {k n:Nat}{b:UInt8}{r:Bytes}(e:first (b::r)=(65533,n,false)):runesN (k+1) (b::r)=65533::runesN k ((b::r).drop n):=by
  simp only [runesN,e]
theorem broken_not_valid {h:Bytes}{c:UInt8}(ho:(first h).2.2=true)(e:first (h++ [c])=(65533,h.length,false)):valid (h++ [c])=false:=by
  have hl:=first_open_len ho
  obtain⟨b,r,rfl,hb,_⟩:=first_open ho
  have hr:runes (b::r++ [c])=65533::runesN (r++ [c]).length [c]:=by
    have e':first (b::(r++ [c]))=(65533,(b::r).length,false):=e
    show runesN ((r++ [c]).length+1) (b::(r++ [c]))=_
    rw [runesN_append_bad e']
    congr 1
    have:(b::(r++ [c])).drop (b::r).length= [c]:=drop_len0 (h:=b::r)
    rw [this]
  have hr2: ∃ x,runesN (r++ [c]).length [c]=x::runesN ((r++ [c]).length-1) ([c].drop (first [c]).2.1):=by
    have:(r++ [c]).length=r.length+1:=by simp
    rw [this];exact⟨_,rfl⟩
  obtain⟨x,hx⟩:=hr2
  unfold valid
  rw [hr,hx]
  rw [beq_eq_false_iff_ne]
  intro eq
  simp only [textOf,List.flatMap_cons,put_bad]at eq
  have l1:=congrArg List.length eq
  have p:=put_len x
  simp only [List.length_append,List.length_cons,List.length_nil]at l1
  simp only [List.length_cons]at hl
  have l3:r.length=2:=by omega
  match r,l3 with
  | [r1,r2],_ =>
    simp only [List.cons_append,List.nil_append,List.cons.injEq]at eq
    obtain⟨rfl,rfl,rfl,_⟩:=eq
    revert ho
    decide
def GoodR(s:DS):Prop:=s.nx= .ground∧s.kept= []∧s.hold= []∧s.paste= []
theorem at_snoc {k:Bytes}{c:UInt8}(h:k≠ []∨c≠27):at' (k++ [c])=at' k:=by
  cases k with
  | nil =>
    rcases h with h | h
    · exact absurd rfl h
    · simp [at',h]
  | cons b r=>rfl
theorem at_le(k:Bytes):at' k≤k.length:=by
  cases k with
  | nil=>simp [at']
  | cons b r=>simp only [at',List.length_cons];split<;>omega
theorem at_le1(k:Bytes):at' k≤1:=by
  cases k with
  | nil=>simp [at']
  | cons b r=>simp only [at'];split<;>omega
theorem good_char0 {s:DS}{c:UInt8}{no:DS→DS×List Ev}(hp:s.paste= [])(hh:s.hold=s.kept.drop (at' s.kept))(ho:s.hold= []∨(first s.hold).2.2=true)(hk:s.kept≠ []∨c≠27)(hno: ∀ s1:DS,s1.paste= []→s1.hold= []→Good (no s1).1):Good (char0 s c no).1:=by
  have key:=fed s.hold c ho
  unfold char0
  simp only
  cases key with
  | more e o =>
    rw [e]
    simp only [ne_eq,List.append_eq_nil_iff,List.cons_ne_self,and_false,not_false_eq_true,and_self,if_true]
    refine⟨hp,?_,by simp,?_,o⟩
    · show s.hold++ [c]=(s.kept++ [c]).drop (at' (s.kept++ [c]))
      rw [at_snoc hk,hh,List.drop_append_of_le_length (at_le _)]
    · exact first_open_len o
  | whole r e =>
    rw [e]
    simp only [ne_eq,not_true_eq_false,false_and,if_false]
    split
    · split<;>exact⟨rfl,rfl,hp⟩
    · exact hno _ hp rfl
  | broken l t e h0 e2 =>
    rw [e]
    have hv:valid (s.kept.drop (at' s.kept)++ [c])=false:=by
      rw [← hh]
      rcases ho with ho | ho
      · exact absurd ho h0
      · exact broken_not_valid ho e2
    have hkl: ¬ s.kept.length=at' s.kept:=by
      intro q
      apply h0
      rw [hh,List.drop_eq_nil_iff];omega
    rw [if_neg (by simp),if_neg (by simp [hv,hkl])]
    exact hno _ hp rfl
theorem good_tell {s:DS}{e:Ev}(h:s.hold= [])(p:s.paste= []):Good (tell s e).1:=⟨rfl,h,p⟩
theorem good_ground {s:DS}{c:UInt8}(hk:s.kept= [])(hh:s.hold= [])(hp:s.paste= []):Good (ground s c).1:=by
  unfold ground
  split
  · exact⟨rfl,hh,hp⟩
  · rename_i hc
    unfold plain0
    split
    · exact good_tell hh hp
    · exact good_char0 hp (by rw [hk,hh];rfl) (.inl hh) (.inr hc) fun s1 a b=>good_tell b a
theorem good_bad {s:DS}{c:UInt8}(hh:s.hold= [])(hp:s.paste= []):Good (bad s c).1:=good_ground rfl hh hp
theorem good_plain {s:DS}{c:UInt8}(hk:s.kept= [27])(hh:s.hold= [])(hp:s.paste= []):Good (plain s c).1:=by
  unfold plain plain0
  split
  · exact good_tell hh hp
  · exact good_char0 hp (by rw [hk,hh];rfl) (.inl hh) (.inl (by rw [hk];simp)) fun s1 a b=>good_bad b a
theorem shift_spec: ∀ (n:Nat) (k p:Bytes),k.length≤n→p.length≤65536→(shift n k p).1.isPrefixOf pasteEnd=true∧(shift n k p).2.length≤65536
  | 0,k,p,h,hp=>by
    have:k= []:=List.eq_nil_of_length_eq_zero (by omega)
    subst this
    exact⟨by simp [shift],hp⟩
  | n+1,[],p,h,hp=>by simp [shift,hp]
  | n +1,b::r,p,h,hp=>by
    simp only [shift]
    split
    · exact⟨‹_›,hp⟩
    · refine shift_spec n r _ (by simp only [List.length_cons]at h;omega) ?_
      split
      · simp;omega
      · exact hp
theorem prefix_len {k:Bytes}(h:k.isPrefixOf pasteEnd=true):k.length≤6:=by
  rw [List.isPrefixOf_iff_prefix]at h
  exact h.length_le
theorem good_step {s:DS} (c:UInt8) (h:Good s):Good (step s c).1:=by
  obtain⟨nx,kept,hold,paste⟩:=s
  unfold step
  cases nx with
  | ground=>exact good_ground h.1 h.2.1 h.2.2
  | escape =>
    obtain⟨h1,h2,h3⟩:=h
    simp only at h1 h2 h3 ⊢
    unfold escape
    split
    · exact good_ground rfl h2 h3
    · split
      · exact⟨h2,h3,by simp [h1],by simp [h1]⟩
      · split
        · rename_i hc;exact⟨h2,h3,by simp [h1,hc]⟩
        · exact good_plain h1 h2 h3
  | char =>
    obtain⟨h1,h2,h3,h4,h5⟩:=h
    simp only at h1 h2 h3 h4 h5 ⊢
    have hk:kept≠ []:=by rintro rfl;rw [h2]at h3;simp at h3
    exact good_char0 h1 h2 (.inr h5) (.inl hk) fun s1 a b=>good_bad b a
  | sequence =>
    obtain⟨h1,h2,h3,h4⟩:=h
    simp only at h1 h2 h3 h4 ⊢
    unfold sequence
    split
    · unfold done
      split
      · exact⟨h1,by simp,by simp,by simp [h2]⟩
      · exact good_tell h1 h2
    · split
      · exact good_bad h1 h2
      · split
        · exact good_tell h1 h2
        · refine⟨h1,h2,?_,?_⟩
          · show 2≤(kept++ [c]).length
            simp;omega
          · show(kept++ [c]).length<64
            simp only at *
            simp;omega
  | single =>
    obtain⟨h1,h2,h3⟩:=h
    simp only at h1 h2 h3 ⊢
    unfold single
    split
    · exact good_tell h1 h2
    · split
      · exact good_tell h1 h2
      · split
        · exact good_tell h1 h2
        · exact good_ground rfl h1 h2
  | pasted =>
    obtain⟨h1,h2,h3,h4⟩:=h
    simp only at h1 h2 h3 h4 ⊢
    unfold pasted
    simp only
    have k:=shift_spec (kept.length+1) (kept++ [c]) paste (by simp) h4
    split
    · exact⟨rfl,h1,rfl⟩
    · have:=prefix_len k.1
      exact⟨h1,by show(shift _ _ _).1.length<6;omega,k.1,k.2⟩
theorem good_feedAll: ∀ (b:Bytes) {s:DS},Good s→Good (feedAll s b).1
  | [],s,h=>h
  | c::r,s,h=>good_feedAll r (good_step c h)
end Go.Keys
namespace Go.Keys
theorem few_char0 {s:DS}{c:UInt8}{no:DS→DS×List Ev}{k:Nat}(hk:1≤k)(h: ∀ s1,(no s1).2.length≤k):(char0 s c no).2.length≤k:=by
  unfold char0
  simp only
  split
  · simp
  · split
    · split<;>(simp only [tell,List.length_cons,List.length_nil];omega)
    · exact h _
theorem few_ground(s:DS)(c:UInt8):(ground s c).2.length≤1:=by
  unfold ground
  split
  · simp
  · unfold plain0
    split
    · simp [tell]
    · exact few_char0 (by decide) fun s1=>by simp [tell]
theorem few_bad(s:DS)(c:UInt8):(bad s c).2.length≤2:=by
  unfold bad
  simp only [List.length_cons]
  have:=few_ground (tell s (EvBad s.kept)).1 c
  omega
theorem few_plain(s:DS)(c:UInt8):(plain s c).2.length≤2:=by
  unfold plain plain0
  split
  · simp [tell]
  · exact few_char0 (by decide) fun s1=>few_bad s1 c
theorem few_step (s:DS) (c:UInt8):(step s c).2.length≤2:=by
  unfold step
  split
  · have:=few_ground s c;omega
  · unfold escape
    split
    · simp only [List.length_cons]
      have:=few_ground (tell s (EvKey 4)).1 c
      omega
    · split
      · simp
      · split
        · simp
        · exact few_plain s c
  · exact few_char0 (by decide) fun s1=>few_bad s1 c
  · unfold sequence
    split
    · unfold done
      split<;>simp [tell]
    · split
      · exact few_bad s c
      · split<;>simp [tell]
  · unfold single
    split
    · simp [tell]
    · split
      · simp [tell]
      · split
        · simp [tell]
        · simp only [List.length_cons]
          have:=few_ground (tell s (EvRune 79 2)).1 c
          omega
  · unfold pasted
    simp only
    split<;>simp [tell]
theorem few_feedAll: ∀ (b:Bytes) (s:DS),(feedAll s b).2.length≤2*b.length
  | [],s=>by simp [feedAll]
  | c::r,s=>by
    simp only [feedAll,List.length_append,List.length_cons]
    have h1:=few_step s c
    have h2:=few_feedAll r (step s c).1
    omega
theorem good_flush {s:DS}(h:Good s):Good (flush s).1:=by
  obtain⟨nx,kept,hold,paste⟩:=s
  unfold flush
  split
  · exact h
  · rename_i hn
    have hp:paste= []:=by
      cases nx with
      | ground=>exact h.2.2
      | escape=>exact h.2.2
      | char=>exact h.1
      | sequence=>exact h.2.1
      | single=>exact h.2.1
      | pasted=>exact absurd (.inl rfl) hn
    split
    · exact⟨rfl,rfl,hp⟩
    · split<;>exact⟨rfl,rfl,hp⟩
end Go.Keys
namespace Go.Proofs.YtddnafghiejcoaaGreatDoor
open Go.Lift Go.Keys
set_option maxRecDepth 1000000
theorem decE_vc(K0:AVal→AHeap→Prop)(vc:K0 (.tuple [.int .i32 0,.int .i64 0]) (AHeap.rowsT 7 [(0,ABlk.made [.str []] 1 true (some (9,1)))])) :
    ∃ v h1,FDoes Tryz.prog cnd 54 [.str []] (⟨0,.nil⟩) v h1∧K0 v h1 :=
  tcall_does env_ok mixed specs1_ok (hs:= .nil) (by kernel_rfl) vc
theorem dec01_vc(b0:UInt8)(r:Bytes)(lo hi:Int)(K0:AVal→AHeap→Prop)(vc:CallT Tryz.prog cnd 99 [.int .u8 (↑(UInt8.toNat b0):Int)] (AHeap.rowsT 36 [(0,ABlk.made [.str (b0::r)] 1 true (some (9,1)))]) (.tuple [.int .i64 0,.int .u8 lo,.int .u8 hi]) (AHeap.rowsT 36 [(0,ABlk.made [.str (b0::r)] 1 true (some (9,1)))])∧K0 (.tuple [.int .i32 65533,.int .i64 1]) (AHeap.rowsT 45 [(0,ABlk.made [.str (b0::r)] 1 true (some (9,1)))])) :
    ∃ v h1,FDoes Tryz.prog cnd 54 [.str (b0::r)] (⟨0,.nil⟩) v h1∧K0 v h1 :=
  tcall_does env_ok mixed specs1_ok (hs:=he 3003 (he 1001 (.hint (.val 2001 (.tuple [.int .i64 0,.int .u8 lo,.int .u8 hi])) .nil))) (by kernel_rfl) vc
theorem dec11_vc(b0:UInt8)(r:Bytes)(lo hi:Int)(K0:AVal→AHeap→Prop)(vc:CallT Tryz.prog cnd 99 [.int .u8 (↑(UInt8.toNat b0):Int)] (AHeap.rowsT 36 [(0,ABlk.made [.str (b0::r)] 1 true (some (9,1)))]) (.tuple [.int .i64 1,.int .u8 lo,.int .u8 hi]) (AHeap.rowsT 36 [(0,ABlk.made [.str (b0::r)] 1 true (some (9,1)))])∧(-2147483648≤(↑(UInt8.toNat b0):Int)∧(↑(UInt8.toNat b0):Int)≤2147483647)∧K0 (.tuple [.int .i32 (↑(UInt8.toNat b0):Int),.int .i64 1]) (AHeap.rowsT 49 [(0,ABlk.made [.str (b0::r)] 1 true (some (9,1)))])) :
    ∃ v h1,FDoes Tryz.prog cnd 54 [.str (b0::r)] (⟨0,.nil⟩) v h1∧K0 v h1 :=
  tcall_does env_ok mixed specs1_ok (hs:=he 3003 (he 1001 (.hint (.val 2001 (.tuple [.int .i64 1,.int .u8 lo,.int .u8 hi])) (hg 6001 .nil)))) (by kernel_rfl) vc
theorem dec21_vc(b0:UInt8)(lo hi:Int)(K0:AVal→AHeap→Prop)(vc:CallT Tryz.prog cnd 99 [.int .u8 (↑(UInt8.toNat b0):Int)] (AHeap.rowsT 36 [(0,ABlk.made [.str [b0]] 1 true (some (9,1)))]) (.tuple [.int .i64 2,.int .u8 lo,.int .u8 hi]) (AHeap.rowsT 36 [(0,ABlk.made [.str [b0]] 1 true (some (9,1)))])∧(-2147483648≤(↑(UInt8.toNat b0):Int)∧(↑(UInt8.toNat b0):Int)≤2147483647)∧True∧K0 (.tuple [.int .i32 65533,.int .i64 1]) (AHeap.rowsT 61 [(0,ABlk.made [.str [b0]] 1 true (some (9,1)))])) :
    ∃ v h1,FDoes Tryz.prog cnd 54 [.str ([b0])] (⟨0,.nil⟩) v h1∧K0 v h1 :=
  tcall_does env_ok mixed specs1_ok (hs:=he 3003 (he 1001 (.hint (.val 2001 (.tuple [.int .i64 2,.int .u8 lo,.int .u8 hi])) zv0_1))) (by kernel_rfl) vc
theorem dec22_vc(b0 b1:UInt8)(r:Bytes)(lo hi:Int)(K0:AVal→AHeap→Prop)(vc:CallT Tryz.prog cnd 99 [.int .u8 (↑(UInt8.toNat b0):Int)] (AHeap.rowsT 36 [(0,ABlk.made [.str (b0::b1::r)] 1 true (some (9,1)))]) (.tuple [.int .i64 2,.int .u8 lo,.int .u8 hi]) (AHeap.rowsT 36 [(0,ABlk.made [.str (b0::b1::r)] 1 true (some (9,1)))])∧(-2147483648≤(↑(UInt8.toNat b0):Int)∧(↑(UInt8.toNat b0):Int)≤2147483647)∧True∧((↑(UInt8.toNat b1):Int)<lo→K0 (.tuple [.int .i32 65533,.int .i64 1]) (AHeap.rowsT 78 [(0,ABlk.made [.str (b0::b1::r)] 1 true (some (9,1)))]))∧(¬(↑(UInt8.toNat b1):Int)<lo→(hi<(↑(UInt8.toNat b1):Int)→K0 (.tuple [.int .i32 65533,.int .i64 1]) (AHeap.rowsT 78 [(0,ABlk.made [.str (b0::b1::r)] 1 true (some (9,1)))]))∧(¬hi<(↑(UInt8.toNat b1):Int)→Int.NonNeg (6-0)∧True∧(-2147483648≤iand IntKind.u8 (↑(UInt8.toNat b1):Int) (63)∧iand IntKind.u8 (↑(UInt8.toNat b1):Int) (63)≤2147483647)∧True∧K0 (.tuple [.int .i32 (ior IntKind.i32 (ishl IntKind.i32 (iand IntKind.i32 (↑(UInt8.toNat b0):Int) (31)) (6)) (iand IntKind.u8 (↑(UInt8.toNat b1):Int) (63))),.int .i64 2]) (AHeap.rowsT 94 [(0,ABlk.made [.str (b0::b1::r)] 1 true (some (9,1)))])))) :
    ∃ v h1,FDoes Tryz.prog cnd 54 [.str (b0::b1::r)] (⟨0,.nil⟩) v h1∧K0 v h1 :=
  tcall_does env_ok mixed specs1_ok (hs:=he 3003 (he 1001 (.hint (.val 2001 (.tuple [.int .i64 2,.int .u8 lo,.int .u8 hi])) (hg 7001 (hg 7004 (.hint (.rounds 300) (he 13002 (.br 14002 .nil (.br 14006 .nil (hg 17001 (hg 17003 (hg 17004 (hg 17005 .nil))))))))))))) (by kernel_rfl) vc
theorem dec31_vc(b0:UInt8)(lo hi:Int)(K0:AVal→AHeap→Prop)(vc:CallT Tryz.prog cnd 99 [.int .u8 (↑(UInt8.toNat b0):Int)] (AHeap.rowsT 36 [(0,ABlk.made [.str [b0]] 1 true (some (9,1)))]) (.tuple [.int .i64 3,.int .u8 lo,.int .u8 hi]) (AHeap.rowsT 36 [(0,ABlk.made [.str [b0]] 1 true (some (9,1)))])∧(-2147483648≤(↑(UInt8.toNat b0):Int)∧(↑(UInt8.toNat b0):Int)≤2147483647)∧True∧K0 (.tuple [.int .i32 65533,.int .i64 1]) (AHeap.rowsT 61 [(0,ABlk.made [.str [b0]] 1 true (some (9,1)))])) :
    ∃ v h1,FDoes Tryz.prog cnd 54 [.str ([b0])] (⟨0,.nil⟩) v h1∧K0 v h1 :=
  tcall_does env_ok mixed specs1_ok (hs:=he 3003 (he 1001 (.hint (.val 2001 (.tuple [.int .i64 3,.int .u8 lo,.int .u8 hi])) zv0_1))) (by kernel_rfl) vc
theorem dec32_vc(b0 b1:UInt8)(lo hi:Int)(K0:AVal→AHeap→Prop)(vc:CallT Tryz.prog cnd 99 [.int .u8 (↑(UInt8.toNat b0):Int)] (AHeap.rowsT 36 [(0,ABlk.made [.str [b0,b1]] 1 true (some (9,1)))]) (.tuple [.int .i64 3,.int .u8 lo,.int .u8 hi]) (AHeap.rowsT 36 [(0,ABlk.made [.str [b0,b1]] 1 true (some (9,1)))])∧(-2147483648≤(↑(UInt8.toNat b0):Int)∧(↑(UInt8.toNat b0):Int)≤2147483647)∧True∧((↑(UInt8.toNat b1):Int)<lo→K0 (.tuple [.int .i32 65533,.int .i64 1]) (AHeap.rowsT 78 [(0,ABlk.made [.str [b0,b1]] 1 true (some (9,1)))]))∧(¬(↑(UInt8.toNat b1):Int)<lo→(hi<(↑(UInt8.toNat b1):Int)→K0 (.tuple [.int .i32 65533,.int .i64 1]) (AHeap.rowsT 78 [(0,ABlk.made [.str [b0,b1]] 1 true (some (9,1)))]))∧(¬hi<(↑(UInt8.toNat b1):Int)→Int.NonNeg (6-0)∧True∧(-2147483648≤iand IntKind.u8 (↑(UInt8.toNat b1):Int) (63)∧iand IntKind.u8 (↑(UInt8.toNat b1):Int) (63)≤2147483647)∧True∧K0 (.tuple [.int .i32 65533,.int .i64 2]) (AHeap.rowsT 96 [(0,ABlk.made [.str [b0,b1]] 1 true (some (9,1)))])))) :
    ∃ v h1,FDoes Tryz.prog cnd 54 [.str ([b0,b1])] (⟨0,.nil⟩) v h1∧K0 v h1 :=
  tcall_does env_ok mixed specs1_ok (hs:=he 3003 (he 1001 (.hint (.val 2001 (.tuple [.int .i64 3,.int .u8 lo,.int .u8 hi])) (hg 7001 (hg 7004 (.hint (.rounds 300) (he 13002 (.br 14002 .nil (.br 14006 .nil (hg 17001 (hg 17003 (hg 17004 (hg 17005 .nil))))))))))))) (by kernel_rfl) vc
theorem dec33_vc(b0 b1 b2:UInt8)(r:Bytes)(lo hi:Int)(K0:AVal→AHeap→Prop)(vc:CallT Tryz.prog cnd 99 [.int .u8 (↑(UInt8.toNat b0):Int)] (AHeap.rowsT 36 [(0,ABlk.made [.str (b0::b1::b2::r)] 1 true (some (9,1)))]) (.tuple [.int .i64 3,.int .u8 lo,.int .u8 hi]) (AHeap.rowsT 36 [(0,ABlk.made [.str (b0::b1::b2::r)] 1 true (some (9,1)))])∧(-2147483648≤(↑(UInt8.toNat b0):Int)∧(↑(UInt8.toNat b0):Int)≤2147483647)∧True∧((↑(UInt8.toNat b1):Int)<lo→K0 (.tuple [.int .i32 65533,.int .i64 1]) (AHeap.rowsT 78 [(0,ABlk.made [.str (b0::b1::b2::r)] 1 true (some (9,1)))]))∧(¬(↑(UInt8.toNat b1):Int)<lo→(hi<(↑(UInt8.toNat b1):Int)→K0 (.tuple [.int .i32 65533,.int .i64 1]) (AHeap.rowsT 78 [(0,ABlk.made [.str (b0::b1::b2::r)] 1 true (some (9,1)))]))∧(¬hi<(↑(UInt8.toNat b1):Int)→Int.NonNeg (6-0)∧True∧(-2147483648≤iand IntKind.u8 (↑(UInt8.toNat b1):Int) (63)∧iand IntKind.u8 (↑(UInt8.toNat b1):Int) (63)≤2147483647)∧True∧((↑(UInt8.toNat b2):Int)<128→K0 (.tuple [.int .i32 65533,.int .i64 2]) (AHeap.rowsT 113 [(0,ABlk.made [.str (b0::b1::b2::r)] 1 true (some (9,1)))]))∧(¬(↑(UInt8.toNat b2):Int)<128→(191<(↑(UInt8.toNat b2):Int)→K0 (.tuple [.int .i32 65533,.int .i64 2]) (AHeap.rowsT 113 [(0,ABlk.made [.str (b0::b1::b2::r)] 1 true (some (9,1)))]))∧(¬191<(↑(UInt8.toNat b2):Int)→Int.NonNeg (6-0)∧True∧(-2147483648≤iand IntKind.u8 (↑(UInt8.toNat b2):Int) (63)∧iand IntKind.u8 (↑(UInt8.toNat b2):Int) (63)≤2147483647)∧True∧K0 (.tuple [.int .i32 (ior IntKind.i32 (ishl IntKind.i32 (ior IntKind.i32 (ishl IntKind.i32 (iand IntKind.i32 (↑(UInt8.toNat b0):Int) (15)) (6)) (iand IntKind.u8 (↑(UInt8.toNat b1):Int) (63))) (6)) (iand IntKind.u8 (↑(UInt8.toNat b2):Int) (63))),.int .i64 3]) (AHeap.rowsT 129 [(0,ABlk.made [.str (b0::b1::b2::r)] 1 true (some (9,1)))])))))) :
    ∃ v h1,FDoes Tryz.prog cnd 54 [.str (b0::b1::b2::r)] (⟨0,.nil⟩) v h1∧K0 v h1 :=
  tcall_does env_ok mixed specs1_ok (hs:=he 3003 (he 1001 (.hint (.val 2001 (.tuple [.int .i64 3,.int .u8 lo,.int .u8 hi])) (hg 7001 (hg 7004 (.hint (.rounds 300) (he 13002 (.br 14002 .nil (.br 14006 .nil (hg 17001 (hg 17003 (hg 17004 (hg 17005 (he 13002 (.br 14002 .nil (.br 14006 .nil (hg 17001 (hg 17003 (hg 17004 (hg 17005 .nil)))))))))))))))))))) (by kernel_rfl) vc
theorem dec41_vc(b0:UInt8)(lo hi:Int)(K0:AVal→AHeap→Prop)(vc:CallT Tryz.prog cnd 99 [.int .u8 (↑(UInt8.toNat b0):Int)] (AHeap.rowsT 36 [(0,ABlk.made [.str [b0]] 1 true (some (9,1)))]) (.tuple [.int .i64 4,.int .u8 lo,.int .u8 hi]) (AHeap.rowsT 36 [(0,ABlk.made [.str [b0]] 1 true (some (9,1)))])∧(-2147483648≤(↑(UInt8.toNat b0):Int)∧(↑(UInt8.toNat b0):Int)≤2147483647)∧True∧K0 (.tuple [.int .i32 65533,.int .i64 1]) (AHeap.rowsT 61 [(0,ABlk.made [.str [b0]] 1 true (some (9,1)))])) :
    ∃ v h1,FDoes Tryz.prog cnd 54 [.str ([b0])] (⟨0,.nil⟩) v h1∧K0 v h1 :=
  tcall_does env_ok mixed specs1_ok (hs:=he 3003 (he 1001 (.hint (.val 2001 (.tuple [.int .i64 4,.int .u8 lo,.int .u8 hi])) zv0_1))) (by kernel_rfl) vc
theorem dec42_vc(b0 b1:UInt8)(lo hi:Int)(K0:AVal→AHeap→Prop)(vc:CallT Tryz.prog cnd 99 [.int .u8 (↑(UInt8.toNat b0):Int)] (AHeap.rowsT 36 [(0,ABlk.made [.str [b0,b1]] 1 true (some (9,1)))]) (.tuple [.int .i64 4,.int .u8 lo,.int .u8 hi]) (AHeap.rowsT 36 [(0,ABlk.made [.str [b0,b1]] 1 true (some (9,1)))])∧(-2147483648≤(↑(UInt8.toNat b0):Int)∧(↑(UInt8.toNat b0):Int)≤2147483647)∧True∧((↑(UInt8.toNat b1):Int)<lo→K0 (.tuple [.int .i32 65533,.int .i64 1]) (AHeap.rowsT 78 [(0,ABlk.made [.str [b0,b1]] 1 true (some (9,1)))]))∧(¬(↑(UInt8.toNat b1):Int)<lo→(hi<(↑(UInt8.toNat b1):Int)→K0 (.tuple [.int .i32 65533,.int .i64 1]) (AHeap.rowsT 78 [(0,ABlk.made [.str [b0,b1]] 1 true (some (9,1)))]))∧(¬hi<(↑(UInt8.toNat b1):Int)→Int.NonNeg (6-0)∧True∧(-2147483648≤iand IntKind.u8 (↑(UInt8.toNat b1):Int) (63)∧iand IntKind.u8 (↑(UInt8.toNat b1):Int) (63)≤2147483647)∧True∧K0 (.tuple [.int .i32 65533,.int .i64 2]) (AHeap.rowsT 96 [(0,ABlk.made [.str [b0,b1]] 1 true (some (9,1)))])))) :
    ∃ v h1,FDoes Tryz.prog cnd 54 [.str ([b0,b1])] (⟨0,.nil⟩) v h1∧K0 v h1 :=
  tcall_does env_ok mixed specs1_ok (hs:=he 3003 (he 1001 (.hint (.val 2001 (.tuple [.int .i64 4,.int .u8 lo,.int .u8 hi])) (hg 7001 (hg 7004 (.hint (.rounds 300) (he 13002 (.br 14002 .nil (.br 14006 .nil (hg 17001 (hg 17003 (hg 17004 (hg 17005 .nil))))))))))))) (by kernel_rfl) vc
theorem dec43_vc(b0 b1 b2:UInt8)(lo hi:Int)(K0:AVal→AHeap→Prop)(vc:CallT Tryz.prog cnd 99 [.int .u8 (↑(UInt8.toNat b0):Int)] (AHeap.rowsT 36 [(0,ABlk.made [.str [b0,b1,b2]] 1 true (some (9,1)))]) (.tuple [.int .i64 4,.int .u8 lo,.int .u8 hi]) (AHeap.rowsT 36 [(0,ABlk.made [.str [b0,b1,b2]] 1 true (some (9,1)))])∧(-2147483648≤(↑(UInt8.toNat b0):Int)∧(↑(UInt8.toNat b0):Int)≤2147483647)∧True∧((↑(UInt8.toNat b1):Int)<lo→K0 (.tuple [.int .i32 65533,.int .i64 1]) (AHeap.rowsT 78 [(0,ABlk.made [.str [b0,b1,b2]] 1 true (some (9,1)))]))∧(¬(↑(UInt8.toNat b1):Int)<lo→(hi<(↑(UInt8.toNat b1):Int)→K0 (.tuple [.int .i32 65533,.int .i64 1]) (AHeap.rowsT 78 [(0,ABlk.made [.str [b0,b1,b2]] 1 true (some (9,1)))]))∧(¬hi<(↑(UInt8.toNat b1):Int)→Int.NonNeg (6-0)∧True∧(-2147483648≤iand IntKind.u8 (↑(UInt8.toNat b1):Int) (63)∧iand IntKind.u8 (↑(UInt8.toNat b1):Int) (63)≤2147483647)∧True∧((↑(UInt8.toNat b2):Int)<128→K0 (.tuple [.int .i32 65533,.int .i64 2]) (AHeap.rowsT 113 [(0,ABlk.made [.str [b0,b1,b2]] 1 true (some (9,1)))]))∧(¬(↑(UInt8.toNat b2):Int)<128→(191<(↑(UInt8.toNat b2):Int)→K0 (.tuple [.int .i32 65533,.int .i64 2]) (AHeap.rowsT 113 [(0,ABlk.made [.str [b0,b1,b2]] 1 true (some (9,1)))]))∧(¬191<(↑(UInt8.toNat b2):Int)→Int.NonNeg (6-0)∧True∧(-2147483648≤iand IntKind.u8 (↑(UInt8.toNat b2):Int) (63)∧iand IntKind.u8 (↑(UInt8.toNat b2):Int) (63)≤2147483647)∧True∧K0 (.tuple [.int .i32 65533,.int .i64 3]) (AHeap.rowsT 131 [(0,ABlk.made [.str [b0,b1,b2]] 1 true (some (9,1)))])))))) :
    ∃ v h1,FDoes Tryz.prog cnd 54 [.str ([b0,b1,b2])] (⟨0,.nil⟩) v h1∧K0 v h1 :=
  tcall_does env_ok mixed specs1_ok (hs:=he 3003 (he 1001 (.hint (.val 2001 (.tuple [.int .i64 4,.int .u8 lo,.int .u8 hi])) (hg 7001 (hg 7004 (.hint (.rounds 300) (he 13002 (.br 14002 .nil (.br 14006 .nil (hg 17001 (hg 17003 (hg 17004 (hg 17005 (he 13002 (.br 14002 .nil (.br 14006 .nil (hg 17001 (hg 17003 (hg 17004 (hg 17005 .nil)))))))))))))))))))) (by kernel_rfl) vc
theorem dec44_vc(b0 b1 b2 b3:UInt8)(r:Bytes)(lo hi:Int)(K0:AVal→AHeap→Prop)(vc:CallT Tryz.prog cnd 99 [.int .u8 (↑(UInt8.toNat b0):Int)] (AHeap.rowsT 36 [(0,ABlk.made [.str (b0::b1::b2::b3::r)] 1 true (some (9,1)))]) (.tuple [.int .i64 4,.int .u8 lo,.int .u8 hi]) (AHeap.rowsT 36 [(0,ABlk.made [.str (b0::b1::b2::b3::r)] 1 true (some (9,1)))])∧(-2147483648≤(↑(UInt8.toNat b0):Int)∧(↑(UInt8.toNat b0):Int)≤2147483647)∧True∧((↑(UInt8.toNat b1):Int)<lo→K0 (.tuple [.int .i32 65533,.int .i64 1]) (AHeap.rowsT 78 [(0,ABlk.made [.str (b0::b1::b2::b3::r)] 1 true (some (9,1)))]))∧(¬(↑(UInt8.toNat b1):Int)<lo→(hi<(↑(UInt8.toNat b1):Int)→K0 (.tuple [.int .i32 65533,.int .i64 1]) (AHeap.rowsT 78 [(0,ABlk.made [.str (b0::b1::b2::b3::r)] 1 true (some (9,1)))]))∧(¬hi<(↑(UInt8.toNat b1):Int)→Int.NonNeg (6-0)∧True∧(-2147483648≤iand IntKind.u8 (↑(UInt8.toNat b1):Int) (63)∧iand IntKind.u8 (↑(UInt8.toNat b1):Int) (63)≤2147483647)∧True∧((↑(UInt8.toNat b2):Int)<128→K0 (.tuple [.int .i32 65533,.int .i64 2]) (AHeap.rowsT 113 [(0,ABlk.made [.str (b0::b1::b2::b3::r)] 1 true (some (9,1)))]))∧(¬(↑(UInt8.toNat b2):Int)<128→(191<(↑(UInt8.toNat b2):Int)→K0 (.tuple [.int .i32 65533,.int .i64 2]) (AHeap.rowsT 113 [(0,ABlk.made [.str (b0::b1::b2::b3::r)] 1 true (some (9,1)))]))∧(¬191<(↑(UInt8.toNat b2):Int)→Int.NonNeg (6-0)∧True∧(-2147483648≤iand IntKind.u8 (↑(UInt8.toNat b2):Int) (63)∧iand IntKind.u8 (↑(UInt8.toNat b2):Int) (63)≤2147483647)∧True∧((↑(UInt8.toNat b3):Int)<128→K0 (.tuple [.int .i32 65533,.int .i64 3]) (AHeap.rowsT 148 [(0,ABlk.made [.str (b0::b1::b2::b3::r)] 1 true (some (9,1)))]))∧(¬(↑(UInt8.toNat b3):Int)<128→(191<(↑(UInt8.toNat b3):Int)→K0 (.tuple [.int .i32 65533,.int .i64 3]) (AHeap.rowsT 148 [(0,ABlk.made [.str (b0::b1::b2::b3::r)] 1 true (some (9,1)))]))∧(¬191<(↑(UInt8.toNat b3):Int)→Int.NonNeg (6-0)∧True∧(-2147483648≤iand IntKind.u8 (↑(UInt8.toNat b3):Int) (63)∧iand IntKind.u8 (↑(UInt8.toNat b3):Int) (63)≤2147483647)∧True∧K0 (.tuple [.int .i32 (ior IntKind.i32 (ishl IntKind.i32 (ior IntKind.i32 (ishl IntKind.i32 (ior IntKind.i32 (ishl IntKind.i32 (iand IntKind.i32 (↑(UInt8.toNat b0):Int) (7)) (6)) (iand IntKind.u8 (↑(UInt8.toNat b1):Int) (63))) (6)) (iand IntKind.u8 (↑(UInt8.toNat b2):Int) (63))) (6)) (iand IntKind.u8 (↑(UInt8.toNat b3):Int) (63))),.int .i64 4]) (AHeap.rowsT 164 [(0,ABlk.made [.str (b0::b1::b2::b3::r)] 1 true (some (9,1)))])))))))) :
    ∃ v h1,FDoes Tryz.prog cnd 54 [.str (b0::b1::b2::b3::r)] (⟨0,.nil⟩) v h1∧K0 v h1 :=
  tcall_does env_ok mixed specs1_ok (hs:=he 3003 (he 1001 (.hint (.val 2001 (.tuple [.int .i64 4,.int .u8 lo,.int .u8 hi])) (hg 7001 (hg 7004 (.hint (.rounds 300) (he 13002 (.br 14002 .nil (.br 14006 .nil (hg 17001 (hg 17003 (hg 17004 (hg 17005 (he 13002 (.br 14002 .nil (.br 14006 .nil (hg 17001 (hg 17003 (hg 17004 (hg 17005 (he 13002 (.br 14002 .nil (.br 14006 .nil (hg 17001 (hg 17003 (hg 17004 (hg 17005 .nil))))))))))))))))))))))))))) (by kernel_rfl) vc
def decV(s:Bytes):AVal:= .tuple [.int .i32 ((first s).1:Int),.int .i64 ((first s).2.1:Int)]
theorem decV_of {s:Bytes}{a k:Nat}{x:Bool}(h:first s=(a,k,x)){a' k':Int}(ha:a'=a)(hk:k'=k):AVal.tuple [.int .i32 a',.int .i64 k']=decV s:=by
  unfold decV;rw [h,ha,hk]
theorem dec0(H:AHeap):FDoes Tryz.prog cnd 54 [.str []] H (decV []) H:=FDoes.ofVC (decE_vc (fun v _=>v=decV []) rfl) rfl rfl H
theorem leadT(b:UInt8)(n:Nat)(h:(lead b.toNat).1=n)(H:AHeap):FDoes Tryz.prog cnd 99 [.int .u8 (b.toNat:Int)] H (.tuple [.int .i64 (n:Int),.int .u8 ((lead b.toNat).2.1:Int),.int .u8 ((lead b.toNat).2.2:Int)]) H:=by
  have k:=lead_does b.toNat H
  simp only [leadV,leadI_nat,h]at k
  exact k
theorem dec01(b0:UInt8)(r:Bytes)(hl:(lead b0.toNat).1=0)(H:AHeap):FDoes Tryz.prog cnd 54 [.str (b0::r)] H (decV (b0::r)) H:=by
  refine FDoes.ofVC (dec01_vc b0 r (lead b0.toNat).2.1 (lead b0.toNat).2.2 (fun v _=>v=decV (b0::r)) ?_) rfl rfl H
  exact⟨⟨leadT b0 0 hl _⟩,decV_of (show first (b0::r)=(65533,1,false)by simp [first,hl]) rfl rfl⟩
theorem dec11(b0:UInt8)(r:Bytes)(hl:(lead b0.toNat).1=1)(H:AHeap):FDoes Tryz.prog cnd 54 [.str (b0::r)] H (decV (b0::r)) H:=by
  refine FDoes.ofVC (dec11_vc b0 r (lead b0.toNat).2.1 (lead b0.toNat).2.2 (fun v _=>v=decV (b0::r)) ?_) rfl rfl H
  exact⟨⟨leadT b0 1 hl _⟩,byte_fit b0,decV_of (show first (b0::r)=(b0.toNat,1,false)by simp [first,hl]) rfl rfl⟩
theorem dec21(b0:UInt8)(hl:(lead b0.toNat).1=2)(H:AHeap):FDoes Tryz.prog cnd 54 [.str (b0:: [])] H (decV (b0:: [])) H:=by
  refine FDoes.ofVC (dec21_vc b0 (lead b0.toNat).2.1 (lead b0.toNat).2.2 (fun v _=>v=decV (b0:: [])) ?_) rfl rfl H
  have hf: ∀ r,first (b0::r)=tail 1 1 (lead b0.toNat).2.1 (lead b0.toNat).2.2 (b0.toNat % 2^(7-2)) r:=fun r=>first_more b0 r 0 hl
  have good:first (b0:: [])=(65533,1,true):=by rw [hf];rfl
  exact⟨⟨leadT b0 2 hl _⟩,byte_fit b0,trivial,decV_of good rfl rfl⟩
theorem dec22(b0 b1:UInt8)(r:Bytes)(hl:(lead b0.toNat).1=2)(H:AHeap):FDoes Tryz.prog cnd 54 [.str (b0::b1::r)] H (decV (b0::b1::r)) H:=by
  refine FDoes.ofVC (dec22_vc b0 b1 r (lead b0.toNat).2.1 (lead b0.toNat).2.2 (fun v _=>v=decV (b0::b1::r)) ?_) rfl rfl H
  have hf: ∀ r,first (b0::r)=tail 1 1 (lead b0.toNat).2.1 (lead b0.toNat).2.2 (b0.toNat % 2^(7-2)) r:=fun r=>first_more b0 r 0 hl
  have bad1: ∀ (hc:b1.toNat<(lead b0.toNat).2.1∨(lead b0.toNat).2.2<b1.toNat),first (b0::b1::r)=(65533,1,false):=fun hc=>by rw [hf];simp only [tail];rw [if_pos hc]
  have good: ∀ (h1: ¬ (b1.toNat<(lead b0.toNat).2.1∨(lead b0.toNat).2.2<b1.toNat)),first (b0::b1::r)=((b0.toNat % 32)*64+b1.toNat % 64,2,false):=fun h1=>by rw [hf];simp only [tail];rw [if_neg h1]
  have hv:ior .i32 (ishl .i32 (iand .i32 (b0.toNat:Int) 31) 6) (iand .u8 (b1.toNat:Int) 63)=(((b0.toNat % 32)*64+b1.toNat % 64:Nat):Int):=by
    rw [mask2b,mask6b b1,shl6 _ (by omega),or6 _ _ (by omega) (by omega)]
  exact⟨⟨leadT b0 2 hl _⟩,byte_fit b0,trivial,⟨fun a1=>decV_of (bad1 (by omega)) rfl rfl,fun b_1=>⟨fun c1=>decV_of (bad1 (by omega)) rfl rfl,fun d1=>⟨nn6,trivial,iand_fit b1,trivial,decV_of (good (by omega)) hv rfl⟩⟩⟩⟩
theorem dec31(b0:UInt8)(hl:(lead b0.toNat).1=3)(H:AHeap):FDoes Tryz.prog cnd 54 [.str (b0:: [])] H (decV (b0:: [])) H:=by
  refine FDoes.ofVC (dec31_vc b0 (lead b0.toNat).2.1 (lead b0.toNat).2.2 (fun v _=>v=decV (b0:: [])) ?_) rfl rfl H
  have hf: ∀ r,first (b0::r)=tail 2 1 (lead b0.toNat).2.1 (lead b0.toNat).2.2 (b0.toNat % 2^(7-3)) r:=fun r=>first_more b0 r 1 hl
  have good:first (b0:: [])=(65533,1,true):=by rw [hf];rfl
  exact⟨⟨leadT b0 3 hl _⟩,byte_fit b0,trivial,decV_of good rfl rfl⟩
theorem dec32(b0 b1:UInt8)(hl:(lead b0.toNat).1=3)(H:AHeap):FDoes Tryz.prog cnd 54 [.str (b0::b1:: [])] H (decV (b0::b1:: [])) H:=by
  refine FDoes.ofVC (dec32_vc b0 b1 (lead b0.toNat).2.1 (lead b0.toNat).2.2 (fun v _=>v=decV (b0::b1:: [])) ?_) rfl rfl H
  have hf: ∀ r,first (b0::r)=tail 2 1 (lead b0.toNat).2.1 (lead b0.toNat).2.2 (b0.toNat % 2^(7-3)) r:=fun r=>first_more b0 r 1 hl
  have bad1: ∀ (hc:b1.toNat<(lead b0.toNat).2.1∨(lead b0.toNat).2.2<b1.toNat),first (b0::b1:: [])=(65533,1,false):=fun hc=>by rw [hf];simp only [tail];rw [if_pos hc]
  have good: ∀ (h1: ¬ (b1.toNat<(lead b0.toNat).2.1∨(lead b0.toNat).2.2<b1.toNat)),first (b0::b1:: [])=(65533,2,true):=fun h1=>by rw [hf];simp only [tail];rw [if_neg h1]
  exact⟨⟨leadT b0 3 hl _⟩,byte_fit b0,trivial,⟨fun a1=>decV_of (bad1 (by omega)) rfl rfl,fun b_1=>⟨fun c1=>decV_of (bad1 (by omega)) rfl rfl,fun d1=>⟨nn6,trivial,iand_fit b1,trivial,decV_of (good (by omega)) rfl rfl⟩⟩⟩⟩
theorem dec33(b0 b1 b2:UInt8)(r:Bytes)(hl:(lead b0.toNat).1=3)(H:AHeap):FDoes Tryz.prog cnd 54 [.str (b0::b1::b2::r)] H (decV (b0::b1::b2::r)) H:=by
  refine FDoes.ofVC (dec33_vc b0 b1 b2 r (lead b0.toNat).2.1 (lead b0.toNat).2.2 (fun v _=>v=decV (b0::b1::b2::r)) ?_) rfl rfl H
  have hf: ∀ r,first (b0::r)=tail 2 1 (lead b0.toNat).2.1 (lead b0.toNat).2.2 (b0.toNat % 2^(7-3)) r:=fun r=>first_more b0 r 1 hl
  have bad1: ∀ (hc:b1.toNat<(lead b0.toNat).2.1∨(lead b0.toNat).2.2<b1.toNat),first (b0::b1::b2::r)=(65533,1,false):=fun hc=>by rw [hf];simp only [tail];rw [if_pos hc]
  have bad2: ∀ (h1: ¬ (b1.toNat<(lead b0.toNat).2.1∨(lead b0.toNat).2.2<b1.toNat)) (hc:b2.toNat<128∨191<b2.toNat),first (b0::b1::b2::r)=(65533,2,false):=fun h1 hc=>by rw [hf];simp only [tail];rw [if_neg h1,if_pos hc]
  have good: ∀ (h1: ¬ (b1.toNat<(lead b0.toNat).2.1∨(lead b0.toNat).2.2<b1.toNat)) (h2: ¬ (b2.toNat<128∨191<b2.toNat)),first (b0::b1::b2::r)=(((b0.toNat % 16)*64+b1.toNat % 64)*64+b2.toNat % 64,3,false):=fun h1 h2=>by rw [hf];simp only [tail];rw [if_neg h1,if_neg h2]
  have hv:ior .i32 (ishl .i32 (ior .i32 (ishl .i32 (iand .i32 (b0.toNat:Int) 15) 6) (iand .u8 (b1.toNat:Int) 63)) 6) (iand .u8 (b2.toNat:Int) 63)=((((b0.toNat % 16)*64+b1.toNat % 64)*64+b2.toNat % 64:Nat):Int):=by
    rw [mask3b,mask6b b1,mask6b b2,shl6 _ (by omega),or6 _ _ (by omega) (by omega),shl6 _ (by omega),or6 _ _ (by omega) (by omega)]
  exact⟨⟨leadT b0 3 hl _⟩,byte_fit b0,trivial,⟨fun a1=>decV_of (bad1 (by omega)) rfl rfl,fun b_1=>⟨fun c1=>decV_of (bad1 (by omega)) rfl rfl,fun d1=>⟨nn6,trivial,iand_fit b1,trivial,⟨fun a2=>decV_of (bad2 (by omega) (by omega)) rfl rfl,fun b_2=>⟨fun c2=>decV_of (bad2 (by omega) (by omega)) rfl rfl,fun d2=>⟨nn6,trivial,iand_fit b2,trivial,decV_of (good (by omega) (by omega)) hv rfl⟩⟩⟩⟩⟩⟩⟩
theorem dec41(b0:UInt8)(hl:(lead b0.toNat).1=4)(H:AHeap):FDoes Tryz.prog cnd 54 [.str (b0:: [])] H (decV (b0:: [])) H:=by
  refine FDoes.ofVC (dec41_vc b0 (lead b0.toNat).2.1 (lead b0.toNat).2.2 (fun v _=>v=decV (b0:: [])) ?_) rfl rfl H
  have hf: ∀ r,first (b0::r)=tail 3 1 (lead b0.toNat).2.1 (lead b0.toNat).2.2 (b0.toNat % 2^(7-4)) r:=fun r=>first_more b0 r 2 hl
  have good:first (b0:: [])=(65533,1,true):=by rw [hf];rfl
  exact⟨⟨leadT b0 4 hl _⟩,byte_fit b0,trivial,decV_of good rfl rfl⟩
theorem dec42(b0 b1:UInt8)(hl:(lead b0.toNat).1=4)(H:AHeap):FDoes Tryz.prog cnd 54 [.str (b0::b1:: [])] H (decV (b0::b1:: [])) H:=by
  refine FDoes.ofVC (dec42_vc b0 b1 (lead b0.toNat).2.1 (lead b0.toNat).2.2 (fun v _=>v=decV (b0::b1:: [])) ?_) rfl rfl H
  have hf: ∀ r,first (b0::r)=tail 3 1 (lead b0.toNat).2.1 (lead b0.toNat).2.2 (b0.toNat % 2^(7-4)) r:=fun r=>first_more b0 r 2 hl
  have bad1: ∀ (hc:b1.toNat<(lead b0.toNat).2.1∨(lead b0.toNat).2.2<b1.toNat),first (b0::b1:: [])=(65533,1,false):=fun hc=>by rw [hf];simp only [tail];rw [if_pos hc]
  have good: ∀ (h1: ¬ (b1.toNat<(lead b0.toNat).2.1∨(lead b0.toNat).2.2<b1.toNat)),first (b0::b1:: [])=(65533,2,true):=fun h1=>by rw [hf];simp only [tail];rw [if_neg h1]
  exact⟨⟨leadT b0 4 hl _⟩,byte_fit b0,trivial,⟨fun a1=>decV_of (bad1 (by omega)) rfl rfl,fun b_1=>⟨fun c1=>decV_of (bad1 (by omega)) rfl rfl,fun d1=>⟨nn6,trivial,iand_fit b1,trivial,decV_of (good (by omega)) rfl rfl⟩⟩⟩⟩
theorem dec43(b0 b1 b2:UInt8)(hl:(lead b0.toNat).1=4)(H:AHeap):FDoes Tryz.prog cnd 54 [.str (b0::b1::b2:: [])] H (decV (b0::b1::b2:: [])) H:=by
  refine FDoes.ofVC (dec43_vc b0 b1 b2 (lead b0.toNat).2.1 (lead b0.toNat).2.2 (fun v _=>v=decV (b0::b1::b2:: [])) ?_) rfl rfl H
  have hf: ∀ r,first (b0::r)=tail 3 1 (lead b0.toNat).2.1 (lead b0.toNat).2.2 (b0.toNat % 2^(7-4)) r:=fun r=>first_more b0 r 2 hl
  have bad1: ∀ (hc:b1.toNat<(lead b0.toNat).2.1∨(lead b0.toNat).2.2<b1.toNat),first (b0::b1::b2:: [])=(65533,1,false):=fun hc=>by rw [hf];simp only [tail];rw [if_pos hc]
  have bad2: ∀ (h1: ¬ (b1.toNat<(lead b0.toNat).2.1∨(lead b0.toNat).2.2<b1.toNat)) (hc:b2.toNat<128∨191<b2.toNat),first (b0::b1::b2:: [])=(65533,2,false):=fun h1 hc=>by rw [hf];simp only [tail];rw [if_neg h1,if_pos hc]
  have good: ∀ (h1: ¬ (b1.toNat<(lead b0.toNat).2.1∨(lead b0.toNat).2.2<b1.toNat)) (h2: ¬ (b2.toNat<128∨191<b2.toNat)),first (b0::b1::b2:: [])=(65533,3,true):=fun h1 h2=>by rw [hf];simp only [tail];rw [if_neg h1,if_neg h2]
  exact⟨⟨leadT b0 4 hl _⟩,byte_fit b0,trivial,⟨fun a1=>decV_of (bad1 (by omega)) rfl rfl,fun b_1=>⟨fun c1=>decV_of (bad1 (by omega)) rfl rfl,fun d1=>⟨nn6,trivial,iand_fit b1,trivial,⟨fun a2=>decV_of (bad2 (by omega) (by omega)) rfl rfl,fun b_2=>⟨fun c2=>decV_of (bad2 (by omega) (by omega)) rfl rfl,fun d2=>⟨nn6,trivial,iand_fit b2,trivial,decV_of (good (by omega) (by omega)) rfl rfl⟩⟩⟩⟩⟩⟩⟩
theorem dec44(b0 b1 b2 b3:UInt8)(r:Bytes)(hl:(lead b0.toNat).1=4)(H:AHeap):FDoes Tryz.prog cnd 54 [.str (b0::b1::b2::b3::r)] H (decV (b0::b1::b2::b3::r)) H:=by
  refine FDoes.ofVC (dec44_vc b0 b1 b2 b3 r (lead b0.toNat).2.1 (lead b0.toNat).2.2 (fun v _=>v=decV (b0::b1::b2::b3::r)) ?_) rfl rfl H
  have hf: ∀ r,first (b0::r)=tail 3 1 (lead b0.toNat).2.1 (lead b0.toNat).2.2 (b0.toNat % 2^(7-4)) r:=fun r=>first_more b0 r 2 hl
  have bad1: ∀ (hc:b1.toNat<(lead b0.toNat).2.1∨(lead b0.toNat).2.2<b1.toNat),first (b0::b1::b2::b3::r)=(65533,1,false):=fun hc=>by rw [hf];simp only [tail];rw [if_pos hc]
  have bad2: ∀ (h1: ¬ (b1.toNat<(lead b0.toNat).2.1∨(lead b0.toNat).2.2<b1.toNat)) (hc:b2.toNat<128∨191<b2.toNat),first (b0::b1::b2::b3::r)=(65533,2,false):=fun h1 hc=>by rw [hf];simp only [tail];rw [if_neg h1,if_pos hc]
  have bad3: ∀ (h1: ¬ (b1.toNat<(lead b0.toNat).2.1∨(lead b0.toNat).2.2<b1.toNat)) (h2: ¬ (b2.toNat<128∨191<b2.toNat)) (hc:b3.toNat<128∨191<b3.toNat),first (b0::b1::b2::b3::r)=(65533,3,false):=fun h1 h2 hc=>by rw [hf];simp only [tail];rw [if_neg h1,if_neg h2,if_pos hc]
  have good: ∀ (h1: ¬ (b1.toNat<(lead b0.toNat).2.1∨(lead b0.toNat).2.2<b1.toNat)) (h2: ¬ (b2.toNat<128∨191<b2.toNat)) (h3: ¬ (b3.toNat<128∨191<b3.toNat)),first (b0::b1::b2::b3::r)=((((b0.toNat % 8)*64+b1.toNat % 64)*64+b2.toNat % 64)*64+b3.toNat % 64,4,false):=fun h1 h2 h3=>by rw [hf];simp only [tail];rw [if_neg h1,if_neg h2,if_neg h3]
  have hv:ior .i32 (ishl .i32 (ior .i32 (ishl .i32 (ior .i32 (ishl .i32 (iand .i32 (b0.toNat:Int) 7) 6) (iand .u8 (b1.toNat:Int) 63)) 6) (iand .u8 (b2.toNat:Int) 63)) 6) (iand .u8 (b3.toNat:Int) 63)=(((((b0.toNat % 8)*64+b1.toNat % 64)*64+b2.toNat % 64)*64+b3.toNat % 64:Nat):Int):=by
    rw [mask4b,mask6b b1,mask6b b2,mask6b b3,shl6 _ (by omega),or6 _ _ (by omega) (by omega),shl6 _ (by omega),or6 _ _ (by omega) (by omega),shl6 _ (by omega),or6 _ _ (by omega) (by omega)]
  exact⟨⟨leadT b0 4 hl _⟩,byte_fit b0,trivial,⟨fun a1=>decV_of (bad1 (by omega)) rfl rfl,fun b_1=>⟨fun c1=>decV_of (bad1 (by omega)) rfl rfl,fun d1=>⟨nn6,trivial,iand_fit b1,trivial,⟨fun a2=>decV_of (bad2 (by omega) (by omega)) rfl rfl,fun b_2=>⟨fun c2=>decV_of (bad2 (by omega) (by omega)) rfl rfl,fun d2=>⟨nn6,trivial,iand_fit b2,trivial,⟨fun a3=>decV_of (bad3 (by omega) (by omega) (by omega)) rfl rfl,fun b_3=>⟨fun c3=>decV_of (bad3 (by omega) (by omega) (by omega)) rfl rfl,fun d3=>⟨nn6,trivial,iand_fit b3,trivial,decV_of (good (by omega) (by omega) (by omega)) hv rfl⟩⟩⟩⟩⟩⟩⟩⟩⟩⟩
theorem decode_does(s:Bytes)(H:AHeap):FDoes Tryz.prog cnd 54 [.str s] H (decV s) H:=by
  match s with
  | []=>exact dec0 H
  | b0::t =>
    rcases lead_cases b0.toNat with h | h | h | h | h
    · exact dec01 b0 t h H
    · exact dec11 b0 t h H
    · match t with
      | []=>exact dec21 b0 h H
      | b1::r=>exact dec22 b0 b1 r h H
    · match t with
      | []=>exact dec31 b0 h H
      | [b1]=>exact dec32 b0 b1 h H
      | b1::b2::r=>exact dec33 b0 b1 b2 r h H
    · match t with
      | []=>exact dec41 b0 h H
      | [b1]=>exact dec42 b0 b1 h H
      | [b1,b2]=>exact dec43 b0 b1 b2 h H
      | b1::b2::b3::r=>exact dec44 b0 b1 b2 b3 r h H
def decS:List AVal→AHeap→Option Alts:=pureS fun a=>match a with | [.str s]=>some (decV s,[]) | _=>none
theorem decS_ok: ∀ args h a,decS args h=some a→a.Ok Tryz.prog cnd 54 args h:=by
  refine pureS_ok ?_
  intro args v ps e hp H
  split at e<;>first | (cases e;done) | skip
  simp only [Option.some.injEq,Prod.mk.injEq]at e
  obtain⟨rfl,rfl⟩:=e
  exact decode_does _ H
abbrev rRow(l:List AVal)(v f:Nat):ABlk:= {elems:=l,es:=1,exact:=false,ro:=false,ver:=v,minVer:=0,forkLen:=f,ty:=some (21,0)}
noncomputable def specsR:Specs:=specs1.add 54 decS
theorem specsR_ok:SpecsOk Tryz.prog cnd specsR:=specs1_ok.add decS_ok
theorem runes0_vp(s:Bytes)(K0:AExit→Facts→AHeap→Prop)(vc:(0<(↑(List.length s):Int)→(-9223372036854775808≤0+(↑(Prod.fst (Prod.snd (first (List.drop 0 (List.take (List.length s) s))))):Int)∧0+(↑(Prod.fst (Prod.snd (first (List.drop 0 (List.take (List.length s) s))))):Int)≤9223372036854775807)∧K0 .normal [(0,.str s),(3,.slice (some ⟨16,0,0,0,1⟩) 1 1),(4,.int .i64 (0+(↑(Prod.fst (Prod.snd (first (List.drop 0 (List.take (List.length s) s))))):Int)))] (AHeap.rowsT 22 [(15,ABlk.made [.int .i32 (↑(Prod.fst (first (List.drop 0 (List.take (List.length s) s)))):Int)] 1 true),(16,ABlk.made [.int .i32 (↑(Prod.fst (first (List.drop 0 (List.take (List.length s) s)))):Int)] 1 false (some (21,0)))]))∧(¬0<(↑(List.length s):Int)→K0 (.exit 0) [(0,.str s),(3,.slice none 0 0),(4,.int .i64 0)] (AHeap.rowsT 4 []))) :
    ∃ e F1 h1,Runs Tryz.prog cnd 0 26 (loopAt Tryz.prog 150 0) [(0,.str s),(3,.slice none 0 0),(4,.int .i64 0)] (⟨0,.nil⟩) e F1 h1∧K0 e F1 h1 :=
  tpath_runs env_ok mixed specsR_ok (hs:= .br 3003 (hg 6002 .nil) .nil) (keep:= [0,3,4]) (by kernel_rfl) vc
theorem runes1_vp(s:Bytes)(i v f n:Nat)(l:List AVal)(K0:AExit→Facts→AHeap→Prop)(vc:((i:Int)<(↑(List.length s):Int)→(0≤(i:Int)∧(i:Int)≤(↑(List.length s):Int))∧(v=v∧0+n=List.length l∧n<n+1∧(n+1+(n+1) / 4+512)*4≤281474976710656∧n+1<4611686018427387904)∧(-9223372036854775808≤(i:Int)+(↑(Prod.fst (Prod.snd (first (List.drop i s)))):Int)∧(i:Int)+(↑(Prod.fst (Prod.snd (first (List.drop i s)))):Int)≤9223372036854775807)∧K0 .normal [(0,.str s),(3,.slice (some {id:=16,ver:=v+1,idx:=0,fld:=0,es:=1}) (n+1) (n+1)),(4,.int .i64 ((i:Int)+(↑(Prod.fst (Prod.snd (first (List.drop i s)))):Int)))] (AHeap.rowsT 42 [(16,⟨l++ [.int .i32 (↑(Prod.fst (first (List.drop i s))):Int)],1,false,false,v+1,0,if 0=v then List.length l else min f (List.length l),some (21,0)⟩),(35,ABlk.made [.int .i32 (↑(Prod.fst (first (List.drop i s))):Int)] 1 true)]))∧(¬(i:Int)<(↑(List.length s):Int)→K0 (.exit 0) [(0,.str s),(3,.slice (some ⟨16,v,0,0,1⟩) n n),(4,.int .i64 (i:Int))] (AHeap.rowsT 24 [(16,⟨l,1,false,false,v,0,f,some (21,0)⟩)]))) :
    ∃ e F1 h1,Runs Tryz.prog cnd 0 26 (loopAt Tryz.prog 150 0) [(0,.str s),(3,.slice (some ⟨16,v,0,0,1⟩) n n),(4,.int .i64 i)] (AHeap.rows 20 [(16,rRow l v f)]) e F1 h1∧K0 e F1 h1 :=
  tpath_runs env_ok mixed specsR_ok (hs:= .br 3003 (hg 4002 (hg 5003 (hg 6002 .nil))) .nil) (keep:= [0,3,4]) (by kernel_rfl) vc
theorem runes_vc(s:Bytes)(lv iv:AVal)(h':AHeap)(K0:AVal→AHeap→Prop)(vc:Runs Tryz.prog cnd 0 26 (Code.loop (loopAt Tryz.prog 150 0)) [(0,.str s),(3,.slice none 0 0),(4,.int .i64 0)] (AHeap.rowsT 3 []) (.exit 0) [(0,.str s),(3,lv),(4,iv)] h'∧K0 lv (AHeap.mk (h'.next+2) (AHeap.blks h'))) :
    ∃ v h1,FDoes Tryz.prog cnd 150 [.str s] (⟨0,.nil⟩) v h1∧K0 v h1 :=
  tcall_does env_ok mixed specsR_ok (hs:= .hint (.keep [0,3,4]) (.hint (.loop [(0,.str s),(3,lv),(4,iv)] h' (.exit 0)) .nil)) (by kernel_rfl) vc
end Go.Proofs.YtddnafghiejcoaaGreatDoor
namespace Go.Keys
theorem tail_bd: ∀ (k i lo hi v:Nat) (l:Bytes),i≤(tail k i lo hi v l).2.1∧(tail k i lo hi v l).2.1≤i+l.length
  | 0,i,lo,hi,v,l=>by simp [tail]
  | k+1,i,lo,hi,v,[]=>by simp [tail]
  | k +1,i,lo,hi,v,c::r=>by
    simp only [tail]
    split
    · simp
    · have:=tail_bd k (i+1) 128 191 (v*64+c.toNat % 64) r
      simp only [List.length_cons];omega
theorem first_n {s:Bytes} (h:s≠ []):1≤(first s).2.1∧(first s).2.1≤s.length:=by
  cases s with
  | nil=>exact absurd rfl h
  | cons b r =>
    simp only [first]
    split
    · simp
    · split
      · simp
      · have:=tail_bd ((lead b.toNat).1-1) 1 (lead b.toNat).2.1 (lead b.toNat).2.2 (b.toNat % 2^(7- (lead b.toNat).1)) r
        simp only [List.length_cons];omega
theorem runesN_fuel: ∀ (k k':Nat) (s:Bytes),s.length≤k→s.length≤k'→runesN k s=runesN k' s
  | 0,0,s,_,_=>rfl
  | 0,k'+1,[],_,_=>rfl
  | 0,k'+1,b::r,h,_=>by simp at h
  | k+1,0,[],_,_=>rfl
  | k+1,0,b::r,_,h=>by simp at h
  | k+1,k'+1,[],_,_=>rfl
  | k+1,k'+1,b::r,h,h'=>by
    simp only [runesN]
    have:=(first_n (s:=b::r) (by simp)).1
    rw [runesN_fuel k k' _ (by simp only [List.length_drop,List.length_cons]at *; omega) (by simp only [List.length_drop,List.length_cons]at *; omega)]
theorem runes_nil:runes []= []:=rfl
theorem runes_cons {s:Bytes}(h:s≠ []):runes s=(first s).1::runes (s.drop (first s).2.1):=by
  cases s with
  | nil=>exact absurd rfl h
  | cons b r =>
    have:=(first_n (s:=b::r) (by simp)).1
    unfold runes
    simp only [List.length_cons,runesN]
    rw [runesN_fuel r.length _ _ (by simp only [List.length_drop,List.length_cons];omega) (Nat.le_refl _)]
theorem runes_len_le: ∀ (n:Nat) (s:Bytes),s.length≤n→(runes s).length≤s.length
  | 0,s,h=>by
    have:s= []:=List.eq_nil_of_length_eq_zero (by omega)
    subst this;simp [runes_nil]
  | n +1,s,h=>by
    by_cases hs:s= []
    · subst hs;simp [runes_nil]
    · rw [runes_cons hs]
      have hf:=first_n hs
      have:=runes_len_le n (s.drop (first s).2.1) (by simp only [List.length_drop];omega)
      simp only [List.length_cons]
      simp only [List.length_drop]at this
      omega
end Go.Keys
namespace Go.Proofs.YtddnafghiejcoaaGreatDoor
open Go.Lift Go.Keys
set_option maxRecDepth 1000000
def rs(l:List Nat):List AVal:=l.map fun(n:Nat)=>AVal.int .i32 n
theorem rs_len(l:List Nat):(rs l).length=l.length:=by simp [rs]
def fk(n:Nat):Nat:=if n=1 then 0 else 1
abbrev rRowL(l:List Nat):ABlk:=rRow (rs l) (l.length-1) (fk l.length)
abbrev rF(s:Bytes)(l i:Nat):Facts:= [(0,.str s),(3,.slice (some ⟨16,l-1,0,0,1⟩) l l),(4,.int .i64 (i:Nat))]
theorem clo16 {n l c:Nat} :Clo (Go.Lift.Ids [16]) (.slice (some ⟨16,n,0,0,1⟩) l c):=(by show(16:Nat)∈ [16];simp)
theorem rs_bare(l:List Nat): ∀ e∈rs l,Bare e:=Bare.ints l .i32 fun(n:Nat)=>(n:Int)
theorem runes_ent(s:Bytes)(l i:Nat)(h:AHeap)(b:ABlk)(hb:BareB b)(hg:h.get 16=some b):Ent 0 26 (rF s l i) h (rF s l i) (AHeap.rows 20 [(16,b)]) :=
  Ent.drop (K:=20) (l:= [(16,b)]) (by simp [hg]) rfl rfl (by rfl) (by
    refine All.cons trivial (All.cons clo16 (All.cons trivial All.nil))) (by
    refine All.cons (fun e he=>(hb e he).clo _) All.nil)
theorem runes_loop (s:Bytes) (hs:s.length<2^40): ∀ (k i:Nat) (L:List Nat),s.length-i≤k→i≤s.length→1≤L.length→L.length≤i→ ∃ h',
    Loops Tryz.prog cnd 0 26 (loopAt Tryz.prog 150 0) (rF s L.length i) (AHeap.rows 20 [(16,rRowL L)]) (.exit 0) (rF s (L++runes (s.drop i)).length s.length) h'∧h'.get 16=some (rRowL (L++runes (s.drop i))):=by
  intro k
  induction k with
  | zero =>
    intro i L hk hi h1 hL
    obtain⟨e,F1,h1,hr,rfl,rfl,rfl⟩:=runes1_vp s i (L.length-1) (fk L.length) L.length (rs L) (fun e F1 h1=>e= .exit 0∧F1=rF s L.length i∧h1=AHeap.rowsT 24 [(16,rRowL L)]) ⟨fun h=>by omega,fun _=>⟨rfl,rfl,rfl⟩⟩
    have:i=s.length:=by omega
    subst this
    rw [List.drop_length,runes_nil,List.append_nil]
    exact⟨_,Loops.last (by simp) hr,by kernel_rfl⟩
  | succ k ih =>
    intro i L hk hi h1 hL
    by_cases hc:i<s.length
    · have hne:s.drop i≠ []:=by rw [Ne,List.drop_eq_nil_iff];omega
      have hf:=first_n hne
      rw [List.length_drop]at hf
      obtain⟨e,F1,h2,hr,rfl,rfl,hg⟩:=runes1_vp s i (L.length-1) (fk L.length) L.length (rs L) (fun e F1 h2=>e= .normal∧F1=rF s (L.length+1) (i+(first (s.drop i)).2.1)∧h2.get 16=some (rRowL (L++ [(first (s.drop i)).1]))) (by
        refine⟨fun _=>⟨⟨by omega,by omega⟩,⟨rfl,by rw [rs_len];omega,by omega,by omega,by omega⟩,⟨by omega,by omega⟩,rfl,?_,?_⟩,fun h=>by omega⟩
        · unfold rF;rw [show L.length+1-1=L.length-1+1 by omega];rfl
        · have e1:rs (L++ [(first (s.drop i)).1])=rs L++ [AVal.int .i32 ((first (s.drop i)).1:Int)]:=by simp [rs]
          have e2:(L++ [(first (s.drop i)).1]).length-1=L.length-1+1:=by simp;omega
          have e3:fk (L++ [(first (s.drop i)).1]).length=if 0=L.length-1 then(rs L).length else min (fk L.length) (rs L).length:=by
            rw [rs_len];unfold fk;simp only [List.length_append,List.length_cons,List.length_nil]
            by_cases c1:L.length=1
            · rw [if_neg (by omega),if_pos (by omega)];omega
            · rw [if_neg (by omega),if_neg (by omega),if_neg c1];omega
          show some _=some (rRow _ _ _)
          rw [e1,e2,e3])
      obtain⟨h',hl,hg'⟩:=ih (i+(first (s.drop i)).2.1) (L++ [(first (s.drop i)).1]) (by omega) (by omega) (by simp) (by simp;omega)
      have e4:(L++ [(first (s.drop i)).1])++runes (s.drop (i+(first (s.drop i)).2.1))=L++runes (s.drop i):=by
        rw [runes_cons hne,List.drop_drop];simp
      rw [e4]at hl hg'
      have e5:(L++ [(first (s.drop i)).1]).length=L.length+1:=by simp
      rw [show rF s (L++ [(first (s.drop i)).1]).length (i+(first (s.drop i)).2.1)=rF s (L.length+1) (i+(first (s.drop i)).2.1)by rw [e5]]at hl
      exact⟨h',Loops.round hr (runes_ent s _ _ _ (rRowL (L++ [(first (s.drop i)).1])) (rs_bare _) hg) hl,hg'⟩
    · obtain⟨e,F1,h1,hr,rfl,rfl,rfl⟩:=runes1_vp s i (L.length-1) (fk L.length) L.length (rs L) (fun e F1 h1=>e= .exit 0∧F1=rF s L.length i∧h1=AHeap.rowsT 24 [(16,rRowL L)]) ⟨fun h=>by omega,fun _=>⟨rfl,rfl,rfl⟩⟩
      have:i=s.length:=by omega
      subst this
      rw [List.drop_length,runes_nil,List.append_nil]
      exact⟨_,Loops.last (by simp) hr,by kernel_rfl⟩
theorem runes0_does(H:AHeap):FDoes Tryz.prog cnd 150 [.str []] H (.slice none 0 0) H:=by
  refine FDoes.ofVC (runes_vc [] (.slice none 0 0) (.int .i64 0) (AHeap.rowsT 4 []) (fun v _=>v= .slice none 0 0) ⟨?_,rfl⟩) rfl rfl H
  refine Runs.of_loops ?_
  obtain⟨e,F1,h1,hr,rfl,rfl,rfl⟩:=runes0_vp [] (fun e F1 h1=>e= .exit 0∧F1= [(0,AVal.str []),(3,AVal.slice none 0 0),(4,AVal.int IntKind.i64 0)]∧h1=AHeap.rowsT 4 []) ⟨fun h=>by simp at h,fun _=>⟨rfl,rfl,rfl⟩⟩
  exact(Loops.last (by simp) hr).pre (Ent.drop (K:=0) (l:= []) rfl (by decide) (by decide) (by rfl) (All.cons trivial (All.cons trivial (All.cons trivial All.nil))) All.nil)
theorem runes_does(s:Bytes)(hs:s.length<2^40)(h0:s≠ [])(H:AHeap):FDoes Tryz.prog cnd 150 [.str s] H (.slice (some ⟨H.next,(runes s).length-1,0,0,1⟩) (runes s).length (runes s).length) (H.upd [] [rRowL (runes s)]):=by
  have hf:=first_n h0
  have hpos:0<s.length:=List.length_pos_iff.2 h0
  have e0:List.drop 0 (List.take s.length s)=s:=by simp
  obtain⟨e,F1,h1,hr,rfl,rfl,hg1⟩:=runes0_vp s (fun e F1 h1=>e= .normal∧F1=rF s 1 (first s).2.1∧h1.get 16=some (rRowL [(first s).1])) (by
    rw [e0]
    exact⟨fun _=>⟨⟨by omega,by omega⟩,rfl,by rw [show(0:Int)+((first s).2.1:Int)=(((first s).2.1:Nat):Int)by omega],rfl⟩,fun h=>by omega⟩)
  obtain⟨h',hl,hg⟩:=runes_loop s hs s.length (first s).2.1 [(first s).1] (by omega) hf.2 (by simp) (by simpa using hf.1)
  rw [show [(first s).1]++runes (s.drop (first s).2.1)=runes s from(runes_cons h0).symm]at hl hg
  have hL:=(Loops.round hr (runes_ent s 1 (first s).2.1 h1 (rRowL [(first s).1]) (rs_bare _) hg1) hl).pre (Ent.drop (h:=AHeap.rowsT 3 []) (K:=0) (l:= []) rfl (by decide) (by decide) (by rfl) (All.cons trivial (All.cons trivial (All.cons trivial All.nil))) All.nil)
  obtain⟨v,h2,hd,rfl,hg2⟩:=runes_vc s (.slice (some ⟨16,(runes s).length-1,0,0,1⟩) (runes s).length (runes s).length) (.int .i64 (s.length:Nat)) h' (fun v h2=>v= .slice (some ⟨16,(runes s).length-1,0,0,1⟩) (runes s).length (runes s).length∧h2.get 16=some (rRowL (runes s))) ⟨Runs.of_loops hL,rfl,hg⟩
  exact FDoes.new1 (l:= []) (bn:=rRowL (runes s)) hd (fun b hb=>by cases hb) (rs_bare _) rfl hg2 (by simp) (by exact⟨trivial,trivial⟩) [] List.nodup_nil (fun j hj=>by cases hj) rfl
end Go.Proofs.YtddnafghiejcoaaGreatDoor
