/-
  Parts of the proof, one behind the other:
  TableSorts: its arguments, as they came in.
  What the table's statements lean on of the library's variables, where the row's variables hold what the card ties them to; and a world in which all of it lies.
-/
import Derived.Test.YtjpfnbihopoeeaaGreatDoorRows
import Derived.ProofKit
import Derived.LaidMore
import Derived.OpenShut
import Derived.Stop.Joined
import Derived.Stop.LaidErr
import Derived.MakeChecks
import Derived.Lib.LaidTab
import Derived.LaidOnce
import Derived.Test.YtjpfnbihopoeeaaGreatDoorKTableSortsF
set_option linter.unusedVariables false
set_option linter.unusedSimpArgs false
set_option linter.unusedSectionVars false
namespace Go.Proofs.YtjpfnbihopoeeaaGreatDoor
open Go.ChangeShapes Go.WideShapes Go.ChangeAt Go.RowKit
open Go.Lift
set_option maxRecDepth 1000000
section
variable {H:Type}{enc:TypeId×Value→H}{P:Program}{w:World}
theorem open_txt_rows2 {t e q:TypeId} (ht:P.underlying t=some (.slice e)) (he:P.underlying e=some (.slice q)) (ce:P.cellsOf e=1) (cq:P.cellsOf q=1) (bq:P.bytesOf q=16) (hks:(List.range 1).map (cellKind P 5 q)=([TK.string]:List TK).map some) (hw:0<w.heap.size)
    {a:Option Addr} {len cap:Nat} {dd:DataW H} {ps:List MemPlace} (h:DataW.Trod enc P w 0 (fun _=>true) true t (.slice a len cap) dd ps) (hwt: ∀ y∈dd.weights P t,y≤reachBytes) :
    ∃ (l:List (ABlk×Lift.Place)) (o:Option AAddr) (c:Nat) (rs:List Rr),(∀ S,∀ x∈l,ArgRow2 (rowsMap (l.map (·.2))) S w x.1 x.2)∧VRel (rowsMap (l.map (·.2))) (.slice o len c) (.slice a len cap)∧Tq (AHeap.of (l.map (·.1))) 0 (.slice o len c) rs∧rs.length=len∧0<(AHeap.of (l.map (·.1))).next ∧
      (∀ r∈rs,r.q<(AHeap.of (l.map (·.1))).next)∧(∀ r∈rs,r.l.length*16≤reachBytes∧ ∀ s∈r.l,s.length≤reachBytes)∧len≤maxLen∧ ∀ r∈rs,∃ es sp d A C ps',dd= .slice es sp∧d∈es∧DataW.Trod enc P w 0 (fun _=>true) true e (.slice A r.l.length C) d ps':=by
  obtain⟨fuel,hf⟩:=h
  have hf':DataW.trod enc P w 0 (fun _=>true) true fuel t [.slice a len cap]=some (dd,ps):=hf
  rcases DataW.trod_slice ht hf' with ⟨hcs,_⟩ | ⟨x,l0,c0,elems,rest,n,_,hcs,hxx,_,hl,hm,hlen,hel,hsp,_⟩
  · simp at hcs
    obtain⟨rfl,rfl,rfl⟩:=hcs
    refine⟨[(noBlk 1,noPlace 1)],none,0,[],(fun S x h=>by rw [List.mem_singleton.1 h];exact(noRow hw (by omega)).two),by simp [VRel],⟨Rd.nil _ _,by simp⟩,rfl,?_,by simp,by simp,by simp,by simp⟩
    rw [AHeap.of_next];simp
  · simp at hcs
    obtain⟨rfl,rfl,rfl⟩:=hcs
    obtain⟨hrl,hr⟩:=hsp rfl
    simp only [Prod.mk.injEq]at hxx
    by_cases hcap:cap=0
    · subst hcap
      obtain rfl:len=0:=by omega
      refine⟨[(noBlk 1,noPlace 1)],some ⟨0,0,0,0,1⟩,0,[],(fun S x h=>by rw [List.mem_singleton.1 h];exact(noRow hw (by omega)).two),?_,⟨⟨_,_,rfl,(fun a h=>by cases h;exact⟨rfl,rfl⟩),.inl rfl⟩,by simp⟩,rfl,?_,by simp,by simp,by simp,by simp⟩
      · simp only [VRel]
        exact⟨x,0,rfl,Nat.le_refl _,Nat.le_refl _,.inl ⟨rfl,_,rfl,rfl,.inl rfl,fun _=>rfl⟩⟩
      · rw [AHeap.of_next];simp
    have each0: ∀ r,r<cap→ ∃ v y,w.cell? (x.add r)=some v∧DataW.trod enc P w 0 (fun _=>true) true n e [v]=some y∧(r<len→y∈elems):=by
      intro r hr'
      have hb: ∃ y,(w.cells? 0 (x.add (r*P.cellsOf e)) (P.cellsOf e)).bind (DataW.trod enc P w 0 (fun _=>true) true n e)=some y∧(r<len→y∈elems):=by
        by_cases k1:r<len
        · exact⟨_,(hel r k1).trans (List.getElem?_eq_getElem (by omega)),fun _=>List.getElem_mem _⟩
        · have:=hr (r-len) (by omega)
          rw [show len+(r-len)=r by omega]at this
          exact⟨_,this.trans (List.getElem?_eq_getElem (by omega)),fun h=>absurd h k1⟩
      obtain⟨y,hy,hm'⟩:=hb
      rw [ce,Option.bind_eq_some_iff,Nat.mul_one]at hy
      obtain⟨cs,h1,h2⟩:=hy
      have hc3:=World.cells?_some h1
      have hcl:cs.length=1:=hc3.2.1
      match cs,hcl with
      | [v],_ =>
        have e0:=hc3.2.2 0 (by decide)
        exact⟨v,y,by
          have:(x.add r).add 0=x.add r:=by unfold Addr.add;simp
          rw [← this];exact e0,h2,hm'⟩
    have inW: ∀ r (hr':r<cap),Nonempty (RowIn w x r fun z=>r<len→z≤reachBytes∨False):=by
      intro r hr'
      obtain⟨v,y,h1,h2,h3⟩:=each0 r hr'
      refine row_in he hks cq hw h1 h2 _ fun z hz hlt=> .inl (hwt z ?_)
      rw [hxx.1]
      simp only [DataW.weights,ht]
      exact List.mem_cons_of_mem _ (List.mem_append_left _ (weights_all (List.mem_map.2 ⟨_,h3 hlt,rfl⟩) hz))
    let y:Fin cap→Sigma fun r=>RowIn w x r fun z=>r<len→z≤reachBytes∨False:=fun i=>⟨i.1,Classical.choice (inW i.1 i.2)⟩
    let g:(i:Fin cap)→RowIn w x i.1 fun z=>i.1<len→z≤reachBytes∨False:=fun i=>Classical.choice (inW i.1 i.2)
    have hspot:x.spot=none:=by
      have h0:=(g ⟨0,by omega⟩).cell
      simpa [Addr.add]using World.cell?_spot h0
    have hadd: ∀ i,i<cap→x.add i=⟨x.block,x.off+i,none⟩:=by
      intro i hi
      obtain⟨bl,of,sp⟩:=x
      simp only at hspot
      subst hspot
      unfold Addr.add
      split
      · rename_i h0;subst h0;rfl
      · rfl
    have hb:x.block<w.heap.size:=by
      have:=(g ⟨0,by omega⟩).cell
      unfold World.cell? at this
      split at this
      · rename_i hb
        have hb':=(Array.getElem?_eq_some_iff.1 hb).1
        simpa [Addr.add]using hb'
      · cases this
    let ob:ABlk:= {elems:=List.ofFn fun i=> .slice (g i).o (g i).L (g i).c,es:=1,exact:=true,ro:=true,ver:=0,minVer:=0,forkLen:=0,ty:=none}
    let op:Lift.Place:= {blk:=x.block,off:=x.off,lo:=0,es:=1,tot:=cap,exact:=true,ro:=true}
    let l:List (ABlk×Lift.Place):=(ob,op)::List.ofFn fun i=>((g i).b,(g i).p)
    have hln:l.length=1+cap:=by simp [l];omega
    have hlr: ∀ i:Fin cap,l[1+i.1]? =some ((g i).b,(g i).p):=by
      intro i
      rw [show 1+i.1=i.1+1 by omega]
      simp [l]
    have hmap: ∀ i:Fin cap,rowsMap (l.map (·.2)) (1+i.1) 0=some (g i).p:=by
      intro i
      unfold rowsMap
      rw [if_pos rfl,List.getElem?_map,hlr i];rfl
    have hrow: ∀ S,Row (rowsMap (l.map (·.2))) S ob 0 op w:=by
      intro S
      refine⟨hb,(fun h=>by cases h),?_,(fun h=>by cases h),(fun h=>by cases h),(fun q h=>by cases h),?_⟩
      · intro o ho
        have ho:o<cap:=by simpa [op]using ho
        have:=(g ⟨o,ho⟩).cell
        rw [hadd o ho]at this
        show(w.cell? ⟨x.block,x.off+o,none⟩).isSome=true
        rw [this];rfl
      · intro i e' _ _ he'
        have he':(List.ofFn fun i:Fin cap=>AVal.slice (g i).o (g i).L (g i).c)[i]? =some e':=he'
        have hi:i<cap:=by have:=(List.getElem?_eq_some_iff.1 he').1;simpa using this
        have he2:e'= .slice (g ⟨i,hi⟩).o (g ⟨i,hi⟩).L (g ⟨i,hi⟩).c:=by
          simp [hi]at he'
          exact he'.symm
        subst he2
        refine⟨by simp [AVal.cells,op],by simpa [op]using hi,fun j x' hx'=> ?_⟩
        simp only [AVal.cells]at hx'
        have hj:j=0:=by
          have:=(List.getElem?_eq_some_iff.1 hx').1;simpa using this
        subst hj
        simp only [List.getElem?_cons_zero,Option.some.injEq]at hx'
        subst hx'
        refine⟨.slice (g ⟨i,hi⟩).A (g ⟨i,hi⟩).L (g ⟨i,hi⟩).C,?_,(g ⟨i,hi⟩).rel _ (hmap ⟨i,hi⟩),rfl⟩
        have h1:=(g ⟨i,hi⟩).cell
        rw [hadd i hi]at h1
        simpa [Place.at,op]using h1
    let rs:List Rr:=List.ofFn fun i:Fin len=>⟨1+i.1,.slice (g ⟨i.1,by omega⟩).o (g ⟨i.1,by omega⟩).L (g ⟨i.1,by omega⟩).c,(g ⟨i.1,by omega⟩).tx⟩
    have hnext:(AHeap.of (l.map (·.1))).next=1+cap:=by rw [AHeap.of_next,List.length_map,hln]
    have hvs:(vsOf rs).length=len:=by simp [rs]
    refine⟨l,some ⟨0,0,0,0,1⟩,cap,rs,fun S=> ?_,?_,⟨⟨_,cap,by rw [hvs],(fun a h=>by cases h;exact⟨rfl,rfl⟩),.inr ⟨0,0,ob,rfl,by omega,?_,fun i hi=> ?_⟩⟩,fun r hr'=> ?_⟩,by simp [rs],by omega,fun r hr'=> ?_,fun r hr'=> ?_,Nat.le_trans hl hm,fun r hr'=> ?_⟩
    · intro z hz
      rcases List.mem_cons.1 hz with rfl | hz
      · exact⟨rfl,rfl,rfl,rfl,by simp [op],rfl,hrow S⟩
      · obtain⟨i,rfl⟩:=(List.mem_ofFn.1 hz)
        exact(g i).row.two
    · simp only [VRel]
      refine⟨x,cap,rfl,hl,Nat.le_refl _,.inl ⟨rfl,op,?_,rfl,?_,fun _=>rfl⟩⟩
      · unfold rowsMap;rw [if_pos rfl];rfl
      · refine .inr ⟨Nat.le_refl _,?_,by simp [op]⟩
        have:=hadd 0 (by omega)
        simp only [Addr.add,if_true]at this
        simpa [Place.at,op]using this
    · rw [AHeap.of_get];rfl
    · have hi':i<len:=by omega
      have h1:ob.elem? 0 (0+i)=ob.elems[i]? :=by simp [ABlk.elem?,ABlk.lim,ob]
      rw [h1]
      simp [ob,rs,show i<cap by omega]
    · obtain⟨i,rfl⟩:=(List.mem_ofFn.1 hr')
      have G:=g ⟨i.1,by omega⟩
      have hi:i.1<cap:=by omega
      have hlen':=(g ⟨i.1,hi⟩).len
      have hgb:(AHeap.of (l.map (·.1))).get (1+i.1)=some (g ⟨i.1,hi⟩).b:=by
        rw [AHeap.of_get,List.getElem?_map,hlr ⟨i.1,hi⟩];rfl
      refine⟨(g ⟨i.1,hi⟩).o,(g ⟨i.1,hi⟩).c,by rw [List.length_map,hlen'],?_,?_⟩
      · intro a ha
        rcases (g ⟨i.1,hi⟩).sl with h | ⟨h,_⟩
        · rw [h]at ha;cases ha;exact⟨rfl,rfl⟩
        · rw [h]at ha;cases ha
      · rcases (g ⟨i.1,hi⟩).sl with h | ⟨_,h,_⟩
        · refine .inr ⟨0,0,_,h,by show 1+i.1<_;omega,hgb,fun j hj=> ?_⟩
          have hj':j<(g ⟨i.1,hi⟩).tx.length:=by simpa using hj
          rw [(g ⟨i.1,hi⟩).el j hj']
          simp
        · left
          rw [List.map_eq_nil_iff]
          exact List.length_eq_zero_iff.1 (by rw [hlen',h])
    · obtain⟨i,rfl⟩:=(List.mem_ofFn.1 hr')
      show 1+i.1<_
      omega
    · obtain⟨i,rfl⟩:=(List.mem_ofFn.1 hr')
      have hi:i.1<cap:=by omega
      refine⟨?_,fun s hs=>(g ⟨i.1,hi⟩).w reachBytes (fun z hz=>(hz i.2).resolve_right id) s hs⟩
      show(g ⟨i.1,hi⟩).tx.length*16≤reachBytes
      rw [(g ⟨i.1,hi⟩).len]
      obtain⟨v,y',h1,h2,h3⟩:=each0 i.1 hi
      have hv:v= .slice (g ⟨i.1,hi⟩).A (g ⟨i.1,hi⟩).L (g ⟨i.1,hi⟩).C:=by
        have:=(g ⟨i.1,hi⟩).cell
        rw [h1]at this
        simpa using this
      subst hv
      have:=weight_len he (dd:=y'.1) (ps:=y'.2) ⟨n,h2⟩ (fun z hz=>hwt z (by
        rw [hxx.1]
        simp only [DataW.weights,ht]
        exact List.mem_cons_of_mem _ (List.mem_append_left _ (weights_all (List.mem_map.2 ⟨_,h3 i.2,rfl⟩) hz))))
      rw [bq]at this
      exact this
    · obtain⟨i,rfl⟩:=(List.mem_ofFn.1 hr')
      have hi:i.1<cap:=by omega
      obtain⟨v,y',h1,h2,h3⟩:=each0 i.1 hi
      have hv:v= .slice (g ⟨i.1,hi⟩).A (g ⟨i.1,hi⟩).L (g ⟨i.1,hi⟩).C:=by
        have:=(g ⟨i.1,hi⟩).cell
        rw [h1]at this
        simpa using this
      subst hv
      refine⟨_,_,y'.1,(g ⟨i.1,hi⟩).A,(g ⟨i.1,hi⟩).C,y'.2,hxx.1,List.mem_map.2 ⟨_,h3 i.2,rfl⟩,n,?_⟩
      have e1:(g ⟨i.1,hi⟩).tx.length=(g ⟨i.1,hi⟩).L:=(g ⟨i.1,hi⟩).len
      show DataW.trod enc P w 0 (fun _=>true) true n e [.slice (g ⟨i.1,hi⟩).A (g ⟨i.1,hi⟩).tx.length (g ⟨i.1,hi⟩).C]=some y'
      rw [e1]
      exact h2
end
theorem two_rows {w:World}{l:List (ABlk×Lift.Place)}(hl: ∀ S,∀ x∈l,ArgRow2 (rowsMap (l.map (·.2))) S w x.1 x.2){b:ABlk}{p:Lift.Place}(hb:ArgRow w b p) :
    (∀ S,HRel (rowsMap ((l++ [(b,p)]).map (·.2))) S (AHeap.of ((l++ [(b,p)]).map (·.1))) w)∧(rowsMap (l.map (·.2))).le (rowsMap ((l++ [(b,p)]).map (·.2)))∧rowsMap ((l++ [(b,p)]).map (·.2)) l.length 0=some p∧Fr (AHeap.of (l.map (·.1))) (AHeap.of ((l++ [(b,p)]).map (·.1))) []∧(AHeap.of ((l++ [(b,p)]).map (·.1))).get l.length=some b∧(AHeap.of ((l++ [(b,p)]).map (·.1))).next=l.length+1:=by
  have le:(rowsMap (l.map (·.2))).le (rowsMap ((l++ [(b,p)]).map (·.2))):=by
    intro i v q hq
    unfold rowsMap at hq ⊢
    split at hq
    · rename_i h
      rw [if_pos h,List.map_append,List.getElem?_append_left (List.getElem?_eq_some_iff.1 hq).1]
      exact hq
    · cases hq
  refine⟨fun S=>HRel.of_rows _ fun x hx=> ?_,le,?_,⟨?_,fun x hx _=> ?_⟩,?_,?_⟩
  · rcases List.mem_append.1 hx with h | h
    · have k:=hl S x h
      exact⟨k.ro,k.bro,k.ver,k.es,k.pos,k.exact,k.row.mono le⟩
    · rw [List.mem_singleton.1 h];exact hb.two
  · unfold rowsMap
    rw [if_pos rfl];simp
  · rw [AHeap.of_next,AHeap.of_next];simp
  · rw [AHeap.of_next,List.length_map]at hx
    rw [AHeap.of_get,AHeap.of_get,List.map_append,List.getElem?_append_left (by simpa using hx)]
  · rw [AHeap.of_get];simp
  · rw [AHeap.of_next];simp
theorem keys_of {w:World}{x:Addr}{o:Option AAddr}{len c id:Nat}{b:ABlk}(h:SlArg o len c id 0 0 3)(hx: ∀ i,i<len→b.elem? 0 (0+i)=some (elemAt w x true 3 i))(he: ∀ i j,i<len→j<3→ ∃ k,([.int .i64,.bool,.bool]:List TK)[j]? =some k∧CellIs k (cellAt w x (i*3+j)))
    {H:AHeap} (hg:H.get id=some b) (hid:id<H.next): ∃ ks:List K3,ks.length=len∧Kd H id (.slice o len c) ks:=by
  have key: ∀ i,i<len→ ∃ y:K3,elemAt w x true 3 i=keyA y:=by
    intro i hi
    obtain⟨k0,a0,b0⟩:=he i 0 hi (by omega)
    obtain⟨k1,a1,b1⟩:=he i 1 hi (by omega)
    obtain⟨k2,a2,b2⟩:=he i 2 hi (by omega)
    simp at a0 a1 a2
    subst a0 a1 a2
    obtain⟨n,e0,_⟩:=b0
    obtain⟨p,e1⟩:=b1
    obtain⟨q,e2⟩:=b2
    refine⟨(n,p,q),?_⟩
    have e:elemAt w x true 3 i= .agg [ofScalar (cellAt w x (i*3+0)),ofScalar (cellAt w x (i*3+1)),ofScalar (cellAt w x (i*3+2))]:=rfl
    rw [e,e0,e1,e2]
    rfl
  let f:Fin len→K3:=fun i=>Classical.choose (key i.1 i.2)
  have hf: ∀ i:Fin len,elemAt w x true 3 i.1=keyA (f i):=fun i=>Classical.choose_spec (key i.1 i.2)
  refine⟨List.ofFn f,by simp,o,c,by simp,?_⟩
  rcases h with h | ⟨_,h,_⟩
  · refine .inr ⟨0,0,b,h,hid,hg,fun i hi=> ?_⟩
    have hi':i<len:=by simpa using hi
    rw [hx i hi',hf ⟨i,hi'⟩]
    simp
  · subst h
    exact .inl (by simp)
theorem bulk_pos {H:Type}(d:DataW H):1≤Rows.uptoBulk d:=by
  cases d with
  | lit x=>cases x<;>simp [Rows.uptoBulk]
  | _=>simp [Rows.uptoBulk]
theorem bulk_all {H:Type} : ∀ ds:List (DataW H),ds.length≤Rows.uptoBulkAll ds
  | []=>Nat.zero_le _
  | d::r=>by
    have:=bulk_all r
    have:=bulk_pos d
    simp only [Rows.uptoBulkAll,List.length_cons]
    omega
theorem bulk_mem {H:Type}{d:DataW H} : ∀ {ds:List (DataW H)},d∈ds→Rows.uptoBulk d≤Rows.uptoBulkAll ds
  | a::r,h=>by
    simp only [Rows.uptoBulkAll]
    rcases List.mem_cons.1 h with rfl | h
    · omega
    · have:=bulk_mem h;omega
theorem bulk_slice {H:Type}{enc:TypeId×Value→H}{P:Program}{w:World}{base:Nat}{spare:Nat→Bool}{held:Bool}{t e:TypeId}(ht:P.underlying t=some (.slice e)){a:Option Addr}{len cap:Nat}{dd:DataW H}{ps:List MemPlace}(h:DataW.Trod enc P w base spare held t (.slice a len cap) dd ps):len≤Rows.uptoBulk dd:=by
  obtain⟨fuel,hf⟩:=h
  have hf':DataW.trod enc P w base spare held fuel t [.slice a len cap]=some (dd,ps):=hf
  rcases DataW.trod_slice ht hf' with ⟨hcs,_⟩ | ⟨x,l,c,elems,rest,n,_,hcs,hx,_,hl,hm,hlen,_⟩
  · simp at hcs
    obtain⟨_,rfl,_⟩:=hcs
    exact Nat.zero_le _
  · simp at hcs
    obtain⟨_,rfl,_⟩:=hcs
    simp only [Prod.mk.injEq]at hx
    rw [hx.1]
    have:=bulk_all (elems.map (·.1))
    rw [List.length_map]at this
    simp only [Rows.uptoBulk]
    omega
theorem bulk_rows {H:Type}{enc:TypeId×Value→H}{P:Program}{w:World}{e q:TypeId}(he:P.underlying e=some (.slice q)){dd:DataW H}{rs:List Rr}(h: ∀ r∈rs,∃ es sp d A C ps',dd= .slice es sp∧d∈es∧DataW.Trod enc P w 0 (fun _=>true) true e (.slice A r.l.length C) d ps'): ∀ r∈rs,r.l.length≤Rows.uptoBulk dd:=by
  intro r hr
  obtain⟨es,sp,d,A,C,ps',rfl,h2,h3⟩:=h r hr
  have h4:=bulk_slice he h3
  have h5:=bulk_mem h2
  simp only [Rows.uptoBulk]
  omega
theorem sorts_law_at {D:Type}{d0 d1 d2:DataW D}{H:AHeap}{qk N:Nat}{rv kv:AVal}{rs:List Rr}{ks:List K3}(t:Tq H 0 rv rs)(hN:rs.length=N)(h0:0<H.next)(hq: ∀ r∈rs,r.q<H.next)(hw: ∀ r∈rs,r.l.length*16≤reachBytes∧ ∀ s∈r.l,s.length≤reachBytes)(b0:N≤Rows.uptoBulk d0)(b1: ∀ r∈rs,r.l.length≤Rows.uptoBulk d0)
    (kd:Kd H qk kv ks) (hqk:qk<H.next) (b2:ks.length≤Rows.uptoBulk d2) (hk:Rows.uptoSmall D [d0,d1,d2]=true) (hv:Bool) :
    ∃ h',FDoes Tryz.prog cnd 7 [rv,.bool hv,kv] H (.bool true) h':=by
  have hq':Rows.uptoBulkAll [d0,d1,d2]≤1048576:=of_decide_eq_true hk
  simp only [Rows.uptoBulkAll]at hq'
  refine sorts_core (by omega) t h0 hq (fun r hr=>by have:=b1 r hr;omega) (fun r hr x hx=> ?_) kd hqk (by omega) hv
  have:=(hw r hr).2 x hx
  have e:reachBytes≤2^47:=by decide
  omega
end Go.Proofs.YtjpfnbihopoeeaaGreatDoor
namespace Go.Proofs.YtjpfnbihopoeeaaGreatDoor
open Go.ChangeShapes Go.WideShapes Go.RowKit Go.Stop
open Go.Lift
set_option maxRecDepth 1000000
noncomputable def laidWorld(os:Os):World :=
  {World.doorLaid Tryz.prog 96 os with heap:=(World.doorLaid Tryz.prog 96 os).heap.modify 3 fun
      | .cells _ t frozen=> .cells (Go.Pinned.utf8FirstZ.map fun(z:Nat)=>Value.int .u8 (z:Int)).toArray t frozen
      | o=>o}
theorem laidMet_of_bits {P:Program}{w:World}{l:List (String×DataW Unit)}(fuel M:Nat)(h:(DataW.laidRun P w fuel (l.map (·.1))).bind (fun x=>if nodupBits M x.2 0 && laidRowsB P w x.2 then some x.1 else none)=some l):laidMet P l w:=by
  simp only [Option.bind_eq_some_iff]at h
  obtain⟨x,hx,d⟩:=h
  split at d
  · rename_i hb
    simp only [Bool.and_eq_true]at hb
    simp only [Option.some.injEq]at d
    exact laidMet_of_run (ps:=x.2) fuel (by rw [hx,← d]) (decide_eq_true (nodupBits_sound hb.1).1) hb.2
  · cases d
theorem laid_met(os:Os)(args:Array Value):laidMetH Tryz.prog Rows.tableKnownRow.laid ((laidWorld os).forCall (fun _ _=>0) ⟨#[],args,[]⟩).memory:=by
  rw [MakeChecks.laidMetH_plain _ _ _ (by kernel_rfl)]
  exact laidMet_of_bits 8 257 (by kernel_rfl)
theorem gSyn:Tryz.prog.globalNamed "strconv.ErrSyntax" =some 1:=by kernel_rfl
theorem gSynT:(Tryz.prog.globals[1]?).map (·.type)=some 100:=by kernel_rfl
theorem starE: "*" ++ "errors.errorString" = "*errors.errorString" :=by decide
theorem rowE(u:TypeId)(h:Tryz.prog.typeName? 3 u=some "*errors.errorString"):u=276 :=
  typeName_ptr_named (nm:= "errors.errorString") (by rw [starE];kernel_rfl) (by kernel_rfl) (by decide) u (by rw [starE];exact h)
theorem eCells:Tryz.prog.cellsOf 278=1:=by kernel_rfl
theorem strCells:Tryz.prog.cellsOf 9=1:=by kernel_rfl
theorem cell_of_var {P:Program}{W:World}{n:String}{g:Nat}{v:Value}(hg:P.globalNamed n=some g)(h:W.var? P n=some #[v]):W.cell? ⟨g,0,none⟩=some v∧g<W.heap.size:=by
  unfold World.var? at h
  rw [hg]at h
  simp only [Option.bind_some]at h
  split at h
  · rename_i cs t f hh
    simp only [Option.some.injEq]at h
    subst h
    refine⟨by simp [World.cell?,hh],(Array.getElem?_eq_some_iff.1 hh).1⟩
  · cases h
theorem cnd_of_laid {W:World}(h:laidMetH Tryz.prog Rows.tableKnownRow.laid W):cnd (fun k=>k<W.heap.size) W:=by
  rw [MakeChecks.laidMetH_plain _ _ _ (by kernel_rfl)]at h
  have h5:=laidMet.tail (laidMet.tail (laidMet.tail (laidMet.tail (laidMet.tail h))))
  obtain⟨a2,s2,hs,_⟩:=laid_sentinel h5 gSyn gSynT Tryz.underlying100 rowE Tryz.underlying276 Tryz.underlying278 rfl rfl Tryz.underlying9 eCells strCells
  obtain⟨s1,s2⟩:=cell_of_var gSyn hs
  exact⟨s2,⟨_,_,s1⟩⟩
end Go.Proofs.YtjpfnbihopoeeaaGreatDoor
