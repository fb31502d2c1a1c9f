/-
  Parts of the proof, one behind the other:
  Clone, By, and the function that Sort hands on, in every memory.
  table.Sort in every memory.
  table.Sort in every memory, the whole.
  times and TableSorted, as trees.
  times and By in every memory.
  TableSorted: its loops, and what a sorted table is.
  TableSorted answers true.
  THE LIFT: arguments that came in, as rows that must not be written.
  THE LIFT: a slice of slices of integers, as it came in.
  THE LIFT: arguments of flat types (numbers, bools, strings, structs and arrays of these; slices of such), as they came in.
  Flat slices whose elements hold texts: these are not too long.
  A slice of slices of texts, as it came in; TableSorted at it.
  ahead and the document's Sort, as trees.
  lent and kept, as trees.
  TableSorts: the keys as they are read; ahead in every memory.
  TableSorts: the document's Sort in every memory.
  TableSorts: the document's Sort, whole.
  TableSorts: lent: rows in memory of their own, with marks behind each.
  TableSorts: lent in every memory.
  TableSorts: kept in every memory.
  TableSorts, as trees.
  TableSorts: the order that is made, one function for each key.
  TableSorts: the document's list is the sorted one.
  TableSorts answers true.
-/
import Derived.ProofKit
import Derived.OpenShut
import Derived.ChangeOld
import Derived.HandedShaped
import Derived.Deep.Matrix
import Derived.Deep.Slices
import Derived.Test.YtjpfnbihopoeeaaGreatDoorKTableSortsE
set_option linter.unusedVariables false
set_option linter.unusedSimpArgs false
set_option linter.unusedSectionVars false
namespace Go.Proofs.YtjpfnbihopoeeaaGreatDoor
open Go.Lift
set_option maxRecDepth 1000000
theorem build0S {F:Facts}{nid:Nat}{H:AHeap} :aop env noCall nid (getF F) H (Op.buildSlice 36 0 {toList:= []})=some (.slice (some ⟨nid,0,0,0,1⟩) 0 0,H.set nid (ABlk.made [] 1 true)):=by
  have:aop env noCall nid (getF F) H (Op.buildSlice 36 0 {toList:= []})=abuildSlice (AEnv.D env) 36 0 [] nid H:=rfl
  exact this.trans (by kernel_rfl)
theorem clone_does {H:AHeap}{q:Nat}{v:AVal}{els:List AVal}(r:Rd H q v els)(hb:(els.length+els.length / 4+512)*16≤2^48) :
    ∃ v' H' q',FDoes Tryz.prog cnd 71 [v] H v' H'∧Rw H' 9 q' v' els∧H.next≤q'∧q'<H'.next∧H'.next=H.next+7∧Fr H H' []∧(els= []→Wr H' q' v'):=by
  obtain⟨o,c,rfl,z,k⟩:=r
  cases o with
  | none =>
    have:els= []:=by
      rcases k with k | ⟨_,_,_,k,_⟩
      · exact k
      · cases k
    subst this
    obtain⟨v,h1,hd,rfl,rfl⟩:=clN_vc H c (fun v h1=>v= .slice none 0 0∧h1=up H 4) (bifL (Nat.le_refl _) (bifL (by omega) (bifL (by omega) (condL (by omega) ⟨rfl,rfl⟩))))
    exact⟨_,up H 7,H.next,bump (h':=up H 4) hd (by show H.next+4≤H.next+7;omega),.inl ⟨rfl,rfl⟩,Nat.le_refl _,by show H.next<H.next+7;omega,rfl,Fr.up H 7 [],fun _=> .inl rfl⟩
  | some a =>
    have hr:Rd H q (.slice (some a) els.length c) els:=⟨_,c,rfl,z,k⟩
    let H1:AHeap:=(up H 7).set (H.next+3) (ABlk.made [] 1 true)
    have f1:Fr H H1 []:=(Fr.up H 7 []).trans (Fr.set (L:= [H.next+3]) (up H 7) _ _ (by simp)) (by intro x hx;simp at hx;omega)
    have he:=(hr.fr f1 (by simp)).elems
    have hg:H1.get (H.next+3)=some (ABlk.made [] 1 true):=AHeap.get_set_self _ _ _
    by_cases hz:els= []
    · subst hz
      have ea:=app_none (nid:=H.next+5) (o:=some ⟨H.next+3,0,0,0,1⟩) (len:=0) (cap:=0) (b:=ABlk.made [] 1 true) elS.sl he (by decide) (by decide) (fun a h=>by cases h;exact⟨hg,rfl,rfl⟩) (Nat.le_refl _) (fun h=>by cases h)
      obtain⟨v,h1,hd,rfl,rfl⟩:=clS_vc H H1 H1 a 0 c (H.next+3) (.slice (some ⟨H.next+3,0,0,0,1⟩) 0 0) (fun v h1=>v= .slice (some ⟨H.next+3,0,0,0,1⟩) 0 0∧h1=H1) (bifL (Nat.le_refl _) (bifL (by omega) (bifL (by omega) ⟨build0S,ea,condL (by show H.next≤H.next+7;omega) ⟨rfl,rfl⟩⟩)))
      exact⟨_,_,H.next+3,hd,.inr ⟨ABlk.made [] 1 true,rfl,by show H.next+3<H.next+7;omega,hg,rfl,rfl,.inl rfl⟩,by omega,by show H.next+3<H.next+7;omega,rfl,f1,fun _=> .inr ⟨ABlk.made [] 1 true,hg,by show H.next+3<H.next+7;omega,.inl rfl⟩⟩
    · have hp:=List.length_pos_iff.2 hz
      have ea:=app_copy (nid:=H.next+5) (a:=⟨H.next+3,0,0,0,1⟩) (len:=0) (cap:=0) (b:=ABlk.made [] 1 true) (old:= []) elS.sl he (by rw [Nat.zero_add];exact hb) (by omega) hg ⟨rfl,rfl⟩ (by omega) rfl (by simp [elemsOf,hg])
      obtain⟨v,h1,hd,rfl,rfl⟩:=clS_vc H H1 _ a els.length c (H.next+3) _ (fun v h1=>v=newSlice (H.next+5) 1 (0+els.length) (0+els.length)∧h1=H1.set (H.next+5) (.made ([]++els) 1 false (some (9,0)))) (bifL (Nat.le_refl _) (bifL (by omega) (bifL (by omega) ⟨build0S,ea,condL (by show H.next≤H.next+7;omega) ⟨rfl,rfl⟩⟩)))
      exact⟨_,_,H.next+5,hd,.inr ⟨.made ([]++els) 1 false (some (9,0)),by simp [newSlice,ABlk.made],by show H.next+5<H.next+7;omega,AHeap.get_set_self _ _ _,rfl,rfl,.inr ⟨rfl,.inr rfl⟩⟩,by omega,by show H.next+5<H.next+7;omega,rfl,f1.trans (Fr.set (L:= [H.next+5]) H1 _ _ (by simp)) (by intro x hx;simp at hx;omega),fun h=>absurd h hz⟩
theorem aload_at {H H':AHeap}{t:TypeId}{a:AAddr}{v:AVal}(h: ∀ n,aload (AEnv.D env) t a ⟨n,H.blks⟩=some v)(e:H'.get a.id=H.get a.id): ∀ n,aload (AEnv.D env) t a ⟨n,H'.blks⟩=some v:=by
  intro n
  rw [← h n]
  unfold aload
  have:AHeap.get ⟨n,H'.blks⟩ a.id=AHeap.get ⟨n,H.blks⟩ a.id:=e
  rw [this]
def KeyV(H:AHeap)(x:AVal):Key→Prop
  | none=>x= .nilFunc
  | some (k,d)=> ∃ p q,x= .func (.func 64) [] [.ptr (some ⟨p,0,0,0,1⟩),.ptr (some ⟨q,0,0,0,1⟩)]∧p<H.next∧q<H.next∧(∀ n,aload (AEnv.D env) 4 ⟨p,0,0,0,1⟩ ⟨n,H.blks⟩=some (.bool d))∧(∀ n,aload (AEnv.D env) 3 ⟨q,0,0,0,1⟩ ⟨n,H.blks⟩=some (.int .i64 k))
def Low(E:Nat)(H H':AHeap):Prop:=H.next≤H'.next∧ ∀ x,x<E→H'.get x=H.get x
structure KeyAt(H:AHeap)(E:Nat)(x:AVal)(key:Key):Prop where
  v:KeyV H x key
  lt: ∀ p q,x= .func (.func 64) [] [.ptr (some ⟨p,0,0,0,1⟩),.ptr (some ⟨q,0,0,0,1⟩)]→p<E∧q<E
theorem KeyAt.low {H H':AHeap}{E:Nat}{x:AVal}{key:Key}(h:KeyAt H E x key)(m:Low E H H'):KeyAt H' E x key:=by
  refine⟨?_,h.lt⟩
  have hv:=h.v
  match key,hv with
  | none,hv=>exact hv
  | some (k,d),⟨p,q,e,h1,h2,h3,h4⟩ =>
    obtain⟨l1,l2⟩:=h.lt p q e
    exact⟨p,q,e,Nat.lt_of_lt_of_le h1 m.1,Nat.lt_of_lt_of_le h2 m.1,aload_at h3 (m.2 p l1),aload_at h4 (m.2 q l2)⟩
theorem KeyAt.sv {H:AHeap}{E:Nat}{x:AVal}{key:Key}(h:KeyAt H E x key):Sv x:=by
  have hv:=h.v
  match key,hv with
  | none,hv=>rw [hv];rfl
  | some (k,d),⟨p,q,e,_⟩=>rw [e];rfl
theorem slFn:SlTy env.D 46 41 1 8:=by
  have h1:(env.D 41).map (fun x=>(x.size,x.bytes,x.zeroFits))=some (1,8,true):=by kernel_rfl
  have h2:(env.D 46).map (fun x=>x.kind)=some (.slice 41):=by kernel_rfl
  obtain⟨x,hx,k⟩:=Option.map_eq_some_iff.1 h1
  obtain⟨d,hd,kd⟩:=Option.map_eq_some_iff.1 h2
  simp only [Prod.mk.injEq]at k
  exact⟨d,x,hd,kd,hx,k.1,k.2.1,by decide,k.2.2⟩
theorem elF:El 46 41 8:=⟨slFn,by kernel_rfl⟩
structure OrdAt(H:AHeap)(E z:Nat)(ks:List Key):Prop where
  ex: ∃ fs qf xs,(∀ n,aload (AEnv.D env) 46 ⟨z,0,0,0,1⟩ ⟨n,H.blks⟩=some fs)∧qf<E∧Rd H qf fs xs∧xs.length=ks.length∧ ∀ i (h1:i<xs.length) (h2:i<ks.length),KeyAt H E xs[i] ks[i]
  z:z<E
theorem Rd.low {H H':AHeap}{E q:Nat}{v:AVal}{els:List AVal}(h:Rd H q v els)(m:Low E H H')(hq:q<E):Rd H' q v els:=by
  obtain⟨o,c,e,z,k⟩:=h
  exact⟨o,c,e,z,k.imp_right fun⟨ver,off,b,k1,k2,k3,k4⟩=>⟨ver,off,b,k1,Nat.lt_of_lt_of_le k2 m.1,(m.2 q hq).trans k3,k4⟩⟩
theorem OrdAt.low {H H':AHeap}{E z:Nat}{ks:List Key}(h:OrdAt H E z ks)(m:Low E H H'):OrdAt H' E z ks:=by
  obtain⟨fs,qf,xs,h1,h2,h3,h4,h5⟩:=h.ex
  exact⟨⟨fs,qf,xs,aload_at h1 (m.2 z h.z),h2,h3.low m h2,h4,fun i i1 i2=>(h5 i i1 i2).low m⟩,h.z⟩
theorem rowAt {H:AHeap}{q:Nat}{v:AVal}{l:List Bys}(h:Rd H q v (l.map AVal.str)):RowAt H v l:=by
  obtain⟨o,c,e,z,k⟩:=h
  rw [List.length_map]at e
  refine⟨o,c,e,fun i hi=> ?_⟩
  rcases k with k | ⟨ver,off,b,rfl,k2,k3,k4⟩
  · have:=congrArg List.length k
    simp at this
    rw [this]at hi;simp at hi
  · have:=k4 i (by simpa using hi)
    rw [List.getElem_map]at this
    exact⟨_,b,rfl,rfl,rfl,k3,this⟩
theorem KeyAt.call {H:AHeap}{E:Nat}{x:AVal}{k:Int}{d:Bool}(h:KeyAt H E x (some (k,d))){va vb:AVal}{a b:List Bys}{qa qb:Nat}(ra:Rd H qa va (a.map AVal.str))(rb:Rd H qb vb (b.map AVal.str))(sa:Short a)(sb:Short b) :
    ∃ p q,x= .func (.func 64) [] [.ptr (some ⟨p,0,0,0,1⟩),.ptr (some ⟨q,0,0,0,1⟩)]∧FDoes Tryz.prog cnd 64 [va,vb,.ptr (some ⟨p,0,0,0,1⟩),.ptr (some ⟨q,0,0,0,1⟩)] H (.int .i64 (keyI k d a b)) (up H 200):=by
  obtain⟨p,q,e,h1,h2,h3,h4⟩:=h.v
  exact⟨p,q,e,by_does (rowAt ra) (rowAt rb) sa sb k d h3 h4 h2⟩
theorem s1_loop {B E n qf qa qb fc:Nat} {fo:Option AAddr} {va vb:AVal} {xs:List AVal} {ks:List Key} {a b:List Bys} (hn:n=xs.length) (hk:xs.length=ks.length) (hnl:n<2^60) (sa:Short a) (sb:Short b): ∀ (f i:Nat) (H:AHeap),i+f=n→B≤H.next→E≤H.next→Rd H qf (.slice fo n fc) xs→(∀ i (h1:i<xs.length) (h2:i<ks.length),KeyAt H E xs[i] ks[i])→Rd H qa va (a.map AVal.str)→Rd H qb vb (b.map AVal.str) →
    ∃ m,H.next≤m∧((cmpL (ks.drop i) a b=0∧Loops Tryz.prog cnd B 25 (loopAt Tryz.prog 73 0) [(0,va),(1,vb),(9,.slice fo n fc),(10,.int .i64 (n:Nat)),(11,.int .i64 (i:Nat))] H (.exit 0) [] ⟨m,H.blks⟩) ∨
      (cmpL (ks.drop i) a b≠0∧Loops Tryz.prog cnd B 25 (loopAt Tryz.prog 73 0) [(0,va),(1,vb),(9,.slice fo n fc),(10,.int .i64 (n:Nat)),(11,.int .i64 (i:Nat))] H .ret [(5,.int .i64 (cmpL (ks.drop i) a b))] ⟨m,H.blks⟩)):=by
  intro f
  induction f with
  | zero =>
    intro i H hi hB hE r1 hx ra rb
    obtain rfl:i=n:=by omega
    obtain⟨e,F1,h1,hr,rfl,rfl,rfl⟩:=s1E_vpK H B i i va vb (.slice fo i fc) (fun e F1 h1=>e= .exit 0∧F1= [(0,va),(1,vb),(9,.slice fo i fc),(10,.int .i64 (i:Nat)),(11,.int .i64 (i:Nat))]∧h1=up H 1) (bifL hB ⟨boolF (by omega),rfl,rfl,rfl⟩)
    refine⟨H.next+1,by omega,.inl ⟨?_,(Loops.last (by simp) hr).post (Ent.facts (fle [] (by kernel_rfl)))⟩⟩
    rw [List.drop_of_length_le (by omega)];rfl
  | succ f ih =>
    intro i H hi hB hE r1 hx ra rb
    have h1:i<xs.length:=by omega
    have h2:i<ks.length:=by omega
    have kx:=hx i h1 h2
    obtain⟨x,x1,x2,x3⟩:=r1.at elF h1 kx.sv
    have hd:ks.drop i=ks[i]::ks.drop (i+1):=List.drop_eq_getElem_cons h2
    have next: ∀ m0,H.next≤m0→ ∃ m,m0≤m∧((cmpL (ks.drop (i+1)) a b=0∧Loops Tryz.prog cnd B 25 (loopAt Tryz.prog 73 0) [(0,va),(1,vb),(9,.slice fo n fc),(10,.int .i64 (n:Nat)),(11,.int .i64 ((i+1:Nat):Int))] ⟨m0,H.blks⟩ (.exit 0) [] ⟨m,H.blks⟩) ∨
      (cmpL (ks.drop (i+1)) a b≠0∧Loops Tryz.prog cnd B 25 (loopAt Tryz.prog 73 0) [(0,va),(1,vb),(9,.slice fo n fc),(10,.int .i64 (n:Nat)),(11,.int .i64 ((i+1:Nat):Int))] ⟨m0,H.blks⟩ .ret [(5,.int .i64 (cmpL (ks.drop (i+1)) a b))] ⟨m,H.blks⟩)):=by
      intro m0 hm0
      have f0:Fr H ⟨m0,H.blks⟩ []:=⟨hm0,fun _ _ _=>rfl⟩
      exact ih (i+1) ⟨m0,H.blks⟩ (by omega) (by show B≤m0;omega) (by show E≤m0;omega) (r1.fr f0 (by simp)) (fun j j1 j2=>(hx j j1 j2).low ⟨hm0,fun _ _=>rfl⟩) (ra.fr f0 (by simp)) (rb.fr f0 (by simp))
    match hki:ks[i],kx with
    | none,kx =>
      have e0:xs[i]= .nilFunc:=kx.v
      rw [e0]at x3
      obtain⟨m,hm,L⟩:=next (H.next+8) (by omega)
      obtain⟨e,F1,h1',hr,rfl,rfl,rfl⟩:=s1N_vpK H B i n va vb (.slice fo n fc) x (fun e F1 h1=>e= .normal∧F1= [(0,va),(1,vb),(9,.slice fo n fc),(10,.int .i64 (n:Nat)),(11,.int .i64 ((i+1:Nat):Int))]∧h1=up H 8)
        (bifL hB ⟨boolT (by omega),bifL (by omega) ⟨x1,x3 _,bifL (by omega) (bifL (by omega) ⟨⟨by omega,by omega⟩,rfl,by rw [succI],rfl⟩)⟩⟩)
      rw [hd,hki]
      exact⟨m,by omega,L.imp (fun⟨c,L⟩=>⟨c,Loops.round hr (Ent.refl _ _ _ _) L⟩) (fun⟨c,L⟩=>⟨c,Loops.round hr (Ent.refl _ _ _ _) L⟩)⟩
    | some (k,d),kx =>
      have f11:=Fr.up H 11 []
      obtain⟨p,q,e0,D⟩:=(kx.low (H':=up H 11) ⟨by show H.next≤H.next+11;omega,fun _ _=>rfl⟩).call (ra.fr f11 (by simp)) (rb.fr f11 (by simp)) sa sb
      rw [e0]at x3
      by_cases hz:keyI k d a b=0
      · obtain⟨m,hm,L⟩:=next (H.next+215) (by omega)
        obtain⟨e,F1,h1',hr,rfl,rfl,rfl⟩:=s1S_vpK H (up (up H 11) 200) B i n va vb (.slice fo n fc) x p q (keyI k d a b) (fun e F1 h1=>e= .normal∧F1= [(0,va),(1,vb),(9,.slice fo n fc),(10,.int .i64 (n:Nat)),(11,.int .i64 ((i+1:Nat):Int))]∧h1=up H 215)
          (bifL hB ⟨boolT (by omega),bifL (by omega) ⟨x1,x3 _,bifL (by omega) ⟨rfl,bifL (by omega) ⟨⟨D⟩,bifL (by show B≤H.next+11+200;omega) ⟨by rw [hz];rfl,bifL (by show B≤H.next+11+200+2;omega) ⟨⟨by omega,by omega⟩,rfl,by rw [succI],rfl⟩⟩⟩⟩⟩⟩)
        rw [hd,hki]
        simp only [cmpL,if_pos hz]
        exact⟨m,by omega,L.imp (fun⟨c,L⟩=>⟨c,Loops.round hr (Ent.refl _ _ _ _) L⟩) (fun⟨c,L⟩=>⟨c,Loops.round hr (Ent.refl _ _ _ _) L⟩)⟩
      · obtain⟨e,F1,h1',hr,rfl,rfl,rfl⟩:=s1R_vpK H (up (up H 11) 200) B i n va vb (.slice fo n fc) x p q (keyI k d a b) (fun e F1 h1=>e= .ret∧F1= [(5,.int .i64 (keyI k d a b))]∧h1=up H 215)
          (bifL hB ⟨boolT (by omega),bifL (by omega) ⟨x1,x3 _,bifL (by omega) ⟨rfl,bifL (by omega) ⟨⟨D⟩,bifL (by show B≤H.next+11+200;omega) ⟨by
            have:(keyI k d a b != 0)=true:=by simp [hz]
            rw [this],bifL (by show B≤H.next+11+200+2;omega) ⟨rfl,rfl,rfl⟩⟩⟩⟩⟩⟩)
        rw [hd,hki]
        simp only [cmpL,if_neg hz]
        exact⟨H.next+215,by omega,.inr ⟨hz,Loops.last (by simp) hr⟩⟩
theorem sort1_does {H:AHeap}{E z:Nat}{ks:List Key}(o:OrdAt H E z ks)(hE:E≤H.next)(hks:ks.length<2^59){va vb:AVal}{a b:List Bys}{qa qb:Nat}(ra:Rd H qa va (a.map AVal.str))(rb:Rd H qb vb (b.map AVal.str))(sa:Short a)(sb:Short b) :
    ∃ n,H.next≤n∧FDoes Tryz.prog cnd 73 [va,vb,.ptr (some ⟨z,0,0,0,1⟩)] H (.int .i64 (cmpL ks a b)) ⟨n,H.blks⟩:=by
  obtain⟨fs,qf,xs,h1,h2,h3,h4,h5⟩:=o.ex
  obtain⟨fo,fc,rfl⟩:=h3.sl
  have f4:=Fr.up H 4 []
  obtain⟨m,hm,L⟩:=s1_loop (B:=H.next) (E:=E) (qf:=qf) (va:=va) (vb:=vb) (xs:=xs) (ks:=ks) (a:=a) (b:=b) rfl h4 (by omega) sa sb xs.length 0 (up H 4) (by omega) (by show H.next≤H.next+4;omega) (by show E≤H.next+4;omega) (h3.fr f4 (by simp)) (fun i i1 i2=>(h5 i i1 i2).low ⟨by show H.next≤H.next+4;omega,fun _ _=>rfl⟩) (ra.fr f4 (by simp)) (rb.fr f4 (by simp))
  have hm:H.next+4≤m:=hm
  rw [List.drop_zero]at L
  rcases L with ⟨c,L⟩ | ⟨c,L⟩
  · obtain⟨v,h',hd,rfl,rfl⟩:=s1Z_vc H ⟨m,H.blks⟩ z xs.length fc fo va vb (fun v h1=>v= .int .i64 0∧h1=⟨m+1,H.blks⟩) (bifL (Nat.le_refl _) (bifL (by omega) ⟨h1 _,Runs.of_loops L,bifL (by show H.next≤m;omega) (condL (by show H.next≤m+1;omega) ⟨rfl,rfl⟩)⟩))
    rw [c]
    exact⟨m+1,by omega,hd⟩
  · obtain⟨v,h',hd,rfl,rfl⟩:=s1V_vc H ⟨m,H.blks⟩ z xs.length fc fo va vb (cmpL ks a b) (fun v h1=>v= .int .i64 (cmpL ks a b)∧h1=⟨m,H.blks⟩) (bifL (Nat.le_refl _) (bifL (by omega) ⟨h1 _,Runs.of_loops L,condL (by show H.next≤m;omega) ⟨rfl,rfl⟩⟩))
    exact⟨m,by omega,hd⟩
end Go.Proofs.YtjpfnbihopoeeaaGreatDoor
namespace Go.Proofs.YtjpfnbihopoeeaaGreatDoor
open Go.Lift
set_option maxRecDepth 1000000
theorem boxF {F:Facts}{k nid:Nat}{x:AVal}{H:AHeap}(hF:getF F (.tmp k)=x)(hx:Sv x): ∃ b,aop env noCall nid (getF F) H (Op.box 46 (Operand.tmp k))=some (.ptr (some ⟨nid,0,0,0,1⟩),H.set nid b)∧ ∀ (G:AHeap),G.get nid=some b→ ∀ n,aload (AEnv.D env) 46 ⟨nid,0,0,0,1⟩ ⟨n,G.blks⟩=some x:=by
  obtain⟨d,d1,d2⟩:=Option.map_eq_some_iff.1 (show(AEnv.D env 46).map (fun d=>(d.kind.isAgg,d.size))=some (false,1)by kernel_rfl)
  have he:env.D 46=some d:=d1
  simp only [Prod.mk.injEq]at d2
  have hf:x.fits d.kind.isAgg d.size=true:=by
    rw [d2.1,d2.2]
    cases x<;>first | rfl | cases hx
  refine⟨.made [x] 1 true (some (46,1)),?_,fun G hg n=> ?_⟩
  · simp only [aop,he,hF]
    rw [if_pos (by rw [hf,d2.2];rfl),d2.2]
  · unfold aload
    have hg':AHeap.get ⟨n,G.blks⟩ nid=some (.made [x] 1 true (some (46,1))):=hg
    simp only [d1,hg',d2.1,d2.2]
    exact load_sv hx
theorem mkRows {F:Facts}{k nid N:Nat}{H:AHeap}(hF:getF F (.tmp k)= .int .i64 (N:Nat))(hN:N<2^43):aop env noCall nid (getF F) H (Op.makeSlice 22 (Operand.const (Value.int .i64 0)) (Operand.tmp k))=some (.slice (some ⟨nid,0,0,0,1⟩) 0 N,H.set nid (ABlk.made (List.replicate N (.slice none 0 0)) 1 true)):=by
  obtain⟨d,y,d1,d2,x1,x2,x3,_⟩:=slRw.ty
  have d1:AEnv.D env 22=some d:=d1
  obtain⟨y',y1,y2⟩:=Option.map_eq_some_iff.1 (show(AEnv.D env 36).map (fun d=>(d.zero,d.kind.isAgg))=some (some (.slice none 0 0),false)by kernel_rfl)
  have x1:AEnv.D env 36=some y:=x1
  rw [x1]at y1
  simp only [Option.some.injEq]at y1
  subst y1
  simp only [Prod.mk.injEq]at y2
  have:aop env noCall nid (getF F) H (Op.makeSlice 22 (Operand.const (Value.int .i64 0)) (Operand.tmp k))=amakeSlice (AEnv.D env) 22 (.int .i64 0) (.int .i64 (N:Nat)) nid H:=by rw [← hF];rfl
  rw [this]
  unfold amakeSlice
  simp only [d1,d2,x1,y2.1]
  rw [if_pos ⟨Int.le_refl 0,by omega,by omega,by rw [x3];omega,by omega,by rw [y2.2,x2];rfl⟩]
  simp [newSlice,x2]
theorem slice1 {Q N:Nat}(hN:0<N):aslice (AEnv.D env) 22 (.slice (some ⟨Q,0,0,0,1⟩) N N) (some (.int .i64 1)) none none=some (.slice (some ⟨Q,0,1,0,1⟩) (N-1) (N-1)):=by
  obtain⟨d,y,d1,d2,x1,x2,x3,_⟩:=slRw.ty
  have d1:AEnv.D env 22=some d:=d1
  have x1:AEnv.D env 36=some y:=x1
  unfold aslice
  simp only [d1,d2,x1,abound]
  rw [if_pos ⟨by omega,by omega⟩]
  simp [x2]
def Ob(H:AHeap)(Q N:Nat)(vs:List AVal):Prop:=Q<H.next∧ ∃ b,H.get Q=some b∧b.ver=0∧b.ro=false∧b.exact=true∧b.elems=vs++List.replicate (N-vs.length) (.slice none 0 0)
theorem Ob.fr {H H':AHeap}{Q N:Nat}{vs:List AVal}{L:List Nat}(h:Ob H Q N vs)(m:Fr H H' L)(hq:Q ∉ L):Ob H' Q N vs:=by
  obtain⟨h1,b,h2,h3⟩:=h
  exact⟨Nat.lt_of_lt_of_le h1 m.next,b,(m.get Q h1 hq).trans h2,h3⟩
theorem Ob.put {H:AHeap}{Q N nid:Nat}{vs:List AVal}{w x:AVal}(h:Ob H Q N vs)(hl:vs.length<N)(hN:N<2^42)(hw:elemsOf 1 w H=some [x]): ∃ H2,abuiltin env .append #[22,22] [.slice (some ⟨Q,0,0,0,1⟩) vs.length N,w] nid H=some (.slice (some ⟨Q,0,0,0,1⟩) (vs.length+1) N,H2)∧Ob H2 Q N (vs++ [x])∧Fr H H2 [Q]∧H2.next=H.next:=by
  obtain⟨h1,b,h2,h3,h4,h5,h6⟩:=h
  have ea:=app_put (nid:=nid) slRw hw (by simp) (a:=⟨Q,0,0,0,1⟩) (len:=vs.length) (cap:=N) (b:=b) (by simp;omega) (by simp;omega) h2 ⟨rfl,rfl⟩ (by simp;omega) h4 h3.symm (by rw [h6];simp;omega)
  refine⟨_,ea,⟨h1,b.put (0+vs.length) [x],AHeap.get_set_self _ _ _,h3,h4,h5,?_⟩,Fr.set _ _ _ fun _=>by simp,rfl⟩
  show(b.elems.set (0+vs.length) x)=_
  rw [h6,Nat.zero_add,List.set_append_right _ _ (Nat.le_refl _),Nat.sub_self,show N-vs.length=(N- (vs++ [x]).length)+1 by simp;omega,List.replicate_succ,List.set_cons_zero,List.append_assoc]
  rfl
abbrev soF(hv:Bool)(z:Nat)(out rv:AVal)(N i:Nat):Facts:= [(1,.bool hv),(5,.ptr (some ⟨z,0,0,0,1⟩)),(7,out),(14,rv),(15,.int .i64 (N:Nat)),(16,.int .i64 (i:Nat))]
theorem so_loop {B B0 N Q z orow rc:Nat} {ro:Option AAddr} {hv:Bool} {rsA:List Rr} (hN:N=rsA.length) (hN2:N<2^41) (hBB:B≤B0) (ho:orow<B0) (hlow: ∀ r∈rsA,r.q<B0) (hrow: ∀ r∈rsA,(r.l.length+r.l.length / 4+512)*16≤2^48) (hQ:B0≤Q): ∀ (f i:Nat) (H:AHeap) (rs:List Rr),i+f=N→Rd H orow (.slice ro N rc) (vsOf rsA)→(∀ r∈rsA,Rd H r.q r.v (r.l.map AVal.str)) →
    Ob H Q N (vsOf rs)→(∀ r∈rs,Rw H 9 r.q r.v (r.l.map AVal.str))→(Q::qsOf rs).Nodup→(∀ x∈Q::qsOf rs,B0≤x∧x<H.next)→lsOf rs=(lsOf rsA).take i→(∀ r∈rs,r.l= []→Wr H r.q r.v) →
    ∃ H' rs',Loops Tryz.prog cnd B 39 (loopAt Tryz.prog 35 0) (soF hv z (.slice (some ⟨Q,0,0,0,1⟩) i N) (.slice ro N rc) N i) H (.exit 0) [(1,.bool hv),(5,.ptr (some ⟨z,0,0,0,1⟩)),(7,.slice (some ⟨Q,0,0,0,1⟩) N N)] H' ∧
      Ob H' Q N (vsOf rs')∧(∀ r∈rs',Rw H' 9 r.q r.v (r.l.map AVal.str))∧(Q::qsOf rs').Nodup∧(∀ x∈Q::qsOf rs',B0≤x∧x<H'.next)∧lsOf rs'=lsOf rsA∧H.next≤H'.next∧(∀ x,x<B0→H'.get x=H.get x)∧ ∀ r∈rs',r.l= []→Wr H' r.q r.v:=by
  intro f
  induction f with
  | zero =>
    intro i H rs hi ra rin ob rw' nd ge hls wr
    obtain rfl:i=N:=by omega
    have hB:B≤H.next:=by have:=ge Q (by simp);omega
    obtain⟨e,F1,h1,hr,rfl,rfl,rfl⟩:=so0E_vp H B i i hv z (.slice (some ⟨Q,0,0,0,1⟩) i i) (.slice ro i rc) (fun e F1 h1=>e= .exit 0∧F1=soF hv z (.slice (some ⟨Q,0,0,0,1⟩) i i) (.slice ro i rc) i i∧h1=up H 1) (bifL hB ⟨boolF (by omega),rfl,rfl,rfl⟩)
    have f:=Fr.up H 1 []
    exact⟨up H 1,rs,(Loops.last (by simp) hr).post (Ent.facts (fle [1,5,7] (by kernel_rfl))),ob.fr f (by simp),fun r hr=>(rw' r hr).fr f (by simp),nd,fun x hx=>⟨(ge x hx).1,by have:=(ge x hx).2;show x<H.next+1;omega⟩,by rw [hls,List.take_of_length_le (by simp;omega)],f.next,fun _ _=>rfl,fun r hr hl=>(wr r hr hl).fr f (by simp)⟩
  | succ f ih =>
    intro i H rs hi ra rin ob rw' nd ge hls wr
    have hlt:i<rsA.length:=by omega
    have gQ:=ge Q (by simp)
    have hli:rs.length=i:=by have:=congrArg List.length hls;simp at this;omega
    obtain⟨a,a1,a2,a3⟩:=ra.at elR (i:=i) (by simpa using hlt) (by rw [List.getElem_map];exact(rin _ (List.getElem_mem hlt)).sv)
    rw [List.getElem_map]at a3
    have f10:=Fr.up H 10 []
    obtain⟨cv,H1,q',D,w1,g1,g2,n1,f1,wz⟩:=clone_does (H:=up H 10) ((rin _ (List.getElem_mem hlt)).fr f10 (by simp)) (by rw [List.length_map];exact hrow _ (List.getElem_mem hlt))
    have g1:H.next+10≤q':=g1
    have n1:H1.next=H.next+17:=n1
    have hsv:=w1.rd.sv
    let H2:AHeap:=H1.set (H.next+7) (ABlk.made [cv] 1 true)
    have f12:Fr H1 H2 [H.next+7]:=Fr.set _ _ _ fun _=>by simp
    have f02:Fr H H2 []:=((f10.trans f1 (by simp)).sub (M:= []) (by simp)).trans f12 (by intro x hx;simp at hx;omega)
    obtain⟨H3,e3,ob3,f3,n3⟩:=(ob.fr f02 (by simp)).put (nid:=H.next+8) (w:= .slice (some ⟨H.next+7,0,0,0,1⟩) 1 1) (by simp;omega) (by omega) (one_elem H1 _ _)
    rw [List.length_map,hli]at e3
    have n3:H3.next=H.next+17:=n3.trans n1
    obtain⟨e,F1,h1,hr,rfl,rfl,rfl⟩:=so0_vp H H1 H2 H3 B i N (H.next+7) hv z (.slice (some ⟨Q,0,0,0,1⟩) i N) (.slice ro N rc) rsA[i].v cv (.slice (some ⟨Q,0,0,0,1⟩) (i+1) N) a (fun e F1 h1=>e= .normal∧F1=soF hv z (.slice (some ⟨Q,0,0,0,1⟩) (i+1) N) (.slice ro N rc) N (i+1)∧h1=up H3 2)
      (bifL (by omega) ⟨boolT (by omega),bifL (by omega) ⟨a1,a3 _,bifL (by omega) ⟨⟨D⟩,build1R rfl hsv,e3,bifL (by omega) ⟨⟨by omega,by omega⟩,rfl,by rw [succI],rfl⟩⟩⟩⟩)
    have f34:=Fr.up H3 2 []
    have f24:Fr H2 (up H3 2) [Q]:=f3.trans f34 (by simp)
    have qn:q' ∉ Q::qsOf rs:=fun k=>by have:=(ge q' k).2;omega
    have nq:q'≠H.next+7:=by omega
    obtain⟨H',rs',L,r1,r2,r3,r4,r5,r6,r7,r8⟩:=ih (i+1) (up H3 2) (rs++ [⟨q',cv,rsA[i].l⟩]) (by omega)
      ((ra.fr f02 (by simp)).fr f24 (by simp;omega)) (fun r hr=>((rin r hr).fr f02 (by simp)).fr f24 (by have:=hlow r hr;simp;omega))
      (by rw [vsOf,List.map_append];exact ob3.fr f34 (by simp))
      (fun r hr=>by
        rcases List.mem_append.1 hr with h | h
        · refine((rw' r h).fr f02 (by simp)).fr f24 ?_
          simp only [List.mem_singleton]
          intro e
          rw [List.nodup_cons]at nd
          exact nd.1 (e▸List.mem_map.2 ⟨r,h,rfl⟩)
        · obtain rfl:=List.mem_singleton.1 h
          refine(w1.fr f12 (by simpa using nq)).fr f24 ?_
          simp only [List.mem_singleton]
          intro e
          exact qn (by simp [← e]))
      (by
        rw [qsOf,List.map_append]
        rw [List.nodup_cons]at nd ⊢
        refine⟨?_,?_⟩
        · simp only [List.map_cons,List.map_nil,List.mem_append,List.mem_singleton,not_or]
          exact⟨nd.1,fun e=>qn (by rw [← e];simp)⟩
        · rw [List.nodup_append]
          refine⟨nd.2,by simp,fun x hx y hy=> ?_⟩
          simp only [List.map_cons,List.map_nil,List.mem_singleton]at hy
          subst hy
          intro e
          subst e
          exact qn (List.mem_cons_of_mem _ hx))
      (fun x hx=>by
        rw [qsOf,List.map_append]at hx
        simp only [List.map_cons,List.map_nil,List.mem_cons,List.mem_append,List.mem_singleton,List.not_mem_nil,or_false]at hx
        rcases hx with hx | hx | hx
        · subst hx;exact⟨hQ,by show x<H3.next+2;omega⟩
        · have:=ge x (List.mem_cons_of_mem _ hx)
          exact⟨this.1,by show x<H3.next+2;omega⟩
        · subst hx;exact⟨by omega,by show x<H3.next+2;omega⟩)
      (by
        rw [lsOf,List.map_append,show List.map (·.l) rs=_ from hls,List.take_add_one,List.getElem?_eq_getElem (by simpa using hlt)]
        simp)
      (fun r hr hl=>by
        rcases List.mem_append.1 hr with h | h
        · refine((wr r h hl).fr f02 (by simp)).fr f24 ?_
          simp only [List.mem_singleton]
          intro e
          rw [List.nodup_cons]at nd
          exact nd.1 (e▸List.mem_map.2 ⟨r,h,rfl⟩)
        · obtain rfl:=List.mem_singleton.1 h
          have hl:rsA[i].l= []:=hl
          refine((wz (by rw [hl];rfl)).fr f12 (by simpa using nq)).fr f24 ?_
          simp only [List.mem_singleton]
          intro e
          exact qn (by simp [← e]))
    have r6:H3.next+2≤H'.next:=r6
    refine⟨H',rs',Loops.round hr (Ent.refl _ _ _ _) L,r1,r2,r3,r4,r5,by omega,fun x hx=> ?_,r8⟩
    rw [r7 x hx]
    show H3.get x=H.get x
    rw [f3.get x (by show x<H1.next;omega) (by simp;omega),f02.get x (by omega) (by simp)]
end Go.Proofs.YtjpfnbihopoeeaaGreatDoor
namespace Go.Proofs.YtjpfnbihopoeeaaGreatDoor
open Go.Lift
set_option maxRecDepth 1000000
def rAt(rs:List Rr)(k:Nat):Rr:=rs.getD k ⟨0,.slice none 0 0,[]⟩
theorem rAt_in {rs:List Rr}{k:Nat}(h:k<rs.length):rAt rs k=rs[k]:=by simp [rAt,List.getD,h]
theorem rAt_mem {rs:List Rr}{k:Nat}(h:k<rs.length):rAt rs k∈rs:=by rw [rAt_in h];exact List.getElem_mem h
def srtR(rs:List Rr)(O:Nat)(σ:Nat→Nat):List Rr:=rs.take O++(List.range (rs.length-O)).map (fun k=>rAt (rs.drop O) (σ k))
theorem range_rAt(rs:List Rr):(List.range rs.length).map (rAt rs)=rs:=by
  apply List.ext_getElem (by simp)
  intro i h1 h2
  simp only [List.getElem_map,List.getElem_range]
  exact rAt_in h2
theorem srtR_perm(rs:List Rr){O:Nat}(hO:O≤rs.length){σ:Nat→Nat}(h:Same (fun k=>k) σ 0 (rs.length-O)):(srtR rs O σ).Perm rs:=by
  have p:=h.perm
  rw [Nat.sub_zero,← List.range_eq_range']at p
  have p2:=p.map (rAt (rs.drop O))
  rw [List.map_map,List.map_map]at p2
  have e:(List.range (rs.length-O)).map (rAt (rs.drop O) ∘ fun k=>k)=rs.drop O:=by
    have:=range_rAt (rs.drop O)
    rw [List.length_drop]at this
    exact this
  rw [e]at p2
  unfold srtR
  have:=(List.Perm.refl (rs.take O)).append p2
  rw [List.take_append_drop]at this
  exact this
theorem body_sort {H:AHeap} {E Q N O z:Nat} {ks:List Key} {rs:List Rr} (hO:O≤N) (hN:rs.length=N) (hN2:N<2^41) (ob:Ob H Q N (vsOf rs)) (inn: ∀ r∈rs,Rd H r.q r.v (r.l.map AVal.str)) (hq: ∀ r∈rs,r.q≠Q) (short: ∀ r∈rs,Short r.l) (o:OrdAt H E z ks) (hks:ks.length<2^59) (hE:E≤H.next) (hEQ:E≤Q) :
    ∃ σ,Same (fun k=>k) σ 0 (N-O)∧Srt (lessK ks (fun k=>(rAt (rs.drop O) k).l)) σ 0 (N-O)∧ ∃ H',FDoes Tryz.prog cnd 72 [.slice (some ⟨Q,0,O,0,1⟩) (N-O) (N-O),.func (.func 73) [] [.ptr (some ⟨z,0,0,0,1⟩)]] H (.tuple []) H'∧Ob H' Q N (vsOf (srtR rs O σ))∧Fr H H' [Q]:=by
  let S:SC:=⟨Q,0,O,N-O,N-O,fun k=>(rAt (rs.drop O) k).v,(vsOf rs).take O,[],fun H=>E≤H.next∧OrdAt H E z ks∧ ∀ r∈rs,Rd H r.q r.v (r.l.map AVal.str)⟩
  have hld:(rs.drop O).length=N-O:=by rw [List.length_drop,hN]
  have hmem: ∀ k,k<N-O→rAt (rs.drop O) k∈rs:=fun k hk=>List.mem_of_mem_drop (rAt_mem (by rw [hld];exact hk))
  have ok :S.Ok:=by
    refine⟨by show N-O<2^44;omega,by show((vsOf rs).take O).length=O;simp;omega,fun k=> ?_,fun H1 H2 c m=> ?_⟩
    · show Sv (rAt (rs.drop O) k).v
      by_cases hk:k<N-O
      · exact(inn _ (hmem k hk)).sv
      · have:rAt (rs.drop O) k=⟨0,.slice none 0 0,[]⟩:=by
          unfold rAt
          rw [List.getD,List.getElem?_eq_none (by rw [hld];omega)];rfl
        rw [this];rfl
    · obtain⟨c1,c2,c3⟩:=c
      have low:Low E H1 H2:=⟨m.next,fun x hx=>m.get x (by omega) (by show x ∉ [Q];simp;omega)⟩
      exact⟨Nat.le_trans c1 m.next,c2.low low,fun r hr=>(c3 r hr).fr m (by show r.q ∉ [Q];simpa using hq r hr)⟩
  have hcmp:S.Cmp 73 [.ptr (some ⟨z,0,0,0,1⟩)] (lessK ks (fun k=>(rAt (rs.drop O) k).l)):=by
    refine⟨fun H1 p q c hp hq'=> ?_⟩
    obtain⟨c1,c2,c3⟩:=c
    have mp:=hmem p hp
    have mq:=hmem q hq'
    obtain⟨n,h1,D⟩:=sort1_does c2 c1 hks (c3 _ mp) (c3 _ mq) (short _ mp) (short _ mq)
    exact⟨n,_,h1,D,by unfold lessK;rw [decide_eq_true_iff]⟩
  obtain⟨σ,s1,s2,s3⟩:=sort_does ok (lessK_weak ks _) hcmp (π:=fun k=>k) (fun k hk=>hk) (fun i j h _=>h)
  obtain⟨l1,b,b1,b2,b3,b4,b5⟩:=ob
  have hlen:(vsOf rs).length=N:=by rw [List.length_map,hN]
  have hw:S.WS H (fun k=>k):=by
    refine⟨l1,⟨b,b1,b2,b3,b4,?_⟩,hE,o,inn⟩
    rw [b5,hlen,Nat.sub_self]
    show vsOf rs++ []=(vsOf rs).take O++(List.range (N-O)).map (fun k=>(rAt (rs.drop O) k).v)++ []
    have e:(List.range (N-O)).map (fun k=>(rAt (rs.drop O) k).v)=(vsOf rs).drop O:=by
      have:=congrArg (List.map (·.v)) (range_rAt (rs.drop O))
      rw [List.map_map,hld]at this
      rw [vsOf,← List.map_drop]
      exact this
    rw [e,List.take_append_drop]
  obtain⟨H',D,⟨w1,⟨b',d1,d2,d3,d4,d5⟩,w3⟩,f⟩:=s3 H hw
  refine⟨σ,s1,s2,H',D,⟨w1,b',d1,d2,d3,d4,?_⟩,f⟩
  have hl2:(vsOf (srtR rs O σ)).length=N:=by
    unfold srtR
    simp only [vsOf,List.length_map,List.length_append,List.length_take,List.length_range]
    omega
  rw [hl2,Nat.sub_self,d5]
  show(vsOf rs).take O++(List.range (N-O)).map (fun k=>(rAt (rs.drop O) (σ k)).v)++ []=vsOf (srtR rs O σ)++ []
  unfold srtR
  rw [vsOf,vsOf,List.map_append,List.map_map,hN,List.map_take]
  rfl
theorem tsort_does {H:AHeap} {orow qf:Nat} {rv ov:AVal} {hv:Bool} {rsA:List Rr} {ks:List Key} {xs:List AVal} (hN:rsA.length<2^41) (ra:Rd H orow rv (vsOf rsA)) (rin: ∀ r∈rsA,Rd H r.q r.v (r.l.map AVal.str)) (ho:orow<H.next) (hq: ∀ r∈rsA,r.q<H.next) (hrow: ∀ r∈rsA,(r.l.length+r.l.length / 4+512)*16≤2^48) (short: ∀ r∈rsA,Short r.l)
    (of:Rd H qf ov xs) (hqf:qf<H.next) (hxs:xs.length=ks.length) (hk: ∀ i (h1:i<xs.length) (h2:i<ks.length),KeyAt H H.next xs[i] ks[i]) (hks:ks.length<2^59) :
    ∃ v H' B o rs σ,FDoes Tryz.prog cnd 35 [rv,.bool hv,ov] H v H'∧Tb H' B H'.next v o (srtR rs (if hv=true then min 1 rs.length else 0) σ)∧lsOf rs=lsOf rsA∧H.next≤B∧Fr H H' []∧v= .slice (some ⟨o,0,0,0,1⟩) rsA.length rsA.length ∧
      Same (fun k=>k) σ 0 (rs.length- (if hv=true then min 1 rs.length else 0))∧Srt (lessK ks (fun k=>(rAt (rs.drop (if hv=true then min 1 rs.length else 0)) k).l)) σ 0 (rs.length- (if hv=true then min 1 rs.length else 0))∧(∀ r∈srtR rs (if hv=true then min 1 rs.length else 0) σ,r.l= []→Wr H' r.q r.v)∧Wr H' o v:=by
  obtain⟨ro,rc,rfl⟩:=ra.sl
  rw [List.length_map]at ra ⊢
  obtain⟨bx,ebx,lbx⟩:=boxF (F:= [(0,AVal.slice ro rsA.length rc),(1,.bool hv),(2,ov)]) (k:=2) (nid:=H.next+0) (H:=up H 2) rfl of.sv
  let H1:AHeap:=(up H 2).set H.next bx
  let H2:AHeap:=(up H1 4).set (H1.next+2) (ABlk.made (List.replicate rsA.length (.slice none 0 0)) 1 true)
  have n1:H1.next=H.next+2:=rfl
  have n2:H2.next=H.next+6:=rfl
  have f01:Fr H H1 []:=(Fr.up H 2 []).trans (Fr.set (L:= [H.next]) (up H 2) _ _ (by simp)) (by intro x hx;simp at hx;omega)
  have f12:Fr H1 H2 []:=(Fr.up H1 4 []).trans (Fr.set (L:= [H1.next+2]) (up H1 4) _ _ (by simp)) (by intro x hx;simp at hx;omega)
  have f23:=Fr.up H2 3 []
  have f03:Fr H (up H2 3) []:=(f01.trans f12 (by simp)).trans f23 (by simp)
  have gz: ∀ {G:AHeap},Fr H1 G []→G.get H.next=some bx:=fun m=>(m.get H.next (by omega) (by simp)).trans (AHeap.get_set_self _ _ _)
  obtain⟨H3,rs,L,ob,inn,nd,ge,hls,n3,low,wz⟩:=so_loop (B:=H.next) (B0:=H.next+2) (N:=rsA.length) (Q:=H.next+4) (z:=H.next) (orow:=orow) (rc:=rc) (ro:=ro) (hv:=hv) (rsA:=rsA) rfl hN (by omega) (by omega) (fun r hr=>by have:=hq r hr;omega) hrow (by omega) rsA.length 0 (up H2 3) [] (by omega) (ra.fr f03 (by simp)) (fun r hr=>(rin r hr).fr f03 (by simp))
    ⟨by show H.next+4<H.next+6+3;omega,ABlk.made (List.replicate rsA.length (.slice none 0 0)) 1 true,AHeap.get_set_self _ _ _,rfl,rfl,rfl,by simp [ABlk.made]⟩ (by simp) (by simp) (fun x hx=>by simp at hx;subst hx;exact⟨by omega,by show H.next+4<H.next+6+3;omega⟩) rfl (by simp)
  have n3:H.next+9≤H3.next:=n3
  have hlen:rs.length=rsA.length:=by have:=congrArg List.length hls;simpa using this
  have low0:Low H.next H H3:=⟨by omega,fun x hx=>by rw [low x (by omega)];exact f03.get x hx (by simp)⟩
  have hz3:H3.get H.next=some bx:=by rw [low H.next (by omega)];exact gz ((f12.trans f23 (by simp)))
  have ord:OrdAt H3 (H.next+2) H.next ks:=by
    refine⟨⟨ov,qf,xs,lbx H3 hz3,by omega,of.low low0 hqf,hxs,fun i i1 i2=> ?_⟩,by omega⟩
    have k:=(hk i i1 i2).low low0
    exact⟨k.v,fun p q e=>by have:=k.lt p q e;omega⟩
  have ndq:=nd
  rw [List.nodup_cons]at ndq
  have hqQ: ∀ r∈rs,r.q≠H.next+4:=fun r hr e=>ndq.1 (e▸List.mem_map.2 ⟨r,hr,rfl⟩)
  have shortR: ∀ r∈rs,Short r.l:=fun r hr=>by
    have:r.l∈lsOf rsA:=by rw [← hls];exact List.mem_map.2 ⟨r,hr,rfl⟩
    obtain⟨r',hr',e⟩:=List.mem_map.1 this
    rw [← e];exact short r' hr'
  have fin: ∀ (O m:Nat),O≤rsA.length→ ∃ σ,Same (fun k=>k) σ 0 (rsA.length-O)∧Srt (lessK ks (fun k=>(rAt (rs.drop O) k).l)) σ 0 (rsA.length-O)∧ ∃ H4,FDoes Tryz.prog cnd 72 [.slice (some ⟨H.next+4,0,O,0,1⟩) (rsA.length-O) (rsA.length-O),.func (.func 73) [] [.ptr (some ⟨H.next,0,0,0,1⟩)]] (up H3 m) (.tuple []) H4 ∧
      H3.next+m≤H4.next∧Tb (up H4 2) (H.next+2) (up H4 2).next (.slice (some ⟨H.next+4,0,0,0,1⟩) rsA.length rsA.length) (H.next+4) (srtR rs O σ)∧Fr H (up H4 2) []∧(∀ r∈srtR rs O σ,r.l= []→Wr (up H4 2) r.q r.v)∧Wr (up H4 2) (H.next+4) (.slice (some ⟨H.next+4,0,0,0,1⟩) rsA.length rsA.length):=by
    intro O m hO
    have fm:=Fr.up H3 m []
    have lm:Low (H.next+2) H3 (up H3 m):=⟨by show H3.next≤H3.next+m;omega,fun _ _=>rfl⟩
    obtain⟨σ,s1,s2,H4,D,ob4,f4⟩:=body_sort (O:=O) (z:=H.next) (ks:=ks) hO hlen hN (ob.fr fm (by simp)) (fun r hr=>((inn r hr).rd).fr fm (by simp)) hqQ shortR (ord.low lm) hks (by show H.next+2≤H3.next+m;omega) (by omega)
    have n4:H3.next+m≤H4.next:=f4.next
    have hp:=srtR_perm rs (O:=O) (by omega) (σ:=σ) (by rw [hlen];exact s1)
    have f5:=Fr.up H4 2 []
    have f35:Fr H3 (up H4 2) [H.next+4]:=((fm.sub (M:= [H.next+4]) (by simp)).trans f4 (fun x hx _=>hx)).trans f5 (by simp)
    have hout:Wr (up H4 2) (H.next+4) (.slice (some ⟨H.next+4,0,0,0,1⟩) rsA.length rsA.length):=by
      obtain⟨w1,b,b1,b2,b3,b4,b5⟩:=ob4
      exact .inr ⟨b,b1,by show H.next+4<H4.next+2;omega,.inl b4⟩
    refine⟨σ,s1,s2,H4,D,n4,?_,?_,fun r hr hl=>(wz r (hp.mem_iff.1 hr) hl).fr f35 (by simpa using hqQ r (hp.mem_iff.1 hr)),hout⟩
    · have hpq:=hp.map (·.q)
      refine⟨?_,fun r hr=>(inn r (hp.mem_iff.1 hr)).fr f35 (by simpa using hqQ r (hp.mem_iff.1 hr)),?_,fun x hx=> ?_⟩
      · obtain⟨w1,b,b1,b2,b3,b4,b5⟩:=ob4
        have hl:(vsOf (srtR rs O σ)).length=rsA.length:=by
          have:=hp.length_eq
          rw [List.length_map];omega
        refine .inr ⟨b,by rw [b2,hl],by show H.next+4<H4.next+2;omega,b1,?_,b3,.inl b4⟩
        rw [b5,hl,Nat.sub_self];simp
      · rw [List.nodup_cons]
        exact⟨fun k=>ndq.1 (hpq.mem_iff.1 k),hpq.symm.nodup ndq.2⟩
      · have:x∈(H.next+4)::qsOf rs:=by
          rcases List.mem_cons.1 hx with h | h
          · rw [h];simp
          · exact List.mem_cons_of_mem _ (hpq.mem_iff.1 h)
        have:=ge x this
        exact⟨this.1,by show x<H4.next+2;omega⟩
    · refine⟨by show H.next≤H4.next+2;omega,fun x hx _=> ?_⟩
      show H4.get x=H.get x
      rw [f4.get x (by show x<H3.next+m;omega) (by simp;omega)]
      exact low0.2 x hx
  cases hv with
  | false =>
    simp only [Bool.false_eq_true,if_false]
    obtain⟨σ,s1,s2,H4,D,n4,tb,fr,wz1,wz2⟩:=fin 0 11 (Nat.zero_le _)
    rw [Nat.sub_zero]at D
    obtain⟨v,h1,hd,rfl,rfl⟩:=soC_vc H H1 H2 H3 H4 rsA.length rc H.next (H.next+4) ro ov (fun v h1=>v= .slice (some ⟨H.next+4,0,0,0,1⟩) rsA.length rsA.length∧h1=up H4 2)
      (bifL (Nat.le_refl _) ⟨ebx,bifL (by omega) ⟨mkRows rfl (by omega),bifL (by omega) ⟨Runs.of_loops L,bifL (by omega) (bifL (by omega) (bifL (by omega) ⟨⟨D⟩,bifL (by omega) (condL (by omega) ⟨rfl,rfl⟩)⟩))⟩⟩⟩)
    exact⟨_,_,H.next+2,H.next+4,rs,σ,hd,tb,hls,by omega,fr,rfl,by rw [hlen];exact s1,by rw [hlen];exact s2,wz1,wz2⟩
  | true =>
    simp only [if_true]
    by_cases h0:0<rs.length
    · have hm:min 1 rs.length=1:=by omega
      obtain⟨σ,s1,s2,H4,D,n4,tb,fr,wz1,wz2⟩:=fin 1 14 (by omega)
      obtain⟨v,h1,hd,rfl,rfl⟩:=soA_vc H H1 H2 H3 H4 rsA.length rc H.next (H.next+4) ro ov (.slice (some ⟨H.next+4,0,1,0,1⟩) (rsA.length-1) (rsA.length-1)) (fun v h1=>v= .slice (some ⟨H.next+4,0,0,0,1⟩) rsA.length rsA.length∧h1=up H4 2)
        (bifL (Nat.le_refl _) ⟨ebx,bifL (by omega) ⟨mkRows rfl (by omega),bifL (by omega) ⟨Runs.of_loops L,bifL (by omega) (bifL (by omega) ⟨boolT (by omega),bifL (by omega) ⟨slice1 (by omega),bifL (by omega) ⟨⟨D⟩,bifL (by omega) (condL (by omega) ⟨rfl,rfl⟩)⟩⟩⟩)⟩⟩⟩)
      exact⟨_,_,H.next+2,H.next+4,rs,σ,hd,by rw [hm];exact tb,hls,by omega,fr,rfl,by rw [hm,hlen];exact s1,by rw [hm,hlen];exact s2,by rw [hm];exact wz1,wz2⟩
    · have hm:min 1 rs.length=0:=by omega
      obtain⟨σ,s1,s2,H4,D,n4,tb,fr,wz1,wz2⟩:=fin 0 11 (Nat.zero_le _)
      rw [Nat.sub_zero]at D
      obtain⟨v,h1,hd,rfl,rfl⟩:=soB_vc H H1 H2 H3 H4 rsA.length rc H.next (H.next+4) ro ov (fun v h1=>v= .slice (some ⟨H.next+4,0,0,0,1⟩) rsA.length rsA.length∧h1=up H4 2)
        (bifL (Nat.le_refl _) ⟨ebx,bifL (by omega) ⟨mkRows rfl (by omega),bifL (by omega) ⟨Runs.of_loops L,bifL (by omega) (bifL (by omega) ⟨boolF (by omega),bifL (by omega) ⟨⟨D⟩,bifL (by omega) (condL (by omega) ⟨rfl,rfl⟩)⟩⟩)⟩⟩⟩)
      exact⟨_,_,H.next+2,H.next+4,rs,σ,hd,by rw [hm];exact tb,hls,by omega,fr,rfl,by rw [hm,hlen];exact s1,by rw [hm,hlen];exact s2,by rw [hm];exact wz1,wz2⟩
end Go.Proofs.YtjpfnbihopoeeaaGreatDoor
namespace Go.Proofs.YtjpfnbihopoeeaaGreatDoor
open Go.Lift
set_option maxRecDepth 1000000
end Go.Proofs.YtjpfnbihopoeeaaGreatDoor
namespace Go.Proofs.YtjpfnbihopoeeaaGreatDoor
open Go.Lift
set_option maxRecDepth 1000000
def Tq(H:AHeap)(o:Nat)(v:AVal)(rs:List Rr):Prop:=Rd H o v (vsOf rs)∧ ∀ r∈rs,Rd H r.q r.v (r.l.map AVal.str)
theorem Tq.up {H:AHeap}{o n:Nat}{v:AVal}{rs:List Rr}(h:Tq H o v rs)(hn:H.next≤n):Tq ⟨n,H.blks⟩ o v rs:=by
  have f:Fr H ⟨n,H.blks⟩ []:=⟨hn,fun _ _ _=>rfl⟩
  exact⟨h.1.fr f (by simp),fun r hr=>(h.2 r hr).fr f (by simp)⟩
theorem Tq.row {H:AHeap}{o:Nat}{v:AVal}{rs:List Rr}(h:Tq H o v rs){i:Nat}(hi:i<rs.length) :
    ∃ a,aindexAddr (AEnv.D env) 22 v (.int .i64 (i:Nat))=some (.ptr (some a))∧a.id<H.next∧ ∀ n,aload (AEnv.D env) 36 a ⟨n,H.blks⟩=some rs[i].v:=by
  have:=h.1.at elR (i:=i) (by simpa using hi) (by rw [List.getElem_map];exact(h.2 _ (List.getElem_mem hi)).sv)
  rw [List.getElem_map]at this
  exact this
theorem boxI {F:Facts}{k nid:Nat}{x:Int}{H:AHeap}(hF:getF F (.tmp k)= .int .i64 x): ∃ b,aop env noCall nid (getF F) H (Op.box 3 (Operand.tmp k))=some (.ptr (some ⟨nid,0,0,0,1⟩),H.set nid b)∧ ∀ (G:AHeap),G.get nid=some b→ ∀ n,aload (AEnv.D env) 3 ⟨nid,0,0,0,1⟩ ⟨n,G.blks⟩=some (.int .i64 x):=by
  obtain⟨d,d1,d2⟩:=Option.map_eq_some_iff.1 (show(AEnv.D env 3).map (fun d=>(d.kind.isAgg,d.size))=some (false,1)by kernel_rfl)
  have he:env.D 3=some d:=d1
  simp only [Prod.mk.injEq]at d2
  refine⟨.made [.int .i64 x] 1 true (some (3,1)),?_,fun G hg n=> ?_⟩
  · simp only [aop,he,hF]
    rw [if_pos (by rw [d2.1,d2.2];rfl),d2.2]
  · unfold aload
    have hg':AHeap.get ⟨n,G.blks⟩ nid=some (.made [.int .i64 x] 1 true (some (3,1))):=hg
    simp only [d1,hg',d2.1,d2.2]
    rfl
theorem boxB {F:Facts}{k nid:Nat}{x:Bool}{H:AHeap}(hF:getF F (.tmp k)= .bool x): ∃ b,aop env noCall nid (getF F) H (Op.box 4 (Operand.tmp k))=some (.ptr (some ⟨nid,0,0,0,1⟩),H.set nid b)∧ ∀ (G:AHeap),G.get nid=some b→ ∀ n,aload (AEnv.D env) 4 ⟨nid,0,0,0,1⟩ ⟨n,G.blks⟩=some (.bool x):=by
  obtain⟨d,d1,d2⟩:=Option.map_eq_some_iff.1 (show(AEnv.D env 4).map (fun d=>(d.kind.isAgg,d.size))=some (false,1)by kernel_rfl)
  have he:env.D 4=some d:=d1
  simp only [Prod.mk.injEq]at d2
  refine⟨.made [.bool x] 1 true (some (4,1)),?_,fun G hg n=> ?_⟩
  · simp only [aop,he,hF]
    rw [if_pos (by rw [d2.1,d2.2];rfl),d2.2]
  · unfold aload
    have hg':AHeap.get ⟨n,G.blks⟩ nid=some (.made [.bool x] 1 true (some (4,1))):=hg
    simp only [d1,hg',d2.1,d2.2]
    rfl
abbrev byV(p q:Nat):AVal:= .func (.func 64) [] [.ptr (some ⟨p,0,0,0,1⟩),.ptr (some ⟨q,0,0,0,1⟩)]
theorem byM_does(k:Int)(d:Bool)(H:AHeap): ∃ p q H',FDoes Tryz.prog cnd 32 [.int .i64 k,.bool d] H (byV p q) H'∧KeyAt H' H'.next (byV p q) (some (k,d))∧Fr H H' []∧H'.next=H.next+5∧H.next≤p∧H.next≤q:=by
  obtain⟨bi,e1,l1⟩:=boxI (F:= [(0,AVal.int .i64 k),(1,.bool d)]) (k:=0) (nid:=H.next+0) (H:=up H 3) rfl
  let H1:AHeap:=(up H 3).set (H.next+0) bi
  obtain⟨bb,e2,l2⟩:=boxB (F:= [(2,AVal.ptr (some ⟨H.next,0,0,0,1⟩)),(0,AVal.int .i64 k),(1,.bool d)]) (k:=1) (nid:=H.next+1) (H:=H1) rfl
  let H2:AHeap:=H1.set (H.next+1) bb
  obtain⟨v,h1,hd,rfl,rfl⟩:=byM_vc H H1 H2 k d (H.next+1) H.next (fun v h1=>v=byV (H.next+1) H.next∧h1=up H2 2)
    (bifL (Nat.le_refl _) ⟨e1,e2,bifL (by show H.next≤H.next+3;omega) (condL (by show H.next≤H.next+3+2;omega) ⟨rfl,rfl⟩)⟩)
  have g2:(up H2 2).get (H.next+1)=some bb:=AHeap.get_set_self _ _ _
  have g1:(up H2 2).get H.next=some bi:=(AHeap.get_set_ne _ _ (by omega)).trans (AHeap.get_set_self _ _ _)
  refine⟨_,_,_,hd,⟨⟨_,_,rfl,by show H.next+1<H.next+3+2;omega,by show H.next<H.next+3+2;omega,l2 _ g2,l1 _ g1⟩,fun p q e=> ?_⟩,?_,rfl,by omega,Nat.le_refl _⟩
  · simp only [AVal.func.injEq,List.cons.injEq,AVal.ptr.injEq,Option.some.injEq,AAddr.mk.injEq]at e
    show p<H.next+3+2∧q<H.next+3+2
    omega
  · refine⟨by show H.next≤H.next+3+2;omega,fun x hx _=> ?_⟩
    show(AHeap.set _ _ _).get x=_
    rw [AHeap.get_set_ne _ _ (by omega)]
    show(AHeap.set _ _ _).get x=_
    rw [AHeap.get_set_ne _ _ (by omega)]
    rfl
theorem build1F {F:Facts}{k nid:Nat}{x:AVal}{H:AHeap}(hF:getF F (.tmp k)=x)(hx:Sv x):aop env noCall nid (getF F) H (Op.buildSlice 46 1 {toList:= [(0,Operand.tmp k)]})=some (.slice (some ⟨nid,0,0,0,1⟩) 1 1,H.set nid (ABlk.made [x] 1 true)):=by
  have:aop env noCall nid (getF F) H (Op.buildSlice 46 1 {toList:= [(0,Operand.tmp k)]})=abuildSlice (AEnv.D env) 46 1 [(0,x)] nid H:=by rw [← hF];rfl
  refine this.trans ?_
  cases x with
  | agg=>cases hx
  | tuple=>cases hx
  | undef=>cases hx
  | _=>exact(by kernel_rfl)
end Go.Proofs.YtjpfnbihopoeeaaGreatDoor
namespace Go.Proofs.YtjpfnbihopoeeaaGreatDoor
open Go.Lift
set_option maxRecDepth 1000000
theorem rAt_l(rs:List Rr)(k:Nat):(rAt rs k).l=(lsOf rs).getD k []:=by
  unfold rAt
  simp only [List.getD,List.getElem?_map]
  cases rs[k]? <;>rfl
theorem rAt_drop {rs:List Rr}{O k:Nat} :rAt (rs.drop O) k=rAt rs (O+k):=by
  unfold rAt
  simp only [List.getD,List.getElem?_drop]
end Go.Proofs.YtjpfnbihopoeeaaGreatDoor
namespace Go.Proofs.YtjpfnbihopoeeaaGreatDoor
open Go.Lift
set_option maxRecDepth 1000000
theorem Tq.fr {H H':AHeap}{o:Nat}{v:AVal}{rs:List Rr}(h:Tq H o v rs)(m:Fr H H' []):Tq H' o v rs:=⟨h.1.fr m (by simp),fun r hr=>(h.2 r hr).fr m (by simp)⟩
theorem KeyAt.wide {H:AHeap}{E E':Nat}{x:AVal}{key:Key}(h:KeyAt H E x key)(e:E≤E'):KeyAt H E' x key:=⟨h.v,fun p q e'=>by have:=h.lt p q e';omega⟩
end Go.Proofs.YtjpfnbihopoeeaaGreatDoor
namespace Go.Lift
noncomputable section
open Go.RowKit Go.ChangeShapes Go.WideShapes Go.ChangeAt
structure ArgRow(w:World)(b:ABlk)(p:Place):Prop where
  ro:p.ro=true
  bro:b.ro=true
  ver:b.ver=0
  es:p.es=b.es
  pos:0<p.es
  exact:p.exact=b.exact
  row: ∀ (φ:Map) (S:Nat→Prop),Row φ S b 0 p w
  bare:BareB b
def rowsMap(ps:List Place):Map:=fun i v=>if v=0 then ps[i]? else none
def noBlk(es:Nat):ABlk:= {elems:= [],es,exact:=true,ro:=true,ver:=0,minVer:=0,forkLen:=0,ty:=none}
def noPlace(es:Nat):Place:= {blk:=0,off:=0,lo:=0,es,tot:=0,exact:=true,ro:=true}
theorem noRow {w:World}(hw:0<w.heap.size){es:Nat}(he:0<es):ArgRow w (noBlk es) (noPlace es) where
  ro:=rfl
  bro:=rfl
  ver:=rfl
  es:=rfl
  pos:=he
  exact:=rfl
  row φ S:=⟨hw,(fun h=>by cases h),fun o ho=>by simp [noPlace]at ho,(fun h=>by cases h),(fun h=>by cases h),(fun q h=>by cases h),fun i e h1 h2 h3=>by simp [noBlk]at h3⟩
  bare e he:=by simp [noBlk]at he
theorem FDoes.law {P:Program}{C:(Nat→Prop)→World→Prop}{f:FuncId}{args:List AVal}{h h':AHeap}(k:FDoes P C f args h (.bool true) h'){w:World}(hC:C (fun k=>k<w.heap.size) w){φ:Map}(hl:HRel φ (fun k=>k<w.heap.size) h w){args':Array Value}(ha:VRels φ args args'.toList) :
    Calls P f args' w fun e w'=>e= .returned (.bool true)∧Below w.heap.size w w':=by
  have:=(k (fun k=>k<w.heap.size) w (fun _ h=>h) hC _ w args' hl (Safe.refl _ _) ha).2
  exact this.mono fun e w' ⟨v',φ',h1,_,h2,_,h3,_⟩=>by
    simp only [VRel]at h2
    subst h2;exact⟨h1,h3.below⟩
end
end Go.Lift
namespace Go.Lift
noncomputable section
open Go.RowKit Go.ChangeShapes Go.WideShapes Go.ChangeAt
structure ArgRow2(φ:Map)(S:Nat→Prop)(w:World)(b:ABlk)(p:Place):Prop where
  ro:p.ro=true
  bro:b.ro=true
  ver:b.ver=0
  es:p.es=b.es
  pos:0<p.es
  exact:p.exact=b.exact
  row:Row φ S b 0 p w
theorem ArgRow.two {φ:Map}{S:Nat→Prop}{w:World}{b:ABlk}{p:Place}(h:ArgRow w b p):ArgRow2 φ S w b p:=⟨h.ro,h.bro,h.ver,h.es,h.pos,h.exact,h.row φ S⟩
theorem HRel.of_rows {w:World} {S:Nat→Prop} (l:List (ABlk×Place)) (h: ∀ x∈l,ArgRow2 (rowsMap (l.map (·.2))) S w x.1 x.2):HRel (rowsMap (l.map (·.2))) S (AHeap.of (l.map (·.1))) w where
  dom i v p hp:=by
    unfold rowsMap at hp
    split at hp
    · rename_i hv;subst hv
      rw [List.getElem?_map,Option.map_eq_some_iff]at hp
      obtain⟨x,hx,rfl⟩:=hp
      have k:=h x (List.mem_of_getElem? hx)
      have hi:=(List.getElem?_eq_some_iff.1 hx).1
      refine⟨by rw [AHeap.of_next];simpa using hi,x.1,?_,by omega,k.es,k.exact,(fun h=>by rw [k.bro]at h;cases h),k.pos,k.row⟩
      rw [AHeap.of_get,List.getElem?_map,hx];rfl
    · cases hp
  apart i v p j u q hp hq _ _:=by
    have: ∀ {i v p},rowsMap (l.map (·.2)) i v=some p→p.ro=true:=by
      intro i v p hp
      unfold rowsMap at hp
      split at hp
      · rw [List.getElem?_map,Option.map_eq_some_iff]at hp
        obtain⟨x,hx,rfl⟩:=hp
        exact(h x (List.mem_of_getElem? hx)).ro
      · cases hp
    exact⟨this hp,this hq⟩
  same i v p u q hp hq _:=by
    unfold rowsMap at hp hq
    split at hp
    · split at hq
      · rw [hp]at hq;simp only [Option.some.injEq]at hq;subst hq;exact⟨rfl,rfl⟩
      · cases hq
    · cases hp
end
end Go.Lift
namespace Go.Lift
noncomputable section
open Go.RowKit Go.ChangeShapes Go.WideShapes Go.ChangeAt
def cellKind (P:Program):Nat→TypeId→Nat→Option TK
  | 0,_,_=>none
  | d+1,t,c =>
    match P.underlying t with
    | some (.int k)=>if c=0 then some (.int k)else none
    | some .bool=>if c=0 then some .bool else none
    | some .string=>if c=0 then some .string else none
    | some (.struct fs)=>fs.toList.findSome? fun f=>if f.offset≤c∧c<f.offset+P.cellsOf f.type then cellKind P d f.type (c-f.offset)else none
    | some (.array n e)=>if c / P.cellsOf e<n then cellKind P d e (c % P.cellsOf e)else none
    | _=>none
def CellIs:TK→Value→Prop
  | .int k,v=> ∃ n,v= .int k n∧(Lit.int k n).wf=true
  | .bool,v=> ∃ b,v= .bool b
  | .string,v=> ∃ s:ByteArray,v= .string s∧s.size≤maxLen
  | _,_=>False
section
variable {H:Type}{enc:TypeId×Value→H}{P:Program}{w:World}{base:Nat}{spare:Nat→Bool}{held:Bool}
theorem cell_flat: ∀ (d:Nat) {t:TypeId} {c:Nat} {k:TK} {fuel:Nat} {cs:List Value} {x:DataW H×List MemPlace},cellKind P d t c=some k→DataW.trod enc P w base spare held fuel t cs=some x→ ∃ v,cs[c]? =some v∧CellIs k v:=by
  intro d
  induction d with
  | zero=>intro t c k fuel cs x h;cases h
  | succ d ih =>
    intro t c k fuel cs x h hx
    simp only [cellKind]at h
    split at h
    · rename_i kk hu
      split at h
      · rename_i hc;subst hc
        simp only [Option.some.injEq]at h;subst h
        obtain⟨n,rfl,_,hw⟩:=DataW.trod_int hu hx
        exact⟨_,rfl,n,rfl,hw⟩
      · cases h
    · rename_i hu
      split at h
      · rename_i hc;subst hc
        simp only [Option.some.injEq]at h;subst h
        obtain⟨b,rfl,_⟩:=DataW.trod_bool hu hx
        exact⟨_,rfl,b,rfl⟩
      · cases h
    · rename_i hu
      split at h
      · rename_i hc;subst hc
        simp only [Option.some.injEq]at h;subst h
        obtain⟨s,rfl,_,hs⟩:=DataW.trod_string hu hx
        exact⟨_,rfl,s,rfl,hs⟩
      · cases h
    · rename_i fs hu
      obtain⟨f,hf,hk⟩:=List.exists_of_findSome?_eq_some h
      split at hk
      · rename_i hc
        obtain⟨xs,n,_,_,hl,hxl,hfs⟩:=DataW.trod_struct hu hx
        obtain⟨j,hj,hfj⟩:=List.mem_iff_getElem.1 hf
        have hj':fs[j]? =some f:=by rw [← Array.getElem?_toList,List.getElem?_eq_getElem hj,hfj]
        have h1:=hfs j f hj'
        rw [List.getElem?_eq_getElem (by rw [hxl];simpa using hj)]at h1
        obtain⟨v,hv,his⟩:=ih hk h1
        rw [List.getElem?_take]at hv
        split at hv
        · rw [List.getElem?_drop,show f.offset+(c-f.offset)=c by omega]at hv
          exact⟨v,hv,his⟩
        · cases hv
      · cases hk
    · rename_i n e hu
      split at h
      · rename_i hc
        obtain⟨xs,m,_,_,hl,hxl,hes⟩:=DataW.trod_array hu hx
        have h1:=hes _ hc
        rw [List.getElem?_eq_getElem (by omega)]at h1
        obtain⟨v,hv,his⟩:=ih h h1
        rw [List.getElem?_take]at hv
        split at hv
        · rw [List.getElem?_drop,Nat.mul_comm,Nat.div_add_mod]at hv
          exact⟨v,hv,his⟩
        · cases hv
      · cases h
    · cases h
theorem CellIs.bare {k:TK}{v:Value}(h:CellIs k v):Bare (ofScalar v)∧(ofScalar v).simple=true∧v.oneCell'=true:=by
  cases k with
  | int k=>obtain⟨n,rfl,_⟩:=h;exact⟨Bare.int _ _,rfl,by first | trivial | rfl⟩
  | bool=>obtain⟨b,rfl⟩:=h;exact⟨Bare.bool _,rfl,by first | trivial | rfl⟩
  | string=>obtain⟨s,rfl,_⟩:=h;exact⟨Bare.str _,rfl,by first | trivial | rfl⟩
  | _=>exact h.elim
def elemA(isA:Bool)(cs:List AVal):AVal:=if isA then .agg cs else cs.headD .undef
theorem elemA_cells {isA:Bool}{cs:List AVal}(h:isA=false→ ∃ a,cs= [a]∧a.simple=true):(elemA isA cs).cells=cs:=by
  unfold elemA
  cases isA with
  | true=>rfl
  | false =>
    obtain⟨a,rfl,ha⟩:=h rfl
    cases a<;>simp [AVal.cells]<;>cases ha
theorem Bare.agg {l:List AVal}(h: ∀ a∈l,Bare a):Bare (.agg l):=by
  refine⟨fun r=> ?_,?_⟩
  · simp only [AVal.ren,AVal.rens_map]
    have:l.map (AVal.ren r)=l:=by
      conv=>rhs;rw [← List.map_id l]
      exact List.map_congr_left fun e he=>(h e he).1 r
    rw [this]
  · simp only [Clo];exact Clos_iff.2 fun a ha=>(h a ha).2
def cellAt(w:World)(x:Addr)(j:Nat):Value:=(w.cell? (x.add j)).getD undef
def elemAt(w:World)(x:Addr)(isA:Bool)(sz i:Nat):AVal:=elemA isA ((List.range sz).map fun j=>ofScalar (cellAt w x (i*sz+j)))
theorem open_flat_arg {isA:Bool} {t e:TypeId} {d sz:Nat} {ks:List TK} (hw:0<w.heap.size) (ht:P.underlying t=some (.slice e)) (hc:P.cellsOf e=sz) (hsz:Nat.blt 0 sz=true) (hA:isA=false→sz=1)
    (hks:(List.range sz).map (cellKind P d e)=ks.map some) {a:Option Addr} {len cap:Nat} {dd:DataW H} {ps:List MemPlace} (h:DataW.Trod enc P w 0 (fun _=>true) true t (.slice a len cap) dd ps) (id:Nat) :
    ∃ (o:Option AAddr) (c:Nat) (b:ABlk) (p:Place) (x:Addr),SlArg o len c id 0 0 sz∧ArgRow w b p∧len≤maxLen∧(∀ φ:Map,φ id 0=some p→VRel φ (.slice o len c) (.slice a len cap)) ∧
      (∀ i,i<len→b.elem? 0 (0+i)=some (elemAt w x isA sz i))∧(∀ i j,i<len→j<sz→ ∃ k,ks[j]? =some k∧CellIs k (cellAt w x (i*sz+j))):=by
  have hsz:0<sz:=Nat.blt_eq.mp hsz
  have hkk: ∀ j,j<sz→ ∃ k,ks[j]? =some k∧cellKind P d e j=some k:=by
    intro j hj
    have h1:=congrArg (fun(l:List (Option TK))=>l[j]?) hks
    simp only [List.getElem?_map,List.getElem?_range hj,Option.map_some]at h1
    cases hk:ks[j]? with
    | none=>rw [hk]at h1;cases h1
    | some k=>rw [hk]at h1;simp at h1;exact⟨k,rfl,h1⟩
  obtain⟨fuel,hf⟩:=h
  have hf':DataW.trod enc P w 0 (fun _=>true) true fuel t [.slice a len cap]=some (dd,ps):=hf
  rcases DataW.trod_slice ht hf' with ⟨hcs,_⟩ | ⟨x,l,c,elems,rest,n,_,hcs,_,_,hl,hm,hlen,hel,hsp,_⟩
  · simp at hcs
    obtain⟨rfl,rfl,rfl⟩:=hcs
    exact⟨none,0,noBlk sz,noPlace sz,⟨0,0,none⟩,.inr ⟨rfl,rfl,rfl⟩,noRow hw hsz,by simp,fun φ _=>by simp [VRel],fun i hi=>by omega,fun i j hi=>by omega⟩
  · simp at hcs
    obtain⟨rfl,rfl,rfl⟩:=hcs
    obtain⟨hrl,hr⟩:=hsp rfl
    have each: ∀ i,i<cap→ ∃ cs y,w.cells? 0 (x.add (i*sz)) sz=some cs∧DataW.trod enc P w 0 (fun _=>true) true n e cs=some y:=by
      intro i hi
      have hb: ∃ y,(w.cells? 0 (x.add (i*P.cellsOf e)) (P.cellsOf e)).bind (DataW.trod enc P w 0 (fun _=>true) true n e)=some y:=by
        by_cases c1:i<len
        · exact⟨_,(hel i c1).trans (List.getElem?_eq_getElem (by omega))⟩
        · have:=hr (i-len) (by omega)
          rw [show len+(i-len)=i by omega]at this
          exact⟨_,this.trans (List.getElem?_eq_getElem (by omega))⟩
      obtain⟨y,hy⟩:=hb
      rw [hc,Option.bind_eq_some_iff]at hy
      obtain⟨cs,h1,h2⟩:=hy
      exact⟨cs,y,h1,h2⟩
    have cell: ∀ i j,i<cap→j<sz→ ∃ v k,w.cell? (x.add (i*sz+j))=some v∧ks[j]? =some k∧CellIs k v:=by
      intro i j hi hj
      obtain⟨cs,y,h1,h2⟩:=each i hi
      obtain⟨k,hk,hkd⟩:=hkk j hj
      obtain⟨v,hv,his⟩:=cell_flat d hkd h2
      refine⟨v,k,?_,hk,his⟩
      rw [← Go.Deep.add_add,(World.cells?_some h1).2.2 j hj,hv]
    have hcellAt: ∀ i j,i<cap→j<sz→w.cell? (x.add (i*sz+j))=some (cellAt w x (i*sz+j))∧ ∃ k,ks[j]? =some k∧CellIs k (cellAt w x (i*sz+j)):=by
      intro i j hi hj
      obtain⟨v,k,h1,h2,h3⟩:=cell i j hi hj
      have:cellAt w x (i*sz+j)=v:=by simp [cellAt,h1]
      rw [this];exact⟨h1,k,h2,h3⟩
    by_cases hcap:cap=0
    · subst hcap
      obtain rfl:len=0:=by omega
      refine⟨some ⟨id,0,0,0,sz⟩,0,noBlk sz,noPlace sz,x,.inl rfl,noRow hw hsz,by simp,fun φ hφ=> ?_,fun j hj=>by omega,fun i j hi=>by omega⟩
      simp only [VRel]
      exact⟨x,0,rfl,Nat.le_refl _,Nat.le_refl _,.inl ⟨rfl,_,hφ,rfl,.inl rfl,fun _=>rfl⟩⟩
    have hspot:x.spot=none:=by
      have:=(hcellAt 0 0 (by omega) hsz).1
      simpa [Addr.add]using World.cell?_spot this
    have hadd: ∀ i,x.add i=⟨x.block,x.off+i,none⟩:=by
      intro i
      obtain⟨bl,of,sp⟩:=x
      simp only at hspot
      subst hspot
      unfold Addr.add
      split
      · rename_i h0;subst h0;rfl
      · rfl
    have hcells: ∀ i,i<cap→(elemAt w x isA sz i).cells=(List.range sz).map fun j=>ofScalar (cellAt w x (i*sz+j)):=by
      intro i hi
      refine elemA_cells fun hA'=> ?_
      have h1:=hA hA'
      subst h1
      refine⟨_,rfl,?_⟩
      obtain⟨_,k,_,his⟩:=hcellAt i 0 hi (by omega)
      exact his.bare.2.1
    have hblk:x.block<w.heap.size:=by
      have:=(hcellAt 0 0 (by omega) hsz).1
      rw [hadd]at this
      unfold World.cell? at this
      split at this
      · rename_i hb;exact(Array.getElem?_eq_some_iff.1 hb).1
      · cases this
    refine⟨some ⟨id,0,0,0,sz⟩,cap,{elems:=(List.range cap).map (elemAt w x isA sz),es:=sz,exact:=true,ro:=true,ver:=0,minVer:=0,forkLen:=0,ty:=none},{blk:=x.block,off:=x.off,lo:=0,es:=sz,tot:=cap,exact:=true,ro:=true},x,.inl rfl,?_,by omega,?_,?_,fun i j hi hj=>(hcellAt i j (by omega) hj).2⟩
    · refine⟨rfl,rfl,rfl,rfl,hsz,rfl,fun φ S=>⟨hblk,(fun h=>by cases h),?_,(fun h=>by cases h),(fun h=>by cases h),(fun q h=>by cases h),?_⟩,?_⟩
      · intro o ho
        simp only at ho
        have h1:o / sz<cap:=Nat.div_lt_of_lt_mul (by rw [Nat.mul_comm];exact ho)
        have:=(hcellAt (o / sz) (o % sz) h1 (Nat.mod_lt _ hsz)).1
        rw [show o / sz*sz+o % sz=o by rw [Nat.mul_comm];exact Nat.div_add_mod o sz,hadd]at this
        simp only [this];rfl
      · intro i e0 _ _ he
        simp only [List.getElem?_map,Option.map_eq_some_iff]at he
        obtain⟨i',hi',rfl⟩:=he
        have hi:=(List.getElem?_eq_some_iff.1 hi').1
        simp only [List.length_range]at hi
        rw [List.getElem?_range hi]at hi'
        simp only [Option.some.injEq]at hi';subst hi'
        refine⟨by rw [hcells i hi];simp,by simp only;omega,fun j x' hx=> ?_⟩
        rw [hcells i hi,List.getElem?_map,Option.map_eq_some_iff]at hx
        obtain⟨j',hj',rfl⟩:=hx
        have hj:=(List.getElem?_eq_some_iff.1 hj').1
        simp only [List.length_range]at hj
        rw [List.getElem?_range hj]at hj'
        simp only [Option.some.injEq]at hj';subst hj'
        obtain⟨h1,k,_,his⟩:=hcellAt i j hi hj
        refine⟨_,?_,ofScalar_rel φ _,his.bare.2.2⟩
        rw [hadd]at h1
        simp only [Place.at,Nat.sub_zero,Nat.add_assoc]
        exact h1
      · intro e0 he
        obtain⟨i,hi,rfl⟩:=List.mem_map.1 he
        have hi:=List.mem_range.1 hi
        unfold elemAt elemA
        have hall: ∀ a∈(List.range sz).map (fun j=>ofScalar (cellAt w x (i*sz+j))),Bare a:=by
          intro a ha
          obtain⟨j,hj,rfl⟩:=List.mem_map.1 ha
          obtain⟨_,k,_,his⟩:=hcellAt i j hi (List.mem_range.1 hj)
          exact his.bare.1
        cases isA with
        | true=>exact Bare.agg hall
        | false =>
          have h1:=hA rfl
          subst h1
          exact hall _ (by simp)
    · intro φ hφ
      simp only [VRel]
      refine⟨x,cap,rfl,hl,Nat.le_refl _,.inl ⟨rfl,_,hφ,rfl,?_,fun _=>rfl⟩⟩
      refine .inr ⟨Nat.le_refl _,?_,by simp⟩
      have:=hadd 0
      simp only [Addr.add,if_true]at this
      simpa [Place.at]using this
    · intro i hi
      have hi':i<cap:=by omega
      simp [ABlk.elem?,ABlk.lim,hi']
theorem weight_len {t e:TypeId}(ht:P.underlying t=some (.slice e)){a:Option Addr}{len cap:Nat}{dd:DataW H}{ps:List MemPlace}(h:DataW.Trod enc P w base spare held t (.slice a len cap) dd ps)
    (hw: ∀ y∈dd.weights P t,y≤reachBytes):len*P.bytesOf e≤reachBytes:=by
  obtain⟨fuel,hf⟩:=h
  have hf':DataW.trod enc P w base spare held fuel t [.slice a len cap]=some (dd,ps):=hf
  rcases DataW.trod_slice ht hf' with ⟨hcs,_⟩ | ⟨x,l,c,elems,rest,n,_,hcs,hx,_,hl,hm,hlen,_⟩
  · simp at hcs
    obtain⟨_,rfl,_⟩:=hcs
    simp
  · simp at hcs
    obtain⟨_,rfl,_⟩:=hcs
    simp only [Prod.mk.injEq]at hx
    obtain⟨rfl,_⟩:=hx
    have:=hw ((elems.length+rest.length)*P.bytesOf e) (by simp [DataW.weights,ht])
    rw [hlen]at this
    exact Nat.le_trans (Nat.mul_le_mul_right _ (by omega)) this
theorem weights_cons {t:TypeId}{ts:List TypeId}{d:DataW H}{ds:List (DataW H)}{R:Nat}(h: ∀ y∈DataW.weightsEach P (t::ts) (d::ds),y≤R):(∀ y∈d.weights P t,y≤R)∧ ∀ y∈DataW.weightsEach P ts ds,y≤R :=
  ⟨fun y hy=>h y (by simp [DataW.weightsEach,hy]),fun y hy=>h y (by simp [DataW.weightsEach,hy])⟩
end
end
end Go.Lift
namespace Go.Lift
noncomputable section
open Go.RowKit Go.ChangeShapes Go.WideShapes Go.ChangeAt
theorem weights_each {H:Type}{P:Program} : ∀ {ts:List TypeId} {ds:List (DataW H)} {j:Nat} {t:TypeId} {d:DataW H} {y:Nat},ts[j]? =some t→ds[j]? =some d→y∈d.weights P t→y∈DataW.weightsEach P ts ds
  | [],_,_,_,_,_,h,_,_=>by cases h
  | _::_,[],_,_,_,_,_,h,_=>by cases h
  | t::ts,d::ds,0,_,_,_,h1,h2,h3=>by
    simp at h1 h2;subst h1 h2
    simp only [DataW.weightsEach,List.mem_append];exact .inl h3
  | t::ts,d::ds,j+1,_,_,_,h1,h2,h3=>by
    simp only [DataW.weightsEach,List.mem_append];exact .inr (weights_each (j:=j) (by simpa using h1) (by simpa using h2) h3)
theorem weights_all {H:Type}{P:Program}{e:TypeId}{ds:List (DataW H)}{d:DataW H}{y:Nat}(hd:d∈ds)(h3:y∈d.weights P e):y∈DataW.weightsAll P e ds:=by
  induction ds with
  | nil=>cases hd
  | cons a r ih =>
    simp only [DataW.weightsAll,List.mem_append]
    rcases List.mem_cons.1 hd with rfl | hd
    · exact .inl h3
    · exact .inr (ih hd)
section
variable {H:Type}{enc:TypeId×Value→H}{P:Program}{w:World}{base:Nat}{spare:Nat→Bool}{held:Bool}
theorem cell_weight: ∀ (d:Nat) {t:TypeId} {c:Nat} {fuel:Nat} {cs:List Value} {x:DataW H×List MemPlace},cellKind P d t c=some .string→DataW.trod enc P w base spare held fuel t cs=some x→ ∃ s:ByteArray,cs[c]? =some (.string s)∧s.size∈x.1.weights P t:=by
  intro d
  induction d with
  | zero=>intro t c fuel cs x h;cases h
  | succ d ih =>
    intro t c fuel cs x h hx
    simp only [cellKind]at h
    split at h
    · split at h<;>cases h
    · split at h<;>cases h
    · rename_i hu
      split at h
      · rename_i hc;subst hc
        obtain⟨s,rfl,hx',hs⟩:=DataW.trod_string hu hx
        subst hx'
        exact⟨s,rfl,by rw [DataW.weights];exact List.mem_singleton.2 (show s.data.size=s.data.toList.length from Array.length_toList.symm)⟩
      · cases h
    · rename_i fs hu
      obtain⟨f,hf,hk⟩:=List.exists_of_findSome?_eq_some h
      split at hk
      · rename_i hc
        obtain⟨xs,n,_,he,hl,hxl,hfs⟩:=DataW.trod_struct hu hx
        obtain⟨j,hj,hfj⟩:=List.mem_iff_getElem.1 hf
        have hj':fs[j]? =some f:=by rw [← Array.getElem?_toList,List.getElem?_eq_getElem hj,hfj]
        have h1:=hfs j f hj'
        have hjx:j<xs.length:=by rw [hxl];simpa using hj
        rw [List.getElem?_eq_getElem hjx]at h1
        obtain⟨v,hv,his⟩:=ih hk h1
        rw [List.getElem?_take]at hv
        split at hv
        · rw [List.getElem?_drop,show f.offset+(c-f.offset)=c by omega]at hv
          refine⟨v,hv,?_⟩
          subst he
          simp only [DataW.weights,hu]
          exact weights_each (j:=j) (by simp [hj']) (by simp [hjx]) his
        · cases hv
      · cases hk
    · rename_i n e hu
      split at h
      · rename_i hc
        obtain⟨xs,m,_,he,hl,hxl,hes⟩:=DataW.trod_array hu hx
        have h1:=hes _ hc
        rw [List.getElem?_eq_getElem (by omega)]at h1
        obtain⟨v,hv,his⟩:=ih h h1
        rw [List.getElem?_take]at hv
        split at hv
        · rw [List.getElem?_drop,Nat.mul_comm,Nat.div_add_mod]at hv
          refine⟨v,hv,?_⟩
          subst he
          simp only [DataW.weights,hu]
          exact weights_all (List.mem_map.2 ⟨_,List.getElem_mem _,rfl⟩) his
        · cases hv
      · cases h
    · cases h
theorem open_flat_argX {isA:Bool} {t e:TypeId} {d sz:Nat} {ks:List TK} (hw:0<w.heap.size) (ht:P.underlying t=some (.slice e)) (hc:P.cellsOf e=sz) (hsz:Nat.blt 0 sz=true) (hA:isA=false→sz=1)
    (hks:(List.range sz).map (cellKind P d e)=ks.map some) {a:Option Addr} {len cap:Nat} {dd:DataW H} {ps:List MemPlace} (h:DataW.Trod enc P w 0 (fun _=>true) true t (.slice a len cap) dd ps) (id:Nat) :
    ∃ (o:Option AAddr) (c:Nat) (b:ABlk) (p:Place) (x:Addr),SlArg o len c id 0 0 sz∧ArgRow w b p∧len≤maxLen∧(∀ φ:Map,φ id 0=some p→VRel φ (.slice o len c) (.slice a len cap)) ∧
      (∀ i,i<len→b.elem? 0 (0+i)=some (elemAt w x isA sz i))∧(∀ i j,i<len→j<sz→ ∃ k,ks[j]? =some k∧CellIs k (cellAt w x (i*sz+j))) ∧
      (∀ i j,i<len→j<sz→ks[j]? =some .string→ ∃ s:ByteArray,cellAt w x (i*sz+j)= .string s∧s.size∈dd.weights P t):=by
  have hsz:0<sz:=Nat.blt_eq.mp hsz
  have hkk: ∀ j,j<sz→ ∃ k,ks[j]? =some k∧cellKind P d e j=some k:=by
    intro j hj
    have h1:=congrArg (fun(l:List (Option TK))=>l[j]?) hks
    simp only [List.getElem?_map,List.getElem?_range hj,Option.map_some]at h1
    cases hk:ks[j]? with
    | none=>rw [hk]at h1;cases h1
    | some k=>rw [hk]at h1;simp at h1;exact⟨k,rfl,h1⟩
  obtain⟨fuel,hf⟩:=h
  have hf':DataW.trod enc P w 0 (fun _=>true) true fuel t [.slice a len cap]=some (dd,ps):=hf
  rcases DataW.trod_slice ht hf' with ⟨hcs,_⟩ | ⟨x,l,c,elems,rest,n,_,hcs,hxx,_,hl,hm,hlen,hel,hsp,_⟩
  · simp at hcs
    obtain⟨rfl,rfl,rfl⟩:=hcs
    exact⟨none,0,noBlk sz,noPlace sz,⟨0,0,none⟩,.inr ⟨rfl,rfl,rfl⟩,noRow hw hsz,by simp,fun φ _=>by simp [VRel],fun i hi=>by omega,fun i j hi=>by omega,fun i j hi=>by omega⟩
  · simp at hcs
    obtain⟨rfl,rfl,rfl⟩:=hcs
    obtain⟨hrl,hr⟩:=hsp rfl
    have each: ∀ i,i<cap→ ∃ cs y,w.cells? 0 (x.add (i*sz)) sz=some cs∧DataW.trod enc P w 0 (fun _=>true) true n e cs=some y:=by
      intro i hi
      have hb: ∃ y,(w.cells? 0 (x.add (i*P.cellsOf e)) (P.cellsOf e)).bind (DataW.trod enc P w 0 (fun _=>true) true n e)=some y:=by
        by_cases c1:i<len
        · exact⟨_,(hel i c1).trans (List.getElem?_eq_getElem (by omega))⟩
        · have:=hr (i-len) (by omega)
          rw [show len+(i-len)=i by omega]at this
          exact⟨_,this.trans (List.getElem?_eq_getElem (by omega))⟩
      obtain⟨y,hy⟩:=hb
      rw [hc,Option.bind_eq_some_iff]at hy
      obtain⟨cs,h1,h2⟩:=hy
      exact⟨cs,y,h1,h2⟩
    have cell: ∀ i j,i<cap→j<sz→ ∃ v k,w.cell? (x.add (i*sz+j))=some v∧ks[j]? =some k∧CellIs k v:=by
      intro i j hi hj
      obtain⟨cs,y,h1,h2⟩:=each i hi
      obtain⟨k,hk,hkd⟩:=hkk j hj
      obtain⟨v,hv,his⟩:=cell_flat d hkd h2
      refine⟨v,k,?_,hk,his⟩
      rw [← Go.Deep.add_add,(World.cells?_some h1).2.2 j hj,hv]
    have hcellAt: ∀ i j,i<cap→j<sz→w.cell? (x.add (i*sz+j))=some (cellAt w x (i*sz+j))∧ ∃ k,ks[j]? =some k∧CellIs k (cellAt w x (i*sz+j)):=by
      intro i j hi hj
      obtain⟨v,k,h1,h2,h3⟩:=cell i j hi hj
      have:cellAt w x (i*sz+j)=v:=by simp [cellAt,h1]
      rw [this];exact⟨h1,k,h2,h3⟩
    have txt: ∀ i j,i<len→j<sz→ks[j]? =some .string→ ∃ s:ByteArray,cellAt w x (i*sz+j)= .string s∧s.size∈dd.weights P t:=by
      intro i j hi hj hk
      obtain⟨k',hk',hkd⟩:=hkk j hj
      rw [hk]at hk'
      simp only [Option.some.injEq]at hk'
      subst hk'
      simp only [Prod.mk.injEq]at hxx
      have hie:i<elems.length:=by omega
      have h0:=(hel i hi).trans (List.getElem?_eq_getElem hie)
      rw [hc,Option.bind_eq_some_iff]at h0
      obtain⟨cs,h1,h2⟩:=h0
      obtain⟨s,hv,his⟩:=cell_weight d hkd h2
      refine⟨s,?_,?_⟩
      · unfold cellAt
        rw [← Go.Deep.add_add,(World.cells?_some h1).2.2 j hj,hv];rfl
      · rw [hxx.1]
        simp only [DataW.weights,ht]
        refine List.mem_cons_of_mem _ (List.mem_append.2 (.inl (weights_all (List.mem_map.2 ⟨_,List.getElem_mem hie,rfl⟩) his)))
    by_cases hcap:cap=0
    · subst hcap
      obtain rfl:len=0:=by omega
      refine⟨some ⟨id,0,0,0,sz⟩,0,noBlk sz,noPlace sz,x,.inl rfl,noRow hw hsz,by simp,fun φ hφ=> ?_,fun j hj=>by omega,fun i j hi=>by omega,fun i j hi=>by omega⟩
      simp only [VRel]
      exact⟨x,0,rfl,Nat.le_refl _,Nat.le_refl _,.inl ⟨rfl,_,hφ,rfl,.inl rfl,fun _=>rfl⟩⟩
    have hspot:x.spot=none:=by
      have:=(hcellAt 0 0 (by omega) hsz).1
      simpa [Addr.add]using World.cell?_spot this
    have hadd: ∀ i,x.add i=⟨x.block,x.off+i,none⟩:=by
      intro i
      obtain⟨bl,of,sp⟩:=x
      simp only at hspot
      subst hspot
      unfold Addr.add
      split
      · rename_i h0;subst h0;rfl
      · rfl
    have hcells: ∀ i,i<cap→(elemAt w x isA sz i).cells=(List.range sz).map fun j=>ofScalar (cellAt w x (i*sz+j)):=by
      intro i hi
      refine elemA_cells fun hA'=> ?_
      have h1:=hA hA'
      subst h1
      refine⟨_,rfl,?_⟩
      obtain⟨_,k,_,his⟩:=hcellAt i 0 hi (by omega)
      exact his.bare.2.1
    have hblk:x.block<w.heap.size:=by
      have:=(hcellAt 0 0 (by omega) hsz).1
      rw [hadd]at this
      unfold World.cell? at this
      split at this
      · rename_i hb;exact(Array.getElem?_eq_some_iff.1 hb).1
      · cases this
    refine⟨some ⟨id,0,0,0,sz⟩,cap,{elems:=(List.range cap).map (elemAt w x isA sz),es:=sz,exact:=true,ro:=true,ver:=0,minVer:=0,forkLen:=0,ty:=none},{blk:=x.block,off:=x.off,lo:=0,es:=sz,tot:=cap,exact:=true,ro:=true},x,.inl rfl,?_,by omega,?_,?_,fun i j hi hj=>(hcellAt i j (by omega) hj).2,txt⟩
    · refine⟨rfl,rfl,rfl,rfl,hsz,rfl,fun φ S=>⟨hblk,(fun h=>by cases h),?_,(fun h=>by cases h),(fun h=>by cases h),(fun q h=>by cases h),?_⟩,?_⟩
      · intro o ho
        simp only at ho
        have h1:o / sz<cap:=Nat.div_lt_of_lt_mul (by rw [Nat.mul_comm];exact ho)
        have:=(hcellAt (o / sz) (o % sz) h1 (Nat.mod_lt _ hsz)).1
        rw [show o / sz*sz+o % sz=o by rw [Nat.mul_comm];exact Nat.div_add_mod o sz,hadd]at this
        simp only [this];rfl
      · intro i e0 _ _ he
        simp only [List.getElem?_map,Option.map_eq_some_iff]at he
        obtain⟨i',hi',rfl⟩:=he
        have hi:=(List.getElem?_eq_some_iff.1 hi').1
        simp only [List.length_range]at hi
        rw [List.getElem?_range hi]at hi'
        simp only [Option.some.injEq]at hi';subst hi'
        refine⟨by rw [hcells i hi];simp,by simp only;omega,fun j x' hx=> ?_⟩
        rw [hcells i hi,List.getElem?_map,Option.map_eq_some_iff]at hx
        obtain⟨j',hj',rfl⟩:=hx
        have hj:=(List.getElem?_eq_some_iff.1 hj').1
        simp only [List.length_range]at hj
        rw [List.getElem?_range hj]at hj'
        simp only [Option.some.injEq]at hj';subst hj'
        obtain⟨h1,k,_,his⟩:=hcellAt i j hi hj
        refine⟨_,?_,ofScalar_rel φ _,his.bare.2.2⟩
        rw [hadd]at h1
        simp only [Place.at,Nat.sub_zero,Nat.add_assoc]
        exact h1
      · intro e0 he
        obtain⟨i,hi,rfl⟩:=List.mem_map.1 he
        have hi:=List.mem_range.1 hi
        unfold elemAt elemA
        have hall: ∀ a∈(List.range sz).map (fun j=>ofScalar (cellAt w x (i*sz+j))),Bare a:=by
          intro a ha
          obtain⟨j,hj,rfl⟩:=List.mem_map.1 ha
          obtain⟨_,k,_,his⟩:=hcellAt i j hi (List.mem_range.1 hj)
          exact his.bare.1
        cases isA with
        | true=>exact Bare.agg hall
        | false =>
          have h1:=hA rfl
          subst h1
          exact hall _ (by simp)
    · intro φ hφ
      simp only [VRel]
      refine⟨x,cap,rfl,hl,Nat.le_refl _,.inl ⟨rfl,_,hφ,rfl,?_,fun _=>rfl⟩⟩
      refine .inr ⟨Nat.le_refl _,?_,by simp⟩
      have:=hadd 0
      simp only [Addr.add,if_true]at this
      simpa [Place.at]using this
    · intro i hi
      have hi':i<cap:=by omega
      simp [ABlk.elem?,ABlk.lim,hi']
end
end
end Go.Lift
namespace Go.Proofs.YtjpfnbihopoeeaaGreatDoor
open Go.ChangeShapes Go.WideShapes Go.ChangeAt Go.RowKit
open Go.Lift
set_option maxRecDepth 1000000
structure RowIn(w:World)(a:Addr)(r:Nat)(W:Nat→Prop) where
  A:Option Addr
  L:Nat
  C:Nat
  o:Option AAddr
  c:Nat
  b:ABlk
  p:Lift.Place
  tx:List Bys
  cell:w.cell? (a.add r)=some (.slice A L C)
  sl:SlArg o L c (1+r) 0 0 1
  row:ArgRow w b p
  rel: ∀ φ:Map,φ (1+r) 0=some p→VRel φ (.slice o L c) (.slice A L C)
  len:tx.length=L
  el: ∀ j (h:j<tx.length),b.elem? 0 (0+j)=some (.str tx[j])
  w: ∀ R,(∀ y,W y→y≤R)→ ∀ s∈tx,s.length≤R
section
variable {H:Type}{enc:TypeId×Value→H}{P:Program}{w:World}
theorem row_in {e q:TypeId}(he:P.underlying e=some (.slice q))(hks:(List.range 1).map (cellKind P 5 q)=([TK.string]:List TK).map some)(cq:P.cellsOf q=1)(hw:0<w.heap.size){a:Addr}{r n:Nat}{v:Value}{y:DataW H×List MemPlace}(hv:w.cell? (a.add r)=some v)(hy:DataW.trod enc P w 0 (fun _=>true) true n e [v]=some y)(W:Nat→Prop)(hW: ∀ x∈y.1.weights P e,W x):Nonempty (RowIn w a r W):=by
  have hsl: ∃ A L C,v= .slice A L C:=by
    rcases DataW.trod_slice he hy with ⟨hcs,_⟩ | ⟨x,l,c,_,_,_,_,hcs,_⟩
    · simp at hcs;exact⟨_,_,_,hcs⟩
    · simp at hcs;exact⟨_,_,_,hcs⟩
  obtain⟨A,L,C,rfl⟩:=hsl
  obtain⟨o,c,b,p,x,h1,h2,h3,h4,h5,h6,h7⟩:=open_flat_argX (isA:=false) (d:=5) (sz:=1) (ks:= [.string]) hw he cq (by decide) (fun _=>rfl) hks (dd:=y.1) (ps:=y.2) ⟨n,hy⟩ (1+r)
  have key: ∀ i,i<L→ ∃ s:ByteArray,elemAt w x false 1 i= .str s.data.toList∧s.size∈y.1.weights P e:=by
    intro i hi
    obtain⟨s,g1,g2⟩:=h7 i 0 hi (by decide) rfl
    have e':elemAt w x false 1 i=ofScalar (cellAt w x (i*1+0)):=rfl
    exact⟨s,by rw [e',g1];rfl,g2⟩
  let txt:Nat→Bys:=fun i=>match elemAt w x false 1 i with | .str s=>s | _=> []
  have ht: ∀ i,i<L→elemAt w x false 1 i= .str (txt i)∧ ∃ s∈y.1.weights P e,(txt i).length=s:=by
    intro i hi
    obtain⟨s,g1,g2⟩:=key i hi
    have:txt i=s.data.toList:=by show(match elemAt w x false 1 i with | .str s=>s | _=> [])=_;rw [g1]
    rw [this]
    exact⟨g1,_,g2,(Array.length_toList:s.data.toList.length=s.data.size)⟩
  refine⟨⟨A,L,C,o,c,b,p,(List.range L).map txt,hv,h1,h2,h4,by simp,fun j hj=> ?_,fun R hR s hs=> ?_⟩⟩
  · have hj':j<L:=by simpa using hj
    rw [h5 j hj',(ht j hj').1]
    simp
  · obtain⟨i,hi,rfl⟩:=List.mem_map.1 hs
    obtain⟨_,z,z1,z2⟩:=ht i (List.mem_range.1 hi)
    rw [z2];exact hR _ (hW _ z1)
end
end Go.Proofs.YtjpfnbihopoeeaaGreatDoor
namespace Go.Proofs.YtjpfnbihopoeeaaGreatDoor
open Go.Lift
set_option maxRecDepth 1000000
theorem ahN_vp(H:AHeap)(B n kc i:Nat)(ko:Option AAddr)(va vb:AVal)(p p2:AAddr)(K0:AExit→Facts→AHeap→Prop)(vc:bif Nat.ble B (AHeap.next H) && true then some (AVal.bool (decide ((↑i:Int)<(↑n:Int))))=some (AVal.bool true)∧bif Nat.ble B (AHeap.next H+4) && true then aindexAddr (AEnv.D env) 45 (AVal.slice ko n kc) (AVal.int IntKind.i64 (↑i:Int))=some (AVal.ptr (some p))∧aop env noCall (AHeap.next H+7) (getF [(17,AVal.ptr (some p)),(16,AVal.int IntKind.i64 (↑i:Int)),(15,AVal.slice ko n kc),(12,AVal.bool true),(11,AVal.int IntKind.i64 (↑n:Int)),(10,AVal.slice ko n kc),(9,AVal.int IntKind.i64 (↑i:Int)),(0,AVal.slice ko n kc),(1,va),(2,vb),(7,AVal.int IntKind.i64 (↑i:Int))]) (AHeap.mk (AHeap.next H+9) (H.2)) (Op.fieldAddr 48 (Operand.tmp 17) 2)=some (AVal.ptr (some p2),(AHeap.mk (AHeap.next H+9) (H.2)))∧aload (AEnv.D env) 4 p2 (AHeap.mk (AHeap.next H+9) (H.2))=some (AVal.bool true)∧bif Nat.ble B (AHeap.next H+9) && true then(-9223372036854775808≤(↑i:Int)+1∧(↑i:Int)+1≤9223372036854775807)∧K0 AExit.normal [(0,AVal.slice ko n kc),(1,va),(2,vb),(7,AVal.int IntKind.i64 ((↑i:Int)+1))] (AHeap.mk (AHeap.next H+9+3) (AHeap.blks (AHeap.mk (AHeap.next H+4+5) (AHeap.blks (AHeap.mk (AHeap.next H+4) (AHeap.blks H))))))else False else False else False) :
    ∃ e F1 h1,Runs Tryz.prog cnd B 37 (loopAt Tryz.prog 70 0) [(0,.slice ko n kc),(1,va),(2,vb),(7,.int .i64 i)] H e F1 h1∧K0 e F1 h1 :=
  tpath_runs env_ok mixed noSpecs_ok (hs:= .hint (.val 2003 (AVal.bool true)) (.hint (.val 4002 (AVal.ptr (some p))) (.hint (.val 4003 (AVal.ptr (some p2))) (.hint (.val 4004 (AVal.bool true)) (.hint (.go 3001) .nil))))) (keep:= [0,1,2,7]) (by kernel_rfl) vc
theorem ahS_vp(H H1:AHeap)(B n kc i:Nat)(ko:Option AAddr)(va vb dv:AVal)(p p0 p1 p2:AAddr)(k r:Int)(K0:AExit→Facts→AHeap→Prop)(vc:bif Nat.ble B (AHeap.next H) && true then some (AVal.bool (decide ((↑i:Int)<(↑n:Int))))=some (AVal.bool true)∧bif Nat.ble B (AHeap.next H+4) && true then aindexAddr (AEnv.D env) 45 (AVal.slice ko n kc) (AVal.int IntKind.i64 (↑i:Int))=some (AVal.ptr (some p))∧aop env noCall (AHeap.next H+7) (getF [(17,AVal.ptr (some p)),(16,AVal.int IntKind.i64 (↑i:Int)),(15,AVal.slice ko n kc),(12,AVal.bool true),(11,AVal.int IntKind.i64 (↑n:Int)),(10,AVal.slice ko n kc),(9,AVal.int IntKind.i64 (↑i:Int)),(0,AVal.slice ko n kc),(1,va),(2,vb),(7,AVal.int IntKind.i64 (↑i:Int))]) (AHeap.mk (AHeap.next H+9) (H.2)) (Op.fieldAddr 48 (Operand.tmp 17) 2)=some (AVal.ptr (some p2),(AHeap.mk (AHeap.next H+9) (H.2)))∧aload (AEnv.D env) 4 p2 (AHeap.mk (AHeap.next H+9) (H.2))=some (AVal.bool false)∧bif Nat.ble B (AHeap.next H+9) && true then aindexAddr (AEnv.D env) 45 (AVal.slice ko n kc) (AVal.int IntKind.i64 (↑i:Int))=some (AVal.ptr (some p))∧aop env noCall (AHeap.next H+12) (getF [(22,AVal.ptr (some p)),(21,AVal.int IntKind.i64 (↑i:Int)),(20,AVal.slice ko n kc),(19,AVal.bool false),(18,AVal.ptr (some p2)),(17,AVal.ptr (some p)),(16,AVal.int IntKind.i64 (↑i:Int)),(15,AVal.slice ko n kc),(12,AVal.bool true),(11,AVal.int IntKind.i64 (↑n:Int)),(10,AVal.slice ko n kc),(9,AVal.int IntKind.i64 (↑i:Int)),(0,AVal.slice ko n kc),(1,va),(2,vb),(7,AVal.int IntKind.i64 (↑i:Int))]) (AHeap.mk (AHeap.next H+23) (H.2)) (Op.fieldAddr 48 (Operand.tmp 22) 0)=some (AVal.ptr (some p0),(AHeap.mk (AHeap.next H+23) (H.2)))∧aload (AEnv.D env) 3 p0 (AHeap.mk (AHeap.next H+23) (H.2))=some (AVal.int IntKind.i64 k)∧AAddr.id p0<AHeap.next H+9∧aindexAddr (AEnv.D env) 45 (AVal.slice ko n kc) (AVal.int IntKind.i64 (↑i:Int))=some (AVal.ptr (some p))∧aop env noCall (AHeap.next H+17) (getF [(27,AVal.ptr (some p)),(26,AVal.int IntKind.i64 (↑i:Int)),(25,AVal.slice ko n kc),(24,AVal.int IntKind.i64 k),(23,AVal.ptr (some p0)),(22,AVal.ptr (some p)),(21,AVal.int IntKind.i64 (↑i:Int)),(20,AVal.slice ko n kc),(19,AVal.bool false),(18,AVal.ptr (some p2)),(17,AVal.ptr (some p)),(16,AVal.int IntKind.i64 (↑i:Int)),(15,AVal.slice ko n kc),(12,AVal.bool true),(11,AVal.int IntKind.i64 (↑n:Int)),(10,AVal.slice ko n kc),(9,AVal.int IntKind.i64 (↑i:Int)),(0,AVal.slice ko n kc),(1,va),(2,vb),(7,AVal.int IntKind.i64 (↑i:Int))]) (AHeap.mk (AHeap.next H+23) (H.2)) (Op.fieldAddr 48 (Operand.tmp 27) 1)=some (AVal.ptr (some p1),(AHeap.mk (AHeap.next H+23) (H.2)))∧aload (AEnv.D env) 4 p1 (AHeap.mk (AHeap.next H+23) (H.2))=some dv∧AAddr.id p1<AHeap.next H+9∧CallT Tryz.prog cnd 33 [AVal.int IntKind.i64 k,dv,va,vb] (AHeap.mk (AHeap.next H+23) (H.2)) (AVal.int IntKind.i64 r) H1∧bif Nat.ble B (AHeap.next H1) && true then some (AVal.bool (r != 0))=some (AVal.bool false)∧bif Nat.ble B (AHeap.next H1+2) && true then(-9223372036854775808≤(↑i:Int)+1∧(↑i:Int)+1≤9223372036854775807)∧K0 AExit.normal [(0,AVal.slice ko n kc),(1,va),(2,vb),(7,AVal.int IntKind.i64 ((↑i:Int)+1))] (AHeap.mk (AHeap.next H1+2+3) (AHeap.blks (AHeap.mk (AHeap.next H1+2) (AHeap.blks H1))))else False else False else False else False else False) :
    ∃ e F1 h1,Runs Tryz.prog cnd B 37 (loopAt Tryz.prog 70 0) [(0,.slice ko n kc),(1,va),(2,vb),(7,.int .i64 i)] H e F1 h1∧K0 e F1 h1 :=
  tpath_runs env_ok mixed noSpecs_ok (hs:= .hint (.val 2003 (AVal.bool true)) (.hint (.val 4002 (AVal.ptr (some p))) (.hint (.val 4003 (AVal.ptr (some p2))) (.hint (.val 4004 (AVal.bool false)) (.hint (.val 5002 (AVal.ptr (some p))) (.hint (.val 5003 (AVal.ptr (some p0))) (.hint (.farV 5004 (AVal.int IntKind.i64 k)) (.hint (.val 5007 (AVal.ptr (some p))) (.hint (.val 5008 (AVal.ptr (some p1))) (.hint (.farV 5009 dv) (.hint (.act 5012 (AVal.int IntKind.i64 r) fun x=>H1) (.hint (.val 6001 (AVal.bool false)) (.hint (.go 3001) .nil))))))))))))) (keep:= [0,1,2,7]) (by kernel_rfl) vc
theorem ahRT_vp(H H1:AHeap)(B n kc i:Nat)(ko:Option AAddr)(va vb dv:AVal)(p p0 p1 p2:AAddr)(k r:Int)(K0:AExit→Facts→AHeap→Prop)(vc:bif Nat.ble B (AHeap.next H) && true then some (AVal.bool (decide ((↑i:Int)<(↑n:Int))))=some (AVal.bool true)∧bif Nat.ble B (AHeap.next H+4) && true then aindexAddr (AEnv.D env) 45 (AVal.slice ko n kc) (AVal.int IntKind.i64 (↑i:Int))=some (AVal.ptr (some p))∧aop env noCall (AHeap.next H+7) (getF [(17,AVal.ptr (some p)),(16,AVal.int IntKind.i64 (↑i:Int)),(15,AVal.slice ko n kc),(12,AVal.bool true),(11,AVal.int IntKind.i64 (↑n:Int)),(10,AVal.slice ko n kc),(9,AVal.int IntKind.i64 (↑i:Int)),(0,AVal.slice ko n kc),(1,va),(2,vb),(7,AVal.int IntKind.i64 (↑i:Int))]) (AHeap.mk (AHeap.next H+9) (H.2)) (Op.fieldAddr 48 (Operand.tmp 17) 2)=some (AVal.ptr (some p2),(AHeap.mk (AHeap.next H+9) (H.2)))∧aload (AEnv.D env) 4 p2 (AHeap.mk (AHeap.next H+9) (H.2))=some (AVal.bool false)∧bif Nat.ble B (AHeap.next H+9) && true then aindexAddr (AEnv.D env) 45 (AVal.slice ko n kc) (AVal.int IntKind.i64 (↑i:Int))=some (AVal.ptr (some p))∧aop env noCall (AHeap.next H+12) (getF [(22,AVal.ptr (some p)),(21,AVal.int IntKind.i64 (↑i:Int)),(20,AVal.slice ko n kc),(19,AVal.bool false),(18,AVal.ptr (some p2)),(17,AVal.ptr (some p)),(16,AVal.int IntKind.i64 (↑i:Int)),(15,AVal.slice ko n kc),(12,AVal.bool true),(11,AVal.int IntKind.i64 (↑n:Int)),(10,AVal.slice ko n kc),(9,AVal.int IntKind.i64 (↑i:Int)),(0,AVal.slice ko n kc),(1,va),(2,vb),(7,AVal.int IntKind.i64 (↑i:Int))]) (AHeap.mk (AHeap.next H+23) (H.2)) (Op.fieldAddr 48 (Operand.tmp 22) 0)=some (AVal.ptr (some p0),(AHeap.mk (AHeap.next H+23) (H.2)))∧aload (AEnv.D env) 3 p0 (AHeap.mk (AHeap.next H+23) (H.2))=some (AVal.int IntKind.i64 k)∧AAddr.id p0<AHeap.next H+9∧aindexAddr (AEnv.D env) 45 (AVal.slice ko n kc) (AVal.int IntKind.i64 (↑i:Int))=some (AVal.ptr (some p))∧aop env noCall (AHeap.next H+17) (getF [(27,AVal.ptr (some p)),(26,AVal.int IntKind.i64 (↑i:Int)),(25,AVal.slice ko n kc),(24,AVal.int IntKind.i64 k),(23,AVal.ptr (some p0)),(22,AVal.ptr (some p)),(21,AVal.int IntKind.i64 (↑i:Int)),(20,AVal.slice ko n kc),(19,AVal.bool false),(18,AVal.ptr (some p2)),(17,AVal.ptr (some p)),(16,AVal.int IntKind.i64 (↑i:Int)),(15,AVal.slice ko n kc),(12,AVal.bool true),(11,AVal.int IntKind.i64 (↑n:Int)),(10,AVal.slice ko n kc),(9,AVal.int IntKind.i64 (↑i:Int)),(0,AVal.slice ko n kc),(1,va),(2,vb),(7,AVal.int IntKind.i64 (↑i:Int))]) (AHeap.mk (AHeap.next H+23) (H.2)) (Op.fieldAddr 48 (Operand.tmp 27) 1)=some (AVal.ptr (some p1),(AHeap.mk (AHeap.next H+23) (H.2)))∧aload (AEnv.D env) 4 p1 (AHeap.mk (AHeap.next H+23) (H.2))=some dv∧AAddr.id p1<AHeap.next H+9∧CallT Tryz.prog cnd 33 [AVal.int IntKind.i64 k,dv,va,vb] (AHeap.mk (AHeap.next H+23) (H.2)) (AVal.int IntKind.i64 r) H1∧bif Nat.ble B (AHeap.next H1) && true then some (AVal.bool (r != 0))=some (AVal.bool true)∧bif Nat.ble B (AHeap.next H1+2) && true then some (AVal.bool (decide (r<0)))=some (AVal.bool true)∧K0 AExit.ret [(6,AVal.bool true)] (AHeap.mk (AHeap.next H1+2+3) (AHeap.blks (AHeap.mk (AHeap.next H1+2) (AHeap.blks H1))))else False else False else False else False else False) :
    ∃ e F1 h1,Runs Tryz.prog cnd B 37 (loopAt Tryz.prog 70 0) [(0,.slice ko n kc),(1,va),(2,vb),(7,.int .i64 i)] H e F1 h1∧K0 e F1 h1 :=
  tpath_runs env_ok mixed noSpecs_ok (hs:= .hint (.val 2003 (AVal.bool true)) (.hint (.val 4002 (AVal.ptr (some p))) (.hint (.val 4003 (AVal.ptr (some p2))) (.hint (.val 4004 (AVal.bool false)) (.hint (.val 5002 (AVal.ptr (some p))) (.hint (.val 5003 (AVal.ptr (some p0))) (.hint (.farV 5004 (AVal.int IntKind.i64 k)) (.hint (.val 5007 (AVal.ptr (some p))) (.hint (.val 5008 (AVal.ptr (some p1))) (.hint (.farV 5009 dv) (.hint (.act 5012 (AVal.int IntKind.i64 r) fun x=>H1) (.hint (.val 6001 (AVal.bool true)) (.hint (.val 7001 (AVal.bool true)) .nil))))))))))))) (keep:= [6]) (by kernel_rfl) vc
theorem ahRF_vp(H H1:AHeap)(B n kc i:Nat)(ko:Option AAddr)(va vb dv:AVal)(p p0 p1 p2:AAddr)(k r:Int)(K0:AExit→Facts→AHeap→Prop)(vc:bif Nat.ble B (AHeap.next H) && true then some (AVal.bool (decide ((↑i:Int)<(↑n:Int))))=some (AVal.bool true)∧bif Nat.ble B (AHeap.next H+4) && true then aindexAddr (AEnv.D env) 45 (AVal.slice ko n kc) (AVal.int IntKind.i64 (↑i:Int))=some (AVal.ptr (some p))∧aop env noCall (AHeap.next H+7) (getF [(17,AVal.ptr (some p)),(16,AVal.int IntKind.i64 (↑i:Int)),(15,AVal.slice ko n kc),(12,AVal.bool true),(11,AVal.int IntKind.i64 (↑n:Int)),(10,AVal.slice ko n kc),(9,AVal.int IntKind.i64 (↑i:Int)),(0,AVal.slice ko n kc),(1,va),(2,vb),(7,AVal.int IntKind.i64 (↑i:Int))]) (AHeap.mk (AHeap.next H+9) (H.2)) (Op.fieldAddr 48 (Operand.tmp 17) 2)=some (AVal.ptr (some p2),(AHeap.mk (AHeap.next H+9) (H.2)))∧aload (AEnv.D env) 4 p2 (AHeap.mk (AHeap.next H+9) (H.2))=some (AVal.bool false)∧bif Nat.ble B (AHeap.next H+9) && true then aindexAddr (AEnv.D env) 45 (AVal.slice ko n kc) (AVal.int IntKind.i64 (↑i:Int))=some (AVal.ptr (some p))∧aop env noCall (AHeap.next H+12) (getF [(22,AVal.ptr (some p)),(21,AVal.int IntKind.i64 (↑i:Int)),(20,AVal.slice ko n kc),(19,AVal.bool false),(18,AVal.ptr (some p2)),(17,AVal.ptr (some p)),(16,AVal.int IntKind.i64 (↑i:Int)),(15,AVal.slice ko n kc),(12,AVal.bool true),(11,AVal.int IntKind.i64 (↑n:Int)),(10,AVal.slice ko n kc),(9,AVal.int IntKind.i64 (↑i:Int)),(0,AVal.slice ko n kc),(1,va),(2,vb),(7,AVal.int IntKind.i64 (↑i:Int))]) (AHeap.mk (AHeap.next H+23) (H.2)) (Op.fieldAddr 48 (Operand.tmp 22) 0)=some (AVal.ptr (some p0),(AHeap.mk (AHeap.next H+23) (H.2)))∧aload (AEnv.D env) 3 p0 (AHeap.mk (AHeap.next H+23) (H.2))=some (AVal.int IntKind.i64 k)∧AAddr.id p0<AHeap.next H+9∧aindexAddr (AEnv.D env) 45 (AVal.slice ko n kc) (AVal.int IntKind.i64 (↑i:Int))=some (AVal.ptr (some p))∧aop env noCall (AHeap.next H+17) (getF [(27,AVal.ptr (some p)),(26,AVal.int IntKind.i64 (↑i:Int)),(25,AVal.slice ko n kc),(24,AVal.int IntKind.i64 k),(23,AVal.ptr (some p0)),(22,AVal.ptr (some p)),(21,AVal.int IntKind.i64 (↑i:Int)),(20,AVal.slice ko n kc),(19,AVal.bool false),(18,AVal.ptr (some p2)),(17,AVal.ptr (some p)),(16,AVal.int IntKind.i64 (↑i:Int)),(15,AVal.slice ko n kc),(12,AVal.bool true),(11,AVal.int IntKind.i64 (↑n:Int)),(10,AVal.slice ko n kc),(9,AVal.int IntKind.i64 (↑i:Int)),(0,AVal.slice ko n kc),(1,va),(2,vb),(7,AVal.int IntKind.i64 (↑i:Int))]) (AHeap.mk (AHeap.next H+23) (H.2)) (Op.fieldAddr 48 (Operand.tmp 27) 1)=some (AVal.ptr (some p1),(AHeap.mk (AHeap.next H+23) (H.2)))∧aload (AEnv.D env) 4 p1 (AHeap.mk (AHeap.next H+23) (H.2))=some dv∧AAddr.id p1<AHeap.next H+9∧CallT Tryz.prog cnd 33 [AVal.int IntKind.i64 k,dv,va,vb] (AHeap.mk (AHeap.next H+23) (H.2)) (AVal.int IntKind.i64 r) H1∧bif Nat.ble B (AHeap.next H1) && true then some (AVal.bool (r != 0))=some (AVal.bool true)∧bif Nat.ble B (AHeap.next H1+2) && true then some (AVal.bool (decide (r<0)))=some (AVal.bool false)∧K0 AExit.ret [(6,AVal.bool false)] (AHeap.mk (AHeap.next H1+2+3) (AHeap.blks (AHeap.mk (AHeap.next H1+2) (AHeap.blks H1))))else False else False else False else False else False) :
    ∃ e F1 h1,Runs Tryz.prog cnd B 37 (loopAt Tryz.prog 70 0) [(0,.slice ko n kc),(1,va),(2,vb),(7,.int .i64 i)] H e F1 h1∧K0 e F1 h1 :=
  tpath_runs env_ok mixed noSpecs_ok (hs:= .hint (.val 2003 (AVal.bool true)) (.hint (.val 4002 (AVal.ptr (some p))) (.hint (.val 4003 (AVal.ptr (some p2))) (.hint (.val 4004 (AVal.bool false)) (.hint (.val 5002 (AVal.ptr (some p))) (.hint (.val 5003 (AVal.ptr (some p0))) (.hint (.farV 5004 (AVal.int IntKind.i64 k)) (.hint (.val 5007 (AVal.ptr (some p))) (.hint (.val 5008 (AVal.ptr (some p1))) (.hint (.farV 5009 dv) (.hint (.act 5012 (AVal.int IntKind.i64 r) fun x=>H1) (.hint (.val 6001 (AVal.bool true)) (.hint (.val 7001 (AVal.bool false)) .nil))))))))))))) (keep:= [6]) (by kernel_rfl) vc
theorem ahE_vp(H:AHeap)(B n kc i:Nat)(ko:Option AAddr)(va vb:AVal)(K0:AExit→Facts→AHeap→Prop)(vc:bif Nat.ble B (AHeap.next H) && true then some (AVal.bool (decide ((↑i:Int)<(↑n:Int))))=some (AVal.bool false)∧K0 (AExit.exit 0) [(0,AVal.slice ko n kc),(1,va),(2,vb),(7,AVal.int IntKind.i64 (↑i:Int))] (AHeap.mk (AHeap.next H+4) (AHeap.blks H))else False) :
    ∃ e F1 h1,Runs Tryz.prog cnd B 37 (loopAt Tryz.prog 70 0) [(0,.slice ko n kc),(1,va),(2,vb),(7,.int .i64 i)] H e F1 h1∧K0 e F1 h1 :=
  tpath_runs env_ok mixed noSpecs_ok (hs:= .hint (.val 2003 (AVal.bool false)) .nil) (keep:= [0,1,2,7]) (by kernel_rfl) vc
theorem ahZ_vc(H H1:AHeap)(n kc:Nat)(ko:Option AAddr)(va vb:AVal)(K0:AVal→AHeap→Prop)(vc:bif Nat.ble (AHeap.next H) (AHeap.next H) && true then bif Nat.ble (AHeap.next H) (AHeap.next H+1) && true then Runs Tryz.prog cnd (AHeap.next H) 37 (Code.loop (loopAt Tryz.prog 70 0)) [(0,AVal.slice ko n kc),(1,va),(2,vb),(7,AVal.int IntKind.i64 (0))] (AHeap.mk (AHeap.next H+1+1) (AHeap.blks (AHeap.mk (AHeap.next H+1) (AHeap.blks H)))) (AExit.exit 0) [] H1∧bif Nat.ble (AHeap.next H) (AHeap.next H1) && true then bif Nat.ble (AHeap.next H) (AHeap.next H1+1)then K0 (AVal.bool false) (AHeap.mk (AHeap.next H1+1) (AHeap.blks H1))else False else False else False else False) :
    ∃ v h1,FDoes Tryz.prog cnd 70 [.slice ko n kc,va,vb] H v h1∧K0 v h1 :=
  tcall_does env_ok mixed noSpecs_ok (hs:= .hint (.keep [0,1,2,7]) (.hint (.loop [] H1 (AExit.exit 0)) .nil)) (by kernel_rfl) vc
theorem ahT_vc(H H1:AHeap)(n kc:Nat)(ko:Option AAddr)(va vb:AVal)(K0:AVal→AHeap→Prop)(vc:bif Nat.ble (AHeap.next H) (AHeap.next H) && true then bif Nat.ble (AHeap.next H) (AHeap.next H+1) && true then Runs Tryz.prog cnd (AHeap.next H) 37 (Code.loop (loopAt Tryz.prog 70 0)) [(0,AVal.slice ko n kc),(1,va),(2,vb),(7,AVal.int IntKind.i64 (0))] (AHeap.mk (AHeap.next H+1+1) (AHeap.blks (AHeap.mk (AHeap.next H+1) (AHeap.blks H)))) AExit.ret [(6,AVal.bool true)] H1∧bif Nat.ble (AHeap.next H) (AHeap.next H1)then K0 (AVal.bool true) H1 else False else False else False) :
    ∃ v h1,FDoes Tryz.prog cnd 70 [.slice ko n kc,va,vb] H v h1∧K0 v h1 :=
  tcall_does env_ok mixed noSpecs_ok (hs:= .hint (.keep [0,1,2,7]) (.hint (.loop [(6,AVal.bool true)] H1 AExit.ret) .nil)) (by kernel_rfl) vc
theorem ahF_vc(H H1:AHeap)(n kc:Nat)(ko:Option AAddr)(va vb:AVal)(K0:AVal→AHeap→Prop)(vc:bif Nat.ble (AHeap.next H) (AHeap.next H) && true then bif Nat.ble (AHeap.next H) (AHeap.next H+1) && true then Runs Tryz.prog cnd (AHeap.next H) 37 (Code.loop (loopAt Tryz.prog 70 0)) [(0,AVal.slice ko n kc),(1,va),(2,vb),(7,AVal.int IntKind.i64 (0))] (AHeap.mk (AHeap.next H+1+1) (AHeap.blks (AHeap.mk (AHeap.next H+1) (AHeap.blks H)))) AExit.ret [(6,AVal.bool false)] H1∧bif Nat.ble (AHeap.next H) (AHeap.next H1)then K0 (AVal.bool false) H1 else False else False else False) :
    ∃ v h1,FDoes Tryz.prog cnd 70 [.slice ko n kc,va,vb] H v h1∧K0 v h1 :=
  tcall_does env_ok mixed noSpecs_ok (hs:= .hint (.keep [0,1,2,7]) (.hint (.loop [(6,AVal.bool false)] H1 AExit.ret) .nil)) (by kernel_rfl) vc
theorem d1A_vp(H H1:AHeap)(B N rc m oc fx i t:Nat)(ro oo:Option AAddr)(kv xv yv:AVal)(p q:AAddr)(K0:AExit→Facts→AHeap→Prop)(vc:bif Nat.ble B (AHeap.next H) && true then some (AVal.bool (decide ((↑i:Int)≥(↑fx:Int))))=some (AVal.bool true)∧some (AVal.bool (decide ((↑t:Int)>(↑fx:Int))))=some (AVal.bool true)∧aindexAddr (AEnv.D env) 22 (AVal.slice ro N rc) (AVal.int IntKind.i64 (↑i:Int))=some (AVal.ptr (some p))∧aload (AEnv.D env) 36 p (AHeap.mk (AHeap.next H+21) (H.2))=some xv∧AAddr.id p<AHeap.next H∧(-9223372036854775808≤(↑t:Int)-1∧(↑t:Int)-1≤9223372036854775807)∧aindexAddr (AEnv.D env) 22 (AVal.slice oo m oc) (AVal.int IntKind.i64 ((↑t:Int)-1))=some (AVal.ptr (some q))∧aload (AEnv.D env) 36 q (AHeap.mk (AHeap.next H+21) (H.2))=some yv∧AAddr.id q<AHeap.next H∧CallT Tryz.prog cnd 70 [kv,xv,yv] (AHeap.mk (AHeap.next H+21) (H.2)) (AVal.bool true) H1∧bif Nat.ble B (AHeap.next H1) && true then(-9223372036854775808≤(↑t:Int)-1∧(↑t:Int)-1≤9223372036854775807)∧K0 AExit.normal [(0,AVal.slice ro N rc),(2,kv),(7,AVal.slice oo m oc),(8,AVal.int IntKind.i64 (↑fx:Int)),(9,AVal.int IntKind.i64 (↑i:Int)),(10,AVal.int IntKind.i64 ((↑t:Int)-1))] (AHeap.mk (AHeap.next H1+3) (AHeap.blks H1))else False else False) :
    ∃ e F1 h1,Runs Tryz.prog cnd B 62 (loopAt Tryz.prog 34 1) [(0,.slice ro N rc),(2,kv),(7,.slice oo m oc),(8,.int .i64 fx),(9,.int .i64 i),(10,.int .i64 t)] H e F1 h1∧K0 e F1 h1 :=
  tpath_runs env_ok mixed noSpecs_ok (hs:= .hint (.val 9002 (AVal.bool true)) (.hint (.val 9006 (AVal.bool true)) (.hint (.val 9012 (AVal.ptr (some p))) (.hint (.farV 9013 xv) (.hint (.go 9016) (.hint (.val 9017 (AVal.ptr (some q))) (.hint (.farV 9018 yv) (.hint (.act 9019 (AVal.bool true) fun x=>H1) (.hint (.go 10001) .nil))))))))) (keep:= [0,2,7,8,9,10]) (by kernel_rfl) vc
theorem d1B_vp(H H1:AHeap)(B N rc m oc fx i t:Nat)(ro oo:Option AAddr)(kv xv yv:AVal)(p q:AAddr)(K0:AExit→Facts→AHeap→Prop)(vc:bif Nat.ble B (AHeap.next H) && true then some (AVal.bool (decide ((↑i:Int)≥(↑fx:Int))))=some (AVal.bool true)∧some (AVal.bool (decide ((↑t:Int)>(↑fx:Int))))=some (AVal.bool true)∧aindexAddr (AEnv.D env) 22 (AVal.slice ro N rc) (AVal.int IntKind.i64 (↑i:Int))=some (AVal.ptr (some p))∧aload (AEnv.D env) 36 p (AHeap.mk (AHeap.next H+21) (H.2))=some xv∧AAddr.id p<AHeap.next H∧(-9223372036854775808≤(↑t:Int)-1∧(↑t:Int)-1≤9223372036854775807)∧aindexAddr (AEnv.D env) 22 (AVal.slice oo m oc) (AVal.int IntKind.i64 ((↑t:Int)-1))=some (AVal.ptr (some q))∧aload (AEnv.D env) 36 q (AHeap.mk (AHeap.next H+21) (H.2))=some yv∧AAddr.id q<AHeap.next H∧CallT Tryz.prog cnd 70 [kv,xv,yv] (AHeap.mk (AHeap.next H+21) (H.2)) (AVal.bool false) H1∧K0 (AExit.exit 2) [(0,AVal.slice ro N rc),(2,kv),(7,AVal.slice oo m oc),(8,AVal.int IntKind.i64 (↑fx:Int)),(9,AVal.int IntKind.i64 (↑i:Int)),(10,AVal.int IntKind.i64 (↑t:Int))] H1 else False) :
    ∃ e F1 h1,Runs Tryz.prog cnd B 62 (loopAt Tryz.prog 34 1) [(0,.slice ro N rc),(2,kv),(7,.slice oo m oc),(8,.int .i64 fx),(9,.int .i64 i),(10,.int .i64 t)] H e F1 h1∧K0 e F1 h1 :=
  tpath_runs env_ok mixed noSpecs_ok (hs:= .hint (.val 9002 (AVal.bool true)) (.hint (.val 9006 (AVal.bool true)) (.hint (.val 9012 (AVal.ptr (some p))) (.hint (.farV 9013 xv) (.hint (.go 9016) (.hint (.val 9017 (AVal.ptr (some q))) (.hint (.farV 9018 yv) (.hint (.act 9019 (AVal.bool false) fun x=>H1) .nil)))))))) (keep:= [0,2,7,8,9,10]) (by kernel_rfl) vc
theorem d1C_vp(H:AHeap)(B N rc m oc fx i t:Nat)(ro oo:Option AAddr)(kv:AVal)(K0:AExit→Facts→AHeap→Prop)(vc:bif Nat.ble B (AHeap.next H) && true then some (AVal.bool (decide ((↑i:Int)≥(↑fx:Int))))=some (AVal.bool false)∧K0 (AExit.exit 2) [(0,AVal.slice ro N rc),(2,kv),(7,AVal.slice oo m oc),(8,AVal.int IntKind.i64 (↑fx:Int)),(9,AVal.int IntKind.i64 (↑i:Int)),(10,AVal.int IntKind.i64 (↑t:Int))] (AHeap.mk (AHeap.next H+21) (AHeap.blks H))else False) :
    ∃ e F1 h1,Runs Tryz.prog cnd B 62 (loopAt Tryz.prog 34 1) [(0,.slice ro N rc),(2,kv),(7,.slice oo m oc),(8,.int .i64 fx),(9,.int .i64 i),(10,.int .i64 t)] H e F1 h1∧K0 e F1 h1 :=
  tpath_runs env_ok mixed noSpecs_ok (hs:= .hint (.val 9002 (AVal.bool false)) .nil) (keep:= [0,2,7,8,9,10]) (by kernel_rfl) vc
theorem d1D_vp(H:AHeap)(B N rc m oc fx i t:Nat)(ro oo:Option AAddr)(kv:AVal)(K0:AExit→Facts→AHeap→Prop)(vc:bif Nat.ble B (AHeap.next H) && true then some (AVal.bool (decide ((↑i:Int)≥(↑fx:Int))))=some (AVal.bool true)∧some (AVal.bool (decide ((↑t:Int)>(↑fx:Int))))=some (AVal.bool false)∧K0 (AExit.exit 2) [(0,AVal.slice ro N rc),(2,kv),(7,AVal.slice oo m oc),(8,AVal.int IntKind.i64 (↑fx:Int)),(9,AVal.int IntKind.i64 (↑i:Int)),(10,AVal.int IntKind.i64 (↑t:Int))] (AHeap.mk (AHeap.next H+21) (AHeap.blks H))else False) :
    ∃ e F1 h1,Runs Tryz.prog cnd B 62 (loopAt Tryz.prog 34 1) [(0,.slice ro N rc),(2,kv),(7,.slice oo m oc),(8,.int .i64 fx),(9,.int .i64 i),(10,.int .i64 t)] H e F1 h1∧K0 e F1 h1 :=
  tpath_runs env_ok mixed noSpecs_ok (hs:= .hint (.val 9002 (AVal.bool true)) (.hint (.val 9006 (AVal.bool false)) .nil)) (keep:= [0,2,7,8,9,10]) (by kernel_rfl) vc
theorem d0_vp(H H1 H2 H3 H4 H5:AHeap)(B N rc m oc fx i t q m2 oc2:Nat)(ro oo oo2:Option AAddr)(kv xv l1 l2 s1 s2:AVal)(p:AAddr)(K0:AExit→Facts→AHeap→Prop)(vc:bif Nat.ble B (AHeap.next H) && true then some (AVal.bool (decide ((↑i:Int)<(↑N:Int))))=some (AVal.bool true)∧bif Nat.ble B (AHeap.next H+4) && true then Runs Tryz.prog cnd B 62 (Code.loop (loopAt Tryz.prog 34 1)) [(0,AVal.slice ro N rc),(2,kv),(7,AVal.slice oo m oc),(8,AVal.int IntKind.i64 (↑fx:Int)),(9,AVal.int IntKind.i64 (↑i:Int)),(10,AVal.int IntKind.i64 (↑m:Int))] (AHeap.mk (AHeap.next H+4+3) (AHeap.blks (AHeap.mk (AHeap.next H+4) (AHeap.blks H)))) (AExit.exit 2) [(0,AVal.slice ro N rc),(2,kv),(7,AVal.slice oo m oc),(8,AVal.int IntKind.i64 (↑fx:Int)),(9,AVal.int IntKind.i64 (↑i:Int)),(10,AVal.int IntKind.i64 (↑t:Int))] H1∧bif Nat.ble B (AHeap.next H1) && true then bif Nat.ble B (AHeap.next H1+1) && true then aslice (AEnv.D env) 22 (AVal.slice oo m oc) none (some (AVal.int IntKind.i64 (↑t:Int))) none=some s1∧abuiltin env Builtin.append {toList:= [22,22]} [AVal.slice none 0 0,s1] (AHeap.next H1+5) (AHeap.mk (AHeap.next H1+7) (H1.2))=some (l1,H2)∧bif Nat.ble B (AHeap.next H2) && true then aindexAddr (AEnv.D env) 22 (AVal.slice ro N rc) (AVal.int IntKind.i64 (↑i:Int))=some (AVal.ptr (some p))∧aload (AEnv.D env) 36 p (AHeap.mk (AHeap.next H2+8) (H2.2))=some xv∧aop env noCall (AHeap.next H2+5) (getF [(53,xv),(52,AVal.ptr (some p)),(51,AVal.int IntKind.i64 (↑i:Int)),(50,AVal.slice ro N rc),(49,l1),(11,l1),(48,l1),(47,s1),(46,AVal.int IntKind.i64 (↑t:Int)),(45,AVal.slice oo m oc),(44,AVal.slice none 0 0),(0,AVal.slice ro N rc),(2,kv),(7,AVal.slice oo m oc),(8,AVal.int IntKind.i64 (↑fx:Int)),(9,AVal.int IntKind.i64 (↑i:Int)),(10,AVal.int IntKind.i64 (↑t:Int))]) (AHeap.mk (AHeap.next H2+8) (H2.2)) (Op.buildSlice 22 1 {toList:= [(0,Operand.tmp 53)]})=some (AVal.slice (some ⟨q,0,0,0,1⟩) 1 1,H3)∧abuiltin env Builtin.append {toList:= [22,22]} [l1,AVal.slice (some ⟨q,0,0,0,1⟩) 1 1] (AHeap.next H2+6) H3=some (l2,H4)∧bif Nat.ble B (AHeap.next H4) && true then aslice (AEnv.D env) 22 (AVal.slice oo m oc) (some (AVal.int IntKind.i64 (↑t:Int))) none none=some s2∧abuiltin env Builtin.append {toList:= [22,22]} [l2,s2] (AHeap.next H4+4) (AHeap.mk (AHeap.next H4+6) (H4.2))=some (AVal.slice oo2 m2 oc2,H5)∧bif Nat.ble B (AHeap.next H5) && true then(-9223372036854775808≤(↑i:Int)+1∧(↑i:Int)+1≤9223372036854775807)∧K0 AExit.normal [(0,AVal.slice ro N rc),(2,kv),(7,AVal.slice oo2 m2 oc2),(8,AVal.int IntKind.i64 (↑fx:Int)),(9,AVal.int IntKind.i64 ((↑i:Int)+1))] (AHeap.mk (AHeap.next H5+3) (AHeap.blks H5))else False else False else False else False else False else False else False) :
    ∃ e F1 h1,Runs Tryz.prog cnd B 62 (loopAt Tryz.prog 34 0) [(0,.slice ro N rc),(2,kv),(7,.slice oo m oc),(8,.int .i64 fx),(9,.int .i64 i)] H e F1 h1∧K0 e F1 h1 :=
  tpath_runs env_ok mixed noSpecs_ok (hs:= .hint (.val 6003 (AVal.bool true)) (.hint (.keep [0,2,7,8,9,10]) (.hint (.loop [(0,AVal.slice ro N rc),(2,kv),(7,AVal.slice oo m oc),(8,AVal.int IntKind.i64 (↑fx:Int)),(9,AVal.int IntKind.i64 (↑i:Int)),(10,AVal.int IntKind.i64 (↑t:Int))] H1 (AExit.exit 2)) (.hint (.val 12003 s1) (.hint (.act 12004 l1 fun x=>H2) (.hint (.val 13003 (AVal.ptr (some p))) (.hint (.val 13004 xv) (.hint (.act 13005 (AVal.slice (some ⟨q,0,0,0,1⟩) 1 1) fun x=>H3) (.hint (.act 13006 l2 fun x=>H4) (.hint (.val 14003 s2) (.hint (.act 14004 (AVal.slice oo2 m2 oc2) fun x=>H5) (.hint (.go 7001) .nil)))))))))))) (keep:= [0,2,7,8,9]) (by kernel_rfl) vc
theorem d0E_vp(H:AHeap)(B N rc m oc fx i:Nat)(ro oo:Option AAddr)(kv:AVal)(K0:AExit→Facts→AHeap→Prop)(vc:bif Nat.ble B (AHeap.next H) && true then some (AVal.bool (decide ((↑i:Int)<(↑N:Int))))=some (AVal.bool false)∧K0 (AExit.exit 0) [(0,AVal.slice ro N rc),(2,kv),(7,AVal.slice oo m oc),(8,AVal.int IntKind.i64 (↑fx:Int)),(9,AVal.int IntKind.i64 (↑i:Int))] (AHeap.mk (AHeap.next H+4) (AHeap.blks H))else False) :
    ∃ e F1 h1,Runs Tryz.prog cnd B 62 (loopAt Tryz.prog 34 0) [(0,.slice ro N rc),(2,kv),(7,.slice oo m oc),(8,.int .i64 fx),(9,.int .i64 i)] H e F1 h1∧K0 e F1 h1 :=
  tpath_runs env_ok mixed noSpecs_ok (hs:= .hint (.val 6003 (AVal.bool false)) .nil) (keep:= [0,2,7,8,9]) (by kernel_rfl) vc
theorem dsT_vc(H H1:AHeap)(N rc:Nat)(ro:Option AAddr)(kv ov:AVal)(K0:AVal→AHeap→Prop)(vc:bif Nat.ble (AHeap.next H) (AHeap.next H) && true then bif Nat.ble (AHeap.next H) (AHeap.next H+1) && true then bif Nat.ble (AHeap.next H) (AHeap.next H+2) && true then bif Nat.ble (AHeap.next H) (AHeap.next H+3) && true then bif Nat.ble (AHeap.next H) (AHeap.next H+4) && true then bif Nat.ble (AHeap.next H) (AHeap.next H+5) && true then Runs Tryz.prog cnd (AHeap.next H) 62 (Code.loop (loopAt Tryz.prog 34 0)) [(0,AVal.slice ro N rc),(2,kv),(7,AVal.slice none 0 0),(8,AVal.int IntKind.i64 (1)),(9,AVal.int IntKind.i64 (0))] (AHeap.mk (AHeap.next H+5+1) (AHeap.blks (AHeap.mk (AHeap.next H+4+1) (AHeap.blks (AHeap.mk (AHeap.next H+3+1) (AHeap.blks (AHeap.mk (AHeap.next H+2+1) (AHeap.blks (AHeap.mk (AHeap.next H+1+1) (AHeap.blks (AHeap.mk (AHeap.next H+1) (AHeap.blks H)))))))))))) (AExit.exit 0) [(7,ov)] H1∧bif Nat.ble (AHeap.next H) (AHeap.next H1) && true then bif Nat.ble (AHeap.next H) (AHeap.next H1+2)then K0 ov (AHeap.mk (AHeap.next H1+2) (AHeap.blks H1))else False else False else False else False else False else False else False else False) :
    ∃ v h1,FDoes Tryz.prog cnd 34 [.slice ro N rc,.bool true,kv] H v h1∧K0 v h1 :=
  tcall_does env_ok mixed noSpecs_ok (hs:= .hint (.keep [0,2,7,8,9]) (.hint (.loop [(7,ov)] H1 (AExit.exit 0)) .nil)) (by kernel_rfl) vc
theorem dsF_vc(H H1:AHeap)(N rc:Nat)(ro:Option AAddr)(kv ov:AVal)(K0:AVal→AHeap→Prop)(vc:bif Nat.ble (AHeap.next H) (AHeap.next H) && true then bif Nat.ble (AHeap.next H) (AHeap.next H+1) && true then bif Nat.ble (AHeap.next H) (AHeap.next H+2) && true then bif Nat.ble (AHeap.next H) (AHeap.next H+3) && true then bif Nat.ble (AHeap.next H) (AHeap.next H+4) && true then Runs Tryz.prog cnd (AHeap.next H) 62 (Code.loop (loopAt Tryz.prog 34 0)) [(0,AVal.slice ro N rc),(2,kv),(7,AVal.slice none 0 0),(8,AVal.int IntKind.i64 (0)),(9,AVal.int IntKind.i64 (0))] (AHeap.mk (AHeap.next H+4+1) (AHeap.blks (AHeap.mk (AHeap.next H+3+1) (AHeap.blks (AHeap.mk (AHeap.next H+2+1) (AHeap.blks (AHeap.mk (AHeap.next H+1+1) (AHeap.blks (AHeap.mk (AHeap.next H+1) (AHeap.blks H)))))))))) (AExit.exit 0) [(7,ov)] H1∧bif Nat.ble (AHeap.next H) (AHeap.next H1) && true then bif Nat.ble (AHeap.next H) (AHeap.next H1+2)then K0 ov (AHeap.mk (AHeap.next H1+2) (AHeap.blks H1))else False else False else False else False else False else False else False) :
    ∃ v h1,FDoes Tryz.prog cnd 34 [.slice ro N rc,.bool false,kv] H v h1∧K0 v h1 :=
  tcall_does env_ok mixed noSpecs_ok (hs:= .hint (.keep [0,2,7,8,9]) (.hint (.loop [(7,ov)] H1 (AExit.exit 0)) .nil)) (by kernel_rfl) vc
end Go.Proofs.YtjpfnbihopoeeaaGreatDoor
namespace Go.Proofs.YtjpfnbihopoeeaaGreatDoor
open Go.Lift
set_option maxRecDepth 1000000
theorem le_vp(H H1 H2 H3 H4 H5 H6:AHeap)(B N rc i n xc cp q1 q2 q3:Nat)(ro xo:Option AAddr)(fv l1 l2 s1 fv2:AVal)(p:AAddr)(K0:AExit→Facts→AHeap→Prop)(vc:bif Nat.ble B (AHeap.next H) && true then some (AVal.bool (decide ((↑i:Int)<(↑N:Int))))=some (AVal.bool true)∧bif Nat.ble B (AHeap.next H+1) && true then bif Nat.ble B (AHeap.next H+3) && true then aindexAddr (AEnv.D env) 22 (AVal.slice ro N rc) (AVal.int IntKind.i64 (↑i:Int))=some (AVal.ptr (some p))∧aload (AEnv.D env) 36 p (AHeap.mk (AHeap.next H+11) (H.2))=some (AVal.slice xo n xc)∧(-9223372036854775808≤(↑n:Int)+3∧(↑n:Int)+3≤9223372036854775807)∧aop env noCall (AHeap.next H+9) (getF [(20,AVal.int IntKind.i64 ((↑n:Int)+3)),(19,AVal.int IntKind.i64 (↑n:Int)),(18,AVal.slice xo n xc),(17,AVal.ptr (some p)),(16,AVal.int IntKind.i64 (↑i:Int)),(15,AVal.slice ro N rc),(4,AVal.int IntKind.i64 (↑i:Int)),(14,AVal.int IntKind.i64 (↑i:Int)),(13,AVal.bool true),(0,AVal.slice ro N rc),(3,fv),(11,AVal.int IntKind.i64 (↑N:Int)),(12,AVal.int IntKind.i64 (↑i:Int))]) (AHeap.mk (AHeap.next H+11) (H.2)) (Op.makeSlice 36 (Operand.const (Value.int IntKind.i64 (0))) (Operand.tmp 20))=some (AVal.slice (some ⟨q1,0,0,0,1⟩) 0 cp,H1)∧bif Nat.ble B (AHeap.next H1) && true then aindexAddr (AEnv.D env) 22 (AVal.slice ro N rc) (AVal.int IntKind.i64 (↑i:Int))=some (AVal.ptr (some p))∧aload (AEnv.D env) 36 p (AHeap.mk (AHeap.next H1+7) (H1.2))=some (AVal.slice xo n xc)∧abuiltin env Builtin.append {toList:= [36,36]} [AVal.slice (some ⟨q1,0,0,0,1⟩) 0 cp,AVal.slice xo n xc] (AHeap.next H1+5) (AHeap.mk (AHeap.next H1+7) (H1.2))=some (l1,H2)∧bif Nat.ble B (AHeap.next H2) && true then aop env noCall (AHeap.next H2+1) (getF [(28,l1),(5,l1),(27,l1),(26,AVal.slice xo n xc),(25,AVal.ptr (some p)),(24,AVal.int IntKind.i64 (↑i:Int)),(23,AVal.slice ro N rc),(22,AVal.slice (some ⟨q1,0,0,0,1⟩) 0 cp),(21,AVal.slice (some ⟨q1,0,0,0,1⟩) 0 cp),(20,AVal.int IntKind.i64 ((↑n:Int)+3)),(19,AVal.int IntKind.i64 (↑n:Int)),(18,AVal.slice xo n xc),(17,AVal.ptr (some p)),(16,AVal.int IntKind.i64 (↑i:Int)),(15,AVal.slice ro N rc),(4,AVal.int IntKind.i64 (↑i:Int)),(14,AVal.int IntKind.i64 (↑i:Int)),(13,AVal.bool true),(0,AVal.slice ro N rc),(3,fv),(11,AVal.int IntKind.i64 (↑N:Int)),(12,AVal.int IntKind.i64 (↑i:Int))]) (AHeap.mk (AHeap.next H2+4) (H2.2)) (Op.buildSlice 36 3 {toList:= [(0,Operand.const (Value.string {data:= {toList:= [(115:UInt8),(112:UInt8),(97:UInt8),(114:UInt8),(101:UInt8)]}})),(1,Operand.const (Value.string {data:= {toList:= [(115:UInt8),(112:UInt8),(97:UInt8),(114:UInt8),(101:UInt8)]}})),(2,Operand.const (Value.string {data:= {toList:= [(115:UInt8),(112:UInt8),(97:UInt8),(114:UInt8),(101:UInt8)]}}))]})=some (AVal.slice (some ⟨q2,0,0,0,1⟩) 3 3,H3)∧abuiltin env Builtin.append {toList:= [36,36]} [l1,AVal.slice (some ⟨q2,0,0,0,1⟩) 3 3] (AHeap.next H2+2) H3=some (l2,H4)∧bif Nat.ble B (AHeap.next H4) && true then aindexAddr (AEnv.D env) 22 (AVal.slice ro N rc) (AVal.int IntKind.i64 (↑i:Int))=some (AVal.ptr (some p))∧aload (AEnv.D env) 36 p (AHeap.mk (AHeap.next H4+11) (H4.2))=some (AVal.slice xo n xc)∧aslice (AEnv.D env) 36 l2 none (some (AVal.int IntKind.i64 (↑n:Int))) none=some s1∧aop env noCall (AHeap.next H4+8) (getF [(38,s1),(37,AVal.int IntKind.i64 (↑n:Int)),(36,AVal.slice xo n xc),(35,AVal.ptr (some p)),(34,AVal.int IntKind.i64 (↑i:Int)),(33,AVal.slice ro N rc),(32,l2),(31,fv),(5,l2),(30,l2),(29,AVal.slice (some ⟨q2,0,0,0,1⟩) 3 3),(28,l1),(27,l1),(26,AVal.slice xo n xc),(25,AVal.ptr (some p)),(24,AVal.int IntKind.i64 (↑i:Int)),(23,AVal.slice ro N rc),(22,AVal.slice (some ⟨q1,0,0,0,1⟩) 0 cp),(21,AVal.slice (some ⟨q1,0,0,0,1⟩) 0 cp),(20,AVal.int IntKind.i64 ((↑n:Int)+3)),(19,AVal.int IntKind.i64 (↑n:Int)),(18,AVal.slice xo n xc),(17,AVal.ptr (some p)),(16,AVal.int IntKind.i64 (↑i:Int)),(15,AVal.slice ro N rc),(4,AVal.int IntKind.i64 (↑i:Int)),(14,AVal.int IntKind.i64 (↑i:Int)),(13,AVal.bool true),(0,AVal.slice ro N rc),(3,fv),(11,AVal.int IntKind.i64 (↑N:Int)),(12,AVal.int IntKind.i64 (↑i:Int))]) (AHeap.mk (AHeap.next H4+11) (H4.2)) (Op.buildSlice 22 1 {toList:= [(0,Operand.tmp 38)]})=some (AVal.slice (some ⟨q3,0,0,0,1⟩) 1 1,H5)∧abuiltin env Builtin.append {toList:= [22,22]} [fv,AVal.slice (some ⟨q3,0,0,0,1⟩) 1 1] (AHeap.next H4+9) H5=some (fv2,H6)∧bif Nat.ble B (AHeap.next H6) && true then(-9223372036854775808≤(↑i:Int)+1∧(↑i:Int)+1≤9223372036854775807)∧K0 AExit.normal [(0,AVal.slice ro N rc),(3,fv2),(11,AVal.int IntKind.i64 (↑N:Int)),(12,AVal.int IntKind.i64 ((↑i:Int)+1))] (AHeap.mk (AHeap.next H6+2) (AHeap.blks H6))else False else False else False else False else False else False else False) :
    ∃ e F1 h1,Runs Tryz.prog cnd B 52 (loopAt Tryz.prog 20 0) [(0,.slice ro N rc),(3,fv),(11,.int .i64 N),(12,.int .i64 i)] H e F1 h1∧K0 e F1 h1 :=
  tpath_runs env_ok mixed noSpecs_ok (hs:= .hint (.val 3000 (AVal.bool true)) (.hint (.val 5002 (AVal.ptr (some p))) (.hint (.val 5003 (AVal.slice xo n xc)) (.hint (.go 5005) (.hint (.act 5006 (AVal.slice (some ⟨q1,0,0,0,1⟩) 0 cp) fun x=>H1) (.hint (.val 6003 (AVal.ptr (some p))) (.hint (.val 6004 (AVal.slice xo n xc)) (.hint (.act 6005 l1 fun x=>H2) (.hint (.act 7001 (AVal.slice (some ⟨q2,0,0,0,1⟩) 3 3) fun x=>H3) (.hint (.act 7002 l2 fun x=>H4) (.hint (.val 8004 (AVal.ptr (some p))) (.hint (.val 8005 (AVal.slice xo n xc)) (.hint (.val 8007 s1) (.hint (.act 8008 (AVal.slice (some ⟨q3,0,0,0,1⟩) 1 1) fun x=>H5) (.hint (.act 8009 fv2 fun x=>H6) (.hint (.go 9000) .nil)))))))))))))))) (keep:= [0,3,11,12]) (by kernel_rfl) vc
theorem leE_vp(H:AHeap)(B N rc i:Nat)(ro:Option AAddr)(fv:AVal)(K0:AExit→Facts→AHeap→Prop)(vc:bif Nat.ble B (AHeap.next H) && true then some (AVal.bool (decide ((↑i:Int)<(↑N:Int))))=some (AVal.bool false)∧K0 (AExit.exit 0) [(0,AVal.slice ro N rc),(3,fv),(11,AVal.int IntKind.i64 (↑N:Int)),(12,AVal.int IntKind.i64 (↑i:Int))] (AHeap.mk (AHeap.next H+1) (AHeap.blks H))else False) :
    ∃ e F1 h1,Runs Tryz.prog cnd B 52 (loopAt Tryz.prog 20 0) [(0,.slice ro N rc),(3,fv),(11,.int .i64 N),(12,.int .i64 i)] H e F1 h1∧K0 e F1 h1 :=
  tpath_runs env_ok mixed noSpecs_ok (hs:= .hint (.val 3000 (AVal.bool false)) .nil) (keep:= [0,3,11,12]) (by kernel_rfl) vc
theorem le_vc(H H1 H2 H3 H4 H5 H6 H7:AHeap)(N rc cp q a1 a2 a3 a4:Nat)(ro:Option AAddr)(fv gv rv:AVal)(K0:AVal→AHeap→Prop)(vc:bif Nat.ble (AHeap.next H) (AHeap.next H) && true then bif Nat.ble (AHeap.next H) (AHeap.next H+1) && true then(-9223372036854775808≤(↑N:Int)+3∧(↑N:Int)+3≤9223372036854775807)∧aop env noCall (AHeap.next H+4) (getF [(8,AVal.int IntKind.i64 ((↑N:Int)+3)),(7,AVal.int IntKind.i64 (↑N:Int)),(6,AVal.slice ro N rc),(2,AVal.slice none 0 0),(0,AVal.slice ro N rc)]) (AHeap.mk (AHeap.next H+6) (H.2)) (Op.makeSlice 22 (Operand.const (Value.int IntKind.i64 (0))) (Operand.tmp 8))=some (AVal.slice (some ⟨q,0,0,0,1⟩) 0 cp,H1)∧bif Nat.ble (AHeap.next H) (AHeap.next H1) && true then Runs Tryz.prog cnd (AHeap.next H) 52 (Code.loop (loopAt Tryz.prog 20 0)) [(0,AVal.slice ro N rc),(3,AVal.slice (some ⟨q,0,0,0,1⟩) 0 cp),(11,AVal.int IntKind.i64 (↑N:Int)),(12,AVal.int IntKind.i64 (0))] (AHeap.mk (AHeap.next H1+3) (AHeap.blks H1)) (AExit.exit 0) [(0,AVal.slice ro N rc),(3,fv)] H2∧bif Nat.ble (AHeap.next H) (AHeap.next H2) && true then aop env noCall (AHeap.next H2+1) (getF [(42,fv),(0,AVal.slice ro N rc),(3,fv)]) (AHeap.mk (AHeap.next H2+7) (H2.2)) (Op.buildSlice 36 1 {toList:= [(0,Operand.const (Value.string {data:= {toList:= [(115:UInt8),(112:UInt8),(97:UInt8),(114:UInt8),(101:UInt8)]}}))]})=some (AVal.slice (some ⟨a1,0,0,0,1⟩) 1 1,H3)∧aop env noCall (AHeap.next H2+2) (getF [(43,AVal.slice (some ⟨a1,0,0,0,1⟩) 1 1),(42,fv),(0,AVal.slice ro N rc),(3,fv)]) H3 (Op.buildSlice 36 1 {toList:= [(0,Operand.const (Value.string {data:= {toList:= [(115:UInt8),(112:UInt8),(97:UInt8),(114:UInt8),(101:UInt8)]}}))]})=some (AVal.slice (some ⟨a2,0,0,0,1⟩) 1 1,H4)∧aop env noCall (AHeap.next H2+3) (getF [(44,AVal.slice (some ⟨a2,0,0,0,1⟩) 1 1),(43,AVal.slice (some ⟨a1,0,0,0,1⟩) 1 1),(42,fv),(0,AVal.slice ro N rc),(3,fv)]) H4 (Op.buildSlice 36 1 {toList:= [(0,Operand.const (Value.string {data:= {toList:= [(115:UInt8),(112:UInt8),(97:UInt8),(114:UInt8),(101:UInt8)]}}))]})=some (AVal.slice (some ⟨a3,0,0,0,1⟩) 1 1,H5)∧aop env noCall (AHeap.next H2+4) (getF [(45,AVal.slice (some ⟨a3,0,0,0,1⟩) 1 1),(44,AVal.slice (some ⟨a2,0,0,0,1⟩) 1 1),(43,AVal.slice (some ⟨a1,0,0,0,1⟩) 1 1),(42,fv),(0,AVal.slice ro N rc),(3,fv)]) H5 (Op.buildSlice 22 3 {toList:= [(0,Operand.tmp 43),(1,Operand.tmp 44),(2,Operand.tmp 45)]})=some (AVal.slice (some ⟨a4,0,0,0,1⟩) 3 3,H6)∧abuiltin env Builtin.append {toList:= [22,22]} [fv,AVal.slice (some ⟨a4,0,0,0,1⟩) 3 3] (AHeap.next H2+5) H6=some (gv,H7)∧bif Nat.ble (AHeap.next H) (AHeap.next H7) && true then aslice (AEnv.D env) 22 gv none (some (AVal.int IntKind.i64 (↑N:Int))) none=some rv∧bif Nat.ble (AHeap.next H) (AHeap.next H7+5)then K0 rv (AHeap.mk (AHeap.next H7+5) (AHeap.blks H7))else False else False else False else False else False else False) :
    ∃ v h1,FDoes Tryz.prog cnd 20 [.slice ro N rc] H v h1∧K0 v h1 :=
  tcall_does env_ok mixed noSpecs_ok (hs:= .hint (.go 1002) (.hint (.act 1003 (AVal.slice (some ⟨q,0,0,0,1⟩) 0 cp) fun x=>H1) (.hint (.keep [0,3,11,12]) (.hint (.loop [(0,AVal.slice ro N rc),(3,fv)] H2 (AExit.exit 0)) (.hint (.act 10001 (AVal.slice (some ⟨a1,0,0,0,1⟩) 1 1) fun x=>H3) (.hint (.act 10002 (AVal.slice (some ⟨a2,0,0,0,1⟩) 1 1) fun x=>H4) (.hint (.act 10003 (AVal.slice (some ⟨a3,0,0,0,1⟩) 1 1) fun x=>H5) (.hint (.act 10004 (AVal.slice (some ⟨a4,0,0,0,1⟩) 3 3) fun x=>H6) (.hint (.act 10005 gv fun x=>H7) (.hint (.val 11003 rv) .nil)))))))))) (by kernel_rfl) vc
theorem k0_vp(H:AHeap)(B N rc M fc i xc:Nat)(ro fo xo:Option AAddr)(lv:AVal)(p q:AAddr)(K0:AExit→Facts→AHeap→Prop)(vc:bif Nat.ble B (AHeap.next H) && true then some (AVal.bool (decide ((↑i:Int)<(↑M:Int))))=some (AVal.bool true)∧bif Nat.ble B (AHeap.next H+4) && true then aindexAddr (AEnv.D env) 22 (AVal.slice fo M fc) (AVal.int IntKind.i64 (↑i:Int))=some (AVal.ptr (some p))∧aload (AEnv.D env) 36 p (AHeap.mk (AHeap.next H+19) (H.2))=some (AVal.slice xo 1 xc)∧aindexAddr (AEnv.D env) 22 (AVal.slice fo M fc) (AVal.int IntKind.i64 (↑i:Int))=some (AVal.ptr (some p))∧aload (AEnv.D env) 36 p (AHeap.mk (AHeap.next H+19) (H.2))=some (AVal.slice xo 1 xc)∧aindexAddr (AEnv.D env) 36 (AVal.slice xo 1 xc) (AVal.int IntKind.i64 (0))=some (AVal.ptr (some q))∧aload (AEnv.D env) 9 q (AHeap.mk (AHeap.next H+19) (H.2))=some (AVal.str [(115:UInt8),(112:UInt8),(97:UInt8),(114:UInt8),(101:UInt8)])∧bif Nat.ble B (AHeap.next H+19) && true then(-9223372036854775808≤(↑i:Int)+1∧(↑i:Int)+1≤9223372036854775807)∧K0 AExit.normal [(0,lv),(1,AVal.slice ro N rc),(5,AVal.slice fo M fc),(6,AVal.int IntKind.i64 ((↑i:Int)+1))] (AHeap.mk (AHeap.next H+19+3) (AHeap.blks (AHeap.mk (AHeap.next H+4+15) (AHeap.blks (AHeap.mk (AHeap.next H+4) (AHeap.blks H))))))else False else False else False) :
    ∃ e F1 h1,Runs Tryz.prog cnd B 81 (loopAt Tryz.prog 24 0) [(0,lv),(1,.slice ro N rc),(5,.slice fo M fc),(6,.int .i64 i)] H e F1 h1∧K0 e F1 h1 :=
  tpath_runs env_ok mixed noSpecs_ok (hs:= .hint (.val 3003 (AVal.bool true)) (.hint (.val 5002 (AVal.ptr (some p))) (.hint (.val 5003 (AVal.slice xo 1 xc)) (.hint (.val 5009 (AVal.ptr (some p))) (.hint (.val 5010 (AVal.slice xo 1 xc)) (.hint (.val 5011 (AVal.ptr (some q))) (.hint (.val 5012 (AVal.str [115,112,97,114,101])) (.hint (.go 4001) .nil)))))))) (keep:= [0,1,5,6]) (by kernel_rfl) vc
theorem k0E_vp(H:AHeap)(B N rc M fc i:Nat)(ro fo:Option AAddr)(lv:AVal)(K0:AExit→Facts→AHeap→Prop)(vc:bif Nat.ble B (AHeap.next H) && true then some (AVal.bool (decide ((↑i:Int)<(↑M:Int))))=some (AVal.bool false)∧K0 (AExit.exit 0) [(0,lv),(1,AVal.slice ro N rc),(5,AVal.slice fo M fc),(6,AVal.int IntKind.i64 (↑i:Int))] (AHeap.mk (AHeap.next H+4) (AHeap.blks H))else False) :
    ∃ e F1 h1,Runs Tryz.prog cnd B 81 (loopAt Tryz.prog 24 0) [(0,lv),(1,.slice ro N rc),(5,.slice fo M fc),(6,.int .i64 i)] H e F1 h1∧K0 e F1 h1 :=
  tpath_runs env_ok mixed noSpecs_ok (hs:= .hint (.val 3003 (AVal.bool false)) .nil) (keep:= [0,1,5,6]) (by kernel_rfl) vc
theorem k1_vp(H H1 H2:AHeap)(B N rc M fc i n yc m kc xn xc:Nat)(ro fo yo ko xo:Option AAddr)(lv xv:AVal)(p q u:AAddr)(K0:AExit→Facts→AHeap→Prop)(vc:bif Nat.ble B (AHeap.next H) && true then some (AVal.bool (decide ((↑i:Int)<(↑N:Int))))=some (AVal.bool true)∧bif Nat.ble B (AHeap.next H+1) && true then bif Nat.ble B (AHeap.next H+3) && true then aindexAddr (AEnv.D env) 22 lv (AVal.int IntKind.i64 (↑i:Int))=some (AVal.ptr (some p))∧aload (AEnv.D env) 36 p (AHeap.mk (AHeap.next H+13) (H.2))=some xv∧AAddr.id p<AHeap.next H+3∧aindexAddr (AEnv.D env) 22 (AVal.slice ro N rc) (AVal.int IntKind.i64 (↑i:Int))=some (AVal.ptr (some q))∧aload (AEnv.D env) 36 q (AHeap.mk (AHeap.next H+13) (H.2))=some (AVal.slice yo n yc)∧AAddr.id q<AHeap.next H+3∧CallT Tryz.prog cnd 30 [xv,AVal.slice yo n yc] (AHeap.mk (AHeap.next H+13) (H.2)) (AVal.bool true) H1∧bif Nat.ble B (AHeap.next H1) && true then aindexAddr (AEnv.D env) 22 (AVal.slice fo M fc) (AVal.int IntKind.i64 (↑i:Int))=some (AVal.ptr (some u))∧aload (AEnv.D env) 36 u (AHeap.mk (AHeap.next H1+12) (H1.2))=some (AVal.slice xo xn xc)∧aindexAddr (AEnv.D env) 22 (AVal.slice ro N rc) (AVal.int IntKind.i64 (↑i:Int))=some (AVal.ptr (some q))∧aload (AEnv.D env) 36 q (AHeap.mk (AHeap.next H1+12) (H1.2))=some (AVal.slice yo n yc)∧(-9223372036854775808≤(↑n:Int)+3∧(↑n:Int)+3≤9223372036854775807)∧aslice (AEnv.D env) 36 (AVal.slice xo xn xc) none (some (AVal.int IntKind.i64 ((↑n:Int)+3))) none=some (AVal.slice ko m kc)∧bif Nat.ble B (AHeap.next H1+12) && true then aindexAddr (AEnv.D env) 22 (AVal.slice ro N rc) (AVal.int IntKind.i64 (↑i:Int))=some (AVal.ptr (some q))∧aload (AEnv.D env) 36 q (AHeap.mk (AHeap.next H1+18) (H1.2))=some (AVal.slice yo n yc)∧Runs Tryz.prog cnd B 81 (Code.loop (loopAt Tryz.prog 24 2)) [(0,lv),(1,AVal.slice ro N rc),(5,AVal.slice fo M fc),(8,AVal.slice ko m kc),(9,AVal.int IntKind.i64 (↑n:Int)),(39,AVal.int IntKind.i64 (↑N:Int)),(40,AVal.int IntKind.i64 (↑i:Int))] (AHeap.mk (AHeap.next H1+12+6) (AHeap.blks (AHeap.mk (AHeap.next H1+12) (AHeap.blks H1)))) (AExit.exit 4) [(0,lv),(1,AVal.slice ro N rc),(5,AVal.slice fo M fc),(39,AVal.int IntKind.i64 (↑N:Int)),(40,AVal.int IntKind.i64 (↑i:Int))] H2∧bif Nat.ble B (AHeap.next H2) && true then(-9223372036854775808≤(↑i:Int)+1∧(↑i:Int)+1≤9223372036854775807)∧K0 AExit.normal [(0,lv),(1,AVal.slice ro N rc),(5,AVal.slice fo M fc),(39,AVal.int IntKind.i64 (↑N:Int)),(40,AVal.int IntKind.i64 ((↑i:Int)+1))] (AHeap.mk (AHeap.next H2+2) (AHeap.blks H2))else False else False else False else False else False else False) :
    ∃ e F1 h1,Runs Tryz.prog cnd B 81 (loopAt Tryz.prog 24 1) [(0,lv),(1,.slice ro N rc),(5,.slice fo M fc),(39,.int .i64 N),(40,.int .i64 i)] H e F1 h1∧K0 e F1 h1 :=
  tpath_runs env_ok mixed noSpecs_ok (hs:= .hint (.val 8000 (AVal.bool true)) (.hint (.val 10002 (AVal.ptr (some p))) (.hint (.farV 10003 xv) (.hint (.val 10006 (AVal.ptr (some q))) (.hint (.farV 10007 (AVal.slice yo n yc)) (.hint (.act 10008 (AVal.bool true) fun x=>H1) (.hint (.val 12002 (AVal.ptr (some u))) (.hint (.val 12003 (AVal.slice xo xn xc)) (.hint (.val 12006 (AVal.ptr (some q))) (.hint (.val 12007 (AVal.slice yo n yc)) (.hint (.go 12009) (.hint (.val 12010 (AVal.slice ko m kc)) (.hint (.val 13002 (AVal.ptr (some q))) (.hint (.val 13003 (AVal.slice yo n yc)) (.hint (.keep [0,1,5,8,9,39,40]) (.hint (.loop [(0,lv),(1,AVal.slice ro N rc),(5,AVal.slice fo M fc),(39,AVal.int IntKind.i64 (↑N:Int)),(40,AVal.int IntKind.i64 (↑i:Int))] H2 (AExit.exit 4)) (.hint (.go 18000) .nil))))))))))))))))) (keep:= [0,1,5,39,40]) (by kernel_rfl) vc
theorem k1E_vp(H:AHeap)(B N rc M fc i:Nat)(ro fo:Option AAddr)(lv:AVal)(K0:AExit→Facts→AHeap→Prop)(vc:bif Nat.ble B (AHeap.next H) && true then some (AVal.bool (decide ((↑i:Int)<(↑N:Int))))=some (AVal.bool false)∧K0 (AExit.exit 2) [(0,lv),(1,AVal.slice ro N rc),(5,AVal.slice fo M fc),(39,AVal.int IntKind.i64 (↑N:Int)),(40,AVal.int IntKind.i64 (↑i:Int))] (AHeap.mk (AHeap.next H+1) (AHeap.blks H))else False) :
    ∃ e F1 h1,Runs Tryz.prog cnd B 81 (loopAt Tryz.prog 24 1) [(0,lv),(1,.slice ro N rc),(5,.slice fo M fc),(39,.int .i64 N),(40,.int .i64 i)] H e F1 h1∧K0 e F1 h1 :=
  tpath_runs env_ok mixed noSpecs_ok (hs:= .hint (.val 8000 (AVal.bool false)) .nil) (keep:= [0,1,5,39,40]) (by kernel_rfl) vc
theorem k2_vp(H:AHeap)(B N rc M fc i m kc j:Nat)(ro fo ko:Option AAddr)(lv:AVal)(p:AAddr)(K0:AExit→Facts→AHeap→Prop)(vc:bif Nat.ble B (AHeap.next H) && true then some (AVal.bool (decide ((↑j:Int)<(↑m:Int))))=some (AVal.bool true)∧bif Nat.ble B (AHeap.next H+4) && true then aindexAddr (AEnv.D env) 36 (AVal.slice ko m kc) (AVal.int IntKind.i64 (↑j:Int))=some (AVal.ptr (some p))∧aload (AEnv.D env) 9 p (AHeap.mk (AHeap.next H+9) (H.2))=some (AVal.str [(115:UInt8),(112:UInt8),(97:UInt8),(114:UInt8),(101:UInt8)])∧bif Nat.ble B (AHeap.next H+9) && true then(-9223372036854775808≤(↑j:Int)+1∧(↑j:Int)+1≤9223372036854775807)∧K0 AExit.normal [(0,lv),(1,AVal.slice ro N rc),(5,AVal.slice fo M fc),(8,AVal.slice ko m kc),(9,AVal.int IntKind.i64 ((↑j:Int)+1)),(39,AVal.int IntKind.i64 (↑N:Int)),(40,AVal.int IntKind.i64 (↑i:Int))] (AHeap.mk (AHeap.next H+9+3) (AHeap.blks (AHeap.mk (AHeap.next H+4+5) (AHeap.blks (AHeap.mk (AHeap.next H+4) (AHeap.blks H))))))else False else False else False) :
    ∃ e F1 h1,Runs Tryz.prog cnd B 81 (loopAt Tryz.prog 24 2) [(0,lv),(1,.slice ro N rc),(5,.slice fo M fc),(8,.slice ko m kc),(9,.int .i64 j),(39,.int .i64 N),(40,.int .i64 i)] H e F1 h1∧K0 e F1 h1 :=
  tpath_runs env_ok mixed noSpecs_ok (hs:= .hint (.val 14003 (AVal.bool true)) (.hint (.val 16002 (AVal.ptr (some p))) (.hint (.val 16003 (AVal.str [115,112,97,114,101])) (.hint (.go 15001) .nil)))) (keep:= [0,1,5,8,9,39,40]) (by kernel_rfl) vc
theorem k2E_vp(H:AHeap)(B N rc M fc i m kc j:Nat)(ro fo ko:Option AAddr)(lv:AVal)(K0:AExit→Facts→AHeap→Prop)(vc:bif Nat.ble B (AHeap.next H) && true then some (AVal.bool (decide ((↑j:Int)<(↑m:Int))))=some (AVal.bool false)∧K0 (AExit.exit 4) [(0,lv),(1,AVal.slice ro N rc),(5,AVal.slice fo M fc),(8,AVal.slice ko m kc),(9,AVal.int IntKind.i64 (↑j:Int)),(39,AVal.int IntKind.i64 (↑N:Int)),(40,AVal.int IntKind.i64 (↑i:Int))] (AHeap.mk (AHeap.next H+4) (AHeap.blks H))else False) :
    ∃ e F1 h1,Runs Tryz.prog cnd B 81 (loopAt Tryz.prog 24 2) [(0,lv),(1,.slice ro N rc),(5,.slice fo M fc),(8,.slice ko m kc),(9,.int .i64 j),(39,.int .i64 N),(40,.int .i64 i)] H e F1 h1∧K0 e F1 h1 :=
  tpath_runs env_ok mixed noSpecs_ok (hs:= .hint (.val 14003 (AVal.bool false)) .nil) (keep:= [0,1,5,8,9,39,40]) (by kernel_rfl) vc
theorem k_vc(H H1 H2:AHeap)(N rc M fc:Nat)(ro fo:Option AAddr)(lv:AVal)(K0:AVal→AHeap→Prop)(vc:bif Nat.ble (AHeap.next H) (AHeap.next H) && true then bif Nat.ble (AHeap.next H) (AHeap.next H+1) && true then(-9223372036854775808≤(↑N:Int)+3∧(↑N:Int)+3≤9223372036854775807)∧aslice (AEnv.D env) 22 lv none (some (AVal.int IntKind.i64 ((↑N:Int)+3))) none=some (AVal.slice fo M fc)∧bif Nat.ble (AHeap.next H) (AHeap.next H+7) && true then Runs Tryz.prog cnd (AHeap.next H) 81 (Code.loop (loopAt Tryz.prog 24 0)) [(0,lv),(1,AVal.slice ro N rc),(5,AVal.slice fo M fc),(6,AVal.int IntKind.i64 (↑N:Int))] (AHeap.mk (AHeap.next H+7+3) (AHeap.blks (AHeap.mk (AHeap.next H+1+6) (AHeap.blks (AHeap.mk (AHeap.next H+1) (AHeap.blks H)))))) (AExit.exit 0) [(0,lv),(1,AVal.slice ro N rc),(5,AVal.slice fo M fc)] H1∧bif Nat.ble (AHeap.next H) (AHeap.next H1) && true then Runs Tryz.prog cnd (AHeap.next H) 81 (Code.loop (loopAt Tryz.prog 24 1)) [(0,lv),(1,AVal.slice ro N rc),(5,AVal.slice fo M fc),(39,AVal.int IntKind.i64 (↑N:Int)),(40,AVal.int IntKind.i64 (0))] (AHeap.mk (AHeap.next H1+3) (AHeap.blks H1)) (AExit.exit 2) [] H2∧bif Nat.ble (AHeap.next H) (AHeap.next H2) && true then bif Nat.ble (AHeap.next H) (AHeap.next H2+1)then K0 (AVal.bool true) (AHeap.mk (AHeap.next H2+1) (AHeap.blks H2))else False else False else False else False else False else False) :
    ∃ v h1,FDoes Tryz.prog cnd 24 [lv,.slice ro N rc] H v h1∧K0 v h1 :=
  tcall_does env_ok mixed noSpecs_ok (hs:= .hint (.go 1003) (.hint (.val 1004 (AVal.slice fo M fc)) (.hint (.keep [0,1,5,6]) (.hint (.loop [(0,lv),(1,AVal.slice ro N rc),(5,AVal.slice fo M fc)] H1 (AExit.exit 0)) (.hint (.keep [0,1,5,39,40]) (.hint (.loop [] H2 (AExit.exit 2)) .nil)))))) (by kernel_rfl) vc
end Go.Proofs.YtjpfnbihopoeeaaGreatDoor
namespace Go.Proofs.YtjpfnbihopoeeaaGreatDoor
open Go.Lift
set_option maxRecDepth 1000000
abbrev K3:=Int×Bool×Bool
def keyOf(x:K3):Key:=if x.2.2=true then none else some (x.1,x.2.1)
abbrev keyA(x:K3):AVal:= .agg [.int .i64 x.1,.bool x.2.1,.bool x.2.2]
def Kd(H:AHeap)(q:Nat)(v:AVal)(ks:List K3):Prop :=
  ∃ o c,v= .slice o ks.length c∧(ks= []∨ ∃ ver off b,o=some ⟨q,ver,off,0,3⟩∧q<H.next∧H.get q=some b∧ ∀ i (hi:i<ks.length),b.elem? ver (off+i)=some (keyA ks[i]))
theorem Kd.fr {H H':AHeap}{q:Nat}{v:AVal}{ks:List K3}{L:List Nat}(h:Kd H q v ks)(m:Fr H H' L)(hq:q ∉ L):Kd H' q v ks:=by
  obtain⟨o,c,e,k⟩:=h
  exact⟨o,c,e,k.imp_right fun⟨ver,off,b,k1,k2,k3,k4⟩=>⟨ver,off,b,k1,Nat.lt_of_lt_of_le k2 m.next,(m.get q k2 hq).trans k3,k4⟩⟩
theorem Kd.sl {H:AHeap}{q:Nat}{v:AVal}{ks:List K3}(h:Kd H q v ks): ∃ o c,v= .slice o ks.length c:=by
  obtain⟨o,c,e,_⟩:=h
  exact⟨o,c,e⟩
theorem keyTy: ∃ ds dk di db fs,env.D 45=some ds∧ds.kind= .slice 48∧env.D 48=some dk∧dk.size=3∧dk.kind= .struct fs∧fs[0]? =some (0,3)∧fs[1]? =some (1,4)∧fs[2]? =some (2,4) ∧
    env.D 3=some di∧di.size=1∧di.kind.isAgg=false∧env.D 4=some db∧db.size=1∧db.kind.isAgg=false:=by
  obtain⟨ds,a1,a2⟩:=Option.map_eq_some_iff.1 (show(env.D 45).map (fun x=>x.kind)=some (.slice 48)by kernel_rfl)
  obtain⟨dk,b1,b2⟩:=Option.map_eq_some_iff.1 (show(env.D 48).map (fun x=>(x.size,match x.kind with | .struct fs=>some (fs[0]?,fs[1]?,fs[2]?) | _=>none))=some (3,some (some (0,3),some (1,4),some (2,4)))by kernel_rfl)
  obtain⟨di,c1,c2⟩:=Option.map_eq_some_iff.1 (show(env.D 3).map (fun x=>(x.size,x.kind.isAgg))=some (1,false)by kernel_rfl)
  obtain⟨db,d1,d2⟩:=Option.map_eq_some_iff.1 (show(env.D 4).map (fun x=>(x.size,x.kind.isAgg))=some (1,false)by kernel_rfl)
  simp only [Prod.mk.injEq]at b2 c2 d2
  obtain⟨b3,b4⟩:=b2
  split at b4
  · rename_i fs hf
    simp only [Option.some.injEq,Prod.mk.injEq]at b4
    exact⟨ds,dk,di,db,fs,a1,a2,b1,b3,hf,b4.1,b4.2.1,b4.2.2,c1,c2.1,c2.2,d1,d2.1,d2.2⟩
  · cases b4
theorem Kd.at {H:AHeap}{q:Nat}{v:AVal}{ks:List K3}(h:Kd H q v ks){i:Nat}(hi:i<ks.length) :
    ∃ p p0 p1 p2:AAddr,p0.id<H.next∧p1.id<H.next∧p2.id<H.next∧aindexAddr (AEnv.D env) 45 v (.int .i64 (i:Nat))=some (.ptr (some p)) ∧
      (∀ nid ρ H' u,ρ u= .ptr (some p)→aop env noCall nid ρ H' (Op.fieldAddr 48 u 0)=some (.ptr (some p0),H')) ∧
      (∀ nid ρ H' u,ρ u= .ptr (some p)→aop env noCall nid ρ H' (Op.fieldAddr 48 u 1)=some (.ptr (some p1),H')) ∧
      (∀ nid ρ H' u,ρ u= .ptr (some p)→aop env noCall nid ρ H' (Op.fieldAddr 48 u 2)=some (.ptr (some p2),H')) ∧
      (∀ n,aload (AEnv.D env) 3 p0 ⟨n,H.blks⟩=some (.int .i64 ks[i].1))∧(∀ n,aload (AEnv.D env) 4 p1 ⟨n,H.blks⟩=some (.bool ks[i].2.1))∧(∀ n,aload (AEnv.D env) 4 p2 ⟨n,H.blks⟩=some (.bool ks[i].2.2)):=by
  obtain⟨o,c,rfl,k⟩:=h
  rcases k with rfl | ⟨ver,off,b,rfl,k2,k3,k4⟩
  · exact absurd hi (by simp)
  obtain⟨ds,dk,di,db,fs,a1,a2,b1,b2,b3,f0,f1,f2,c1,c2,c3,d1,d2,d3⟩:=keyTy
  have e:=k4 i hi
  have g: ∀ n,AHeap.get ⟨n,H.blks⟩ q=some b:=fun n=>k3
  refine⟨⟨q,ver,off+i,0,3⟩,⟨q,ver,off+i,0+0,3⟩,⟨q,ver,off+i,0+1,3⟩,⟨q,ver,off+i,0+2,3⟩,k2,k2,k2,?_,?_,?_,?_,?_,?_,?_⟩
  · unfold aindexAddr
    simp only [a1,a2,b1]
    rw [if_pos ⟨by omega,by omega,by rw [b2],trivial⟩]
    simp
  · intro nid ρ H' u hu
    show(afieldAddr (AEnv.D env) _ (ρ u) 0).map _=_
    rw [hu]
    simp only [afieldAddr,b1,b3,f0,c1,c2,Option.map_some]
    rfl
  · intro nid ρ H' u hu
    show(afieldAddr (AEnv.D env) _ (ρ u) 1).map _=_
    rw [hu]
    simp only [afieldAddr,b1,b3,f1,d1,d2,Option.map_some]
    rfl
  · intro nid ρ H' u hu
    show(afieldAddr (AEnv.D env) _ (ρ u) 2).map _=_
    rw [hu]
    simp only [afieldAddr,b1,b3,f2,d1,d2,Option.map_some]
    rfl
  · intro n
    unfold aload
    simp only [c1,g,e,c2,c3]
    rfl
  · intro n
    unfold aload
    simp only [d1,g,e,d2,d3]
    rfl
  · intro n
    unfold aload
    simp only [d1,g,e,d2,d3]
    rfl
theorem cmpD_does {H:AHeap}{va vb:AVal}{a b:List Bys}{qa qb:Nat}(ra:Rd H qa va (a.map AVal.str))(rb:Rd H qb vb (b.map AVal.str))(sa:Short a)(sb:Short b)(k:Int)(d:Bool) :
    FDoes Tryz.prog cnd 33 [.int .i64 k,.bool d,va,vb] H (.int .i64 (keyI k d a b)) (up H 200):=by
  have:=cmp_does (rowAt ra) (rowAt rb) sa sb k d
  rwa [← by_doc k d a b]at this
abbrev ahF(ko:Option AAddr)(n kc:Nat)(va vb:AVal)(i:Nat):Facts:= [(0,.slice ko n kc),(1,va),(2,vb),(7,.int .i64 (i:Nat))]
theorem ah_loop {B n qk kc qa qb:Nat} {ko:Option AAddr} {va vb:AVal} {ks:List K3} {a b:List Bys} (hn:n=ks.length) (hnl:n<2^60) (sa:Short a) (sb:Short b): ∀ (f i:Nat) (H:AHeap),i+f=n→B≤H.next→Kd H qk (.slice ko n kc) ks→Rd H qa va (a.map AVal.str)→Rd H qb vb (b.map AVal.str) →
    ∃ m,H.next≤m∧((cmpL ((ks.drop i).map keyOf) a b=0∧Loops Tryz.prog cnd B 37 (loopAt Tryz.prog 70 0) (ahF ko n kc va vb i) H (.exit 0) [] ⟨m,H.blks⟩) ∨
      (cmpL ((ks.drop i).map keyOf) a b≠0∧Loops Tryz.prog cnd B 37 (loopAt Tryz.prog 70 0) (ahF ko n kc va vb i) H .ret [(6,.bool (decide (cmpL ((ks.drop i).map keyOf) a b<0)))] ⟨m,H.blks⟩)):=by
  intro f
  induction f with
  | zero =>
    intro i H hi hB r1 ra rb
    obtain rfl:i=n:=by omega
    obtain⟨e,F1,h1,hr,rfl,rfl,rfl⟩:=ahE_vp H B i kc i ko va vb (fun e F1 h1=>e= .exit 0∧F1=ahF ko i kc va vb i∧h1=up H 4) (bifL hB ⟨boolF (by omega),rfl,rfl,rfl⟩)
    refine⟨H.next+4,by omega,.inl ⟨?_,(Loops.last (by simp) hr).post (Ent.facts (fle [] (by kernel_rfl)))⟩⟩
    rw [List.drop_of_length_le (by omega)];rfl
  | succ f ih =>
    intro i H hi hB r1 ra rb
    have h1:i<ks.length:=by omega
    obtain⟨p,p0,p1,p2,i0,i1,i2,pa,fa0,fa1,fa2,l0,l1,l2⟩:=r1.at h1
    have hd:(ks.drop i).map keyOf=keyOf ks[i]::(ks.drop (i+1)).map keyOf:=by rw [List.drop_eq_getElem_cons h1];rfl
    have next: ∀ m0,H.next≤m0→ ∃ m,m0≤m∧((cmpL ((ks.drop (i+1)).map keyOf) a b=0∧Loops Tryz.prog cnd B 37 (loopAt Tryz.prog 70 0) (ahF ko n kc va vb (i+1)) ⟨m0,H.blks⟩ (.exit 0) [] ⟨m,H.blks⟩) ∨
      (cmpL ((ks.drop (i+1)).map keyOf) a b≠0∧Loops Tryz.prog cnd B 37 (loopAt Tryz.prog 70 0) (ahF ko n kc va vb (i+1)) ⟨m0,H.blks⟩ .ret [(6,.bool (decide (cmpL ((ks.drop (i+1)).map keyOf) a b<0)))] ⟨m,H.blks⟩)):=by
      intro m0 hm0
      have f0:Fr H ⟨m0,H.blks⟩ []:=⟨hm0,fun _ _ _=>rfl⟩
      exact ih (i+1) ⟨m0,H.blks⟩ (by omega) (by show B≤m0;omega) (r1.fr f0 (by simp)) (ra.fr f0 (by simp)) (rb.fr f0 (by simp))
    cases hnn:ks[i].2.2 with
    | true =>
      rw [hnn]at l2
      have hk:keyOf ks[i]=none:=by unfold keyOf;rw [if_pos hnn]
      obtain⟨m,hm,L⟩:=next (H.next+12) (by omega)
      obtain⟨e,F1,h1',hr,rfl,rfl,rfl⟩:=ahN_vp H B n kc i ko va vb p p2 (fun e F1 h1=>e= .normal∧F1=ahF ko n kc va vb (i+1)∧h1=up H 12)
        (bifL hB ⟨boolT (by omega),bifL (by omega) ⟨pa,fa2 _ _ _ _ rfl,l2 _,bifL (by omega) ⟨⟨by omega,by omega⟩,rfl,by rw [succI],rfl⟩⟩⟩)
      rw [hd,hk]
      exact⟨m,by omega,L.imp (fun⟨c,L⟩=>⟨c,Loops.round hr (Ent.refl _ _ _ _) L⟩) (fun⟨c,L⟩=>⟨c,Loops.round hr (Ent.refl _ _ _ _) L⟩)⟩
    | false =>
      rw [hnn]at l2
      have hk:keyOf ks[i]=some (ks[i].1,ks[i].2.1):=by unfold keyOf;rw [if_neg (by rw [hnn];simp)]
      generalize ks[i].1=k at l0 hk
      generalize ks[i].2.1=d at l1 hk
      have f23:=Fr.up H 23 []
      have D:=cmpD_does (ra.fr f23 (by simp)) (rb.fr f23 (by simp)) sa sb k d
      by_cases hz:keyI k d a b=0
      · obtain⟨m,hm,L⟩:=next (H.next+228) (by omega)
        obtain⟨e,F1,h1',hr,rfl,rfl,rfl⟩:=ahS_vp H (up (up H 23) 200) B n kc i ko va vb (.bool d) p p0 p1 p2 k (keyI k d a b) (fun e F1 h1=>e= .normal∧F1=ahF ko n kc va vb (i+1)∧h1=up H 228)
          (bifL hB ⟨boolT (by omega),bifL (by omega) ⟨pa,fa2 _ _ _ _ rfl,l2 _,bifL (by omega) ⟨pa,fa0 _ _ _ _ rfl,l0 _,by omega,pa,fa1 _ _ _ _ rfl,l1 _,by omega,⟨D⟩,bifL (by show B≤H.next+23+200;omega) ⟨by rw [hz];rfl,bifL (by show B≤H.next+23+200+2;omega) ⟨⟨by omega,by omega⟩,rfl,by rw [succI],rfl⟩⟩⟩⟩⟩)
        rw [hd,hk]
        simp only [cmpL,if_pos hz]
        exact⟨m,by omega,L.imp (fun⟨c,L⟩=>⟨c,Loops.round hr (Ent.refl _ _ _ _) L⟩) (fun⟨c,L⟩=>⟨c,Loops.round hr (Ent.refl _ _ _ _) L⟩)⟩
      · have hz':(keyI k d a b != 0)=true:=by simp [hz]
        rw [hd,hk]
        simp only [cmpL,if_neg hz]
        refine⟨H.next+228,by omega,.inr ⟨hz,?_⟩⟩
        by_cases hlt:keyI k d a b<0
        · obtain⟨e,F1,h1',hr,rfl,rfl,rfl⟩:=ahRT_vp H (up (up H 23) 200) B n kc i ko va vb (.bool d) p p0 p1 p2 k (keyI k d a b) (fun e F1 h1=>e= .ret∧F1= [(6,.bool true)]∧h1=up H 228)
            (bifL hB ⟨boolT (by omega),bifL (by omega) ⟨pa,fa2 _ _ _ _ rfl,l2 _,bifL (by omega) ⟨pa,fa0 _ _ _ _ rfl,l0 _,by omega,pa,fa1 _ _ _ _ rfl,l1 _,by omega,⟨D⟩,bifL (by show B≤H.next+23+200;omega) ⟨by rw [hz'],bifL (by show B≤H.next+23+200+2;omega) ⟨boolT hlt,rfl,rfl,rfl⟩⟩⟩⟩⟩)
          rw [decide_eq_true hlt]
          exact Loops.last (by simp) hr
        · obtain⟨e,F1,h1',hr,rfl,rfl,rfl⟩:=ahRF_vp H (up (up H 23) 200) B n kc i ko va vb (.bool d) p p0 p1 p2 k (keyI k d a b) (fun e F1 h1=>e= .ret∧F1= [(6,.bool false)]∧h1=up H 228)
            (bifL hB ⟨boolT (by omega),bifL (by omega) ⟨pa,fa2 _ _ _ _ rfl,l2 _,bifL (by omega) ⟨pa,fa0 _ _ _ _ rfl,l0 _,by omega,pa,fa1 _ _ _ _ rfl,l1 _,by omega,⟨D⟩,bifL (by show B≤H.next+23+200;omega) ⟨by rw [hz'],bifL (by show B≤H.next+23+200+2;omega) ⟨boolF hlt,rfl,rfl,rfl⟩⟩⟩⟩⟩)
          rw [decide_eq_false hlt]
          exact Loops.last (by simp) hr
theorem ahead_does {H:AHeap}{qk qa qb:Nat}{kv va vb:AVal}{ks:List K3}{a b:List Bys}(hks:ks.length<2^59)(kd:Kd H qk kv ks)(ra:Rd H qa va (a.map AVal.str))(rb:Rd H qb vb (b.map AVal.str))(sa:Short a)(sb:Short b) :
    ∃ n,H.next≤n∧FDoes Tryz.prog cnd 70 [kv,va,vb] H (.bool (decide (cmpL (ks.map keyOf) a b<0))) ⟨n,H.blks⟩:=by
  obtain⟨ko,kc,rfl⟩:=kd.sl
  have f2:=Fr.up H 2 []
  obtain⟨m,hm,L⟩:=ah_loop (B:=H.next) (va:=va) (vb:=vb) (ks:=ks) (a:=a) (b:=b) rfl (by omega) sa sb ks.length 0 (up H 2) (by omega) (by show H.next≤H.next+2;omega) (kd.fr f2 (by simp)) (ra.fr f2 (by simp)) (rb.fr f2 (by simp))
  have hm:H.next+2≤m:=hm
  rw [List.drop_zero]at L
  rcases L with ⟨c,L⟩ | ⟨c,L⟩
  · obtain⟨v,h',hd,rfl,rfl⟩:=ahZ_vc H ⟨m,H.blks⟩ ks.length kc ko va vb (fun v h1=>v= .bool false∧h1=⟨m+1,H.blks⟩) (bifL (Nat.le_refl _) (bifL (by omega) ⟨Runs.of_loops L,bifL (by show H.next≤m;omega) (condL (by show H.next≤m+1;omega) ⟨rfl,rfl⟩)⟩))
    rw [decide_eq_false (by omega)]
    exact⟨m+1,by omega,hd⟩
  · by_cases hlt:cmpL (ks.map keyOf) a b<0
    · rw [decide_eq_true hlt]at L ⊢
      obtain⟨v,h',hd,rfl,rfl⟩:=ahT_vc H ⟨m,H.blks⟩ ks.length kc ko va vb (fun v h1=>v= .bool true∧h1=⟨m,H.blks⟩) (bifL (Nat.le_refl _) (bifL (by omega) ⟨Runs.of_loops L,condL (by show H.next≤m;omega) ⟨rfl,rfl⟩⟩))
      exact⟨m,by omega,hd⟩
    · rw [decide_eq_false hlt]at L ⊢
      obtain⟨v,h',hd,rfl,rfl⟩:=ahF_vc H ⟨m,H.blks⟩ ks.length kc ko va vb (fun v h1=>v= .bool false∧h1=⟨m,H.blks⟩) (bifL (Nat.le_refl _) (bifL (by omega) ⟨Runs.of_loops L,condL (by show H.next≤m;omega) ⟨rfl,rfl⟩⟩))
      exact⟨m,by omega,hd⟩
end Go.Proofs.YtjpfnbihopoeeaaGreatDoor
namespace Go.Proofs.YtjpfnbihopoeeaaGreatDoor
open Go.Lift
set_option maxRecDepth 1000000
theorem Rd.to {H:AHeap}{q t:Nat}{v:AVal}{els:List AVal}(h:Rd H q v els)(ht:t≤els.length)(hc: ∀ o c,v= .slice o els.length c→els.length≤c) :
    ∃ s,aslice (AEnv.D env) 22 v none (some (.int .i64 (t:Nat))) none=some s∧Rd H q s (els.take t):=by
  obtain⟨o,c,rfl,z,k⟩:=h
  have hc:=hc o c rfl
  obtain⟨d,y,d1,d2,x1,x2,x3,_⟩:=slRw.ty
  have d1:AEnv.D env 22=some d:=d1
  have x1:AEnv.D env 36=some y:=x1
  have ea:aslice (AEnv.D env) 22 (.slice o els.length c) none (some (.int .i64 (t:Nat))) none=some (.slice (o.map fun a=> {a with idx:=a.idx+0}) t c):=by
    unfold aslice
    simp only [d1,d2,x1,abound]
    rw [if_pos ⟨by omega,by omega⟩]
    simp only []
    cases o with
    | none=>simp
    | some a =>
      obtain⟨z1,z2⟩:=z a rfl
      simp [x2,z1,z2]
  refine⟨_,ea,o.map _,c,by rw [List.length_take,Nat.min_eq_left ht],(fun a h=> ?_),?_⟩
  · obtain⟨b,rfl,rfl⟩:=Option.map_eq_some_iff.1 h
    exact z b rfl
  · rcases k with k | ⟨ver,off,b,rfl,k2,k3,k4⟩
    · rw [k];exact .inl (List.take_nil)
    · refine .inr ⟨ver,off+0,b,rfl,k2,k3,fun i hi=> ?_⟩
      have hi':i<els.length:=by rw [List.length_take]at hi;omega
      rw [List.getElem_take]
      exact k4 i hi'
theorem Rd.from {H:AHeap}{q t:Nat}{v:AVal}{els:List AVal}(h:Rd H q v els)(ht:t≤els.length)(hc: ∀ o c,v= .slice o els.length c→els.length≤c) :
    ∃ s,aslice (AEnv.D env) 22 v (some (.int .i64 (t:Nat))) none none=some s∧Rd H q s (els.drop t):=by
  obtain⟨o,c,rfl,z,k⟩:=h
  have hc:=hc o c rfl
  obtain⟨d,y,d1,d2,x1,x2,x3,_⟩:=slRw.ty
  have d1:AEnv.D env 22=some d:=d1
  have x1:AEnv.D env 36=some y:=x1
  have ea:aslice (AEnv.D env) 22 (.slice o els.length c) (some (.int .i64 (t:Nat))) none none=some (.slice (o.map fun a=> {a with idx:=a.idx+t}) (els.length-t) (c-t)):=by
    unfold aslice
    simp only [d1,d2,x1,abound]
    rw [if_pos ⟨by omega,by omega⟩]
    simp only []
    cases o with
    | none=>simp
    | some a =>
      obtain⟨z1,z2⟩:=z a rfl
      simp [x2,z1,z2]
  refine⟨_,ea,o.map _,c-t,by rw [List.length_drop],(fun a h=> ?_),?_⟩
  · obtain⟨b,rfl,rfl⟩:=Option.map_eq_some_iff.1 h
    exact z b rfl
  · rcases k with k | ⟨ver,off,b,rfl,k2,k3,k4⟩
    · rw [k];exact .inl (List.drop_nil)
    · refine .inr ⟨ver,off+t,b,rfl,k2,k3,fun i hi=> ?_⟩
      have hi':t+i<els.length:=by rw [List.length_drop]at hi;omega
      rw [List.getElem_drop,Nat.add_assoc]
      exact k4 (t+i) hi'
theorem Rw.cap {H:AHeap}{e q:Nat}{v:AVal}{els:List AVal}(h:Rw H e q v els): ∀ o c,v= .slice o els.length c→els.length≤c:=by
  intro o c hv
  rcases h with ⟨rfl,rfl⟩ | ⟨b,rfl,_⟩
  · simp
  · simp only [AVal.slice.injEq]at hv
    omega
def posD(lt:Nat→Bool)(fx:Nat):Nat→Nat
  | 0=>0
  | t+1=>if fx≤t∧lt t=true then posD lt fx t else t+1
theorem posD_le(lt:Nat→Bool)(fx:Nat): ∀ t,posD lt fx t≤t
  | 0=>Nat.le_refl 0
  | t+1=>by
    unfold posD
    split
    · have:=posD_le lt fx t;omega
    · exact Nat.le_refl _
def insP(lt:Nat→Bool)(fx i m:Nat):Nat:=if fx≤i then posD lt fx m else m
theorem insP_le(lt:Nat→Bool)(fx i m:Nat):insP lt fx i m≤m:=by
  unfold insP
  split
  · exact posD_le _ _ _
  · exact Nat.le_refl _
def ltOf(ks:List Key)(x:Rr)(o:List Rr)(k:Nat):Bool:=decide (cmpL ks x.l (rAt o k).l<0)
def docS(ks:List Key)(fx:Nat)(rs:List Rr):Nat→List Rr
  | 0=> []
  | i+1=>(docS ks fx rs i).take (insP (ltOf ks (rAt rs i) (docS ks fx rs i)) fx i (docS ks fx rs i).length)++rAt rs i::(docS ks fx rs i).drop (insP (ltOf ks (rAt rs i) (docS ks fx rs i)) fx i (docS ks fx rs i).length)
theorem docS_len(ks:List Key)(fx:Nat)(rs:List Rr): ∀ i,(docS ks fx rs i).length=i
  | 0=>rfl
  | i+1=>by
    have h:=docS_len ks fx rs i
    have:=insP_le (ltOf ks (rAt rs i) (docS ks fx rs i)) fx i (docS ks fx rs i).length
    unfold docS
    rw [List.length_append,List.length_cons,List.length_take,List.length_drop,Nat.min_eq_left this]
    omega
theorem docS_mem(ks:List Key)(fx:Nat)(rs:List Rr): ∀ i,i≤rs.length→ ∀ r∈docS ks fx rs i,r∈rs
  | 0,_,r,h=>by cases h
  | i +1,hi,r,h=>by
    unfold docS at h
    rcases List.mem_append.1 h with h | h
    · exact docS_mem ks fx rs i (by omega) r (List.mem_of_mem_take h)
    · rcases List.mem_cons.1 h with h | h
      · rw [h];exact rAt_mem (by omega)
      · exact docS_mem ks fx rs i (by omega) r (List.mem_of_mem_drop h)
theorem d1_loop {B N rc m oc fx i orow oq qk:Nat} {ro oo:Option AAddr} {kv:AVal} {rs os:List Rr} {ks:List K3} (hN:N=rs.length) (hm:m=os.length) (hN2:N<2^60) (hm2:m<2^60) (hks:ks.length<2^59) (hi:i<rs.length) (hfx:fx≤i) (sr: ∀ r∈rs,Short r.l) (so: ∀ r∈os,Short r.l): ∀ (t:Nat) (H:AHeap),t≤m→B≤H.next→Tq H orow (.slice ro N rc) rs→Tq H oq (.slice oo m oc) os→Kd H qk kv ks →
    ∃ n,H.next≤n∧Loops Tryz.prog cnd B 62 (loopAt Tryz.prog 34 1) [(0,.slice ro N rc),(2,kv),(7,.slice oo m oc),(8,.int .i64 (fx:Nat)),(9,.int .i64 (i:Nat)),(10,.int .i64 (t:Nat))] H (.exit 2) [(0,.slice ro N rc),(2,kv),(7,.slice oo m oc),(8,.int .i64 (fx:Nat)),(9,.int .i64 (i:Nat)),(10,.int .i64 (posD (ltOf (ks.map keyOf) (rAt rs i) os) fx t:Nat))] ⟨n,H.blks⟩:=by
  intro t
  induction t with
  | zero =>
    intro H ht hB ta to' kd
    obtain⟨e,F1,h1,hr,rfl,rfl,rfl⟩:=d1D_vp H B N rc m oc fx i 0 ro oo kv (fun e F1 h1=>e= .exit 2∧F1= [(0,.slice ro N rc),(2,kv),(7,.slice oo m oc),(8,.int .i64 (fx:Nat)),(9,.int .i64 (i:Nat)),(10,.int .i64 ((0:Nat):Int))]∧h1=up H 21) (bifL hB ⟨boolT (by omega),boolF (by omega),rfl,rfl,rfl⟩)
    exact⟨H.next+21,by omega,Loops.last (by simp) hr⟩
  | succ t ih =>
    intro H ht hB ta to' kd
    by_cases hft:fx≤t
    · have hto:t<os.length:=by omega
      obtain⟨p,p1,p2,p3⟩:=ta.row hi
      obtain⟨q,q1,q2,q3⟩:=to'.row hto
      have f21:=Fr.up H 21 []
      have rx:=ta.2 _ (List.getElem_mem hi)
      have ry:=to'.2 _ (List.getElem_mem hto)
      obtain⟨n,hn,D⟩:=ahead_does (H:=up H 21) hks (kd.fr f21 (by simp)) (rx.fr f21 (by simp)) (ry.fr f21 (by simp)) (sr _ (List.getElem_mem hi)) (so _ (List.getElem_mem hto))
      have hn:H.next+21≤n:=hn
      have q1':aindexAddr (AEnv.D env) 22 (.slice oo m oc) (.int .i64 (((t+1:Nat):Int)-1))=some (.ptr (some q)):=by
        rw [show((t+1:Nat):Int)-1=(t:Nat)by omega];exact q1
      have elt:ltOf (ks.map keyOf) (rAt rs i) os t=decide (cmpL (ks.map keyOf) rs[i].l os[t].l<0):=by unfold ltOf;rw [rAt_in hi,rAt_in hto]
      by_cases hlt:cmpL (ks.map keyOf) rs[i].l os[t].l<0
      · rw [decide_eq_true hlt]at D elt
        obtain⟨n2,hn2,L⟩:=ih ⟨n+3,H.blks⟩ (by omega) (by show B≤n+3;omega) (ta.up (by omega)) (to'.up (by omega)) (kd.fr (L:= []) ⟨by show H.next≤n+3;omega,fun _ _ _=>rfl⟩ (by simp))
        have hn2:n+3≤n2:=hn2
        have hpos:posD (ltOf (ks.map keyOf) (rAt rs i) os) fx (t+1)=posD (ltOf (ks.map keyOf) (rAt rs i) os) fx t:=by
          rw [posD,if_pos ⟨hft,elt⟩]
        obtain⟨e,F1,h1,hr,rfl,rfl,rfl⟩:=d1A_vp H ⟨n,H.blks⟩ B N rc m oc fx i (t+1) ro oo kv rs[i].v os[t].v p q (fun e F1 h1=>e= .normal∧F1= [(0,.slice ro N rc),(2,kv),(7,.slice oo m oc),(8,.int .i64 (fx:Nat)),(9,.int .i64 (i:Nat)),(10,.int .i64 (t:Nat))]∧h1=⟨n+3,H.blks⟩)
          (bifL hB ⟨boolT (by omega),boolT (by omega),p1,p3 _,p2,⟨by omega,by omega⟩,q1',q3 _,q2,⟨D⟩,bifL (by show B≤n;omega) ⟨⟨by omega,by omega⟩,rfl,by rw [show((t+1:Nat):Int)-1=(t:Nat)by omega],rfl⟩⟩)
        rw [hpos]
        exact⟨n2,by omega,Loops.round hr (Ent.refl _ _ _ _) L⟩
      · rw [decide_eq_false hlt]at D elt
        have hpos:posD (ltOf (ks.map keyOf) (rAt rs i) os) fx (t+1)=t+1:=by
          rw [posD,if_neg (by rw [elt];simp)]
        obtain⟨e,F1,h1,hr,rfl,rfl,rfl⟩:=d1B_vp H ⟨n,H.blks⟩ B N rc m oc fx i (t+1) ro oo kv rs[i].v os[t].v p q (fun e F1 h1=>e= .exit 2∧F1= [(0,.slice ro N rc),(2,kv),(7,.slice oo m oc),(8,.int .i64 (fx:Nat)),(9,.int .i64 (i:Nat)),(10,.int .i64 ((t+1:Nat):Int))]∧h1=⟨n,H.blks⟩)
          (bifL hB ⟨boolT (by omega),boolT (by omega),p1,p3 _,p2,⟨by omega,by omega⟩,q1',q3 _,q2,⟨D⟩,rfl,rfl,rfl⟩)
        rw [hpos]
        exact⟨n,by omega,Loops.last (by simp) hr⟩
    · have hpos:posD (ltOf (ks.map keyOf) (rAt rs i) os) fx (t+1)=t+1:=by
        rw [posD,if_neg (by omega)]
      obtain⟨e,F1,h1,hr,rfl,rfl,rfl⟩:=d1D_vp H B N rc m oc fx i (t+1) ro oo kv (fun e F1 h1=>e= .exit 2∧F1= [(0,.slice ro N rc),(2,kv),(7,.slice oo m oc),(8,.int .i64 (fx:Nat)),(9,.int .i64 (i:Nat)),(10,.int .i64 ((t+1:Nat):Int))]∧h1=up H 21) (bifL hB ⟨boolT (by omega),boolF (by omega),rfl,rfl,rfl⟩)
      rw [hpos]
      exact⟨H.next+21,by omega,Loops.last (by simp) hr⟩
end Go.Proofs.YtjpfnbihopoeeaaGreatDoor
namespace Go.Proofs.YtjpfnbihopoeeaaGreatDoor
open Go.Lift
set_option maxRecDepth 1000000
abbrev dsF0(ro:Option AAddr)(N rc:Nat)(kv ov:AVal)(fx i:Nat):Facts:= [(0,.slice ro N rc),(2,kv),(7,ov),(8,.int .i64 (fx:Nat)),(9,.int .i64 (i:Nat))]
theorem Fr.blks {H:AHeap}{n:Nat}(h:H.next≤n):Fr H ⟨n,H.blks⟩ []:=⟨h,fun _ _ _=>rfl⟩
theorem Fr.more {H H1 H2:AHeap}{M:List Nat}(a:Fr H H1 [])(b:Fr H1 H2 M)(h: ∀ x∈M,H.next≤x):Fr H H2 []:=a.trans b fun x hx hl=>absurd (h x hx) (by omega)
theorem d0_loop {B N rc fx orow qk:Nat} {ro:Option AAddr} {kv:AVal} {rs:List Rr} {ks:List K3} (hN:N=rs.length) (hN2:N<2^40) (hfx2:fx≤1) (hks:ks.length<2^59) (sr: ∀ r∈rs,Short r.l): ∀ (f i:Nat) (H:AHeap) (oq:Nat) (ov:AVal),i+f=N→B≤H.next→Tq H orow (.slice ro N rc) rs→Rw H 36 oq ov (vsOf (docS (ks.map keyOf) fx rs i))→Kd H qk kv ks →
    ∃ H' oq' ov',Loops Tryz.prog cnd B 62 (loopAt Tryz.prog 34 0) (dsF0 ro N rc kv ov fx i) H (.exit 0) [(7,ov')] H'∧Rw H' 36 oq' ov' (vsOf (docS (ks.map keyOf) fx rs N))∧Fr H H' []:=by
  intro f
  induction f with
  | zero =>
    intro i H oq ov hi hB ta ro' kd
    obtain rfl:i=N:=by omega
    obtain⟨oo,oc,rfl⟩:=ro'.rd.sl
    obtain⟨e,F1,h1,hr,rfl,rfl,rfl⟩:=d0E_vp H B i rc (vsOf (docS (ks.map keyOf) fx rs i)).length oc fx i ro oo kv (fun e F1 h1=>e= .exit 0∧F1=dsF0 ro i rc kv (.slice oo (vsOf (docS (ks.map keyOf) fx rs i)).length oc) fx i∧h1=up H 4) (bifL hB ⟨boolF (by omega),rfl,rfl,rfl⟩)
    exact⟨up H 4,oq,_,(Loops.last (by simp) hr).post (Ent.facts (fle [7] (by kernel_rfl))),ro'.fr (Fr.up H 4 []) (by simp),Fr.up H 4 []⟩
  | succ f ih =>
    intro i H oq ov hi hB ta ro' kd
    have hlt:i<rs.length:=by omega
    have hdl:=docS_len (ks.map keyOf) fx rs i
    have hmem:=docS_mem (ks.map keyOf) fx rs i (by omega)
    have hst:vsOf (docS (ks.map keyOf) fx rs (i+1))=(vsOf (docS (ks.map keyOf) fx rs i)).take (insP (ltOf (ks.map keyOf) (rAt rs i) (docS (ks.map keyOf) fx rs i)) fx i i)++ [rs[i].v]++(vsOf (docS (ks.map keyOf) fx rs i)).drop (insP (ltOf (ks.map keyOf) (rAt rs i) (docS (ks.map keyOf) fx rs i)) fx i i):=by
      rw [docS,hdl,vsOf,List.map_append,List.map_cons,rAt_in hlt,List.map_take,List.map_drop]
      simp
    have hti:=insP_le (ltOf (ks.map keyOf) (rAt rs i) (docS (ks.map keyOf) fx rs i)) fx i i
    have hpos: ∀ m,i≤m→True:=fun _ _=>trivial
    have hins:insP (ltOf (ks.map keyOf) (rAt rs i) (docS (ks.map keyOf) fx rs i)) fx i i=if fx≤i then posD (ltOf (ks.map keyOf) (rAt rs i) (docS (ks.map keyOf) fx rs i)) fx i else i:=rfl
    generalize ht:insP (ltOf (ks.map keyOf) (rAt rs i) (docS (ks.map keyOf) fx rs i)) fx i i=t at hst hti hins
    generalize hos:docS (ks.map keyOf) fx rs i=os at ro' hdl hmem hst hins
    have hcap:=ro'.cap
    obtain⟨oo,oc,rfl⟩:=ro'.rd.sl
    rw [List.length_map,hdl]at ro' hcap
    rw [List.length_map,hdl]
    have to':Tq H oq (.slice oo i oc) os:=⟨ro'.rd,fun r hr=>ta.2 r (hmem r hr)⟩
    have L1: ∃ n,H.next+7≤n∧Loops Tryz.prog cnd B 62 (loopAt Tryz.prog 34 1) [(0,.slice ro N rc),(2,kv),(7,.slice oo i oc),(8,.int .i64 (fx:Nat)),(9,.int .i64 (i:Nat)),(10,.int .i64 (i:Nat))] ⟨H.next+7,H.blks⟩ (.exit 2) [(0,.slice ro N rc),(2,kv),(7,.slice oo i oc),(8,.int .i64 (fx:Nat)),(9,.int .i64 (i:Nat)),(10,.int .i64 (t:Nat))] ⟨n,H.blks⟩:=by
      by_cases hf:fx≤i
      · rw [if_pos hf]at hins
        obtain⟨n,hn,L⟩:=d1_loop (B:=B) (fx:=fx) (oq:=oq) (m:=i) (oc:=oc) (oo:=oo) hN hdl.symm (by omega) (by omega) hks hlt hf sr (fun r hr=>sr r (hmem r hr)) i ⟨H.next+7,H.blks⟩ (Nat.le_refl _) (by show B≤H.next+7;omega) (ta.up (by omega)) (to'.up (by omega)) (kd.fr (Fr.up H 7 []) (by simp))
        rw [← hins]at L
        exact⟨n,hn,L⟩
      · rw [if_neg hf]at hins
        subst hins
        obtain⟨e,F1,h1,hr,rfl,rfl,rfl⟩:=d1C_vp ⟨H.next+7,H.blks⟩ B N rc t oc fx t t ro oo kv (fun e F1 h1=>e= .exit 2∧F1= [(0,.slice ro N rc),(2,kv),(7,.slice oo t oc),(8,.int .i64 (fx:Nat)),(9,.int .i64 (t:Nat)),(10,.int .i64 (t:Nat))]∧h1=up ⟨H.next+7,H.blks⟩ 21) (bifL (by show B≤H.next+7;omega) ⟨boolF (by omega),rfl,rfl,rfl⟩)
        exact⟨H.next+7+21,by omega,Loops.last (by simp) hr⟩
    obtain⟨n,hn,L1⟩:=L1
    let H1:AHeap:=⟨n,H.blks⟩
    let A1:AHeap:=up H1 7
    have fA1:Fr H A1 []:=Fr.blks (by show H.next≤n+7;omega)
    have rA1:Rd A1 oq (.slice oo i oc) (vsOf os):=ro'.rd.fr fA1 (by simp)
    obtain⟨s1,es1,rs1⟩:=rA1.to (t:=t) (by rw [List.length_map,hdl];exact hti) (by rw [List.length_map,hdl];exact hcap)
    obtain⟨l1,H2,q1,e1,w1,_,c1,f1,n1⟩:=Rw.apps (H:=A1) (e:=36) (q:=0) (nid:=H1.next+5) (v:= .slice none 0 0) (els:= []) (.inl ⟨rfl,rfl⟩) elR (by decide) rs1.elems (by show n+5<n+7;omega) (by rw [List.length_take,List.length_map];simp only [List.length_nil];omega)
    have c1:q1=n+5:=c1 rfl rfl
    rw [List.nil_append]at w1
    have n1:H2.next=n+7:=n1
    have fH2:Fr H H2 []:=fA1.more f1 (by intro x hx;simp at hx;omega)
    let A2:AHeap:=up H2 8
    have fA2:Fr H A2 []:=fH2.more (Fr.up H2 8 []) (by simp)
    obtain⟨p,p1,p2,p3⟩:=(ta.fr fH2).row hlt
    have hsv:Sv rs[i].v:=(ta.2 _ (List.getElem_mem hlt)).sv
    let H3:AHeap:=A2.set (H2.next+5) (ABlk.made [rs[i].v] 1 true)
    have f23:Fr A2 H3 [H2.next+5]:=Fr.set _ _ _ fun _=>by simp
    have fH3:Fr H H3 []:=fA2.more f23 (by intro x hx;simp at hx;omega)
    have w1':Rw H3 36 q1 l1 ((vsOf os).take t):=(w1.fr (Fr.up H2 8 []) (by simp)).fr f23 (by simp;omega)
    obtain⟨l2,H4,q2,e2,w2,c2,_,f2,n2⟩:=w1'.apps (nid:=H2.next+6) (new:= [rs[i].v]) elR (by decide) (one_elem A2 (H2.next+5) rs[i].v) (by show H2.next+6<H2.next+8;omega) (by rw [List.length_take,List.length_map];simp only [List.length_cons,List.length_nil];omega)
    have n2:H4.next=n+7+8:=by rw [n2];show H2.next+8=_;omega
    have c2:n+5≤q2∧q2<n+7+8:=by rcases c2 with c | c<;>omega
    have fH4:Fr H H4 []:=fH3.more f2 (by intro x hx;simp at hx;omega)
    let A4:AHeap:=up H4 6
    have fA4:Fr H A4 []:=fH4.more (Fr.up H4 6 []) (by simp)
    have rA4:Rd A4 oq (.slice oo i oc) (vsOf os):=ro'.rd.fr fA4 (by simp)
    obtain⟨s2,es2,rs2⟩:=rA4.from (t:=t) (by rw [List.length_map,hdl];exact hti) (by rw [List.length_map,hdl];exact hcap)
    obtain⟨l3,H5,q3,e3,w3,c3,_,f3,n3⟩:=(w2.fr (Fr.up H4 6 []) (by simp)).apps (nid:=H4.next+4) (new:=(vsOf os).drop t) elR (by decide) rs2.elems (by show H4.next+4<H4.next+6;omega) (by simp only [List.length_append,List.length_take,List.length_map,List.length_drop,List.length_cons,List.length_nil];omega)
    have n3:H5.next=n+7+8+6:=by rw [n3];show H4.next+6=_;omega
    have c3:n+5≤q3:=by rcases c3 with c | c<;>omega
    have fH5:Fr H H5 []:=fA4.more f3 (by intro x hx;simp at hx;omega)
    rw [← hst]at w3
    obtain⟨oo2,oc2,rfl⟩:=w3.rd.sl
    have fE:Fr H (up H5 3) []:=fH5.more (Fr.up H5 3 []) (by simp)
    obtain⟨H',oq',ov',L,wE,fr⟩:=ih (i+1) (up H5 3) q3 _ (by omega) (by have:=fE.next;omega) (ta.fr fE) (w3.fr (Fr.up H5 3 []) (by simp)) (kd.fr fE (by simp))
    obtain⟨e,F1,h1,hr,rfl,rfl,rfl⟩:=d0_vp H H1 H2 H3 H4 H5 B N rc i oc fx i t (H2.next+5) _ oc2 ro oo oo2 kv rs[i].v l1 l2 s1 s2 p (fun e F1 h1=>e= .normal∧F1=dsF0 ro N rc kv (.slice oo2 (vsOf (docS (ks.map keyOf) fx rs (i+1))).length oc2) fx (i+1)∧h1=up H5 3)
      (bifL hB ⟨boolT (by omega),bifL (by omega) ⟨Runs.of_loops L1,bifL (by show B≤n;omega) (bifL (by show B≤n+1;omega) ⟨es1,e1,bifL (by omega) ⟨p1,p3 _,build1R rfl hsv,e2,bifL (by omega) ⟨es2,e3,bifL (by omega) ⟨⟨by omega,by omega⟩,rfl,by rw [succI],rfl⟩⟩⟩⟩)⟩⟩)
    exact⟨H',oq',ov',Loops.round hr (Ent.refl _ _ _ _) L,wE,fE.more fr (by simp)⟩
theorem dsort_does {H:AHeap}{orow qk:Nat}{rv kv:AVal}{hv:Bool}{rs:List Rr}{ks:List K3}(hN2:rs.length<2^40)(hks:ks.length<2^59)(sr: ∀ r∈rs,Short r.l)(ta:Tq H orow rv rs)(kd:Kd H qk kv ks) :
    ∃ ov H' oq,FDoes Tryz.prog cnd 34 [rv,.bool hv,kv] H ov H'∧Rw H' 36 oq ov (vsOf (docS (ks.map keyOf) (if hv=true then 1 else 0) rs rs.length))∧Fr H H' []∧H.next<H'.next:=by
  obtain⟨ro,rc,e⟩:=ta.1.sl
  rw [List.length_map]at e
  subst e
  cases hv with
  | true =>
    obtain⟨H1,oq,ov,L,w,f⟩:=d0_loop (B:=H.next) (fx:=1) rfl hN2 (by omega) hks sr rs.length 0 (up H 6) 0 (.slice none 0 0) (by omega) (by show H.next≤H.next+6;omega) (ta.up (by omega)) (.inl ⟨rfl,rfl⟩) (kd.fr (Fr.up H 6 []) (by simp))
    have hf:=f.next
    have hf:H.next+6≤H1.next:=hf
    obtain⟨v,h1,hd,rfl,rfl⟩:=dsT_vc H H1 rs.length rc ro kv ov (fun v h1=>v=ov∧h1=up H1 2) (bifL (Nat.le_refl _) (bifL (by omega) (bifL (by omega) (bifL (by omega) (bifL (by omega) (bifL (by omega) ⟨Runs.of_loops L,bifL (by omega) (condL (by omega) ⟨rfl,rfl⟩)⟩))))))
    exact⟨_,_,oq,hd,w.fr (Fr.up H1 2 []) (by simp),(((Fr.up H 6 []).more f (by simp)).more (Fr.up H1 2 []) (by simp)),by show H.next<H1.next+2;omega⟩
  | false =>
    obtain⟨H1,oq,ov,L,w,f⟩:=d0_loop (B:=H.next) (fx:=0) rfl hN2 (by omega) hks sr rs.length 0 (up H 5) 0 (.slice none 0 0) (by omega) (by show H.next≤H.next+5;omega) (ta.up (by omega)) (.inl ⟨rfl,rfl⟩) (kd.fr (Fr.up H 5 []) (by simp))
    have hf:=f.next
    have hf:H.next+5≤H1.next:=hf
    obtain⟨v,h1,hd,rfl,rfl⟩:=dsF_vc H H1 rs.length rc ro kv ov (fun v h1=>v=ov∧h1=up H1 2) (bifL (Nat.le_refl _) (bifL (by omega) (bifL (by omega) (bifL (by omega) (bifL (by omega) ⟨Runs.of_loops L,bifL (by omega) (condL (by omega) ⟨rfl,rfl⟩)⟩)))))
    exact⟨_,_,oq,hd,w.fr (Fr.up H1 2 []) (by simp),(((Fr.up H 5 []).more f (by simp)).more (Fr.up H1 2 []) (by simp)),by show H.next<H1.next+2;omega⟩
end Go.Proofs.YtjpfnbihopoeeaaGreatDoor
namespace Go.Proofs.YtjpfnbihopoeeaaGreatDoor
open Go.Lift
set_option maxRecDepth 1000000
theorem putAll_at(pre:List AVal)(z:AVal): ∀ (new:List AVal) (m:Nat),new.length≤m→putAll (pre++List.replicate m z) pre.length new=(pre++new)++List.replicate (m-new.length) z:=by
  intro new
  induction new generalizing pre with
  | nil=>intro m _;simp [putAll]
  | cons x new ih =>
    intro m hm
    obtain⟨m',rfl⟩: ∃ m',m=m'+1:=⟨m-1,by simp at hm;omega⟩
    have h:=ih (pre++ [x]) m' (by simpa using hm)
    unfold putAll
    rw [List.set_append_right _ _ (Nat.le_refl _),Nat.sub_self,List.replicate_succ,List.set_cons_zero]
    rw [show pre++x::List.replicate m' z=(pre++ [x])++List.replicate m' z by simp,show pre.length+1=(pre++ [x]).length by simp,h]
    simp
def Ox(H:AHeap)(Q N:Nat)(z:AVal)(vs:List AVal):Prop:=Q<H.next∧ ∃ b,H.get Q=some b∧b.ver=0∧b.ro=false∧b.exact=true∧b.elems=vs++List.replicate (N-vs.length) z
theorem Ox.fr {H H':AHeap}{Q N:Nat}{z:AVal}{vs:List AVal}{L:List Nat}(h:Ox H Q N z vs)(m:Fr H H' L)(hq:Q ∉ L):Ox H' Q N z vs:=by
  obtain⟨h1,b,h2,h3⟩:=h
  exact⟨Nat.lt_of_lt_of_le h1 m.next,b,(m.get Q h1 hq).trans h2,h3⟩
theorem Ox.made(H:AHeap){Q N:Nat}(z:AVal)(hQ:Q<H.next):Ox (H.set Q (ABlk.made (List.replicate N z) 1 true)) Q N z []:=⟨hQ,_,AHeap.get_set_self _ _ _,rfl,rfl,rfl,by simp [ABlk.made]⟩
theorem Ox.puts {H:AHeap}{Q N nid t e by' n0 n1:Nat}{vs new:List AVal}{w z:AVal}(h:Ox H Q N z vs)(E:El t e by')(hby:by'≤32)(e0:n0=vs.length)(e1:n1=n0+new.length)(hl:n1≤N)(hN:N<2^42)(hw:elemsOf 1 w H=some new): ∃ H2,abuiltin env .append #[t,t] [.slice (some ⟨Q,0,0,0,1⟩) n0 N,w] nid H=some (.slice (some ⟨Q,0,0,0,1⟩) n1 N,H2)∧Ox H2 Q N z (vs++new)∧Fr H H2 [Q]∧H2.next=H.next:=by
  subst e0 e1
  have hB: ∀ n:Nat,n<2^42→(n+n / 4+512)*by'≤2^48:=fun n hn=>by
    have:(n+n / 4+512)*by'≤(n+n / 4+512)*32:=Nat.mul_le_mul_left _ hby
    omega
  obtain⟨h1,b,h2,h3,h4,h5,h6⟩:=h
  by_cases hz:new= []
  · subst hz
    have ea:=app_none (nid:=nid) E.sl hw (o:=some ⟨Q,0,0,0,1⟩) (len:=vs.length) (cap:=N) (b:=b) (hB _ (by simp at hl;omega)) (by simp at hl;omega) (fun a h=>by cases h;exact⟨h2,rfl,rfl⟩) (by simpa using hl) (fun h=>by cases h)
    exact⟨H,ea,by rw [List.append_nil];exact⟨h1,b,h2,h3,h4,h5,h6⟩,Fr.refl _ _,rfl⟩
  · have ea:=app_put (nid:=nid) E.sl hw hz (a:=⟨Q,0,0,0,1⟩) (len:=vs.length) (cap:=N) (b:=b) (hB _ (by omega)) (by omega) h2 ⟨rfl,rfl⟩ hl h4 h3.symm (by rw [h6];simp;omega)
    refine⟨_,ea,⟨h1,b.put (0+vs.length) new,AHeap.get_set_self _ _ _,h3,h4,h5,?_⟩,Fr.set _ _ _ fun _=>by simp,rfl⟩
    show putAll b.elems (0+vs.length) new=_
    rw [h6,Nat.zero_add,putAll_at _ _ _ _ (by omega),List.length_append,Nat.sub_add_eq]
theorem mkTexts {F:Facts}{k nid N:Nat}{H:AHeap}(hF:getF F (.tmp k)= .int .i64 (N:Nat))(hN:N<2^43):aop env noCall nid (getF F) H (Op.makeSlice 36 (Operand.const (Value.int .i64 0)) (Operand.tmp k))=some (.slice (some ⟨nid,0,0,0,1⟩) 0 N,H.set nid (ABlk.made (List.replicate N (.str [])) 1 true)):=by
  obtain⟨d,y,d1,d2,x1,x2,x3,_⟩:=slTx.ty
  have d1:AEnv.D env 36=some d:=d1
  obtain⟨y',y1,y2⟩:=Option.map_eq_some_iff.1 (show(AEnv.D env 9).map (fun d=>(d.zero,d.kind.isAgg))=some (some (.str []),false)by kernel_rfl)
  have x1:AEnv.D env 9=some y:=x1
  rw [x1]at y1
  simp only [Option.some.injEq]at y1
  subst y1
  simp only [Prod.mk.injEq]at y2
  have:aop env noCall nid (getF F) H (Op.makeSlice 36 (Operand.const (Value.int .i64 0)) (Operand.tmp k))=amakeSlice (AEnv.D env) 36 (.int .i64 0) (.int .i64 (N:Nat)) nid H:=by rw [← hF];rfl
  rw [this]
  unfold amakeSlice
  simp only [d1,d2,x1,y2.1]
  rw [if_pos ⟨Int.le_refl 0,by omega,by omega,by rw [x3];omega,by omega,by rw [y2.2,x2];rfl⟩]
  simp [newSlice,x2]
abbrev spare:Bys:= [115,112,97,114,101]
abbrev spares:List AVal:= [.str spare,.str spare,.str spare]
theorem build3S {F:Facts}{nid:Nat}{H:AHeap} :aop env noCall nid (getF F) H (Op.buildSlice 36 3 {toList:= [(0,Operand.const (Value.string {data:= {toList:= [115,112,97,114,101]}})),(1,Operand.const (Value.string {data:= {toList:= [115,112,97,114,101]}})),(2,Operand.const (Value.string {data:= {toList:= [115,112,97,114,101]}}))]})=some (.slice (some ⟨nid,0,0,0,1⟩) 3 3,H.set nid (ABlk.made spares 1 true)):=by
  have:aop env noCall nid (getF F) H (Op.buildSlice 36 3 {toList:= [(0,Operand.const (Value.string {data:= {toList:= [115,112,97,114,101]}})),(1,Operand.const (Value.string {data:= {toList:= [115,112,97,114,101]}})),(2,Operand.const (Value.string {data:= {toList:= [115,112,97,114,101]}}))]})=abuildSlice (AEnv.D env) 36 3 [(0,.str spare),(1,.str spare),(2,.str spare)] nid H:=rfl
  exact this.trans (by kernel_rfl)
theorem build1P {F:Facts}{nid:Nat}{H:AHeap} :aop env noCall nid (getF F) H (Op.buildSlice 36 1 {toList:= [(0,Operand.const (Value.string {data:= {toList:= [115,112,97,114,101]}}))]})=some (.slice (some ⟨nid,0,0,0,1⟩) 1 1,H.set nid (ABlk.made [.str spare] 1 true)):=by
  have:aop env noCall nid (getF F) H (Op.buildSlice 36 1 {toList:= [(0,Operand.const (Value.string {data:= {toList:= [115,112,97,114,101]}}))]})=abuildSlice (AEnv.D env) 36 1 [(0,.str spare)] nid H:=rfl
  exact this.trans (by kernel_rfl)
theorem build3R {F:Facts}{i j k nid:Nat}{x y z:AVal}{H:AHeap}(h1:getF F (.tmp i)=x)(h2:getF F (.tmp j)=y)(h3:getF F (.tmp k)=z)(s1: ∃ a n c,x= .slice a n c)(s2: ∃ a n c,y= .slice a n c)(s3: ∃ a n c,z= .slice a n c):aop env noCall nid (getF F) H (Op.buildSlice 22 3 {toList:= [(0,Operand.tmp i),(1,Operand.tmp j),(2,Operand.tmp k)]})=some (.slice (some ⟨nid,0,0,0,1⟩) 3 3,H.set nid (ABlk.made [x,y,z] 1 true)):=by
  have:aop env noCall nid (getF F) H (Op.buildSlice 22 3 {toList:= [(0,Operand.tmp i),(1,Operand.tmp j),(2,Operand.tmp k)]})=abuildSlice (AEnv.D env) 22 3 [(0,x),(1,y),(2,z)] nid H:=by rw [← h1,← h2,← h3];rfl
  refine this.trans ?_
  obtain⟨_,_,_,rfl⟩:=s1
  obtain⟨_,_,_,rfl⟩:=s2
  obtain⟨_,_,_,rfl⟩:=s3
  exact(by kernel_rfl)
structure Lr(H:AHeap)(r:Rr):Prop where
  v:r.v= .slice (some ⟨r.q,0,0,0,1⟩) r.l.length (r.l.length+3)
  b:r.q<H.next∧ ∃ b,H.get r.q=some b∧b.ver=0∧b.elems=r.l.map AVal.str++spares
theorem Lr.fr {H H':AHeap}{r:Rr}{L:List Nat}(h:Lr H r)(m:Fr H H' L)(hq:r.q ∉ L):Lr H' r:=by
  obtain⟨h1,b,h2,h3⟩:=h.b
  exact⟨h.v,Nat.lt_of_lt_of_le h1 m.next,b,(m.get _ h1 hq).trans h2,h3⟩
theorem rd_wide {H:AHeap}{q n c:Nat}{b:ABlk}{els:List AVal}(hq:q<H.next)(hg:H.get q=some b)(hv:b.ver=0)(he: ∃ r,b.elems=els++r)(hn:n=els.length):Rd H q (.slice (some ⟨q,0,0,0,1⟩) n c) els:=by
  obtain⟨r,he⟩:=he
  subst hn
  refine⟨_,c,rfl,(fun a h=>by cases h;exact⟨rfl,rfl⟩),.inr ⟨0,0,b,rfl,hq,hg,fun i hi=> ?_⟩⟩
  have hl:0+i<b.elems.length:=by rw [he,List.length_append];omega
  have:=elem_cur (b:=b) (i:=i) (by omega)
  rw [hv]at this
  rw [this]
  congr 1
  simp only [he]
  rw [List.getElem_append_left hi]
theorem Lr.rd {H:AHeap}{r:Rr}(h:Lr H r):Rd H r.q r.v (r.l.map AVal.str):=by
  obtain⟨h1,b,h2,h3,h4⟩:=h.b
  rw [h.v]
  exact rd_wide h1 h2 h3 ⟨_,h4⟩ (by simp)
theorem Lr.full {H:AHeap}{r:Rr}(h:Lr H r)(c:Nat):Rd H r.q (.slice (some ⟨r.q,0,0,0,1⟩) (r.l.length+3) c) (r.l.map AVal.str++spares):=by
  obtain⟨h1,b,h2,h3,h4⟩:=h.b
  exact rd_wide h1 h2 h3 ⟨[],by rw [h4];simp⟩ (by simp)
end Go.Proofs.YtjpfnbihopoeeaaGreatDoor
namespace Go.Proofs.YtjpfnbihopoeeaaGreatDoor
open Go.Lift
set_option maxRecDepth 1000000
theorem sliceUp {t e by' Q a c n:Nat}(E:El t e by')(h:n≤c):aslice (AEnv.D env) t (.slice (some ⟨Q,0,0,0,1⟩) a c) none (some (.int .i64 (n:Nat))) none=some (.slice (some ⟨Q,0,0,0,1⟩) n c):=by
  obtain⟨d,y,d1,d2,x1,x2,x3,_⟩:=E.sl.ty
  have d1:AEnv.D env t=some d:=d1
  have x1:AEnv.D env e=some y:=x1
  unfold aslice
  simp only [d1,d2,x1,abound]
  rw [if_pos ⟨by omega,by omega⟩]
  simp [x2]
abbrev nilv:AVal:= .slice none 0 0
abbrev leF(ro:Option AAddr)(N rc:Nat)(fv:AVal)(i:Nat):Facts:= [(0,.slice ro N rc),(3,fv),(11,.int .i64 (N:Nat)),(12,.int .i64 (i:Nat))]
theorem le_loop {B N rc Q orow:Nat} {ro:Option AAddr} {rsA:List Rr} (hN:N=rsA.length) (hN2:N<2^40) (hQo:orow≠Q) (hQr: ∀ r∈rsA,r.q≠Q) (hlen: ∀ r∈rsA,r.l.length<2^40): ∀ (f i:Nat) (H:AHeap) (rs:List Rr),i+f=N→B≤H.next→Rd H orow (.slice ro N rc) (vsOf rsA)→(∀ r∈rsA,Rd H r.q r.v (r.l.map AVal.str))→Ox H Q (N+3) nilv (vsOf rs)→(∀ r∈rs,Lr H r∧Q<r.q)→lsOf rs=(lsOf rsA).take i →
    ∃ H' rs',Loops Tryz.prog cnd B 52 (loopAt Tryz.prog 20 0) (leF ro N rc (.slice (some ⟨Q,0,0,0,1⟩) i (N+3)) i) H (.exit 0) [(0,.slice ro N rc),(3,.slice (some ⟨Q,0,0,0,1⟩) N (N+3))] H'∧Ox H' Q (N+3) nilv (vsOf rs')∧(∀ r∈rs',Lr H' r∧Q<r.q)∧lsOf rs'=lsOf rsA∧Fr H H' [Q]:=by
  intro f
  induction f with
  | zero =>
    intro i H rs hi hB ra rin ox lr hls
    obtain rfl:i=N:=by omega
    obtain⟨e,F1,h1,hr,rfl,rfl,rfl⟩:=leE_vp H B i rc i ro (.slice (some ⟨Q,0,0,0,1⟩) i (i+3)) (fun e F1 h1=>e= .exit 0∧F1=leF ro i rc (.slice (some ⟨Q,0,0,0,1⟩) i (i+3)) i∧h1=up H 1) (bifL hB ⟨boolF (by omega),rfl,rfl,rfl⟩)
    have f:=Fr.up H 1 [Q]
    have f':=Fr.up H 1 []
    exact⟨up H 1,rs,(Loops.last (by simp) hr).post (Ent.facts (fle [0,3] (by kernel_rfl))),ox.fr f' (by simp),fun r hr=>⟨(lr r hr).1.fr f' (by simp),(lr r hr).2⟩,by rw [hls,List.take_of_length_le (by simp;omega)],f⟩
  | succ f ih =>
    intro i H rs hi hB ra rin ox lr hls
    have hlt:i<rsA.length:=by omega
    have hli:rs.length=i:=by have:=congrArg List.length hls;simp at this;omega
    have r1:=rin _ (List.getElem_mem hlt)
    have hln:=hlen _ (List.getElem_mem hlt)
    have row: ∀ {G:AHeap} {L:List Nat},Fr H G L→orow ∉ L→ ∃ a,aindexAddr (AEnv.D env) 22 (.slice ro N rc) (.int .i64 (i:Nat))=some (.ptr (some a))∧ ∀ n,aload (AEnv.D env) 36 a ⟨n,G.blks⟩=some rsA[i].v:=fun m hm=>by
      obtain⟨a,a1,_,a3⟩:=(ra.fr m hm).at elR (i:=i) (by simpa using hlt) (by rw [List.getElem_map];exact r1.sv)
      rw [List.getElem_map]at a3
      exact⟨a,a1,a3⟩
    have hst: ∀ G:AHeap,∀ a b:AAddr,aindexAddr (AEnv.D env) 22 (.slice ro N rc) (.int .i64 (i:Nat))=some (.ptr (some a))→aindexAddr (AEnv.D env) 22 (.slice ro N rc) (.int .i64 (i:Nat))=some (.ptr (some b))→a=b:=fun _ a b h1 h2=>by
      rw [h1]at h2
      simpa using h2
    obtain⟨xo,xc,ev⟩:=r1.sl
    rw [List.length_map]at ev
    obtain⟨n,hn⟩: ∃ n,n=rsA[i].l.length:=⟨_,rfl⟩
    rw [← hn]at ev hln
    let A1:AHeap:=up H 11
    let H1:AHeap:=A1.set (H.next+9) (ABlk.made (List.replicate (n+3) (.str [])) 1 true)
    have f1:Fr H H1 []:=(Fr.up H 11 []).more (Fr.set (L:= [H.next+9]) A1 _ _ (by simp)) (by intro x hx;simp at hx;omega)
    have ox1:Ox H1 (H.next+9) (n+3) (.str []) []:=Ox.made A1 (.str []) (by show H.next+9<H.next+11;omega)
    have n1:H1.next=H.next+11:=rfl
    let A2:AHeap:=up H1 7
    have fA2:Fr H A2 []:=f1.more (Fr.up H1 7 []) (by simp)
    obtain⟨H2,e2,ox2,f2,n2⟩:=(ox1.fr (Fr.up H1 7 []) (by simp)).puts (nid:=H1.next+5) (n0:=0) (n1:=n) elS (by decide) rfl (by simp [hn]) (by omega) (by omega) ((r1.fr fA2 (by simp)).elems)
    rw [List.nil_append]at ox2
    have n2:H2.next=H.next+11+7:=n2
    have fH2:Fr H H2 []:=fA2.more f2 (by intro x hx;simp at hx;omega)
    let A3:AHeap:=up H2 4
    let H3:AHeap:=A3.set (H2.next+1) (ABlk.made spares 1 true)
    have f23:Fr H2 H3 [H2.next+1]:=((Fr.up H2 4 [H2.next+1])).trans (Fr.set (L:= [H2.next+1]) A3 _ _ (by simp)) (fun x hx _=>hx)
    have fH3:Fr H H3 []:=fH2.more f23 (by intro x hx;simp at hx;omega)
    have rs3:Rd H3 (H2.next+1) (.slice (some ⟨H2.next+1,0,0,0,1⟩) 3 3) spares:=rd_wide (b:=ABlk.made spares 1 true) (by show H2.next+1<H2.next+4;omega) (AHeap.get_set_self _ _ _) rfl ⟨[],by simp [ABlk.made]⟩ rfl
    obtain⟨H4,e4,ox4,f4,n4⟩:=(ox2.fr f23 (by simp;omega)).puts (nid:=H2.next+2) (n0:=n) (n1:=n+3) elS (by decide) (by simp [hn]) rfl (Nat.le_refl _) (by omega) rs3.elems
    have n4:H4.next=H.next+11+7+4:=by rw [n4];show H2.next+4=_;omega
    have fH4:Fr H H4 []:=fH3.more f4 (by intro x hx;simp at hx;omega)
    let A4:AHeap:=up H4 11
    let s1:AVal:= .slice (some ⟨H.next+9,0,0,0,1⟩) n (n+3)
    let H5:AHeap:=A4.set (H4.next+8) (ABlk.made [s1] 1 true)
    have f45:Fr H4 H5 [H4.next+8]:=((Fr.up H4 11 [H4.next+8])).trans (Fr.set (L:= [H4.next+8]) A4 _ _ (by simp)) (fun x hx _=>hx)
    have fH5:Fr H H5 []:=fH4.more f45 (by intro x hx;simp at hx;omega)
    have hQ:=ox.1
    obtain⟨H6,e6,ox6,f6,n6⟩:=(ox.fr fH5 (by simp)).puts (nid:=H4.next+9) (n0:=i) (n1:=i+1) (new:= [s1]) elR (by decide) (by rw [List.length_map,hli]) rfl (by omega) (by omega) (one_elem A4 (H4.next+8) s1)
    have n6:H6.next=H.next+11+7+4+11:=by rw [n6];show H4.next+11=_;omega
    have f67:=Fr.up H6 2 []
    have f57:Fr H5 (up H6 2) [Q]:=f6.trans f67 (by simp)
    have f07:Fr H (up H6 2) [Q]:=(fH5.sub (M:= [Q]) (by simp)).trans f57 (fun x hx _=>hx)
    have lrN:Lr (up H6 2) ⟨H.next+9,s1,rsA[i].l⟩:=by
      have o5:=(ox4.fr f45 (by simp;omega)).fr f57 (by simp;omega)
      obtain⟨g1,b,g2,g3,g4,g5,g6⟩:=o5
      refine⟨?_,g1,b,g2,g3,?_⟩
      · show s1= .slice (some ⟨H.next+9,0,0,0,1⟩) rsA[i].l.length (rsA[i].l.length+3)
        rw [← hn]
      · rw [g6,show n+3- (rsA[i].l.map AVal.str++spares).length=0 by simp [hn]]
        simp
    obtain⟨H',rs',L,ox',lr',hls',fr'⟩:=ih (i+1) (up H6 2) (rs++ [⟨H.next+9,s1,rsA[i].l⟩]) (by omega) (by show B≤H6.next+2;omega) ((ra.fr fH5 (by simp)).fr f57 (by simpa using hQo)) (fun r hr=>((rin r hr).fr fH5 (by simp)).fr f57 (by simpa using hQr r hr))
      (by rw [vsOf,List.map_append];exact ox6.fr f67 (by simp))
      (fun r hr=>by
        rcases List.mem_append.1 hr with h | h
        · have k:=lr r h
          exact⟨(k.1.fr fH5 (by simp)).fr f57 (by have:=k.2;simp;omega),k.2⟩
        · obtain rfl:=List.mem_singleton.1 h
          exact⟨lrN,by show Q<H.next+9;omega⟩)
      (by
        rw [lsOf,List.map_append,show List.map (·.l) rs=_ from hls,List.take_add_one,List.getElem?_eq_getElem (by simpa using hlt)]
        simp)
    obtain⟨p,p1,p3⟩:=row (Fr.refl H []) (by simp)
    obtain⟨p',p1',p3'⟩:=row f1 (by simp)
    obtain rfl:=hst H p p' p1 p1'
    obtain⟨p',p1',p3''⟩:=row fH4 (by simp)
    obtain rfl:=hst H p p' p1 p1'
    rw [ev]at p3 p3' p3'' e2
    obtain⟨e,F1,h1,hr,rfl,rfl,rfl⟩:=le_vp H H1 H2 H3 H4 H5 H6 B N rc i n xc (n+3) (H.next+9) (H2.next+1) (H4.next+8) ro xo (.slice (some ⟨Q,0,0,0,1⟩) i (N+3)) (.slice (some ⟨H.next+9,0,0,0,1⟩) n (n+3)) (.slice (some ⟨H.next+9,0,0,0,1⟩) (n+3) (n+3)) s1 (.slice (some ⟨Q,0,0,0,1⟩) (i+1) (N+3)) p (fun e F1 h1=>e= .normal∧F1=leF ro N rc (.slice (some ⟨Q,0,0,0,1⟩) (i+1) (N+3)) (i+1)∧h1=up H6 2)
      (bifL hB ⟨boolT (by omega),bifL (by omega) (bifL (by omega) ⟨p1,p3 _,⟨by omega,by omega⟩,mkTexts rfl (by omega),bifL (by omega) ⟨p1,p3' _,e2,bifL (by omega) ⟨build3S,e4,bifL (by omega) ⟨p1,p3'' _,sliceUp elS (by omega),build1R rfl rfl,e6,bifL (by omega) ⟨⟨by omega,by omega⟩,rfl,by rw [succI],rfl⟩⟩⟩⟩⟩)⟩)
    exact⟨H',rs',Loops.round hr (Ent.refl _ _ _ _) L,ox',lr',hls',f07.trans fr' (fun x hx _=>hx)⟩
structure Ln(H:AHeap)(Q:Nat)(rs ms:List Rr):Prop where
  full: ∀ c,Tq H Q (.slice (some ⟨Q,0,0,0,1⟩) (rs.length+3) c) (rs++ms)
  part: ∀ c,Tq H Q (.slice (some ⟨Q,0,0,0,1⟩) rs.length c) rs
  rows: ∀ r∈rs,Lr H r
  ms3:ms.length=3
  msl: ∀ r∈ms,r.l= [spare]
  lt:Q<H.next
theorem Ln.fr {H H':AHeap}{Q:Nat}{rs ms:List Rr}(h:Ln H Q rs ms)(m:Fr H H' []):Ln H' Q rs ms:=⟨fun c=>(h.full c).fr m,fun c=>(h.part c).fr m,fun r hr=>(h.rows r hr).fr m (by simp),h.ms3,h.msl,Nat.lt_of_lt_of_le h.lt m.next⟩
theorem lent_does {H:AHeap}{orow:Nat}{rv:AVal}{rsA:List Rr}(hN2:rsA.length<2^40)(ho:orow<H.next)(hq: ∀ r∈rsA,r.q<H.next)(hlen: ∀ r∈rsA,r.l.length<2^40)(ta:Tq H orow rv rsA) :
    ∃ H' Q rs ms,FDoes Tryz.prog cnd 20 [rv] H (.slice (some ⟨Q,0,0,0,1⟩) rsA.length (rsA.length+3)) H'∧Ln H' Q rs ms∧lsOf rs=lsOf rsA∧Fr H H' []∧H.next<H'.next:=by
  obtain⟨ro,rc,e⟩:=ta.1.sl
  rw [List.length_map]at e
  subst e
  obtain⟨N,hN⟩: ∃ N,N=rsA.length:=⟨_,rfl⟩
  rw [← hN]at ta hN2 ⊢
  let A1:AHeap:=up H 6
  let H1:AHeap:=A1.set (H.next+4) (ABlk.made (List.replicate (N+3) nilv) 1 true)
  have n1:H1.next=H.next+6:=rfl
  have f1:Fr H H1 []:=(Fr.up H 6 []).more (Fr.set (L:= [H.next+4]) A1 _ _ (by simp)) (by intro x hx;simp at hx;omega)
  have ox1:Ox H1 (H.next+4) (N+3) nilv []:=Ox.made A1 nilv (by show H.next+4<H.next+6;omega)
  have fA:Fr H (up H1 3) []:=f1.more (Fr.up H1 3 []) (by simp)
  obtain⟨H2,rs,L,ox2,lr2,hls,f2⟩:=le_loop (B:=H.next) (Q:=H.next+4) hN hN2 (by omega) (fun r hr=>by have:=hq r hr;omega) hlen N 0 (up H1 3) [] (by omega) (by show H.next≤H.next+6+3;omega) (ta.1.fr fA (by simp)) (fun r hr=>(ta.2 r hr).fr fA (by simp)) (ox1.fr (Fr.up H1 3 []) (by simp)) (by simp) rfl
  have n2:=f2.next
  have n2:H.next+6+3≤H2.next:=n2
  have fH2:Fr H H2 []:=fA.more f2 (by intro x hx;simp at hx;omega)
  have hlr:rs.length=N:=by have:=congrArg List.length hls;simp at this;omega
  let A2:AHeap:=up H2 7
  let m:ABlk:=ABlk.made [.str spare] 1 true
  let H3:AHeap:=A2.set (H2.next+1) m
  let H4:AHeap:=H3.set (H2.next+2) m
  let H5:AHeap:=H4.set (H2.next+3) m
  let sv:Nat→AVal:=fun a=> .slice (some ⟨a,0,0,0,1⟩) 1 1
  let H6:AHeap:=H5.set (H2.next+4) (ABlk.made [sv (H2.next+1),sv (H2.next+2),sv (H2.next+3)] 1 true)
  have n6:H6.next=H2.next+7:=rfl
  have f26:Fr H2 H6 []:=by
    refine⟨by omega,fun x hx _=> ?_⟩
    show(AHeap.set _ _ _).get x=_
    rw [AHeap.get_set_ne _ _ (by omega)]
    show(AHeap.set _ _ _).get x=_
    rw [AHeap.get_set_ne _ _ (by omega)]
    show(AHeap.set _ _ _).get x=_
    rw [AHeap.get_set_ne _ _ (by omega)]
    show(AHeap.set _ _ _).get x=_
    rw [AHeap.get_set_ne _ _ (by omega)]
    rfl
  have g6:H6.get (H2.next+4)=some (ABlk.made [sv (H2.next+1),sv (H2.next+2),sv (H2.next+3)] 1 true):=AHeap.get_set_self _ _ _
  have g3:H6.get (H2.next+3)=some m:=(AHeap.get_set_ne _ _ (by omega)).trans (AHeap.get_set_self _ _ _)
  have g2:H6.get (H2.next+2)=some m:=(AHeap.get_set_ne _ _ (by omega)).trans ((AHeap.get_set_ne _ _ (by omega)).trans (AHeap.get_set_self _ _ _))
  have g1:H6.get (H2.next+1)=some m:=(AHeap.get_set_ne _ _ (by omega)).trans ((AHeap.get_set_ne _ _ (by omega)).trans ((AHeap.get_set_ne _ _ (by omega)).trans (AHeap.get_set_self _ _ _)))
  have r6:Rd H6 (H2.next+4) (.slice (some ⟨H2.next+4,0,0,0,1⟩) 3 3) [sv (H2.next+1),sv (H2.next+2),sv (H2.next+3)]:=rd_wide (by omega) g6 rfl ⟨[],by simp [ABlk.made]⟩ rfl
  obtain⟨H7,e7,ox7,f7,n7⟩:=(ox2.fr f26 (by simp)).puts (nid:=H2.next+5) (n0:=N) (n1:=N+3) elR (by decide) (by rw [List.length_map,hlr]) rfl (Nat.le_refl _) (by omega) r6.elems
  have n7:H7.next=H2.next+7:=n7
  have f7u:=Fr.up H7 5 []
  have f67:Fr H6 (up H7 5) [H.next+4]:=f7.trans f7u (by simp)
  have f27:Fr H2 (up H7 5) [H.next+4]:=(f26.sub (M:= [H.next+4]) (by simp)).trans f67 (fun x hx _=>hx)
  have fr:Fr H (up H7 5) []:=fH2.more f27 (by intro x hx;simp at hx;omega)
  have ox8:=ox7.fr f7u (by simp)
  obtain⟨q1,b,q2,q3,q4,q5,q6⟩:=ox8
  rw [show N+3- (vsOf rs++ [sv (H2.next+1),sv (H2.next+2),sv (H2.next+3)]).length=0 by simp [hlr],List.replicate_zero,List.append_nil]at q6
  let ms:List Rr:= [⟨H2.next+1,sv (H2.next+1),[spare]⟩,⟨H2.next+2,sv (H2.next+2),[spare]⟩,⟨H2.next+3,sv (H2.next+3),[spare]⟩]
  have lr8: ∀ r∈rs,Lr (up H7 5) r:=fun r hr=>(lr2 r hr).1.fr f27 (by have:=(lr2 r hr).2;simp;omega)
  have mk: ∀ a,H2.next+1≤a→a<H2.next+7→H6.get a=some m→Rd (up H7 5) a (sv a) [.str spare]:=fun a h1 h2 h3=>(rd_wide (H:=H6) (b:=m) (els:= [.str spare]) (by omega) h3 rfl ⟨[],by simp [m,ABlk.made]⟩ rfl).fr f67 (by simp;omega)
  have hms: ∀ r∈ms,Rd (up H7 5) r.q r.v (r.l.map AVal.str):=fun r hr=>by
    simp only [ms,List.mem_cons,List.not_mem_nil,or_false]at hr
    rcases hr with rfl | rfl | rfl
    · exact mk (H2.next+1) (by omega) (by omega) g1
    · exact mk (H2.next+2) (by omega) (by omega) g2
    · exact mk (H2.next+3) (by omega) (by omega) g3
  have hvs:vsOf (rs++ms)=vsOf rs++ [sv (H2.next+1),sv (H2.next+2),sv (H2.next+3)]:=by
    rw [vsOf,List.map_append];rfl
  obtain⟨v,h1,hd,rfl,rfl⟩:=le_vc H H1 H2 H3 H4 H5 H6 H7 N rc (N+3) (H.next+4) (H2.next+1) (H2.next+2) (H2.next+3) (H2.next+4) ro (.slice (some ⟨H.next+4,0,0,0,1⟩) N (N+3)) (.slice (some ⟨H.next+4,0,0,0,1⟩) (N+3) (N+3)) (.slice (some ⟨H.next+4,0,0,0,1⟩) N (N+3)) (fun v h1=>v= .slice (some ⟨H.next+4,0,0,0,1⟩) N (N+3)∧h1=up H7 5)
    (bifL (Nat.le_refl _) (bifL (by omega) ⟨⟨by omega,by omega⟩,mkRows rfl (by omega),bifL (by omega) ⟨Runs.of_loops L,bifL (by omega) ⟨build1P,build1P,build1P,build3R rfl rfl rfl ⟨_,_,_,rfl⟩ ⟨_,_,_,rfl⟩ ⟨_,_,_,rfl⟩,e7,bifL (by omega) ⟨sliceUp elR (by omega),condL (by omega) ⟨rfl,rfl⟩⟩⟩⟩⟩))
  refine⟨_,H.next+4,rs,ms,hd,⟨fun c=>⟨?_,?_⟩,fun c=>⟨?_,fun r hr=>(lr8 r hr).rd⟩,lr8,rfl,?_,q1⟩,hls,fr,by show H.next<H7.next+5;omega⟩
  · rw [hvs]
    exact rd_wide q1 q2 q3 ⟨[],by rw [q6,List.append_nil]⟩ (by simp)
  · intro r hr
    rcases List.mem_append.1 hr with h | h
    · exact(lr8 r h).rd
    · exact hms r h
  · exact rd_wide q1 q2 q3 ⟨_,q6⟩ (by simp)
  · intro r hr
    simp only [ms,List.mem_cons,List.not_mem_nil,or_false]at hr
    rcases hr with rfl | rfl | rfl<;>rfl
end Go.Proofs.YtjpfnbihopoeeaaGreatDoor
namespace Go.Proofs.YtjpfnbihopoeeaaGreatDoor
open Go.Lift
set_option maxRecDepth 1000000
theorem sliceUp3 {t e by' Q a c n:Nat}(E:El t e by')(h:n+3≤c):aslice (AEnv.D env) t (.slice (some ⟨Q,0,0,0,1⟩) a c) none (some (.int .i64 ((n:Int)+3))) none=some (.slice (some ⟨Q,0,0,0,1⟩) (n+3) c):=by
  rw [show(n:Int)+3=((n+3:Nat):Int)by omega]
  exact sliceUp E h
theorem k0_loop {B N rc Q:Nat}{ro:Option AAddr}{lv:AVal}{rs ms:List Rr}(hN:N=rs.length)(hN2:N<2^40): ∀ (f i:Nat) (H:AHeap),i+f=N+3→N≤i→B≤H.next→Ln H Q rs ms →
    ∃ n,H.next≤n∧Loops Tryz.prog cnd B 81 (loopAt Tryz.prog 24 0) [(0,lv),(1,.slice ro N rc),(5,.slice (some ⟨Q,0,0,0,1⟩) (N+3) (N+3)),(6,.int .i64 (i:Nat))] H (.exit 0) [(0,lv),(1,.slice ro N rc),(5,.slice (some ⟨Q,0,0,0,1⟩) (N+3) (N+3))] ⟨n,H.blks⟩:=by
  intro f
  induction f with
  | zero =>
    intro i H hi hNi hB ln
    obtain rfl:i=N+3:=by omega
    obtain⟨e,F1,h1,hr,rfl,rfl,rfl⟩:=k0E_vp H B N rc (N+3) (N+3) (N+3) ro (some ⟨Q,0,0,0,1⟩) lv (fun e F1 h1=>e= .exit 0∧F1= [(0,lv),(1,.slice ro N rc),(5,.slice (some ⟨Q,0,0,0,1⟩) (N+3) (N+3)),(6,.int .i64 ((N+3:Nat):Int))]∧h1=up H 4) (bifL hB ⟨boolF (by omega),rfl,rfl,rfl⟩)
    exact⟨H.next+4,by omega,(Loops.last (by simp) hr).post (Ent.facts (fle [0,1,5] (by kernel_rfl)))⟩
  | succ f ih =>
    intro i H hi hNi hB ln
    have hl3:=ln.ms3
    have hlt:i<(rs++ms).length:=by rw [List.length_append,hl3];omega
    have t:=ln.full (N+3)
    rw [← hN]at t
    obtain⟨p,p1,p2,p3⟩:=t.row hlt
    have r:=t.2 _ (List.getElem_mem hlt)
    have hl:(rs++ms)[i].l= [spare]:=by
      rw [List.getElem_append_right (by omega)]
      exact ln.msl _ (List.getElem_mem _)
    rw [hl]at r
    obtain⟨q,q1,q2,q3⟩:=r.txt (i:=0) (by simp)
    obtain⟨xo,xc,ev⟩:=r.sl
    rw [show([spare].map AVal.str).length=1 from rfl]at ev
    rw [ev]at p3 q1
    obtain⟨n,hn',L⟩:=ih (i+1) (up H 22) (by omega) (by omega) (by show B≤H.next+22;omega) (ln.fr (Fr.up H 22 []))
    have hn':H.next+22≤n:=hn'
    obtain⟨e,F1,h1,hr,rfl,rfl,rfl⟩:=k0_vp H B N rc (N+3) (N+3) i xc ro (some ⟨Q,0,0,0,1⟩) xo lv p q (fun e F1 h1=>e= .normal∧F1= [(0,lv),(1,.slice ro N rc),(5,.slice (some ⟨Q,0,0,0,1⟩) (N+3) (N+3)),(6,.int .i64 ((i+1:Nat):Int))]∧h1=up H 22)
      (bifL hB ⟨boolT (by omega),bifL (by omega) ⟨p1,p3 _,p1,p3 _,q1,q3 _,bifL (by omega) ⟨⟨by omega,by omega⟩,rfl,by rw [succI],rfl⟩⟩⟩)
    exact⟨n,by omega,Loops.round hr (Ent.refl _ _ _ _) L⟩
abbrev k1F(lv:AVal)(ro:Option AAddr)(N rc Q i:Nat):Facts:= [(0,lv),(1,.slice ro N rc),(5,.slice (some ⟨Q,0,0,0,1⟩) (N+3) (N+3)),(39,.int .i64 (N:Nat)),(40,.int .i64 (i:Nat))]
theorem k2_loop {B N rc Q i m q kc:Nat}{ro ko:Option AAddr}{lv:AVal}{l:List Bys}(hm:m=l.length+3)(hl:l.length<2^40): ∀ (f j:Nat) (H:AHeap),j+f=m→l.length≤j→B≤H.next→Rd H q (.slice ko m kc) (l.map AVal.str++spares) →
    ∃ n,H.next≤n∧Loops Tryz.prog cnd B 81 (loopAt Tryz.prog 24 2) [(0,lv),(1,.slice ro N rc),(5,.slice (some ⟨Q,0,0,0,1⟩) (N+3) (N+3)),(8,.slice ko m kc),(9,.int .i64 (j:Nat)),(39,.int .i64 (N:Nat)),(40,.int .i64 (i:Nat))] H (.exit 4) (k1F lv ro N rc Q i) ⟨n,H.blks⟩:=by
  intro f
  induction f with
  | zero =>
    intro j H hj hlj hB r
    obtain rfl:j=m:=by omega
    obtain⟨e,F1,h1,hr,rfl,rfl,rfl⟩:=k2E_vp H B N rc (N+3) (N+3) i j kc j ro (some ⟨Q,0,0,0,1⟩) ko lv (fun e F1 h1=>e= .exit 4∧F1= [(0,lv),(1,.slice ro N rc),(5,.slice (some ⟨Q,0,0,0,1⟩) (N+3) (N+3)),(8,.slice ko j kc),(9,.int .i64 (j:Nat)),(39,.int .i64 (N:Nat)),(40,.int .i64 (i:Nat))]∧h1=up H 4) (bifL hB ⟨boolF (by omega),rfl,rfl,rfl⟩)
    exact⟨H.next+4,by omega,(Loops.last (by simp) hr).post (Ent.facts (fle [0,1,5,39,40] (by kernel_rfl)))⟩
  | succ f ih =>
    intro j H hj hlj hB r
    have hlt:j<(l.map AVal.str++spares).length:=by simp;omega
    have he:(l.map AVal.str++spares)[j]= .str spare:=by
      rw [List.getElem_append_right (by simpa using hlj)]
      simp only [List.length_map]
      have h3:j-l.length=0∨j-l.length=1∨j-l.length=2:=by omega
      rcases h3 with h | h | h<;>simp [h]
    obtain⟨p,p1,p2,p3⟩:=r.at elS (i:=j) hlt (by rw [he];rfl)
    rw [he]at p3
    obtain⟨n,hn',L⟩:=ih (j+1) (up H 12) (by omega) (by omega) (by show B≤H.next+12;omega) (r.fr (Fr.up H 12 []) (by simp))
    have hn':H.next+12≤n:=hn'
    obtain⟨e,F1,h1,hr,rfl,rfl,rfl⟩:=k2_vp H B N rc (N+3) (N+3) i m kc j ro (some ⟨Q,0,0,0,1⟩) ko lv p (fun e F1 h1=>e= .normal∧F1= [(0,lv),(1,.slice ro N rc),(5,.slice (some ⟨Q,0,0,0,1⟩) (N+3) (N+3)),(8,.slice ko m kc),(9,.int .i64 ((j+1:Nat):Int)),(39,.int .i64 (N:Nat)),(40,.int .i64 (i:Nat))]∧h1=up H 12)
      (bifL hB ⟨boolT (by omega),bifL (by omega) ⟨p1,p3 _,bifL (by omega) ⟨⟨by omega,by omega⟩,rfl,by rw [succI],rfl⟩⟩⟩)
    exact⟨n,by omega,Loops.round hr (Ent.refl _ _ _ _) L⟩
theorem k1_loop {B N rc Q orow:Nat}{ro:Option AAddr}{rsA rs ms:List Rr}(hN:N=rs.length)(hls:lsOf rs=lsOf rsA)(hN2:N<2^40)(hlen: ∀ r∈rsA,r.l.length<2^40): ∀ (f i:Nat) (H:AHeap),i+f=N→B≤H.next→Ln H Q rs ms→Tq H orow (.slice ro N rc) rsA →
    ∃ n,H.next≤n∧Loops Tryz.prog cnd B 81 (loopAt Tryz.prog 24 1) (k1F (.slice (some ⟨Q,0,0,0,1⟩) N (N+3)) ro N rc Q i) H (.exit 2) [] ⟨n,H.blks⟩:=by
  have hNA:rsA.length=N:=by have:=congrArg List.length hls;simp at this;omega
  intro f
  induction f with
  | zero =>
    intro i H hi hB ln ta
    obtain rfl:i=N:=by omega
    obtain⟨e,F1,h1,hr,rfl,rfl,rfl⟩:=k1E_vp H B i rc (i+3) (i+3) i ro (some ⟨Q,0,0,0,1⟩) (.slice (some ⟨Q,0,0,0,1⟩) i (i+3)) (fun e F1 h1=>e= .exit 2∧F1=k1F (.slice (some ⟨Q,0,0,0,1⟩) i (i+3)) ro i rc Q i∧h1=up H 1) (bifL hB ⟨boolF (by omega),rfl,rfl,rfl⟩)
    exact⟨H.next+1,by omega,(Loops.last (by simp) hr).post (Ent.facts (fle [] (by kernel_rfl)))⟩
  | succ f ih =>
    intro i H hi hB ln ta
    have h1:i<rs.length:=by omega
    have h2:i<rsA.length:=by omega
    have hel:rs[i].l=rsA[i].l:=by
      have:=congrArg (fun l=>l[i]?) hls
      simpa [h1,h2]using this
    have tl:=ln.part (N+3)
    have tf:=ln.full (N+3)
    rw [← hN]at tl tf
    obtain⟨p,p1,p2,p3⟩:=tl.row h1
    obtain⟨q,q1,q2,q3⟩:=ta.row h2
    have h3:i<(rs++ms).length:=by rw [List.length_append];omega
    obtain⟨u,u1,u2,u3⟩:=tf.row h3
    rw [List.getElem_append_left h1]at u3
    have lr:=ln.rows _ (List.getElem_mem h1)
    have rl:=lr.rd
    have ra:=ta.2 _ (List.getElem_mem h2)
    have hln:=hlen _ (List.getElem_mem h2)
    have hfull:=lr.full (rs[i].l.length+3)
    rw [lr.v]at p3 u3 rl
    rw [hel]at p3 u3 rl hfull
    obtain⟨yo,yc,ev⟩:=ra.sl
    rw [List.length_map]at ev
    rw [ev]at q3 ra
    obtain⟨n1,hn1,D⟩:=sr_does (H:=up H 13) (by omega) (rl.fr (Fr.up H 13 []) (by simp)) (ra.fr (Fr.up H 13 []) (by simp))
    have hn1:H.next+13≤n1:=hn1
    obtain⟨n2,hn2,L2⟩:=k2_loop (B:=B) (N:=N) (rc:=rc) (Q:=Q) (i:=i) (ro:=ro) (lv:= .slice (some ⟨Q,0,0,0,1⟩) N (N+3)) rfl (by omega) 3 rsA[i].l.length ⟨n1+18,H.blks⟩ rfl (Nat.le_refl _) (by show B≤n1+18;omega) (hfull.fr (Fr.blks (by omega)) (by simp))
    have hn2:n1+18≤n2:=hn2
    obtain⟨n,hn',L⟩:=ih (i+1) ⟨n2+2,H.blks⟩ (by omega) (by show B≤n2+2;omega) (ln.fr (Fr.blks (by omega))) (ta.up (by omega))
    have hn':n2+2≤n:=hn'
    obtain⟨e,F1,h1',hr,rfl,rfl,rfl⟩:=k1_vp H ⟨n1,H.blks⟩ ⟨n2,H.blks⟩ B N rc (N+3) (N+3) i rsA[i].l.length yc (rsA[i].l.length+3) (rsA[i].l.length+3) rsA[i].l.length (rsA[i].l.length+3) ro (some ⟨Q,0,0,0,1⟩) yo (some ⟨rs[i].q,0,0,0,1⟩) (some ⟨rs[i].q,0,0,0,1⟩) (.slice (some ⟨Q,0,0,0,1⟩) N (N+3)) (.slice (some ⟨rs[i].q,0,0,0,1⟩) rsA[i].l.length (rsA[i].l.length+3)) p q u (fun e F1 h1=>e= .normal∧F1=k1F (.slice (some ⟨Q,0,0,0,1⟩) N (N+3)) ro N rc Q (i+1)∧h1=⟨n2+2,H.blks⟩)
      (bifL hB ⟨boolT (by omega),bifL (by omega) (bifL (by omega) ⟨p1,p3 _,by omega,q1,q3 _,by omega,⟨D⟩,bifL (by show B≤n1;omega) ⟨u1,u3 _,q1,q3 _,⟨by omega,by omega⟩,sliceUp3 elS (Nat.le_refl _),bifL (by show B≤n1+12;omega) ⟨q1,q3 _,Runs.of_loops L2,bifL (by show B≤n2;omega) ⟨⟨by omega,by omega⟩,rfl,by rw [succI],rfl⟩⟩⟩⟩)⟩)
    exact⟨n,by omega,Loops.round hr (Ent.refl _ _ _ _) L⟩
theorem kept_does {H:AHeap}{N Q orow:Nat}{rv:AVal}{rsA rs ms:List Rr}(hN:N=rsA.length)(hls:lsOf rs=lsOf rsA)(hN2:N<2^40)(hlen: ∀ r∈rsA,r.l.length<2^40)(ln:Ln H Q rs ms)(ta:Tq H orow rv rsA) :
    ∃ n,H.next<n∧FDoes Tryz.prog cnd 24 [.slice (some ⟨Q,0,0,0,1⟩) N (N+3),rv] H (.bool true) ⟨n,H.blks⟩:=by
  obtain⟨ro,rc,e⟩:=ta.1.sl
  rw [List.length_map,← hN]at e
  subst e
  have hNr:N=rs.length:=by have:=congrArg List.length hls;simp at this;omega
  obtain⟨n1,hn1,L1⟩:=k0_loop (B:=H.next) (rc:=rc) (ro:=ro) (lv:= .slice (some ⟨Q,0,0,0,1⟩) N (N+3)) hNr hN2 3 N (up H 10) rfl (Nat.le_refl _) (by show H.next≤H.next+10;omega) (ln.fr (Fr.up H 10 []))
  have hn1:H.next+10≤n1:=hn1
  obtain⟨n2,hn2,L2⟩:=k1_loop (B:=H.next) (rc:=rc) (ro:=ro) hNr hls hN2 hlen N 0 ⟨n1+3,H.blks⟩ (by omega) (by show H.next≤n1+3;omega) (ln.fr (Fr.blks (by omega))) (ta.up (by omega))
  have hn2:n1+3≤n2:=hn2
  obtain⟨v,h1,hd,rfl,rfl⟩:=k_vc H ⟨n1,H.blks⟩ ⟨n2,H.blks⟩ N rc (N+3) (N+3) ro (some ⟨Q,0,0,0,1⟩) (.slice (some ⟨Q,0,0,0,1⟩) N (N+3)) (fun v h1=>v= .bool true∧h1=⟨n2+1,H.blks⟩)
    (bifL (Nat.le_refl _) (bifL (by omega) ⟨⟨by omega,by omega⟩,sliceUp3 elR (Nat.le_refl _),bifL (by omega) ⟨Runs.of_loops L1,bifL (by show H.next≤n1;omega) ⟨Runs.of_loops L2,bifL (by show H.next≤n2;omega) (condL (by show H.next≤n2+1;omega) ⟨rfl,rfl⟩)⟩⟩⟩))
  exact⟨n2+1,by omega,hd⟩
end Go.Proofs.YtjpfnbihopoeeaaGreatDoor
namespace Go.Proofs.YtjpfnbihopoeeaaGreatDoor
open Go.Lift
set_option maxRecDepth 1000000
theorem tsN_vp(H H1 H2:AHeap)(B n kc i q:Nat)(ko:Option AAddr)(rv hv ov ov2:AVal)(p p2:AAddr)(K0:AExit→Facts→AHeap→Prop)(vc:bif Nat.ble B (AHeap.next H) && true then some (AVal.bool (decide ((↑i:Int)<(↑n:Int))))=some (AVal.bool true)∧bif Nat.ble B (AHeap.next H+1) && true then bif Nat.ble B (AHeap.next H+3) && true then aindexAddr (AEnv.D env) 45 (AVal.slice ko n kc) (AVal.int IntKind.i64 (↑i:Int))=some (AVal.ptr (some p))∧aop env noCall (AHeap.next H+6) (getF [(22,AVal.ptr (some p)),(21,AVal.int IntKind.i64 (↑i:Int)),(20,AVal.slice ko n kc),(8,AVal.int IntKind.i64 (↑i:Int)),(19,AVal.int IntKind.i64 (↑i:Int)),(18,AVal.bool true),(0,rv),(1,hv),(2,AVal.slice ko n kc),(7,ov),(16,AVal.int IntKind.i64 (↑n:Int)),(17,AVal.int IntKind.i64 (↑i:Int))]) (AHeap.mk (AHeap.next H+8) (H.2)) (Op.fieldAddr 48 (Operand.tmp 22) 2)=some (AVal.ptr (some p2),(AHeap.mk (AHeap.next H+8) (H.2)))∧aload (AEnv.D env) 4 p2 (AHeap.mk (AHeap.next H+8) (H.2))=some (AVal.bool true)∧bif Nat.ble B (AHeap.next H+8) && true then aop env noCall (AHeap.next H+9) (getF [(25,ov),(24,AVal.bool true),(23,AVal.ptr (some p2)),(22,AVal.ptr (some p)),(21,AVal.int IntKind.i64 (↑i:Int)),(20,AVal.slice ko n kc),(8,AVal.int IntKind.i64 (↑i:Int)),(19,AVal.int IntKind.i64 (↑i:Int)),(18,AVal.bool true),(0,rv),(1,hv),(2,AVal.slice ko n kc),(7,ov),(16,AVal.int IntKind.i64 (↑n:Int)),(17,AVal.int IntKind.i64 (↑i:Int))]) (AHeap.mk (AHeap.next H+12) (H.2)) (Op.buildSlice 46 1 {toList:= [(0,Operand.const Value.nilFunc)]})=some (AVal.slice (some ⟨q,0,0,0,1⟩) 1 1,H1)∧abuiltin env Builtin.append {toList:= [46,46]} [ov,AVal.slice (some ⟨q,0,0,0,1⟩) 1 1] (AHeap.next H+10) H1=some (ov2,H2)∧bif Nat.ble B (AHeap.next H2) && true then(-9223372036854775808≤(↑i:Int)+1∧(↑i:Int)+1≤9223372036854775807)∧K0 AExit.normal [(0,rv),(1,hv),(2,AVal.slice ko n kc),(7,ov2),(16,AVal.int IntKind.i64 (↑n:Int)),(17,AVal.int IntKind.i64 ((↑i:Int)+1))] (AHeap.mk (AHeap.next H2+2) (AHeap.blks H2))else False else False else False else False else False) :
    ∃ e F1 h1,Runs Tryz.prog cnd B 105 (loopAt Tryz.prog 7 0) [(0,rv),(1,hv),(2,.slice ko n kc),(7,ov),(16,.int .i64 n),(17,.int .i64 i)] H e F1 h1∧K0 e F1 h1 :=
  tpath_runs env_ok mixed noSpecs_ok (hs:= .hint (.val 3000 (AVal.bool true)) (.hint (.val 5002 (AVal.ptr (some p))) (.hint (.val 5003 (AVal.ptr (some p2))) (.hint (.val 5004 (AVal.bool true)) (.hint (.act 6001 (AVal.slice (some ⟨q,0,0,0,1⟩) 1 1) fun x=>H1) (.hint (.act 6002 ov2 fun x=>H2) (.hint (.go 8000) .nil))))))) (keep:= [0,1,2,7,16,17]) (by kernel_rfl) vc
theorem tsS0_vp(H H1 H2 H3:AHeap)(B n kc i q:Nat)(ko:Option AAddr)(rv hv ov2 dv fv:AVal)(p p0 p1 p2:AAddr)(k:Int)(K0:AExit→Facts→AHeap→Prop)(vc:bif Nat.ble B (AHeap.next H) && true then some (AVal.bool (decide ((↑i:Int)<(↑n:Int))))=some (AVal.bool true)∧bif Nat.ble B (AHeap.next H+1) && true then bif Nat.ble B (AHeap.next H+3) && true then aindexAddr (AEnv.D env) 45 (AVal.slice ko n kc) (AVal.int IntKind.i64 (↑i:Int))=some (AVal.ptr (some p))∧aop env noCall (AHeap.next H+6) (getF [(22,AVal.ptr (some p)),(21,AVal.int IntKind.i64 (↑i:Int)),(20,AVal.slice ko n kc),(8,AVal.int IntKind.i64 (↑i:Int)),(19,AVal.int IntKind.i64 (↑i:Int)),(18,AVal.bool true),(0,rv),(1,hv),(2,AVal.slice ko n kc),(7,AVal.slice none 0 0),(16,AVal.int IntKind.i64 (↑n:Int)),(17,AVal.int IntKind.i64 (↑i:Int))]) (AHeap.mk (AHeap.next H+8) (H.2)) (Op.fieldAddr 48 (Operand.tmp 22) 2)=some (AVal.ptr (some p2),(AHeap.mk (AHeap.next H+8) (H.2)))∧aload (AEnv.D env) 4 p2 (AHeap.mk (AHeap.next H+8) (H.2))=some (AVal.bool false)∧bif Nat.ble B (AHeap.next H+8) && true then aindexAddr (AEnv.D env) 45 (AVal.slice ko n kc) (AVal.int IntKind.i64 (↑i:Int))=some (AVal.ptr (some p))∧aop env noCall (AHeap.next H+12) (getF [(31,AVal.ptr (some p)),(30,AVal.int IntKind.i64 (↑i:Int)),(29,AVal.slice ko n kc),(28,AVal.slice none 0 0),(24,AVal.bool false),(23,AVal.ptr (some p2)),(22,AVal.ptr (some p)),(21,AVal.int IntKind.i64 (↑i:Int)),(20,AVal.slice ko n kc),(8,AVal.int IntKind.i64 (↑i:Int)),(19,AVal.int IntKind.i64 (↑i:Int)),(18,AVal.bool true),(0,rv),(1,hv),(2,AVal.slice ko n kc),(7,AVal.slice none 0 0),(16,AVal.int IntKind.i64 (↑n:Int)),(17,AVal.int IntKind.i64 (↑i:Int))]) (AHeap.mk (AHeap.next H+23) (H.2)) (Op.fieldAddr 48 (Operand.tmp 31) 0)=some (AVal.ptr (some p0),(AHeap.mk (AHeap.next H+23) (H.2)))∧aload (AEnv.D env) 3 p0 (AHeap.mk (AHeap.next H+23) (H.2))=some (AVal.int IntKind.i64 k)∧AAddr.id p0<AHeap.next H+8∧aindexAddr (AEnv.D env) 45 (AVal.slice ko n kc) (AVal.int IntKind.i64 (↑i:Int))=some (AVal.ptr (some p))∧aop env noCall (AHeap.next H+17) (getF [(36,AVal.ptr (some p)),(35,AVal.int IntKind.i64 (↑i:Int)),(34,AVal.slice ko n kc),(33,AVal.int IntKind.i64 k),(32,AVal.ptr (some p0)),(31,AVal.ptr (some p)),(30,AVal.int IntKind.i64 (↑i:Int)),(29,AVal.slice ko n kc),(28,AVal.slice none 0 0),(24,AVal.bool false),(23,AVal.ptr (some p2)),(22,AVal.ptr (some p)),(21,AVal.int IntKind.i64 (↑i:Int)),(20,AVal.slice ko n kc),(8,AVal.int IntKind.i64 (↑i:Int)),(19,AVal.int IntKind.i64 (↑i:Int)),(18,AVal.bool true),(0,rv),(1,hv),(2,AVal.slice ko n kc),(7,AVal.slice none 0 0),(16,AVal.int IntKind.i64 (↑n:Int)),(17,AVal.int IntKind.i64 (↑i:Int))]) (AHeap.mk (AHeap.next H+23) (H.2)) (Op.fieldAddr 48 (Operand.tmp 36) 1)=some (AVal.ptr (some p1),(AHeap.mk (AHeap.next H+23) (H.2)))∧aload (AEnv.D env) 4 p1 (AHeap.mk (AHeap.next H+23) (H.2))=some dv∧AAddr.id p1<AHeap.next H+8∧CallT Tryz.prog cnd 32 [AVal.int IntKind.i64 k,dv] (AHeap.mk (AHeap.next H+23) (H.2)) fv H1∧aop env noCall (AHeap.next H+20) (getF [(39,fv),(38,dv),(37,AVal.ptr (some p1)),(36,AVal.ptr (some p)),(35,AVal.int IntKind.i64 (↑i:Int)),(34,AVal.slice ko n kc),(33,AVal.int IntKind.i64 k),(32,AVal.ptr (some p0)),(31,AVal.ptr (some p)),(30,AVal.int IntKind.i64 (↑i:Int)),(29,AVal.slice ko n kc),(28,AVal.slice none 0 0),(24,AVal.bool false),(23,AVal.ptr (some p2)),(22,AVal.ptr (some p)),(21,AVal.int IntKind.i64 (↑i:Int)),(20,AVal.slice ko n kc),(8,AVal.int IntKind.i64 (↑i:Int)),(19,AVal.int IntKind.i64 (↑i:Int)),(18,AVal.bool true),(0,rv),(1,hv),(2,AVal.slice ko n kc),(7,AVal.slice none 0 0),(16,AVal.int IntKind.i64 (↑n:Int)),(17,AVal.int IntKind.i64 (↑i:Int))]) H1 (Op.buildSlice 46 1 {toList:= [(0,Operand.tmp 39)]})=some (AVal.slice (some ⟨q,0,0,0,1⟩) 1 1,H2)∧abuiltin env Builtin.append {toList:= [46,46]} [AVal.slice none 0 0,AVal.slice (some ⟨q,0,0,0,1⟩) 1 1] (AHeap.next H+21) H2=some (ov2,H3)∧(q<AHeap.next H+8∨AHeap.next H+23≤q∨q=AHeap.next H+20)∧bif Nat.ble B (AHeap.next H3) && true then(-9223372036854775808≤(↑i:Int)+1∧(↑i:Int)+1≤9223372036854775807)∧K0 AExit.normal [(0,rv),(1,hv),(2,AVal.slice ko n kc),(7,ov2),(16,AVal.int IntKind.i64 (↑n:Int)),(17,AVal.int IntKind.i64 ((↑i:Int)+1))] (AHeap.mk (AHeap.next H3+2) (AHeap.blks H3))else False else False else False else False else False) :
    ∃ e F1 h1,Runs Tryz.prog cnd B 105 (loopAt Tryz.prog 7 0) [(0,rv),(1,hv),(2,.slice ko n kc),(7,.slice none 0 0),(16,.int .i64 n),(17,.int .i64 i)] H e F1 h1∧K0 e F1 h1 :=
  tpath_runs env_ok mixed noSpecs_ok (hs:= .hint (.val 3000 (AVal.bool true)) (.hint (.val 5002 (AVal.ptr (some p))) (.hint (.val 5003 (AVal.ptr (some p2))) (.hint (.val 5004 (AVal.bool false)) (.hint (.val 7003 (AVal.ptr (some p))) (.hint (.val 7004 (AVal.ptr (some p0))) (.hint (.farV 7005 (AVal.int IntKind.i64 k)) (.hint (.val 7008 (AVal.ptr (some p))) (.hint (.val 7009 (AVal.ptr (some p1))) (.hint (.farV 7010 dv) (.hint (.act 7011 fv fun x=>H1) (.hint (.act 7012 (AVal.slice (some ⟨q,0,0,0,1⟩) 1 1) fun x=>H2) (.hint (.near 7013 ov2 (fun x=>H3) 12) (.hint (.go 8000) .nil)))))))))))))) (keep:= [0,1,2,7,16,17]) (by kernel_rfl) vc
theorem tsS1_vp(H H1 H2 H3:AHeap)(B n kc i q oq ovr m:Nat)(ko:Option AAddr)(rv hv ov2 dv fv:AVal)(p p0 p1 p2:AAddr)(k:Int)(K0:AExit→Facts→AHeap→Prop)(vc:bif Nat.ble B (AHeap.next H) && true then some (AVal.bool (decide ((↑i:Int)<(↑n:Int))))=some (AVal.bool true)∧bif Nat.ble B (AHeap.next H+1) && true then bif Nat.ble B (AHeap.next H+3) && true then aindexAddr (AEnv.D env) 45 (AVal.slice ko n kc) (AVal.int IntKind.i64 (↑i:Int))=some (AVal.ptr (some p))∧aop env noCall (AHeap.next H+6) (getF [(22,AVal.ptr (some p)),(21,AVal.int IntKind.i64 (↑i:Int)),(20,AVal.slice ko n kc),(8,AVal.int IntKind.i64 (↑i:Int)),(19,AVal.int IntKind.i64 (↑i:Int)),(18,AVal.bool true),(0,rv),(1,hv),(2,AVal.slice ko n kc),(7,AVal.slice (some ⟨oq,ovr,0,0,1⟩) m m),(16,AVal.int IntKind.i64 (↑n:Int)),(17,AVal.int IntKind.i64 (↑i:Int))]) (AHeap.mk (AHeap.next H+8) (H.2)) (Op.fieldAddr 48 (Operand.tmp 22) 2)=some (AVal.ptr (some p2),(AHeap.mk (AHeap.next H+8) (H.2)))∧aload (AEnv.D env) 4 p2 (AHeap.mk (AHeap.next H+8) (H.2))=some (AVal.bool false)∧bif Nat.ble B (AHeap.next H+8) && true then aindexAddr (AEnv.D env) 45 (AVal.slice ko n kc) (AVal.int IntKind.i64 (↑i:Int))=some (AVal.ptr (some p))∧aop env noCall (AHeap.next H+12) (getF [(31,AVal.ptr (some p)),(30,AVal.int IntKind.i64 (↑i:Int)),(29,AVal.slice ko n kc),(28,AVal.slice (some ⟨oq,ovr,0,0,1⟩) m m),(24,AVal.bool false),(23,AVal.ptr (some p2)),(22,AVal.ptr (some p)),(21,AVal.int IntKind.i64 (↑i:Int)),(20,AVal.slice ko n kc),(8,AVal.int IntKind.i64 (↑i:Int)),(19,AVal.int IntKind.i64 (↑i:Int)),(18,AVal.bool true),(0,rv),(1,hv),(2,AVal.slice ko n kc),(7,AVal.slice (some ⟨oq,ovr,0,0,1⟩) m m),(16,AVal.int IntKind.i64 (↑n:Int)),(17,AVal.int IntKind.i64 (↑i:Int))]) (AHeap.mk (AHeap.next H+23) (H.2)) (Op.fieldAddr 48 (Operand.tmp 31) 0)=some (AVal.ptr (some p0),(AHeap.mk (AHeap.next H+23) (H.2)))∧aload (AEnv.D env) 3 p0 (AHeap.mk (AHeap.next H+23) (H.2))=some (AVal.int IntKind.i64 k)∧AAddr.id p0<AHeap.next H+8∧aindexAddr (AEnv.D env) 45 (AVal.slice ko n kc) (AVal.int IntKind.i64 (↑i:Int))=some (AVal.ptr (some p))∧aop env noCall (AHeap.next H+17) (getF [(36,AVal.ptr (some p)),(35,AVal.int IntKind.i64 (↑i:Int)),(34,AVal.slice ko n kc),(33,AVal.int IntKind.i64 k),(32,AVal.ptr (some p0)),(31,AVal.ptr (some p)),(30,AVal.int IntKind.i64 (↑i:Int)),(29,AVal.slice ko n kc),(28,AVal.slice (some ⟨oq,ovr,0,0,1⟩) m m),(24,AVal.bool false),(23,AVal.ptr (some p2)),(22,AVal.ptr (some p)),(21,AVal.int IntKind.i64 (↑i:Int)),(20,AVal.slice ko n kc),(8,AVal.int IntKind.i64 (↑i:Int)),(19,AVal.int IntKind.i64 (↑i:Int)),(18,AVal.bool true),(0,rv),(1,hv),(2,AVal.slice ko n kc),(7,AVal.slice (some ⟨oq,ovr,0,0,1⟩) m m),(16,AVal.int IntKind.i64 (↑n:Int)),(17,AVal.int IntKind.i64 (↑i:Int))]) (AHeap.mk (AHeap.next H+23) (H.2)) (Op.fieldAddr 48 (Operand.tmp 36) 1)=some (AVal.ptr (some p1),(AHeap.mk (AHeap.next H+23) (H.2)))∧aload (AEnv.D env) 4 p1 (AHeap.mk (AHeap.next H+23) (H.2))=some dv∧AAddr.id p1<AHeap.next H+8∧CallT Tryz.prog cnd 32 [AVal.int IntKind.i64 k,dv] (AHeap.mk (AHeap.next H+23) (H.2)) fv H1∧aop env noCall (AHeap.next H+20) (getF [(39,fv),(38,dv),(37,AVal.ptr (some p1)),(36,AVal.ptr (some p)),(35,AVal.int IntKind.i64 (↑i:Int)),(34,AVal.slice ko n kc),(33,AVal.int IntKind.i64 k),(32,AVal.ptr (some p0)),(31,AVal.ptr (some p)),(30,AVal.int IntKind.i64 (↑i:Int)),(29,AVal.slice ko n kc),(28,AVal.slice (some ⟨oq,ovr,0,0,1⟩) m m),(24,AVal.bool false),(23,AVal.ptr (some p2)),(22,AVal.ptr (some p)),(21,AVal.int IntKind.i64 (↑i:Int)),(20,AVal.slice ko n kc),(8,AVal.int IntKind.i64 (↑i:Int)),(19,AVal.int IntKind.i64 (↑i:Int)),(18,AVal.bool true),(0,rv),(1,hv),(2,AVal.slice ko n kc),(7,AVal.slice (some ⟨oq,ovr,0,0,1⟩) m m),(16,AVal.int IntKind.i64 (↑n:Int)),(17,AVal.int IntKind.i64 (↑i:Int))]) H1 (Op.buildSlice 46 1 {toList:= [(0,Operand.tmp 39)]})=some (AVal.slice (some ⟨q,0,0,0,1⟩) 1 1,H2)∧abuiltin env Builtin.append {toList:= [46,46]} [AVal.slice (some ⟨oq,ovr,0,0,1⟩) m m,AVal.slice (some ⟨q,0,0,0,1⟩) 1 1] (AHeap.next H+21) H2=some (ov2,H3)∧(oq<AHeap.next H+8∨AHeap.next H+23≤oq∨oq=AHeap.next H+20)∧(q<AHeap.next H+8∨AHeap.next H+23≤q∨q=AHeap.next H+20)∧bif Nat.ble B (AHeap.next H3) && true then(-9223372036854775808≤(↑i:Int)+1∧(↑i:Int)+1≤9223372036854775807)∧K0 AExit.normal [(0,rv),(1,hv),(2,AVal.slice ko n kc),(7,ov2),(16,AVal.int IntKind.i64 (↑n:Int)),(17,AVal.int IntKind.i64 ((↑i:Int)+1))] (AHeap.mk (AHeap.next H3+2) (AHeap.blks H3))else False else False else False else False else False) :
    ∃ e F1 h1,Runs Tryz.prog cnd B 105 (loopAt Tryz.prog 7 0) [(0,rv),(1,hv),(2,.slice ko n kc),(7,.slice (some ⟨oq,ovr,0,0,1⟩) m m),(16,.int .i64 n),(17,.int .i64 i)] H e F1 h1∧K0 e F1 h1 :=
  tpath_runs env_ok mixed noSpecs_ok (hs:= .hint (.val 3000 (AVal.bool true)) (.hint (.val 5002 (AVal.ptr (some p))) (.hint (.val 5003 (AVal.ptr (some p2))) (.hint (.val 5004 (AVal.bool false)) (.hint (.val 7003 (AVal.ptr (some p))) (.hint (.val 7004 (AVal.ptr (some p0))) (.hint (.farV 7005 (AVal.int IntKind.i64 k)) (.hint (.val 7008 (AVal.ptr (some p))) (.hint (.val 7009 (AVal.ptr (some p1))) (.hint (.farV 7010 dv) (.hint (.act 7011 fv fun x=>H1) (.hint (.act 7012 (AVal.slice (some ⟨q,0,0,0,1⟩) 1 1) fun x=>H2) (.hint (.near 7013 ov2 (fun x=>H3) 12) (.hint (.go 8000) .nil)))))))))))))) (keep:= [0,1,2,7,16,17]) (by kernel_rfl) vc
theorem tsE_vp(H:AHeap)(B n kc i:Nat)(ko:Option AAddr)(rv hv ov:AVal)(K0:AExit→Facts→AHeap→Prop)(vc:bif Nat.ble B (AHeap.next H) && true then some (AVal.bool (decide ((↑i:Int)<(↑n:Int))))=some (AVal.bool false)∧K0 (AExit.exit 0) [(0,rv),(1,hv),(2,AVal.slice ko n kc),(7,ov),(16,AVal.int IntKind.i64 (↑n:Int)),(17,AVal.int IntKind.i64 (↑i:Int))] (AHeap.mk (AHeap.next H+1) (AHeap.blks H))else False) :
    ∃ e F1 h1,Runs Tryz.prog cnd B 105 (loopAt Tryz.prog 7 0) [(0,rv),(1,hv),(2,.slice ko n kc),(7,ov),(16,.int .i64 n),(17,.int .i64 i)] H e F1 h1∧K0 e F1 h1 :=
  tpath_runs env_ok mixed noSpecs_ok (hs:= .hint (.val 3000 (AVal.bool false)) .nil) (keep:= [0,1,2,7,16,17]) (by kernel_rfl) vc
theorem tsT_vc(H H1 H2 H3 H4 H5 H6 H7 H8 H9 H10 H11 H12 H13 H14:AHeap)(n kc:Nat)(ko:Option AAddr)(rv ov vw vm lv va vb vo:AVal)(K0:AVal→AHeap→Prop)(vc:bif Nat.ble (AHeap.next H) (AHeap.next H) && true then bif Nat.ble (AHeap.next H) (AHeap.next H+1) && true then bif Nat.ble (AHeap.next H) (AHeap.next H+2) && true then Runs Tryz.prog cnd (AHeap.next H) 105 (Code.loop (loopAt Tryz.prog 7 0)) [(0,rv),(1,AVal.bool true),(2,AVal.slice ko n kc),(7,AVal.slice none 0 0),(16,AVal.int IntKind.i64 (↑n:Int)),(17,AVal.int IntKind.i64 (0))] (AHeap.mk (AHeap.next H+2+3) (AHeap.blks (AHeap.mk (AHeap.next H+1+1) (AHeap.blks (AHeap.mk (AHeap.next H+1) (AHeap.blks H)))))) (AExit.exit 0) [(0,rv),(1,AVal.bool true),(2,AVal.slice ko n kc),(7,ov)] H1∧bif Nat.ble (AHeap.next H) (AHeap.next H1) && true then CallT Tryz.prog cnd 34 [rv,AVal.bool true,AVal.slice ko n kc] (AHeap.mk (AHeap.next H1+5) (H1.2)) vw H2∧bif Nat.ble (AHeap.next H) (AHeap.next H2) && true then CallT Tryz.prog cnd 34 [rv,AVal.bool false,AVal.slice ko n kc] (AHeap.mk (AHeap.next H2+6) (H2.2)) vm H3∧bif Nat.ble (AHeap.next H) (AHeap.next H3) && true then CallT Tryz.prog cnd 20 [rv] (AHeap.mk (AHeap.next H3+3) (H3.2)) lv H4∧bif Nat.ble (AHeap.next H) (AHeap.next H4) && true then CallT Tryz.prog cnd 35 [lv,AVal.bool true,ov] (AHeap.mk (AHeap.next H4+5) (H4.2)) va H5∧bif Nat.ble (AHeap.next H) (AHeap.next H5) && true then CallT Tryz.prog cnd 35 [lv,AVal.bool true,ov] (AHeap.mk (AHeap.next H5+5) (H5.2)) vb H6∧bif Nat.ble (AHeap.next H) (AHeap.next H6) && true then CallT Tryz.prog cnd 35 [lv,AVal.bool false,ov] (AHeap.mk (AHeap.next H6+6) (H6.2)) vo H7∧bif Nat.ble (AHeap.next H) (AHeap.next H7) && true then CallT Tryz.prog cnd 16 [va,vw] (AHeap.mk (AHeap.next H7+22) (H7.2)) (AVal.bool true) H8∧CallT Tryz.prog cnd 16 [vb,vw] H8 (AVal.bool true) H9∧CallT Tryz.prog cnd 16 [vo,vm] H9 (AVal.bool true) H10∧CallT Tryz.prog cnd 24 [lv,rv] H10 (AVal.bool true) H11∧Agree [va,vw] [vb,vw] (AHeap.mk (AHeap.next H7+22) (H7.2)) H8 (AVal.bool true) (AVal.bool true) H8 H9∧Agree [va,vw] [vo,vm] (AHeap.mk (AHeap.next H7+22) (H7.2)) H9 (AVal.bool true) (AVal.bool true) H8 H10∧Agree [vb,vw] [vo,vm] H8 H9 (AVal.bool true) (AVal.bool true) H9 H10∧bif Nat.ble (AHeap.next H) (AHeap.next H11) && true then CallT Tryz.prog cnd 17 [va,vo] (AHeap.mk (AHeap.next H11+17) (H11.2)) (AVal.bool true) H12∧CallT Tryz.prog cnd 16 [vb,vw] H12 (AVal.bool true) H13∧CallT Tryz.prog cnd 24 [lv,rv] H13 (AVal.bool true) H14∧bif Nat.ble (AHeap.next H) (AHeap.next H14)then K0 (AVal.bool true) H14 else False else False else False else False else False else False else False else False else False else False else False else False) :
    ∃ v h1,FDoes Tryz.prog cnd 7 [rv,.bool true,.slice ko n kc] H v h1∧K0 v h1 :=
  tcall_does env_ok mixed specsW_ok (hs:= .hint (.keep [0,1,2,7,16,17]) (.hint (.loop [(0,rv),(1,AVal.bool true),(2,AVal.slice ko n kc),(7,ov)] H1 (AExit.exit 0)) (.hint (.act 9003 vw fun x=>H2) (.hint (.act 10004 vm fun x=>H3) (.hint (.act 11001 lv fun x=>H4) (.hint (.act 12003 va fun x=>H5) (.hint (.act 13003 vb fun x=>H6) (.hint (.act 14004 vo fun x=>H7) (.hint (.act 15002 (AVal.bool true) fun x=>H8) (.hint (.act 15007 (AVal.bool true) fun x=>H9) (.hint (.act 15013 (AVal.bool true) fun x=>H10) (.hint (.act 15019 (AVal.bool true) fun x=>H11) (.hint (.act 17002 (AVal.bool true) fun x=>H12) (.hint (.act 17006 (AVal.bool true) fun x=>H13) (.hint (.act 17011 (AVal.bool true) fun x=>H14) .nil))))))))))))))) (by kernel_rfl) vc
theorem tsF_vc(H H1 H2 H3 H4 H5 H6 H7 H8 H9 H10 H11 H12 H13 H14:AHeap)(n kc:Nat)(ko:Option AAddr)(rv ov vw vm lv va vb vo:AVal)(K0:AVal→AHeap→Prop)(vc:bif Nat.ble (AHeap.next H) (AHeap.next H) && true then bif Nat.ble (AHeap.next H) (AHeap.next H+1) && true then bif Nat.ble (AHeap.next H) (AHeap.next H+2) && true then Runs Tryz.prog cnd (AHeap.next H) 105 (Code.loop (loopAt Tryz.prog 7 0)) [(0,rv),(1,AVal.bool false),(2,AVal.slice ko n kc),(7,AVal.slice none 0 0),(16,AVal.int IntKind.i64 (↑n:Int)),(17,AVal.int IntKind.i64 (0))] (AHeap.mk (AHeap.next H+2+3) (AHeap.blks (AHeap.mk (AHeap.next H+1+1) (AHeap.blks (AHeap.mk (AHeap.next H+1) (AHeap.blks H)))))) (AExit.exit 0) [(0,rv),(1,AVal.bool false),(2,AVal.slice ko n kc),(7,ov)] H1∧bif Nat.ble (AHeap.next H) (AHeap.next H1) && true then CallT Tryz.prog cnd 34 [rv,AVal.bool false,AVal.slice ko n kc] (AHeap.mk (AHeap.next H1+5) (H1.2)) vw H2∧bif Nat.ble (AHeap.next H) (AHeap.next H2) && true then CallT Tryz.prog cnd 34 [rv,AVal.bool true,AVal.slice ko n kc] (AHeap.mk (AHeap.next H2+6) (H2.2)) vm H3∧bif Nat.ble (AHeap.next H) (AHeap.next H3) && true then CallT Tryz.prog cnd 20 [rv] (AHeap.mk (AHeap.next H3+3) (H3.2)) lv H4∧bif Nat.ble (AHeap.next H) (AHeap.next H4) && true then CallT Tryz.prog cnd 35 [lv,AVal.bool false,ov] (AHeap.mk (AHeap.next H4+5) (H4.2)) va H5∧bif Nat.ble (AHeap.next H) (AHeap.next H5) && true then CallT Tryz.prog cnd 35 [lv,AVal.bool false,ov] (AHeap.mk (AHeap.next H5+5) (H5.2)) vb H6∧bif Nat.ble (AHeap.next H) (AHeap.next H6) && true then CallT Tryz.prog cnd 35 [lv,AVal.bool true,ov] (AHeap.mk (AHeap.next H6+6) (H6.2)) vo H7∧bif Nat.ble (AHeap.next H) (AHeap.next H7) && true then CallT Tryz.prog cnd 16 [va,vw] (AHeap.mk (AHeap.next H7+22) (H7.2)) (AVal.bool true) H8∧CallT Tryz.prog cnd 16 [vb,vw] H8 (AVal.bool true) H9∧CallT Tryz.prog cnd 16 [vo,vm] H9 (AVal.bool true) H10∧CallT Tryz.prog cnd 24 [lv,rv] H10 (AVal.bool true) H11∧Agree [va,vw] [vb,vw] (AHeap.mk (AHeap.next H7+22) (H7.2)) H8 (AVal.bool true) (AVal.bool true) H8 H9∧Agree [va,vw] [vo,vm] (AHeap.mk (AHeap.next H7+22) (H7.2)) H9 (AVal.bool true) (AVal.bool true) H8 H10∧Agree [vb,vw] [vo,vm] H8 H9 (AVal.bool true) (AVal.bool true) H9 H10∧bif Nat.ble (AHeap.next H) (AHeap.next H11) && true then CallT Tryz.prog cnd 17 [va,vo] (AHeap.mk (AHeap.next H11+17) (H11.2)) (AVal.bool true) H12∧CallT Tryz.prog cnd 16 [vb,vw] H12 (AVal.bool true) H13∧CallT Tryz.prog cnd 24 [lv,rv] H13 (AVal.bool true) H14∧bif Nat.ble (AHeap.next H) (AHeap.next H14)then K0 (AVal.bool true) H14 else False else False else False else False else False else False else False else False else False else False else False else False) :
    ∃ v h1,FDoes Tryz.prog cnd 7 [rv,.bool false,.slice ko n kc] H v h1∧K0 v h1 :=
  tcall_does env_ok mixed specsW_ok (hs:= .hint (.keep [0,1,2,7,16,17]) (.hint (.loop [(0,rv),(1,AVal.bool false),(2,AVal.slice ko n kc),(7,ov)] H1 (AExit.exit 0)) (.hint (.act 9003 vw fun x=>H2) (.hint (.act 10004 vm fun x=>H3) (.hint (.act 11001 lv fun x=>H4) (.hint (.act 12003 va fun x=>H5) (.hint (.act 13003 vb fun x=>H6) (.hint (.act 14004 vo fun x=>H7) (.hint (.act 15002 (AVal.bool true) fun x=>H8) (.hint (.act 15007 (AVal.bool true) fun x=>H9) (.hint (.act 15013 (AVal.bool true) fun x=>H10) (.hint (.act 15019 (AVal.bool true) fun x=>H11) (.hint (.act 17002 (AVal.bool true) fun x=>H12) (.hint (.act 17006 (AVal.bool true) fun x=>H13) (.hint (.act 17011 (AVal.bool true) fun x=>H14) .nil))))))))))))))) (by kernel_rfl) vc
end Go.Proofs.YtjpfnbihopoeeaaGreatDoor
namespace Go.Proofs.YtjpfnbihopoeeaaGreatDoor
open Go.Lift
set_option maxRecDepth 1000000
theorem build1N {F:Facts}{nid:Nat}{H:AHeap} :aop env noCall nid (getF F) H (Op.buildSlice 46 1 {toList:= [(0,Operand.const Value.nilFunc)]})=some (.slice (some ⟨nid,0,0,0,1⟩) 1 1,H.set nid (ABlk.made [.nilFunc] 1 true)):=by
  have:aop env noCall nid (getF F) H (Op.buildSlice 46 1 {toList:= [(0,Operand.const Value.nilFunc)]})=abuildSlice (AEnv.D env) 46 1 [(0,.nilFunc)] nid H:=rfl
  exact this.trans (by kernel_rfl)
theorem KeyAt.fr {H H':AHeap}{E:Nat}{x:AVal}{key:Key}{L:List Nat}(h:KeyAt H E x key)(m:Fr H H' L)(hp: ∀ p q,x=byV p q→p ∉ L∧q ∉ L):KeyAt H' E x key:=by
  refine⟨?_,h.lt⟩
  have hv:=h.v
  match key,hv with
  | none,hv=>exact hv
  | some (k,d),⟨p,q,e,h1,h2,h3,h4⟩ =>
    obtain⟨l1,l2⟩:=hp p q e
    exact⟨p,q,e,Nat.lt_of_lt_of_le h1 m.next,Nat.lt_of_lt_of_le h2 m.next,aload_at h3 (m.get p h1 l1),aload_at h4 (m.get q h2 l2)⟩
def KsAt(H:AHeap)(oq:Nat)(xs:List AVal)(ks:List K3):Prop:= ∀ j (h1:j<xs.length) (h2:j<ks.length),KeyAt H H.next xs[j] (keyOf ks[j])∧ ∀ p q,xs[j]=byV p q→p≠oq∧q≠oq
theorem KsAt.push {H H':AHeap}{oq oq':Nat}{xs:List AVal}{ks:List K3}{x:AVal}(h:KsAt H oq xs ks)(m:Fr H H' [oq'])(ho:oq'=oq∨H.next≤oq')(hx: ∀ h2:xs.length<ks.length,KeyAt H' H'.next x (keyOf ks[xs.length]))(hp: ∀ p q,x=byV p q→p≠oq'∧q≠oq'):KsAt H' oq' (xs++ [x]) ks:=by
  intro j h1 h2
  by_cases hj:j<xs.length
  · rw [List.getElem_append_left hj]
    obtain⟨k1,k2⟩:=h j hj h2
    have k3: ∀ p q,xs[j]=byV p q→p≠oq'∧q≠oq':=fun p q e=>by
      have:=k2 p q e
      have:=k1.lt p q e
      rcases ho with rfl | ho
      · omega
      · omega
    exact⟨(k1.fr m fun p q e=>by have:=k3 p q e;simp;omega).wide m.next,k3⟩
  · have hj':j=xs.length:=by rw [List.length_append]at h1;simp at h1;omega
    subst hj'
    rw [List.getElem_append_right (Nat.le_refl _)]
    simp only [Nat.sub_self,List.getElem_cons_zero]
    exact⟨hx h2,hp⟩
abbrev tsF(rv hv:AVal)(ko:Option AAddr)(n kc:Nat)(ov:AVal)(i:Nat):Facts:= [(0,rv),(1,hv),(2,.slice ko n kc),(7,ov),(16,.int .i64 (n:Nat)),(17,.int .i64 (i:Nat))]
theorem Kd.low {H H':AHeap}{E q:Nat}{v:AVal}{ks:List K3}(h:Kd H q v ks)(m:Low E H H')(hq:q<E):Kd H' q v ks:=by
  obtain⟨o,c,e,k⟩:=h
  exact⟨o,c,e,k.imp_right fun⟨ver,off,b,k1,k2,k3,k4⟩=>⟨ver,off,b,k1,Nat.lt_of_lt_of_le k2 m.1,(m.2 q hq).trans k3,k4⟩⟩
theorem Low.trans {E:Nat}{H H1 H2:AHeap}(a:Low E H H1)(b:Low E H1 H2):Low E H H2:=⟨Nat.le_trans a.1 b.1,fun x hx=>(b.2 x hx).trans (a.2 x hx)⟩
theorem Fr.lowE {E:Nat}{H H':AHeap}{L:List Nat}(m:Fr H H' L)(hE:E≤H.next)(hL: ∀ x∈L,E≤x):Low E H H':=⟨m.next,fun x hx=>m.get x (by omega) fun k=>by have:=hL x k;omega⟩
theorem or_loop {B B0 n kc qk:Nat} {ko:Option AAddr} {rv hv:AVal} {ks:List K3} (hn:n=ks.length) (hnl:n<2^40) (hqk:qk<B0) (hBB:B≤B0): ∀ (f i:Nat) (H:AHeap) (oq:Nat) (ov:AVal) (xs:List AVal),i+f=n→B0≤H.next→Kd H qk (.slice ko n kc) ks→Rw H 41 oq ov xs→(xs= []∧ov=nilv∨xs≠ []∧B0≤oq)→xs.length=i→KsAt H oq xs ks →
    ∃ H' oq' ov' xs',Loops Tryz.prog cnd B 105 (loopAt Tryz.prog 7 0) (tsF rv hv ko n kc ov i) H (.exit 0) [(0,rv),(1,hv),(2,.slice ko n kc),(7,ov')] H'∧Rw H' 41 oq' ov' xs'∧xs'.length=n∧KsAt H' oq' xs' ks∧Low B0 H H':=by
  intro f
  induction f with
  | zero =>
    intro i H oq ov xs hi hB kd w ow hx kx
    obtain rfl:i=n:=by omega
    obtain⟨e,F1,h1,hr,rfl,rfl,rfl⟩:=tsE_vp H B i kc i ko rv hv ov (fun e F1 h1=>e= .exit 0∧F1=tsF rv hv ko i kc ov i∧h1=up H 1) (bifL (by omega) ⟨boolF (by omega),rfl,rfl,rfl⟩)
    exact⟨up H 1,oq,ov,xs,(Loops.last (by simp) hr).post (Ent.facts (fle [0,1,2,7] (by kernel_rfl))),w.fr (Fr.up H 1 []) (by simp),hx,fun j h1 h2=>⟨((kx j h1 h2).1.fr (Fr.up H 1 []) (by simp)).wide (by show H.next≤H.next+1;omega),(kx j h1 h2).2⟩,by show H.next≤H.next+1;omega,fun _ _=>rfl⟩
  | succ f ih =>
    intro i H oq ov xs hi hB kd w ow hx kx
    have h1:i<ks.length:=by omega
    obtain⟨p,p0,p1,p2,i0,i1,i2,pa,fa0,fa1,fa2,l0,l1,l2⟩:=kd.at h1
    have hoq:xs≠ []→oq<H.next:=fun hne=>by
      rcases w with ⟨e,_⟩ | ⟨b,_,h,_⟩
      · exact absurd e hne
      · exact h
    have own: ∀ {oq2 nid:Nat},H.next≤nid→(oq2=oq∨oq2=nid)→(xs= []→ov=nilv→oq2=nid)→B0≤oq2∧(oq2=oq∨H.next≤oq2):=fun {oq2 nid} hnid hor hz=>by
      rcases ow with ⟨e1,e2⟩ | ⟨e1,e2⟩
      · have:=hz e1 e2;omega
      · rcases hor with h | h<;>omega
    cases hnn:ks[i].2.2 with
    | true =>
      rw [hnn]at l2
      have hk:keyOf ks[i]=none:=by unfold keyOf;rw [if_pos hnn]
      let A:AHeap:=up H 12
      let H1:AHeap:=A.set (H.next+9) (ABlk.made [.nilFunc] 1 true)
      have f1:Fr H H1 []:=(Fr.up H 12 []).more (Fr.set (L:= [H.next+9]) A _ _ (by simp)) (by intro x hx;simp at hx;omega)
      obtain⟨v2,H2,oq2,e2,w2,c2,z2,f2,n2⟩:=(w.fr f1 (by simp)).apps (nid:=H.next+10) (new:= [.nilFunc]) elF (by decide) (one_elem A (H.next+9) .nilFunc) (by show H.next+10<H.next+12;omega) (by simp;omega)
      obtain⟨o1,o2⟩:=own (by omega) c2 z2
      have n2:H2.next=H.next+12:=n2
      have fE:Fr H2 (up H2 2) []:=Fr.up H2 2 []
      have fall:Fr H (up H2 2) [oq2]:=((f1.sub (M:= [oq2]) (by simp)).trans f2 (fun x hx _=>hx)).trans fE (by simp)
      have low:Low B0 H (up H2 2):=fall.lowE hB (by simpa using o1)
      obtain⟨H',oq',ov',xs',L,r1,r2,r3,r4⟩:=ih (i+1) (up H2 2) oq2 v2 (xs++ [.nilFunc]) (by omega) (by show B0≤H2.next+2;omega) (kd.low low hqk) (w2.fr fE (by simp)) (.inr ⟨by simp,o1⟩) (by simp [hx])
        (kx.push fall o2 (fun h2=>by
          have e:ks[xs.length]=ks[i]:=by simp only [hx]
          rw [e,hk]
          exact⟨rfl,fun p q e=>by cases e⟩) (fun p q e=>by cases e))
      obtain⟨e,F1,h1',hr,rfl,rfl,rfl⟩:=tsN_vp H H1 H2 B n kc i (H.next+9) ko rv hv ov v2 p p2 (fun e F1 h1=>e= .normal∧F1=tsF rv hv ko n kc v2 (i+1)∧h1=up H2 2)
        (bifL (by omega) ⟨boolT (by omega),bifL (by omega) (bifL (by omega) ⟨pa,fa2 _ _ _ _ rfl,l2 _,bifL (by omega) ⟨build1N,e2,bifL (by omega) ⟨⟨by omega,by omega⟩,rfl,by rw [succI],rfl⟩⟩⟩)⟩)
      exact⟨H',oq',ov',xs',Loops.round hr (Ent.refl _ _ _ _) L,r1,r2,r3,low.trans r4⟩
    | false =>
      rw [hnn]at l2
      have hk:keyOf ks[i]=some (ks[i].1,ks[i].2.1):=by unfold keyOf;rw [if_neg (by rw [hnn];simp)]
      obtain⟨bp,bq,H1,D,kx1,f1,n1,gp,gq⟩:=byM_does ks[i].1 ks[i].2.1 (up H 23)
      have n1:H1.next=H.next+28:=n1
      have gp:H.next+23≤bp:=gp
      have gq:H.next+23≤bq:=gq
      have f01:Fr H H1 []:=(Fr.up H 23 []).more f1 (by simp)
      let H2:AHeap:=H1.set (H.next+20) (ABlk.made [byV bp bq] 1 true)
      have f12:Fr H1 H2 [H.next+20]:=Fr.set _ _ _ fun _=>by simp
      have f02:Fr H H2 []:=f01.more f12 (by intro x hx;simp at hx;omega)
      obtain⟨v2,H3,oq2,e2,w2,c2,z2,f2,n2⟩:=(w.fr f02 (by simp)).apps (nid:=H.next+21) (new:= [byV bp bq]) elF (by decide) (one_elem H1 (H.next+20) (byV bp bq)) (by show H.next+21<H1.next;omega) (by simp;omega)
      obtain⟨o1,o2⟩:=own (by omega) c2 z2
      have n2:H3.next=H.next+28:=n2.trans n1
      have fE:Fr H3 (up H3 2) []:=Fr.up H3 2 []
      have f24:Fr H2 (up H3 2) [oq2]:=f2.trans fE (by simp)
      have fall:Fr H (up H3 2) [oq2]:=(f02.sub (M:= [oq2]) (by simp)).trans f24 (fun x hx _=>hx)
      have low:Low B0 H (up H3 2):=fall.lowE hB (by simpa using o1)
      have hne:bp≠oq2∧bq≠oq2:=by
        rcases c2 with c | c
        · by_cases hz:xs= []
          · rcases ow with ⟨_,e⟩ | ⟨e,_⟩
            · have:=z2 hz e;omega
            · exact absurd hz e
          · have:=hoq hz;omega
        · omega
      have inj: ∀ p q,byV bp bq=byV p q→p=bp∧q=bq:=fun p q e=>by
        simp only [AVal.func.injEq,List.cons.injEq,AVal.ptr.injEq,Option.some.injEq,AAddr.mk.injEq]at e
        omega
      have kx3:KeyAt (up H3 2) (up H3 2).next (byV bp bq) (some (ks[i].1,ks[i].2.1)):=by
        have k1:=kx1.fr f12 (fun p q e=>by have:=inj p q e;simp;omega)
        have k2:=k1.fr f24 (fun p q e=>by have:=inj p q e;simp;omega)
        exact k2.wide (by show H1.next≤H3.next+2;omega)
      obtain⟨H',oq',ov',xs',L,r1,r2,r3,r4⟩:=ih (i+1) (up H3 2) oq2 v2 (xs++ [byV bp bq]) (by omega) (by show B0≤H3.next+2;omega) (kd.low low hqk) (w2.fr fE (by simp)) (.inr ⟨by simp,o1⟩) (by simp [hx])
        (kx.push fall o2 (fun h2=>by
          have e:ks[xs.length]=ks[i]:=by simp only [hx]
          rw [e,hk]
          exact kx3) (fun p q e=>by have:=inj p q e;omega))
      have fin: ∃ e F1 h1,Runs Tryz.prog cnd B 105 (loopAt Tryz.prog 7 0) (tsF rv hv ko n kc ov i) H e F1 h1∧e= .normal∧F1=tsF rv hv ko n kc v2 (i+1)∧h1=up H3 2:=by
        rcases w with ⟨e1,e2'⟩ | ⟨b,e1,w1,_⟩
        · subst e2'
          exact tsS0_vp H H1 H2 H3 B n kc i (H.next+20) ko rv hv v2 (.bool ks[i].2.1) (byV bp bq) p p0 p1 p2 ks[i].1 (fun e F1 h1=>e= .normal∧F1=tsF rv hv ko n kc v2 (i+1)∧h1=up H3 2)
            (bifL (by omega) ⟨boolT (by omega),bifL (by omega) (bifL (by omega) ⟨pa,fa2 _ _ _ _ rfl,l2 _,bifL (by omega) ⟨pa,fa0 _ _ _ _ rfl,l0 _,by omega,pa,fa1 _ _ _ _ rfl,l1 _,by omega,⟨D⟩,build1F rfl rfl,e2,.inr (.inr rfl),bifL (by omega) ⟨⟨by omega,by omega⟩,rfl,by rw [succI],rfl⟩⟩⟩)⟩)
        · subst e1
          exact tsS1_vp H H1 H2 H3 B n kc i (H.next+20) oq b.ver xs.length ko rv hv v2 (.bool ks[i].2.1) (byV bp bq) p p0 p1 p2 ks[i].1 (fun e F1 h1=>e= .normal∧F1=tsF rv hv ko n kc v2 (i+1)∧h1=up H3 2)
            (bifL (by omega) ⟨boolT (by omega),bifL (by omega) (bifL (by omega) ⟨pa,fa2 _ _ _ _ rfl,l2 _,bifL (by omega) ⟨pa,fa0 _ _ _ _ rfl,l0 _,by omega,pa,fa1 _ _ _ _ rfl,l1 _,by omega,⟨D⟩,build1F rfl rfl,e2,.inl (by omega),.inr (.inr rfl),bifL (by omega) ⟨⟨by omega,by omega⟩,rfl,by rw [succI],rfl⟩⟩⟩)⟩)
      obtain⟨e,F1,h1',hr,rfl,rfl,rfl⟩:=fin
      exact⟨H',oq',ov',xs',Loops.round hr (Ent.refl _ _ _ _) L,r1,r2,r3,low.trans r4⟩
end Go.Proofs.YtjpfnbihopoeeaaGreatDoor
namespace Go.Proofs.YtjpfnbihopoeeaaGreatDoor
open Go.Lift
set_option maxRecDepth 1000000
def insT(less:Nat→Nat→Bool):Nat→List Nat
  | 0=> []
  | k+1=>(insT less k).take (posD (fun j=>less k ((insT less k).getD j 0)) 0 (insT less k).length)++k::(insT less k).drop (posD (fun j=>less k ((insT less k).getD j 0)) 0 (insT less k).length)
theorem posD_spec(lt:Nat→Bool): ∀ m,(∀ j,posD lt 0 m≤j→j<m→lt j=true)∧(0<posD lt 0 m→lt (posD lt 0 m-1)=false)
  | 0=>⟨fun j _ h=>absurd h (by omega),fun h=>absurd h (by simp [posD])⟩
  | t +1=>by
    obtain⟨h1,h2⟩:=posD_spec lt t
    by_cases c:lt t=true
    · rw [posD,if_pos ⟨Nat.zero_le _,c⟩]
      refine⟨fun j hj hm=> ?_,h2⟩
      by_cases e:j=t
      · rw [e];exact c
      · exact h1 j hj (by omega)
    · rw [posD,if_neg (fun h=>c h.2)]
      exact⟨fun j hj hm=>absurd hm (by omega),fun _=>by simpa using c⟩
theorem posD_shift {lt lt':Nat→Bool}{fx:Nat} : ∀ m,(∀ j,j<m→lt (fx+j)=lt' j)→posD lt fx (fx+m)=fx+posD lt' 0 m
  | 0,_=>by
    cases fx with
    | zero=>rfl
    | succ f =>
      show(if f+1≤f∧lt f=true then posD lt (f+1) f else f+1)=f+1+0
      rw [if_neg (by omega)]
  | m +1,h=>by
    have ih:=posD_shift m (fun j hj=>h j (by omega))
    have e:=h m (by omega)
    by_cases c:lt' m=true
    · rw [← Nat.add_assoc,posD,if_pos ⟨by omega,by rw [e];exact c⟩,ih]
      rw [posD,if_pos ⟨Nat.zero_le _,c⟩]
    · rw [← Nat.add_assoc,posD,if_neg (by rw [e];exact fun h=>c h.2)]
      rw [posD,if_neg (fun h=>c h.2)]
      omega
theorem ins_perm(T:List Nat)(x s:Nat):(T.take s++x::T.drop s).Perm (T++ [x]):=by
  refine List.perm_middle.trans ?_
  rw [List.take_append_drop]
  exact(List.perm_append_comm (l₁:= [x]) (l₂:=T))
theorem pw_ins {less:Nat→Nat→Bool}(w:Weak less){T:List Nat}{x s:Nat}(hs:s≤T.length)(pw:T.Pairwise (Lt less))(hlt: ∀ y∈T,y<x)(h1: ∀ j (h:j<T.length),s≤j→less x T[j]=true)(h2:0<s→less x (T.getD (s-1) 0)=false):(T.take s++x::T.drop s).Pairwise (Lt less):=by
  have pw':=pw
  rw [← List.take_append_drop s T,List.pairwise_append]at pw'
  obtain⟨p1,p2,p3⟩:=pw'
  have hd: ∀ y∈T.drop s,Lt less x y:=fun y hy=>by
    obtain⟨j,hj,rfl⟩:=List.mem_iff_getElem.1 hy
    rw [List.getElem_drop]
    exact .inl (h1 _ _ (by omega))
  have ht: ∀ y∈T.take s,Lt less y x:=fun y hy=>by
    obtain⟨j,hj,rfl⟩:=List.mem_iff_getElem.1 hy
    rw [List.getElem_take]
    have hjs:j<s:=by rw [List.length_take]at hj;omega
    have hl:s-1<T.length:=by omega
    have last:Lt less T[s-1] x:= .inr ⟨by
      have:=h2 (by omega)
      simpa [List.getD,hl]using this,hlt _ (List.getElem_mem hl)⟩
    by_cases e:j=s-1
    · simp only [e];exact last
    · exact Lt.trans w ((List.pairwise_iff_getElem.1 pw) j (s-1) (by omega) hl (by omega)) last
  rw [List.pairwise_append]
  refine⟨p1,List.pairwise_cons.2 ⟨hd,p2⟩,fun a ha b hb=> ?_⟩
  rcases List.mem_cons.1 hb with rfl | hb
  · exact ht a ha
  · exact p3 a ha b hb
theorem insT_perm(less:Nat→Nat→Bool): ∀ k,(insT less k).Perm (List.range k)
  | 0=> .refl _
  | k+1=>by
    unfold insT
    refine(ins_perm _ _ _).trans ?_
    rw [List.range_succ]
    exact(insT_perm less k).append_right _
theorem insT_len(less:Nat→Nat→Bool)(k:Nat):(insT less k).length=k:=by
  have:=(insT_perm less k).length_eq
  simpa using this
theorem insT_pw {less:Nat→Nat→Bool}(w:Weak less): ∀ k,(insT less k).Pairwise (Lt less)
  | 0=> .nil
  | k +1=>by
    have ih:=insT_pw w k
    obtain⟨s1,s2⟩:=posD_spec (fun j=>less k ((insT less k).getD j 0)) (insT less k).length
    have hle:=posD_le (fun j=>less k ((insT less k).getD j 0)) 0 (insT less k).length
    unfold insT
    refine pw_ins w hle ih (fun y hy=> ?_) (fun j h hj=> ?_) s2
    · exact List.mem_range.1 ((insT_perm less k).mem_iff.1 hy)
    · have:=s1 j hj h
      simpa [List.getD,h]using this
theorem sorted_one {less:Nat→Nat→Bool}(w:Weak less){n:Nat}{σ:Nat→Nat}(h1:Same (fun k=>k) σ 0 n)(h2:Srt less σ 0 n):(List.range n).map σ=insT less n:=by
  have p:=h1.perm
  rw [Nat.sub_zero,← List.range_eq_range']at p
  have p:((List.range n).map σ).Perm (List.range n):=by simpa using p
  refine List.Perm.eq_of_pairwise (le:=Lt less) (fun a b _ _ hab hba=> ?_) ?_ (insT_pw w n) (p.trans (insT_perm less n).symm)
  · rcases hab with h | ⟨h,h'⟩
    · have:=Lt.le w hba
      rw [h]at this;cases this
    · rcases hba with k | ⟨_,k'⟩
      · rw [h]at k;cases k
      · omega
  · rw [List.pairwise_iff_getElem]
    intro i j hi hj hij
    simp only [List.getElem_map,List.getElem_range]
    exact h2 i j (Nat.zero_le _) hij (by simpa using hj)
theorem take_two {α:Type}{A B:List α}{n s:Nat}(h:A.length=n):(A++B).take (n+s)=A++B.take s:=by
  subst h
  rw [List.take_append,List.take_of_length_le (by omega),Nat.add_sub_cancel_left]
theorem drop_two {α:Type}{A B:List α}{n s:Nat}(h:A.length=n):(A++B).drop (n+s)=B.drop s:=by
  subst h
  rw [List.drop_append,List.drop_of_length_le (by omega),List.nil_append,Nat.add_sub_cancel_left]
theorem docS_head(ks:List Key)(fx:Nat)(rs:List Rr): ∀ i,i≤fx→i≤rs.length→docS ks fx rs i=rs.take i
  | 0,_,_=>rfl
  | i+1,h1,h2=>by
    have ih:=docS_head ks fx rs i (by omega) (by omega)
    unfold docS insP
    rw [if_neg (by omega),List.take_of_length_le (Nat.le_refl _),List.drop_of_length_le (Nat.le_refl _),ih,rAt_in (by omega)]
    rw [List.take_add_one,List.getElem?_eq_getElem (by omega)]
    rfl
theorem docS_tail (ks:List Key) (fx:Nat) (rs:List Rr): ∀ k,fx+k≤rs.length→docS ks fx rs (fx+k)=rs.take fx++(insT (lessK ks (fun k=>(rAt (rs.drop fx) k).l)) k).map (rAt (rs.drop fx))
  | 0,h=>by
    rw [Nat.add_zero,docS_head ks fx rs fx (Nat.le_refl _) (by omega)]
    simp [insT]
  | k + 1,h=>by
    have ih:=docS_tail ks fx rs k (by omega)
    obtain⟨less,hless⟩: ∃ less,less=lessK ks (fun k=>(rAt (rs.drop fx) k).l):=⟨_,rfl⟩
    rw [← hless]at ih ⊢
    have hT:=insT_len less k
    rw [← Nat.add_assoc]
    have hlen:=docS_len ks fx rs (fx+k)
    have htk:(rs.take fx).length=fx:=by rw [List.length_take];omega
    have hlt: ∀ j,j<(insT less k).length→ltOf ks (rAt rs (fx+k)) (docS ks fx rs (fx+k)) (fx+j)=less k ((insT less k).getD j 0):=fun j hj=>by
      rw [ih,← rAt_drop]
      have:rAt (rs.take fx++((insT less k).map (rAt (rs.drop fx)))) (fx+j)=rAt (rs.drop fx) ((insT less k).getD j 0):=by
        rw [rAt_in (by rw [List.length_append,htk,List.length_map];omega)]
        rw [List.getElem_append_right (by omega)]
        simp [htk,List.getD,hj]
      have h2: ∀ a b,less a b=decide (cmpL ks (rAt (rs.drop fx) a).l (rAt (rs.drop fx) b).l<0):=fun a b=>by rw [hless];rfl
      unfold ltOf
      rw [this,h2]
    have hpos:=posD_shift (insT less k).length hlt
    rw [docS,insP,if_pos (by omega),hlen,show fx+k=fx+(insT less k).length by omega]
    rw [show fx+(insT less k).length=fx+k by omega]at hpos ⊢
    rw [hpos,ih,← rAt_drop]
    rw [take_two htk,drop_two htk,insT]
    simp [List.map_take,List.map_drop]
theorem doc_sorted {ks:List Key}{rsA rs:List Rr}{hv:Bool}{σ:Nat→Nat}(hls:lsOf rs=lsOf rsA)(h1:Same (fun k=>k) σ 0 (rs.length- (if hv=true then min 1 rs.length else 0)))(h2:Srt (lessK ks (fun k=>(rAt (rs.drop (if hv=true then min 1 rs.length else 0)) k).l)) σ 0 (rs.length- (if hv=true then min 1 rs.length else 0))) :
    lsOf (docS ks (if hv=true then 1 else 0) rsA rsA.length)=lsOf (srtR rs (if hv=true then min 1 rs.length else 0) σ):=by
  have hlen:rs.length=rsA.length:=by have:=congrArg List.length hls;simpa using this
  by_cases hz:rsA.length<(if hv=true then 1 else 0)
  · have h0:rsA= []:=by
      cases hv
      · simp at hz
      · simp only [if_true]at hz;exact List.length_eq_zero_iff.1 (by omega)
    have h0':rs= []:=List.length_eq_zero_iff.1 (by rw [hlen,h0];rfl)
    subst h0 h0'
    cases hv<;>rfl
  obtain⟨fx,hfx⟩: ∃ fx,fx=if hv=true then 1 else 0:=⟨_,rfl⟩
  have hO:(if hv=true then min 1 rs.length else 0)=fx:=by
    rw [hfx]
    rw [← hfx]at hz
    cases hv
    · rfl
    · simp only [if_true]at hfx ⊢; omega
  rw [hO]at h1 h2 ⊢
  rw [← hfx]at hz ⊢
  have e:=sorted_one (lessK_weak ks _) h1 h2
  obtain⟨k,hk⟩: ∃ k,rsA.length=fx+k:=⟨rsA.length-fx,by omega⟩
  rw [hk,docS_tail ks fx rsA k (by omega)]
  have hL: ∀ j,(rAt (rsA.drop fx) j).l=(rAt (rs.drop fx) j).l:=fun j=>by rw [rAt_drop,rAt_drop,rAt_l,rAt_l,hls]
  have hf:(fun k=>(rAt (rsA.drop fx) k).l)=(fun k=>(rAt (rs.drop fx) k).l):=funext hL
  rw [hf]
  unfold srtR
  rw [show rs.length-fx=k by omega]at e ⊢
  rw [← e]
  simp only [lsOf,List.map_append,List.map_map,List.map_take]
  rw [show List.map (·.l) rs=_ from hls]
  congr 1
  refine List.map_congr_left fun j _=> ?_
  exact hL _
end Go.Proofs.YtjpfnbihopoeeaaGreatDoor
namespace Go.Proofs.YtjpfnbihopoeeaaGreatDoor
open Go.Lift
set_option maxRecDepth 1000000
theorem tq_tr {H:AHeap}{o:Nat}{v:AVal}{rs:List Rr}(t:Tq H o v rs)(hq: ∀ r∈rs,r.q<H.next)(h0:0<H.next): ∃ o',Tr H 0 H.next v o' rs:=by
  obtain⟨⟨oo,c,e,z,k⟩,t2⟩:=t
  have hqs: ∀ x∈qsOf rs,x<H.next:=fun x hx=>by
    obtain⟨r,hr,rfl⟩:=List.mem_map.1 hx
    exact hq r hr
  rcases k with k | ⟨ver,off,b,k1,k2,k3⟩
  · refine⟨0,⟨oo,c,e,z,.inl k⟩,t2,fun x hx=>⟨Nat.zero_le _,?_⟩⟩
    rcases List.mem_cons.1 hx with rfl | h
    · exact h0
    · exact hqs x h
  · refine⟨o,⟨oo,c,e,z,.inr ⟨ver,off,b,k1,k2,k3⟩⟩,t2,fun x hx=>⟨Nat.zero_le _,?_⟩⟩
    rcases List.mem_cons.1 hx with rfl | h
    · exact k2
    · exact hqs x h
theorem Tr.keep {G G':AHeap}{B E o:Nat}{v:AVal}{rs:List Rr}(T:Tr G B E v o rs)(f: ∀ x,B≤x→x<E→G'.get x=G.get x)(n:G.next≤G'.next):Tr G' B E v o rs:=by
  have rd: ∀ {q:Nat} {v:AVal} {els:List AVal},B≤q→q<E→Rd G q v els→Rd G' q v els:=by
    intro q v els h1 h2 ⟨oo,c,e,z,k⟩
    exact⟨oo,c,e,z,k.imp_right fun⟨ver,off,b,k1,k2,k3,k4⟩=>⟨ver,off,b,k1,by omega,(f q h1 h2).trans k3,k4⟩⟩
  exact⟨rd (T.ge o (by simp)).1 (T.ge o (by simp)).2 T.out,fun r hr=>by
    have:=T.ge r.q (List.mem_cons_of_mem _ (List.mem_map.2 ⟨r,hr,rfl⟩))
    exact rd this.1 this.2 (T.inn r hr),T.ge⟩
theorem same2 {H:AHeap}{B1 E1 o1 o2:Nat}{va vb:AVal}{rs1 rs2:List Rr}(he:lsOf rs1=lsOf rs2)(hl:rs1.length<2^60)(hs: ∀ r∈rs1,r.l.length<2^60)(r1:Tr H B1 E1 va o1 rs1)(t2:Tq H o2 vb rs2)(hq: ∀ r∈rs2,r.q<H.next)(h0:0<H.next) :
    ∃ n,H.next<n∧FDoes Tryz.prog cnd 16 [va,vb] H (.bool true) ⟨n,H.blks⟩:=by
  obtain⟨o',t⟩:=tq_tr t2 hq h0
  exact same1 he hl hs r1 t
theorem ts_one {H:AHeap}{Q qf N:Nat}{ov:AVal}{rsA rsL ms:List Rr}{ks:List K3}{xs:List AVal}{hv:Bool}(ln:Ln H Q rsL ms)(hls:lsOf rsL=lsOf rsA)(hN:N=rsA.length)(hN2:N<2^36)(hlen: ∀ r∈rsA,r.l.length<2^36)(short: ∀ r∈rsA,Short r.l)(of:Rd H qf ov xs)(hqf:qf<H.next)(hxs:xs.length=ks.length)(kx: ∀ j (h1:j<xs.length) (h2:j<ks.length),KeyAt H H.next xs[j] (keyOf ks[j]))(hks:ks.length<2^36) :
    ∃ v H' B o S,FDoes Tryz.prog cnd 35 [.slice (some ⟨Q,0,0,0,1⟩) N (N+3),.bool hv,ov] H v H'∧Tb H' B H'.next v o S∧lsOf S=lsOf (docS (ks.map keyOf) (if hv=true then 1 else 0) rsA N)∧H.next≤B∧Fr H H' []∧(∀ r∈S,r.l= []→Wr H' r.q r.v)∧Wr H' o v∧S.length=N∧ ∀ r∈S,r.l.length<2^36:=by
  have inA: ∀ r∈rsL,∃ r'∈rsA,r'.l=r.l:=fun r hr=>by
    have:r.l∈lsOf rsA:=by rw [← hls];exact List.mem_map.2 ⟨r,hr,rfl⟩
    obtain⟨r',hr',e⟩:=List.mem_map.1 this
    exact⟨r',hr',e⟩
  have hNL:rsL.length=N:=by have:=congrArg List.length hls;simp at this;omega
  have tp:=ln.part (N+3)
  rw [hNL]at tp
  obtain⟨v,H',B,o,rs,σ,D,tb,hl,hB,fr,ev,s1,s2,wz,wo⟩:=tsort_does (H:=H) (hv:=hv) (rsA:=rsL) (ks:=ks.map keyOf) (xs:=xs) (qf:=qf) (by omega) tp.1 tp.2 ln.lt (fun r hr=>(ln.rows r hr).b.1)
    (fun r hr=>by obtain⟨r',hr',e⟩:=inA r hr;have:=hlen r' hr';rw [← e];omega) (fun r hr=>by obtain⟨r',hr',e⟩:=inA r hr;rw [← e];exact short r' hr') of hqf (by rw [List.length_map];exact hxs)
    (fun i h1 h2=>by rw [List.getElem_map];exact kx i h1 (by simpa using h2)) (by rw [List.length_map];omega)
  have hlA:lsOf rs=lsOf rsA:=hl.trans hls
  have hO:(if hv=true then min 1 rs.length else 0)≤rs.length:=by split<;>omega
  have hp:=srtR_perm rs hO s1
  refine⟨v,H',B,o,_,D,tb,?_,hB,fr,wz,wo,?_,?_⟩
  · rw [hN]
    exact(doc_sorted (ks:=ks.map keyOf) hlA s1 s2).symm
  · rw [hp.length_eq]
    have:=congrArg List.length hlA
    simp at this;omega
  · intro r hr
    have:r.l∈lsOf rsA:=by rw [← hlA];exact List.mem_map.2 ⟨r,hp.mem_iff.1 hr,rfl⟩
    obtain⟨r',hr',e⟩:=List.mem_map.1 this
    rw [← e];exact hlen r' hr'
theorem rw_low {H:AHeap}{e q:Nat}{v:AVal}{els:List AVal}(h:Rw H e q v els)(h0:0<H.next): ∃ q',q'<H.next∧Rd H q' v els:=by
  rcases h with ⟨rfl,rfl⟩ | ⟨b,e1,k2,k3⟩
  · exact⟨0,h0,Rd.nil H 0⟩
  · exact⟨q,k2,Rw.rd (e:=e) (.inr ⟨b,e1,k2,k3⟩)⟩
theorem sorts_core {H:AHeap} {orow qk:Nat} {rv kv:AVal} {rsA:List Rr} {ks:List K3} (hN2:rsA.length<2^36) (ta:Tq H orow rv rsA) (ho:orow<H.next) (hq: ∀ r∈rsA,r.q<H.next) (hlen: ∀ r∈rsA,r.l.length<2^36) (short: ∀ r∈rsA,Short r.l) (kd:Kd H qk kv ks) (hqk:qk<H.next) (hks:ks.length<2^36) (hv:Bool) :
    ∃ h',FDoes Tryz.prog cnd 7 [rv,.bool hv,kv] H (.bool true) h':=by
  obtain⟨N,hN⟩: ∃ N,N=rsA.length:=⟨_,rfl⟩
  obtain⟨ko,kc,e⟩:=kd.sl
  subst e
  have len40: ∀ r∈rsA,r.l.length<2^40:=fun r hr=>by have:=hlen r hr;omega
  obtain⟨H1,oq,ov,xs,L,wx,lx,kx,low1⟩:=or_loop (B:=H.next) (B0:=H.next) (rv:=rv) (hv:= .bool hv) (ks:=ks) rfl (by omega) hqk (Nat.le_refl _) ks.length 0 (up H 5) 0 (.slice none 0 0) [] (by omega) (by show H.next≤H.next+5;omega) (kd.fr (Fr.up H 5 []) (by simp)) (.inl ⟨rfl,rfl⟩) (.inl ⟨rfl,rfl⟩) rfl (fun j h1=>absurd h1 (by simp))
  have n1:=low1.1
  have n1:H.next+5≤H1.next:=n1
  have f1:Fr H H1 []:=⟨by omega,fun x hx _=>low1.2 x hx⟩
  obtain⟨vw,H2,ow,D2,w2,f12,n2⟩:=dsort_does (H:=up H1 5) (hv:=hv) (by omega) (by omega) short ((ta.fr f1).up (n:=H1.next+5) (by omega)) ((kd.fr f1 (by simp)).fr (Fr.up H1 5 []) (by simp))
  have n2:H1.next+5<H2.next:=n2
  have f2:Fr H H2 []:=(f1.more (Fr.up H1 5 []) (by simp)).more f12 (by simp)
  obtain⟨vm,H3,om,D3,w3,f23,n3⟩:=dsort_does (H:=up H2 6) (hv:= !hv) (by omega) (by omega) short ((ta.fr f2).up (n:=H2.next+6) (by omega)) ((kd.fr f2 (by simp)).fr (Fr.up H2 6 []) (by simp))
  have n3:H2.next+6<H3.next:=n3
  have f23:Fr H2 H3 []:=(Fr.up H2 6 []).more f23 (by simp)
  have f3:Fr H H3 []:=f2.more f23 (by simp)
  rw [← hN]at w2 w3
  have memW:=docS_mem (ks.map keyOf) (if hv=true then 1 else 0) rsA N (by omega)
  have memM:=docS_mem (ks.map keyOf) (if(!hv)=true then 1 else 0) rsA N (by omega)
  obtain⟨H4,Q,rsL,ms,D4,ln,hls,f34,n4⟩:=lent_does (H:=up H3 3) (rsA:=rsA) (by omega) (by show orow<H3.next+3;omega) (fun r hr=>by have:=hq r hr;show r.q<H3.next+3;omega) len40 ((ta.fr f3).up (n:=H3.next+3) (by omega))
  have n4:H3.next+3<H4.next:=n4
  rw [← hN]at D4
  have f34:Fr H3 H4 []:=(Fr.up H3 3 []).more f34 (by simp)
  have f4:Fr H H4 []:=f3.more f34 (by simp)
  have f24:Fr H2 H4 []:=f23.more f34 (by simp)
  have f14:Fr H1 H4 []:=⟨by omega,fun x hx h=>((((Fr.up H1 5 []).more f12 (by simp)).more f24 (by simp))).get x hx h⟩
  obtain⟨qf,hqf,ofx⟩:=rw_low wx (by omega)
  have ord: ∀ {G:AHeap},Fr H1 G []→Rd G qf ov xs∧qf<G.next∧ ∀ j (h1:j<xs.length) (h2:j<ks.length),KeyAt G G.next xs[j] (keyOf ks[j]):=fun {G} m=>⟨ofx.fr m (by simp),Nat.lt_of_lt_of_le hqf m.next,fun j h1 h2=>(((kx j h1 h2).1).fr m (by simp)).wide m.next⟩
  have u4:=Fr.up H4 5 []
  obtain⟨a1,a2,a3⟩:=ord (f14.more u4 (by simp))
  obtain⟨va,H5,Ba,oa,Sa,D5,Ta,ea,ba,f45,wa,wa',la,sa⟩:=ts_one (hv:=hv) (ln.fr u4) hls hN (by omega) hlen short a1 a2 lx a3 hks
  have ba:H4.next+5≤Ba:=ba
  have ga:=Ta.ge oa (by simp)
  have f45:Fr H4 H5 []:=u4.more f45 (by simp)
  have u5:=Fr.up H5 5 []
  obtain⟨b1,b2,b3⟩:=ord ((f14.more f45 (by simp)).more u5 (by simp))
  obtain⟨vb,H6,Bb,ob,Sb,D6,Tbb,eb,bb,f56,wb,wb',lb,sb⟩:=ts_one (hv:=hv) ((ln.fr f45).fr u5) hls hN (by omega) hlen short b1 b2 lx b3 hks
  have bb:H5.next+5≤Bb:=bb
  have gb:=Tbb.ge ob (by simp)
  have f56:Fr H5 H6 []:=u5.more f56 (by simp)
  have f46:Fr H4 H6 []:=f45.more f56 (by simp)
  have u6:=Fr.up H6 6 []
  obtain⟨c1,c2,c3⟩:=ord ((f14.more f46 (by simp)).more u6 (by simp))
  obtain⟨vo,H7,Bo,oo,So,D7,To,eo,bo,f67,wo,wo',lo,so⟩:=ts_one (hv:= !hv) ((ln.fr f46).fr u6) hls hN (by omega) hlen short c1 c2 lx c3 hks
  have bo:H6.next+6≤Bo:=bo
  have go:=To.ge oo (by simp)
  have f67:Fr H6 H7 []:=u6.more f67 (by simp)
  have f47:Fr H4 H7 []:=f46.more f67 (by simp)
  have f57:Fr H5 H7 []:=f56.more f67 (by simp)
  have f07:Fr H H7 []:=f4.more f47 (by simp)
  have f27:Fr H2 H7 []:=f24.more f47 (by simp)
  have f37:Fr H3 H7 []:=f34.more f47 (by simp)
  have s60: ∀ {rs:List Rr},(∀ r∈rs,r.l.length<2^36)→ ∀ r∈rs,r.l.length<2^60:=fun h r hr=>by have:=h r hr;omega
  have TW: ∀ {G:AHeap},Fr H2 G []→Tq G ow vw (docS (ks.map keyOf) (if hv=true then 1 else 0) rsA N)∧(∀ r∈docS (ks.map keyOf) (if hv=true then 1 else 0) rsA N,r.q<G.next):=fun {G} m=>⟨⟨w2.rd.fr m (by simp),fun r hr=>(((ta.fr f2).2 r (memW r hr)).fr m (by simp))⟩,fun r hr=>by have:=hq r (memW r hr);have:=m.next;omega⟩
  have TM: ∀ {G:AHeap},Fr H3 G []→Tq G om vm (docS (ks.map keyOf) (if(!hv)=true then 1 else 0) rsA N)∧(∀ r∈docS (ks.map keyOf) (if(!hv)=true then 1 else 0) rsA N,r.q<G.next):=fun {G} m=>⟨⟨w3.rd.fr m (by simp),fun r hr=>(((ta.fr f3).2 r (memM r hr)).fr m (by simp))⟩,fun r hr=>by have:=hq r (memM r hr);have:=m.next;omega⟩
  have u7:=Fr.up H7 22 []
  obtain⟨t1,t2⟩:=TW (f27.more u7 (by simp))
  obtain⟨n8,h8,D8⟩:=same2 (H:=up H7 22) ea (by omega) (s60 sa) ((Ta.fr f57 (by simp)).fr u7 (by simp)).tr t1 t2 (by show 0<H7.next+22;omega)
  have h8:H7.next+22<n8:=h8
  have u8:Fr H7 ⟨n8,H7.blks⟩ []:=Fr.blks (by omega)
  obtain⟨t1,t2⟩:=TW (f27.more u8 (by simp))
  obtain⟨n9,h9,D9⟩:=same2 (H:=⟨n8,H7.blks⟩) eb (by omega) (s60 sb) ((Tbb.fr f67 (by simp)).fr u8 (by simp)).tr t1 t2 (by show 0<n8;omega)
  have h9:n8<n9:=h9
  have u9:Fr H7 ⟨n9,H7.blks⟩ []:=Fr.blks (by omega)
  obtain⟨t1,t2⟩:=TM (f37.more u9 (by simp))
  obtain⟨n10,h10,D10⟩:=same2 (H:=⟨n9,H7.blks⟩) eo (by omega) (s60 so) (To.fr u9 (by simp)).tr t1 t2 (by show 0<n9;omega)
  have h10:n9<n10:=h10
  have u10:Fr H7 ⟨n10,H7.blks⟩ []:=Fr.blks (by omega)
  obtain⟨n11,h11,D11⟩:=kept_does (H:=⟨n10,H7.blks⟩) hN hls (by omega) len40 ((ln.fr f47).fr u10) ((ta.fr f07).fr u10)
  have h11:n10<n11:=h11
  have u11:Fr H7 ⟨n11+17,H7.blks⟩ []:=Fr.blks (by omega)
  obtain⟨H12,D12,n12,k12⟩:=apart_does ((Ta.fr f57 (by simp)).fr u11 (by simp)) (To.fr u11 (by simp)) (by omega) (by show H7.next≤n11+17;omega) (by omega) (by omega) (fun r hr=>by have:=sa r hr;omega) (fun r hr=>by have:=so r hr;omega)
    (fun r hr h=>((wa r hr h).fr f57 (by simp)).fr u11 (by simp)) (fun r hr h=>(wo r hr h).fr u11 (by simp)) (fun _=>(wa'.fr f57 (by simp)).fr u11 (by simp)) (fun _=>wo'.fr u11 (by simp))
  have n12:n11+17≤H12.next:=n12
  have n57:=f57.next
  have n67:=f67.next
  have f412:Fr H4 H12 []:=⟨by have:=f47.next;omega,fun x hx h=>(k12 x (by have:=f47.next;show x<n11+17;omega) (.inl (by omega)) (.inl (by have:=f46.next;omega))).trans (f47.get x hx h)⟩
  have f212:Fr H2 H12 []:=f24.more f412 (by simp)
  have f012:Fr H H12 []:=f4.more f412 (by simp)
  have TB:=(Tbb.fr f67 (by simp)).tr.keep (G':=H12) (fun x h1 h2=>k12 x (by show x<n11+17;omega) (.inr (by omega)) (.inl (by omega))) (by omega)
  obtain⟨t1,t2⟩:=TW f212
  obtain⟨n13,h13,D13⟩:=same2 (H:=H12) eb (by omega) (s60 sb) TB t1 t2 (by omega)
  have u13:Fr H12 ⟨n13,H12.blks⟩ []:=Fr.blks (by omega)
  obtain⟨n14,h14,D14⟩:=kept_does (H:=⟨n13,H12.blks⟩) hN hls (by omega) len40 ((ln.fr f412).fr u13) ((ta.fr f012).fr u13)
  have h14:n13<n14:=h14
  have hle7:H.next≤H7.next:=f07.next
  have hle6:H4.next≤H6.next:=f46.next
  have hle5:H4.next≤H5.next:=f45.next
  cases hv with
  | true =>
    obtain⟨v,h1,hd,rfl⟩:=tsT_vc H H1 H2 H3 H4 H5 H6 H7 ⟨n8,H7.blks⟩ ⟨n9,H7.blks⟩ ⟨n10,H7.blks⟩ ⟨n11,H7.blks⟩ H12 ⟨n13,H12.blks⟩ ⟨n14,H12.blks⟩ ks.length kc ko rv ov vw vm (.slice (some ⟨Q,0,0,0,1⟩) N (N+3)) va vb vo (fun v _=>v= .bool true)
      (bifL (Nat.le_refl _) (bifL (by omega) (bifL (by omega) ⟨Runs.of_loops L,bifL (by omega) ⟨⟨D2⟩,bifL (by omega) ⟨⟨D3⟩,bifL (by omega) ⟨⟨D4⟩,bifL (by omega) ⟨⟨D5⟩,bifL (by omega) ⟨⟨D6⟩,bifL (by omega) ⟨⟨D7⟩,bifL (by omega) ⟨⟨D8⟩,⟨D9⟩,⟨D10⟩,⟨D11⟩,
        agNe (by show ¬ H7.next+22=n8;omega),agNe (by show ¬ H7.next+22=n9;omega),agNe (by show ¬ n8=n9;omega),bifL (by show H.next≤n11;omega) ⟨⟨D12⟩,⟨D13⟩,⟨D14⟩,condL (by show H.next≤n14;omega) rfl⟩⟩⟩⟩⟩⟩⟩⟩⟩)))
    exact⟨h1,hd⟩
  | false =>
    obtain⟨v,h1,hd,rfl⟩:=tsF_vc H H1 H2 H3 H4 H5 H6 H7 ⟨n8,H7.blks⟩ ⟨n9,H7.blks⟩ ⟨n10,H7.blks⟩ ⟨n11,H7.blks⟩ H12 ⟨n13,H12.blks⟩ ⟨n14,H12.blks⟩ ks.length kc ko rv ov vw vm (.slice (some ⟨Q,0,0,0,1⟩) N (N+3)) va vb vo (fun v _=>v= .bool true)
      (bifL (Nat.le_refl _) (bifL (by omega) (bifL (by omega) ⟨Runs.of_loops L,bifL (by omega) ⟨⟨D2⟩,bifL (by omega) ⟨⟨D3⟩,bifL (by omega) ⟨⟨D4⟩,bifL (by omega) ⟨⟨D5⟩,bifL (by omega) ⟨⟨D6⟩,bifL (by omega) ⟨⟨D7⟩,bifL (by omega) ⟨⟨D8⟩,⟨D9⟩,⟨D10⟩,⟨D11⟩,
        agNe (by show ¬ H7.next+22=n8;omega),agNe (by show ¬ H7.next+22=n9;omega),agNe (by show ¬ n8=n9;omega),bifL (by show H.next≤n11;omega) ⟨⟨D12⟩,⟨D13⟩,⟨D14⟩,condL (by show H.next≤n14;omega) rfl⟩⟩⟩⟩⟩⟩⟩⟩⟩)))
    exact⟨h1,hd⟩
end Go.Proofs.YtjpfnbihopoeeaaGreatDoor
