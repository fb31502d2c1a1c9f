/-
  Parts of the proof, one behind the other:
  solve.fill: its loops (under way).
  SHARING ROOM AMONG FILLS, plain: rounds in which those that would break a bound are frozen there, and a last share.
  THE LIFT, PART X: at a loop's head or end rows get other numbers; rows that nobody names are added.
  PLACES: what solve.Places answers, for every slice.
  solve.fill: who is above, who below, and who is frozen.
  solve.fill: the loop in which those are frozen that would break a bound.
  solve.fill: the rounds.
  solve.fill: the fills and the others are told apart.
  solve.fill: what it does.
-/
import Derived.Test.YtgfkllnaeekjeaaKSolveSizesE
set_option linter.unusedVariables false
set_option linter.unusedSimpArgs false
set_option linter.unusedSectionVars false
namespace Go.Proofs.Ytgfkllnaeekjeaa
open Go.Lift
set_option maxRecDepth 1000000
def irows(N:Nat)(it:Nat→It):List AVal:=(List.range N).map fun j=>(it j).val
theorem irows_get {N:Nat}{it:Nat→It}{j:Nat}(h:j<N):(irows N it)[j]? =some (it j).val:=by simp [irows,h]
theorem irows_bare(N:Nat)(it:Nat→It):BareB (.made (irows N it) 5 true):=by
  intro e he
  obtain⟨j,_,rfl⟩:=List.mem_map.1 (show e∈(List.range N).map fun j=>(it j).val from he)
  exact It.bare _
def putF(y:Nat→Int)(op:Nat→Nat)(v:Nat→Int):Nat→Nat→Int
  | 0,j=>y j
  | i+1,j=>if j=op i then v i else putF y op v i j
theorem putF_row {N i:Nat}{y v:Nat→Int}{op:Nat→Nat} :(ints N (putF y op v i)).set (op i) (.int .i64 (v i))=ints N (putF y op v (i+1)):=by
  rw [ints_set];rfl
theorem ix_it {N j:Nat}(h:j<N):aindexAddr env.D 26 (.slice (some ⟨0,0,0,0,5⟩) N N) (.int .i64 (j:Int))=some (.ptr (some ⟨0,0,j,0,5⟩)):=by
  have h1:(env.D 24).map (·.size)=some 5:=by kernel_rfl
  cases hd:env.D 24 with
  | none=>rw [hd]at h1;cases h1
  | some xd =>
    rw [hd]at h1
    have h2:5=xd.size:=by simpa using h1.symm
    have:=SlArg.index (o:=some ⟨0,0,0,0,5⟩) (n:=N) (c:=N) (id:=0) (ver:=0) (off:=0) (es:=5) (.inl rfl) (D:=env.D) (t:=26) (e:=24) (d:=⟨.slice 24,1,24,some (.slice none 0 0)⟩) (xd:=xd) (by kernel_rfl) rfl hd h2 (k:= .i64) (i:=(j:Int)) (by omega) (by omega)
    simpa using this
section
variable {N:Nat}(hN:N≤2^14){it:Nat→It}{m c ver off:Nat}{o:Option AAddr}{b:ABlk}{op:Nat→Nat}(hs:SlArg o m c 9 ver off 1)(hb:BareB b)(hel: ∀ i,i<m→b.elem? ver (off+i)=some (.int .i64 (op i)))(hop: ∀ i,i<m→op i<N)(hm:m≤N)
include hN hs hb hel hop hm
theorem fill_max_loop(y:Nat→Int): ∀ (f i:Nat),i+f=m →
    Loops Try.prog 2 279 (loopAt Try.prog 42 1) [(0,.slice (some ⟨0,0,0,0,5⟩) N N),(1,.slice (some ⟨1,0,0,0,1⟩) N N),(74,.slice o m c),(75,.int .i64 m),(76,.int .i64 i)]
      (AHeap.rows 40 [(0,.made (irows N it) 5 true),(1,.made (ints N (putF y op (fun i=>(it (op i)).mx) i)) 1 true),(9,b)]) (.exit 2) []
      (AHeap.rows 41 [(0,.made (irows N it) 5 true),(1,.made (ints N (putF y op (fun i=>(it (op i)).mx) m)) 1 true),(9,b)])
  | 0,i,e=>by
    obtain rfl:i=m:=by omega
    exact Loops.last (by simp) (fill_max_end N i c i o b _ _ (by omega))
  | f +1,i,e=>by
    have h1:=hop i (by omega)
    have ix1:aindexAddr env.D 27 (.slice (some ⟨1,0,0,0,1⟩) N N) (.int .i64 (op i:Int))=some (.ptr (some ⟨1,0,op i,0,1⟩)):=by
      have:=ix_intN (o:=some ⟨1,0,0,0,1⟩) (n:=N) (c:=N) (.inl rfl) (k:= .i64) h1
      rwa [Nat.zero_add]at this
    have s:=fill_max N m c ver off i (op i) o b (irows N it) (ints N (putF y op (fun i=>(it (op i)).mx) i)) (it (op i)).k (it (op i)).n (it (op i)).d (it (op i)).mn (it (op i)).mx _ (by omega) (ix_intN hs (by omega)) (hel i (by omega)) (ix_it h1) (elem_made (irows_get h1)) ix1 ⟨rfl,ints_get h1⟩ (by omega)
    rw [putF_row (v:=fun i=>(it (op i)).mx)]at s
    refine Loops.round s ?_ (fill_max_loop y f (i+1) (by omega))
    have hc:Clo (Ids [0,1,9]) (.slice o m c):=hs.clo (by simp [Ids])
    exact Ent.drop (by kernel_rfl) (by kernel_rfl) (by kernel_rfl) (by kernel_rfl) (by simp [All_cons,All_nil,Clo,hc];simp [Ids]) (by
      simp only [List.map,All_cons,All_nil,and_true]
      exact⟨(irows_bare N it).clo _,fun e he=>(ints_bare _ _ e he).clo _,hb.clo _⟩)
theorem fill_w_loop(y:Nat→Int)(q r:Nat→Int): ∀ (f i:Nat),i+f=m →
    Loops Try.prog 2 279 (loopAt Try.prog 42 6) [(1,.slice (some ⟨1,0,0,0,1⟩) N N),(26,.slice (some ⟨20,0,0,0,1⟩) m m),(264,.slice o m c),(265,.int .i64 m),(266,.int .i64 i)]
      (AHeap.rows 60 [(0,.made (irows N it) 5 true),(1,.made (ints N (putF y op q i)) 1 true),(9,b),(20,.made (ints m q) 1 true),(23,.made (ints m r) 1 true)]) (.exit 12) []
      (AHeap.rows 61 [(0,.made (irows N it) 5 true),(1,.made (ints N (putF y op q m)) 1 true),(9,b),(20,.made (ints m q) 1 true),(23,.made (ints m r) 1 true)])
  | 0,i,e=>by
    obtain rfl:i=m:=by omega
    exact Loops.last (by simp) (fill_w_end N i c i o b _ _ _ _ (by omega))
  | f +1,i,e=>by
    have h1:=hop i (by omega)
    have ixr: ∀ (id n k:Nat),k<n→aindexAddr env.D 27 (.slice (some ⟨id,0,0,0,1⟩) n n) (.int .i64 (k:Int))=some (.ptr (some ⟨id,0,k,0,1⟩)):=by
      intro id n k hk
      have:=ix_intN (o:=some ⟨id,0,0,0,1⟩) (n:=n) (c:=n) (.inl rfl) (k:= .i64) hk
      rwa [Nat.zero_add]at this
    have s:=fill_w N m c ver off i (op i) o b (irows N it) (ints N (putF y op q i)) (ints m q) (ints m r) (q i) _ (by omega) (ix_intN hs (by omega)) (hel i (by omega)) (ixr 20 m i (by omega)) (elem_made (ints_get (by omega))) (ixr 1 N (op i) h1) ⟨rfl,ints_get h1⟩ (by omega)
    rw [putF_row]at s
    refine Loops.round s ?_ (fill_w_loop y q r f (i+1) (by omega))
    have hc:Clo (Ids [0,1,9,20,23]) (.slice o m c):=hs.clo (by simp [Ids])
    exact Ent.drop (by kernel_rfl) (by kernel_rfl) (by kernel_rfl) (by kernel_rfl) (by simp [All_cons,All_nil,Clo,hc];simp [Ids]) (by
      simp only [List.map,All_cons,All_nil,and_true]
      exact⟨(irows_bare N it).clo _,fun e he=>(ints_bare _ _ e he).clo _,hb.clo _,fun e he=>(ints_bare _ _ e he).clo _,fun e he=>(ints_bare _ _ e he).clo _⟩)
theorem fill_q_loop(sz:List AVal)(hsz:BareB (.made sz 1 true)){rest weight:Int}(hw:0<weight)(hr: ∀ i,i<m→0≤rest* (it (op i)).n∧rest* (it (op i)).n≤2^61): ∀ (f i:Nat),i+f=m →
    Loops Try.prog 2 279 (loopAt Try.prog 42 5) [(0,.slice (some ⟨0,0,0,0,5⟩) N N),(1,.slice (some ⟨1,0,0,0,1⟩) N N),(6,.int .i64 rest),(7,.int .i64 weight),(9,.slice o m c),(26,.slice (some ⟨20,0,0,0,1⟩) m m),(27,.slice (some ⟨23,0,0,0,1⟩) m m),(222,.slice o m c),(223,.int .i64 m),(224,.int .i64 i)]
      (AHeap.rows 60 [(0,.made (irows N it) 5 true),(1,.made sz 1 true),(9,b),(20,.made (ints m fun j=>if j<i then rest* (it (op j)).n / weight else 0) 1 true),(23,.made (ints m fun j=>if j<i then rest* (it (op j)).n % weight else 0) 1 true)]) (.exit 10) [(1,.slice (some ⟨1,0,0,0,1⟩) N N),(6,.int .i64 rest),(9,.slice o m c),(26,.slice (some ⟨20,0,0,0,1⟩) m m),(27,.slice (some ⟨23,0,0,0,1⟩) m m)]
      (AHeap.rows 61 [(0,.made (irows N it) 5 true),(1,.made sz 1 true),(9,b),(20,.made (ints m fun j=>if j<m then rest* (it (op j)).n / weight else 0) 1 true),(23,.made (ints m fun j=>if j<m then rest* (it (op j)).n % weight else 0) 1 true)])
  | 0,i,e=>by
    obtain rfl:i=m:=by omega
    exact Loops.last (by simp) (fill_q_end N i c ver off i 0 o b _ _ 0 0 0 0 0 _ _ rest weight 0 0 (by omega))
  | f +1,i,e=>by
    have h1:=hop i (by omega)
    obtain⟨r1,r2⟩:=hr i (by omega)
    have ixr: ∀ (id n k:Nat),k<n→aindexAddr env.D 27 (.slice (some ⟨id,0,0,0,1⟩) n n) (.int .i64 (k:Int))=some (.ptr (some ⟨id,0,k,0,1⟩)):=by
      intro id n k hk
      have:=ix_intN (o:=some ⟨id,0,0,0,1⟩) (n:=n) (c:=n) (.inl rfl) (k:= .i64) hk
      rwa [Nat.zero_add]at this
    have eq:Int.tdiv (rest* (it (op i)).n) weight=rest* (it (op i)).n / weight:=Int.tdiv_eq_ediv_of_nonneg r1
    have er:Int.tmod (rest* (it (op i)).n) weight=rest* (it (op i)).n % weight:=Int.tmod_eq_emod_of_nonneg r1
    have q1:0≤rest* (it (op i)).n / weight:=Int.ediv_nonneg r1 (by omega)
    have q2:rest* (it (op i)).n / weight≤rest* (it (op i)).n:=Int.ediv_le_self _ r1
    have s:=fill_q N m c ver off i (op i) o b (irows N it) sz (it (op i)).k (it (op i)).n (it (op i)).d (it (op i)).mn (it (op i)).mx (ints m fun j=>if j<i then rest* (it (op j)).n / weight else 0) (ints m fun j=>if j<i then rest* (it (op j)).n % weight else 0) rest weight _ _ (by omega) (ix_intN hs (by omega)) (hel i (by omega)) (ix_it h1) (elem_made (irows_get h1)) (by omega) ⟨by omega,by rw [eq];omega⟩ (ixr 20 m i (by omega)) ⟨rfl,ints_get (by omega)⟩ (ix_it h1) (elem_made (irows_get h1)) (by omega) (by omega) (ixr 23 m i (by omega)) ⟨rfl,ints_get (by omega)⟩ (by omega)
    rw [eq,er,ints_step (y:=fun j=>rest* (it (op j)).n / weight) (z:=fun _=>0),ints_step (y:=fun j=>rest* (it (op j)).n % weight) (z:=fun _=>0)]at s
    refine Loops.round s ?_ (fill_q_loop sz hsz hw hr f (i+1) (by omega))
    have hc:Clo (Ids [0,1,9,20,23]) (.slice o m c):=hs.clo (by simp [Ids])
    exact Ent.drop (by kernel_rfl) (by kernel_rfl) (by kernel_rfl) (by kernel_rfl) (by simp [All_cons,All_nil,Clo,hc];simp [Ids]) (by
      simp only [List.map,All_cons,All_nil,and_true]
      exact⟨(irows_bare N it).clo _,hsz.clo _,hb.clo _,fun e he=>(ints_bare _ _ e he).clo _,fun e he=>(ints_bare _ _ e he).clo _⟩)
end
end Go.Proofs.Ytgfkllnaeekjeaa
namespace Go.Lift
def sumL(f:Nat→Int):List Nat→Int
  | []=>0
  | a::l=>f a+sumL f l
theorem sumL_append(f:Nat→Int): ∀ (l r:List Nat),sumL f (l++r)=sumL f l+sumL f r
  | [],r=>by simp [sumL]
  | a::l,r=>by simp only [List.cons_append,sumL,sumL_append f l r];omega
theorem sumL_le {f g:Nat→Int} : ∀ {l:List Nat},(∀ i∈l,f i≤g i)→sumL f l≤sumL g l
  | [],_=>by simp [sumL]
  | a::l,h=>by
    have h1:=sumL_le (l:=l) fun i hi=>h i (by simp [hi])
    have h2:=h a (by simp)
    simp only [sumL];omega
theorem sumL_congr {f g:Nat→Int} : ∀ {l:List Nat},(∀ i∈l,f i=g i)→sumL f l=sumL g l
  | [],_=>by simp [sumL]
  | a::l,h=>by
    have h1:=sumL_congr (l:=l) fun i hi=>h i (by simp [hi])
    have h2:=h a (by simp)
    simp only [sumL];omega
theorem sumL_add(f g:Nat→Int): ∀ (l:List Nat),sumL (fun i=>f i+g i) l=sumL f l+sumL g l
  | []=>by simp [sumL]
  | a::l=>by simp only [sumL,sumL_add f g l];omega
theorem sumL_mul(c:Int)(f:Nat→Int): ∀ (l:List Nat),sumL (fun i=>c*f i) l=c*sumL f l
  | []=>by simp [sumL]
  | a::l=>by simp only [sumL,sumL_mul c f l,Int.mul_add]
theorem sumL_const(c:Int): ∀ (l:List Nat),sumL (fun _=>c) l=l.length*c
  | []=>by simp [sumL]
  | a::l=>by
    simp only [sumL,sumL_const c l,List.length_cons]
    rw [Int.natCast_add,Int.add_mul];simp;omega
theorem sumL_ge0 {f:Nat→Int}{l:List Nat}(h: ∀ i∈l,0≤f i):0≤sumL f l:=by
  have:=sumL_le (f:=fun _=>0) h
  rw [sumL_const]at this;omega
theorem sumL_filter(f:Nat→Int)(p:Nat→Bool): ∀ (l:List Nat),sumL f l=sumL f (l.filter p)+sumL f (l.filter fun i=> !p i)
  | []=>by simp [sumL]
  | a ::l=>by
    have:=sumL_filter f p l
    by_cases h:p a=true
    · simp only [sumL,List.filter_cons,h,if_true,Bool.not_true,Bool.false_eq_true,if_false];omega
    · simp only [Bool.not_eq_true]at h
      simp only [sumL,List.filter_cons,h,Bool.false_eq_true,if_false,Bool.not_false,if_true];omega
theorem sumL_pos_of {f:Nat→Int} : ∀ {l:List Nat},0<sumL f l→ ∃ i∈l,0<f i
  | [],h=>by simp [sumL]at h
  | a ::l,h=>by
    by_cases c:0<f a
    · exact⟨a,by simp,c⟩
    · simp only [sumL]at h
      obtain⟨i,hi,h2⟩:=sumL_pos_of (f:=f) (l:=l) (by omega)
      exact⟨i,by simp [hi],h2⟩
theorem sumL_mem_le {f:Nat→Int} : ∀ {l:List Nat},(∀ i∈l,0≤f i)→ ∀ i∈l,f i≤sumL f l
  | [],_,i,hi=>by cases hi
  | a::l,h,i,hi=>by
    have h0:=sumL_ge0 (f:=f) (l:=l) fun i hi=>h i (by simp [hi])
    have h1:=h a (by simp)
    simp only [sumL]
    rcases List.mem_cons.1 hi with e | hi
    · subst e;omega
    · have:=sumL_mem_le (l:=l) (fun i hi=>h i (by simp [hi])) i hi;omega
theorem sumL_zero_of {f:Nat→Int}{l:List Nat}(h: ∀ i∈l,0≤f i)(h0:sumL f l=0): ∀ i∈l,f i=0:=by
  intro i hi
  have:=sumL_mem_le h i hi
  have:=h i hi
  omega
theorem sumL_perm {f:Nat→Int}{l r:List Nat}(h:l.Perm r):sumL f l=sumL f r:=by
  induction h with
  | nil=>rfl
  | cons a _ ih=>simp only [sumL,ih]
  | swap a b l=>simp only [sumL];omega
  | trans _ _ h1 h2=>rw [h1,h2]
theorem sumL_map(f:Nat→Int)(g:Nat→Nat): ∀ (l:List Nat),sumL f (l.map g)=sumL (fun i=>f (g i)) l
  | []=>rfl
  | a::l=>by simp only [List.map_cons,sumL,sumL_map f g l]
def topP(y:Nat→Int)(σ:Nat→Nat):Nat→Nat→Int
  | 0,j=>y j
  | i+1,j=>if j=σ i then topP y σ i j+1 else topP y σ i j
def restP(x:Nat→Int)(p q:Nat):Bool:=decide (x q<x p)
structure Tops(n:Nat)(y r:Nat→Int)(k:Nat)(z:Nat→Int):Prop where
  one: ∀ j,j<n→z j=y j∨(z j=y j+1∧0<r j)
  sum:sumL z (List.range n)=sumL y (List.range n)+k
  ord: ∃ σ,Same (fun j=>j) σ 0 n∧Srt (restP r) σ 0 n∧z=topP y σ k
theorem topP_out {y:Nat→Int}{σ:Nat→Nat}{j:Nat} : ∀ {k:Nat},(∀ i,i<k→σ i≠j)→topP y σ k j=y j
  | 0,_=>rfl
  | k+1,h=>by
    simp only [topP]
    rw [if_neg (Ne.symm (h k (by omega))),topP_out fun i hi=>h i (by omega)]
theorem topP_in {y:Nat→Int}{σ:Nat→Nat}{j:Nat} : ∀ {k:Nat},(∀ a b,a<b→b<k→σ a≠σ b)→(∃ i,i<k∧σ i=j)→topP y σ k j=y j+1
  | 0,_,⟨i,hi,_⟩=>by omega
  | k +1,hd,⟨i,hi,e⟩=>by
    simp only [topP]
    by_cases c:j=σ k
    · rw [if_pos c,topP_out]
      intro a ha e2
      exact hd a k ha (by omega) (by rw [e2,c])
    · rw [if_neg c]
      have:i≠k:=fun h=>c (by rw [← h,e])
      exact topP_in (fun a b h1 h2=>hd a b h1 (by omega)) ⟨i,by omega,e⟩
theorem same_inj {σ:Nat→Nat}{n:Nat}(h:Same (fun j=>j) σ 0 n): ∀ a b,a<b→b<n→σ a≠σ b:=by
  have hn:((List.range' 0 (n-0)).map σ).Nodup:=by
    refine h.perm.nodup_iff.2 ?_
    rw [List.map_id']
    exact List.nodup_range'
  rw [Nat.sub_zero]at hn
  intro a b h1 h2 e
  have e2:((List.range' 0 n).map σ)[a]'(by simp;omega)=((List.range' 0 n).map σ)[b]'(by simp;omega):=by simp [e]
  have:=(List.getElem_inj hn).1 e2
  omega
theorem same_onto {σ:Nat→Nat}{n:Nat}(h:Same (fun j=>j) σ 0 n){j:Nat}(hj:j<n): ∃ i,i<n∧σ i=j:=by
  have:j∈(List.range' 0 (n-0)).map σ:=by
    refine h.perm.mem_iff.2 ?_
    simp;omega
  obtain⟨i,hi,e⟩:=List.mem_map.1 this
  simp at hi
  exact⟨i,by omega,e⟩
theorem same_lt {σ:Nat→Nat}{n:Nat}(h:Same (fun j=>j) σ 0 n){j:Nat}(hj:j<n):σ j<n:=by
  obtain⟨i,_,h2,e⟩:=h.from (k:=j) (by omega) hj
  omega
theorem sumL_top {σ:Nat→Nat} {n:Nat} (h:Same (fun j=>j) σ 0 n) (y:Nat→Int): ∀ k,k≤n→sumL (topP y σ k) (List.range n)=sumL y (List.range n)+k
  | 0,_=>by
    show sumL (topP y σ 0) _=_
    rw [show topP y σ 0=y from rfl];simp
  | k + 1,hk=>by
    have ih:=sumL_top h y k (by omega)
    have key: ∀ (f:Nat→Int) (s:Nat) (l:List Nat),l.Nodup→s∈l→sumL (fun j=>if j=s then f j+1 else f j) l=sumL f l+1:=by
      intro f s l
      induction l with
      | nil=>intro _ h;cases h
      | cons a l ih2 =>
        intro hnd hm
        simp only [List.nodup_cons]at hnd
        simp only [sumL]
        by_cases c:a=s
        · subst c
          rw [if_pos rfl]
          have:sumL (fun j=>if j=a then f j+1 else f j) l=sumL f l:=sumL_congr fun i hi=>by rw [if_neg (fun(e:i=a)=>hnd.1 (by rw [← e];exact hi))]
          omega
        · rw [if_neg c]
          have:=ih2 hnd.2 ((List.mem_cons.1 hm).resolve_left (Ne.symm c))
          omega
    have:=key (topP y σ k) (σ k) (List.range n) List.nodup_range (List.mem_range.2 (same_lt h (by omega)))
    show sumL (fun j=>if j=σ k then topP y σ k j+1 else topP y σ k j) _=_
    rw [this,ih];omega
theorem tops_of {σ:Nat→Nat} {n:Nat} (h:Same (fun j=>j) σ 0 n) {r:Nat→Int} (hs:Srt (restP r) σ 0 n) {w:Int} (hw:0<w) (hr: ∀ j,j<n→0≤r j∧r j<w) {k:Nat} (hk:k≤n) (hsum:sumL r (List.range n)=w*k) (y:Nat→Int) :
    Tops n y r k (topP y σ k):=by
  refine⟨fun j hj=> ?_,sumL_top h y k hk,σ,h,hs,rfl⟩
  by_cases c: ∃ i,i<k∧σ i=j
  · right
    refine⟨topP_in (fun a b h1 h2=>same_inj h a b h1 (by omega)) c,?_⟩
    obtain⟨i,hi,e⟩:=c
    rcases Int.lt_or_le 0 (r j)with h0 | h0
    · exact h0
    exfalso
    have hz: ∀ b,i≤b→b<n→r (σ b)=0:=by
      intro b h1 h2
      have h3:=hr (σ b) (same_lt h h2)
      by_cases c:b=i
      · subst c;rw [e]at h3 ⊢; omega
      · have:=hs i b (by omega) (by omega) h2
        unfold Lt at this
        simp only [restP,decide_eq_true_eq,decide_eq_false_iff_not]at this
        rw [e]at this
        omega
    have e1:sumL r (List.range n)=sumL (fun b=>r (σ b)) (List.range n):=by
      rw [← sumL_map r σ]
      have:=h.perm
      rw [List.map_id',Nat.sub_zero,← List.range_eq_range']at this
      exact sumL_perm this.symm
    have e2 : sumL (fun b=>r (σ b)) (List.range n)≤i* (w-1):=by
      have hsplit : ∀ m,i≤m→m≤n→sumL (fun b=>r (σ b)) (List.range m)≤i* (w-1):=by
        intro m
        induction m with
        | zero => intro h1 _;obtain rfl:i=0:=by omega
                  simp [sumL]
        | succ m ih =>
          intro h1 h2
          rw [List.range_succ,sumL_append]
          simp only [sumL]
          by_cases c:i≤m
          · have:=ih c (by omega)
            have:=hz m c (by omega)
            omega
          · obtain rfl:i=m+1:=by omega
            have h4:sumL (fun b=>r (σ b)) (List.range m)≤sumL (fun _=>w-1) (List.range m):=sumL_le fun b hb=>by
              have:=hr (σ b) (same_lt h (by have:=List.mem_range.1 hb;omega));omega
            rw [sumL_const,List.length_range]at h4
            have h5:=hr (σ m) (same_lt h (by omega))
            have h6:((m+1:Nat):Int)* (w-1)=(m:Int)* (w-1)+(w-1):=by rw [Int.natCast_add,Int.add_mul];simp
            omega
      exact hsplit n (by omega) (Nat.le_refl _)
    have e3:(i:Int)* (w-1)<w*k:=by
      have h1:(i:Int)* (w-1)≤(k:Int)* (w-1):=Int.mul_le_mul_of_nonneg_right (by omega) (by omega)
      have h2:(k:Int)* (w-1)=w*k-k:=by rw [Int.mul_sub,Int.mul_comm];simp
      omega
    omega
  · left
    exact topP_out fun i hi e=>c ⟨i,hi,e⟩
theorem share_rests {l:List Nat}{x:Nat→Int}{w t:Int}(hw:0<w)(h:sumL x l=t*w):sumL (fun j=>x j % w) l=w* (t-sumL (fun j=>x j / w) l):=by
  have e:sumL x l=sumL (fun j=>w* (x j / w)+x j % w) l:=sumL_congr fun i _=>(Int.mul_ediv_add_emod (x i) w).symm
  rw [sumL_add,sumL_mul,h]at e
  rw [Int.mul_sub,Int.mul_comm w t];omega
structure FP where
  n:Nat→Int
  mn:Nat→Int
  bd:Nat→Int
structure FP.Ok(p:FP)(l:List Nat):Prop where
  n: ∀ i∈l,1≤p.n i
  mn: ∀ i∈l,0≤p.mn i
  le: ∀ i∈l,p.mn i≤p.bd i
def FP.above(p:FP)(rest weight:Int)(l:List Nat):Int:=sumL (fun i=>max 0 (rest*p.n i-weight*p.bd i)) l
def FP.below(p:FP)(rest weight:Int)(l:List Nat):Int:=sumL (fun i=>max 0 (weight*p.mn i-rest*p.n i)) l
def FP.isMx(p:FP)(rest weight a b:Int)(i:Nat):Bool:=decide (b≤a) && decide (weight*p.bd i≤rest*p.n i)
def FP.isMn(p:FP)(rest weight a b:Int)(i:Nat):Bool:= !p.isMx rest weight a b i && (decide (a≤b) && decide (rest*p.n i≤weight*p.mn i))
def FP.froz(p:FP)(rest weight a b:Int)(i:Nat):Bool:=p.isMx rest weight a b i || p.isMn rest weight a b i
def FP.fz(p:FP)(rest weight a b:Int)(i:Nat):Int:=if p.isMx rest weight a b i=true then p.bd i else p.mn i
inductive Fills(p:FP):List Nat→Int→Int→(Nat→Int)→(Nat→Int)→Prop
  | stop {l:List Nat} {rest weight:Int} {y z:Nat→Int} (ha:p.above rest weight l=0) (hb:p.below rest weight l=0) (out:Nat→Int)
      (ht:l≠ []→ ∃ k:Nat,(k:Int)=rest-sumL (fun i=>rest*p.n i / weight) l∧Tops l.length (fun k=>rest*p.n (l.getD k 0) / weight) (fun k=>rest*p.n (l.getD k 0) % weight) k out)
      (hin: ∀ k,k<l.length→z (l.getD k 0)=out k) (hout: ∀ j,j ∉ l→z j=y j):Fills p l rest weight y z
  | round {l:List Nat} {rest weight a b:Int} {y z:Nat→Int} (ha:a=p.above rest weight l) (hb:b=p.below rest weight l) (h:a≠0∨b≠0)
      (next:Fills p (l.filter fun i=> !p.froz rest weight a b i) (rest-sumL (p.fz rest weight a b) (l.filter (p.froz rest weight a b))) (weight-sumL p.n (l.filter (p.froz rest weight a b)))
        (fun j=>if j∈l∧p.froz rest weight a b j=true then p.fz rest weight a b j else y j) z):Fills p l rest weight y z
theorem Fills.out {p:FP}{l:List Nat}{rest weight:Int}{y z:Nat→Int}(h:Fills p l rest weight y z): ∀ j,j ∉ l→z j=y j:=by
  induction h with
  | stop _ _ _ _ _ h=>exact h
  | @round l rest weight a b y z ha hb h next ih =>
    intro j hj
    rw [ih j fun k=>hj (List.mem_filter.1 k).1]
    exact if_neg fun k=>hj k.1
structure FInv(p:FP)(l:List Nat)(rest weight:Int):Prop where
  ok:p.Ok l
  nd:l.Nodup
  w:weight=sumL p.n l
  lo:sumL p.mn l≤rest
  hi:rest≤sumL p.bd l
theorem FInv.rest0 {p:FP}{l:List Nat}{rest weight:Int}(h:FInv p l rest weight):0≤rest:=by
  have:=sumL_ge0 (f:=p.mn) (l:=l) h.ok.mn
  have:=h.lo;omega
theorem FInv.wpos {p:FP}{l:List Nat}{rest weight:Int}(h:FInv p l rest weight)(hl:l≠ []):0<weight:=by
  rw [h.w]
  cases l with
  | nil=>exact absurd rfl hl
  | cons a l =>
    simp only [sumL]
    have:=h.ok.n a (by simp)
    have:=sumL_ge0 (f:=p.n) (l:=l) fun i hi=>by have:=h.ok.n i (by simp [hi]);omega
    omega
theorem FInv.w0 {p:FP}{l:List Nat}{rest weight:Int}(h:FInv p l rest weight):0≤weight:=by
  rw [h.w];exact sumL_ge0 fun i hi=>by have:=h.ok.n i hi;omega
def FP.cl(p:FP)(rest weight:Int)(i:Nat):Int:=rest*p.n i-max 0 (rest*p.n i-weight*p.bd i)+max 0 (weight*p.mn i-rest*p.n i)
theorem cl_sum {p:FP}{l:List Nat}{rest weight:Int}(h:FInv p l rest weight):sumL (p.cl rest weight) l=rest*weight-p.above rest weight l+p.below rest weight l:=by
  unfold FP.cl FP.above FP.below
  rw [sumL_add]
  have e:sumL (fun i=>rest*p.n i-max 0 (rest*p.n i-weight*p.bd i)) l+sumL (fun i=>max 0 (rest*p.n i-weight*p.bd i)) l=rest*weight:=by
    rw [← sumL_add,h.w,← sumL_mul]
    exact sumL_congr fun i _=>by omega
  omega
theorem wmul_le {w a b:Int}(hw:0≤w)(h:a≤b):w*a≤w*b:=Int.mul_le_mul_of_nonneg_left h hw
theorem FInv.round {p:FP} {l:List Nat} {rest weight a b:Int} (h:FInv p l rest weight) (ha:a=p.above rest weight l) (hb:b=p.below rest weight l) (hl:l≠ []) :
    FInv p (l.filter fun i=> !p.froz rest weight a b i) (rest-sumL (p.fz rest weight a b) (l.filter (p.froz rest weight a b))) (weight-sumL p.n (l.filter (p.froz rest weight a b))):=by
  have hw:=h.wpos hl
  have hsub: ∀ {q:Nat→Bool} {i},i∈l.filter q→i∈l:=fun hi=>(List.mem_filter.1 hi).1
  have hcl:=cl_sum h
  rw [← ha,← hb]at hcl
  have split:=fun f=>sumL_filter f (p.froz rest weight a b) l
  have hle:=h.ok.le
  have c1: ∀ i∈l,weight*p.mn i≤p.cl rest weight i∧p.cl rest weight i≤weight*p.bd i:=by
    intro i hi
    have:=wmul_le (Int.le_of_lt hw) (hle i hi)
    unfold FP.cl;omega
  have s1:weight*sumL p.mn (l.filter fun i=> !p.froz rest weight a b i)≤sumL (p.cl rest weight) (l.filter fun i=> !p.froz rest weight a b i):=by
    rw [← sumL_mul];exact sumL_le fun i hi=>(c1 i (hsub hi)).1
  have s2:sumL (p.cl rest weight) (l.filter fun i=> !p.froz rest weight a b i)≤weight*sumL p.bd (l.filter fun i=> !p.froz rest weight a b i):=by
    rw [← sumL_mul];exact sumL_le fun i hi=>(c1 i (hsub hi)).2
  have hs:=split (p.cl rest weight)
  have hf: ∀ i∈l.filter (p.froz rest weight a b),weight*p.fz rest weight a b i=p.cl rest weight i:=by
    intro i hi
    have hfr:=(List.mem_filter.1 hi).2
    have:=wmul_le (Int.le_of_lt hw) (hle i (hsub hi))
    unfold FP.fz FP.cl
    by_cases c:p.isMx rest weight a b i=true
    · rw [if_pos c]
      simp only [FP.isMx,Bool.and_eq_true,decide_eq_true_eq]at c
      omega
    · rw [if_neg c]
      simp only [FP.froz,Bool.or_eq_true,c,Bool.false_eq_true,false_or,FP.isMn,Bool.and_eq_true,decide_eq_true_eq]at hfr
      omega
  have s3:weight*sumL (p.fz rest weight a b) (l.filter (p.froz rest weight a b))=sumL (p.cl rest weight) (l.filter (p.froz rest weight a b)):=by
    rw [← sumL_mul];exact sumL_congr hf
  refine⟨⟨fun i hi=>h.ok.n i (hsub hi),fun i hi=>h.ok.mn i (hsub hi),fun i hi=>h.ok.le i (hsub hi)⟩,h.nd.filter _,?_,?_,?_⟩
  · have:=split p.n
    rw [← h.w]at this;omega
  · rcases Int.lt_or_le a b with c | c
    ·
      have e: ∀ i,p.isMx rest weight a b i=false:=fun i=>by
        unfold FP.isMx
        rw [show decide (b≤a)=false by simp;omega];rfl
      have e2:sumL (p.fz rest weight a b) (l.filter (p.froz rest weight a b))=sumL p.mn (l.filter (p.froz rest weight a b)):=sumL_congr fun i _=>by
        unfold FP.fz;rw [e i];simp
      have:=split p.mn
      have:=h.lo
      omega
    · have:weight*sumL p.mn (l.filter fun i=> !p.froz rest weight a b i)≤weight* (rest-sumL (p.fz rest weight a b) (l.filter (p.froz rest weight a b))):=by
        rw [Int.mul_sub,s3,Int.mul_comm weight rest];omega
      exact Int.le_of_mul_le_mul_left this hw
  · rcases Int.lt_or_le b a with c | c
    ·
      have e2:sumL (p.fz rest weight a b) (l.filter (p.froz rest weight a b))=sumL p.bd (l.filter (p.froz rest weight a b)):=sumL_congr fun i hi=>by
        have hfr:=(List.mem_filter.1 hi).2
        unfold FP.fz
        rw [if_pos]
        simp only [FP.froz,Bool.or_eq_true,FP.isMn,Bool.and_eq_true,decide_eq_true_eq]at hfr
        rcases hfr with h | h
        · exact h
        · omega
      have:=split p.bd
      have:=h.hi
      omega
    · have:weight* (rest-sumL (p.fz rest weight a b) (l.filter (p.froz rest weight a b)))≤weight*sumL p.bd (l.filter fun i=> !p.froz rest weight a b i):=by
        rw [Int.mul_sub,s3,Int.mul_comm weight rest];omega
      exact Int.le_of_mul_le_mul_left this hw
theorem FInv.less {p:FP}{l:List Nat}{rest weight a b:Int}(h:FInv p l rest weight)(ha:a=p.above rest weight l)(hb:b=p.below rest weight l)(h0:a≠0∨b≠0):(l.filter fun i=> !p.froz rest weight a b i).length<l.length:=by
  have a0:0≤a:=by rw [ha];exact sumL_ge0 fun i _=>by omega
  have b0:0≤b:=by rw [hb];exact sumL_ge0 fun i _=>by omega
  have key: ∃ i∈l,p.froz rest weight a b i=true:=by
    rcases Int.lt_or_le a b with c | c
    · have:0<p.below rest weight l:=by omega
      obtain⟨i,hi,h1⟩:=sumL_pos_of this
      refine⟨i,hi,?_⟩
      simp only [FP.froz,FP.isMn,FP.isMx,Bool.or_eq_true,Bool.and_eq_true,decide_eq_true_eq,Bool.not_eq_true',Bool.and_eq_false_iff,decide_eq_false_iff_not]
      right
      exact⟨.inl (by omega),by omega,by omega⟩
    · have:0<p.above rest weight l:=by omega
      obtain⟨i,hi,h1⟩:=sumL_pos_of this
      refine⟨i,hi,?_⟩
      simp only [FP.froz,FP.isMx,Bool.or_eq_true,Bool.and_eq_true,decide_eq_true_eq]
      left
      exact⟨by omega,by omega⟩
  obtain⟨i,hi,h1⟩:=key
  exact List.length_filter_lt_length_iff_exists.2 ⟨i,hi,by simp [h1]⟩
theorem range_getD(l:List Nat):(List.range l.length).map (fun k=>l.getD k 0)=l:=by
  apply List.ext_getElem (by simp)
  intro j h1 h2
  simp [List.getD_eq_getElem?_getD,h2]
theorem sumL_getD(f:Nat→Int)(l:List Nat):sumL (fun k=>f (l.getD k 0)) (List.range l.length)=sumL f l:=by
  conv=>rhs;rw [← range_getD l,sumL_map]
theorem mem_getD {l:List Nat}{j:Nat}(h:j∈l): ∃ k,k<l.length∧l.getD k 0=j:=by
  obtain⟨k,hk,e⟩:=List.mem_iff_getElem.1 h
  exact⟨k,hk,by simp [List.getD_eq_getElem?_getD,hk,e]⟩
theorem getD_mem {l:List Nat}{k:Nat}(h:k<l.length):l.getD k 0∈l:=by
  simp [List.getD_eq_getElem?_getD,h]
theorem FP.above0 {p:FP}{rest weight:Int}{l:List Nat}(h:p.above rest weight l=0){i:Nat}(hi:i∈l):rest*p.n i≤weight*p.bd i:=by
  have:=sumL_zero_of (f:=fun i=>max 0 (rest*p.n i-weight*p.bd i)) (fun i _=>by omega) h i hi
  omega
theorem FP.below0 {p:FP}{rest weight:Int}{l:List Nat}(h:p.below rest weight l=0){i:Nat}(hi:i∈l):weight*p.mn i≤rest*p.n i:=by
  have:=sumL_zero_of (f:=fun i=>max 0 (weight*p.mn i-rest*p.n i)) (fun i _=>by omega) h i hi
  omega
theorem stop_one {p:FP}{l:List Nat}{rest weight:Int}{z:Nat→Int}(h:FInv p l rest weight){out:Nat→Int}{k:Nat}(ht:Tops l.length (fun k=>rest*p.n (l.getD k 0) / weight) (fun k=>rest*p.n (l.getD k 0) % weight) k out)
    (hin: ∀ k,k<l.length→z (l.getD k 0)=out k) {j:Nat} (hj:j∈l):z j=rest*p.n j / weight∨(z j=rest*p.n j / weight+1∧0<rest*p.n j % weight):=by
  obtain⟨q,hq,e⟩:=mem_getD hj
  have h1:=hin q hq
  have h2:=ht.one q hq
  rw [e]at h1 h2
  rw [h1];exact h2
theorem Fills.law {p:FP} {l:List Nat} {rest weight:Int} {y z:Nat→Int} (h:Fills p l rest weight y z) (hi:FInv p l rest weight) :
    sumL z l=rest∧(∀ j∈l,p.mn j≤z j∧z j≤p.bd j)∧(∀ i∈l,∀ k∈l,p.mn i=p.mn k→p.bd i=p.bd k→p.n k≤p.n i→z k≤z i+1):=by
  induction h with
  | @stop l rest weight y z ha hb out ht hin hout =>
    by_cases hl:l= []
    · subst hl
      have h1:=hi.lo
      have h2:=hi.hi
      simp only [sumL]at h1 h2 ⊢
      exact⟨by omega,by simp,by simp⟩
    obtain⟨k,hk,ht⟩:=ht hl
    have hw:=hi.wpos hl
    have r0:=hi.rest0
    refine⟨?_,?_,?_⟩
    · have h1:=ht.sum
      rw [sumL_getD (fun i=>rest*p.n i / weight) l]at h1
      have h2:sumL z l=sumL out (List.range l.length):=by
        rw [← sumL_getD z l];exact sumL_congr fun q hq=>hin q (List.mem_range.1 hq)
      omega
    · intro j hj
      have h1:=FP.above0 ha hj
      have h2:=FP.below0 hb hj
      have h3:=Int.mul_ediv_add_emod (rest*p.n j) weight
      have h4:=Int.emod_lt_of_pos (rest*p.n j) hw
      have h5:=Int.emod_nonneg (rest*p.n j) (show weight≠0 by omega)
      have lo:p.mn j≤rest*p.n j / weight:=Int.le_ediv_of_mul_le hw (by rw [Int.mul_comm];exact h2)
      have up:rest*p.n j / weight≤p.bd j:=by
        have:=Int.ediv_le_ediv hw h1
        rwa [Int.mul_ediv_cancel_left _ (by omega)]at this
      rcases stop_one hi ht hin hj with e | ⟨e,e2⟩
      · omega
      · refine⟨by omega,?_⟩
        rw [e]
        rcases Int.lt_or_le (rest*p.n j / weight) (p.bd j)with c | c
        · omega
        · have:rest*p.n j / weight=p.bd j:=by omega
          rw [this]at h3;omega
    · intro i hi' k' hk' _ _ hn
      have h1:rest*p.n k'≤rest*p.n i:=Int.mul_le_mul_of_nonneg_left hn r0
      have h2:=Int.ediv_le_ediv hw h1
      rcases stop_one hi ht hin hi' with e | ⟨e,_⟩<;>rcases stop_one hi ht hin hk' with e3 | ⟨e3,_⟩<;>omega
  | @round l rest weight a b y z ha hb h0 next ih =>
    have hl:l≠ []:=by
      intro e;subst e
      simp [FP.above,FP.below,sumL]at ha hb;omega
    have hi2:=hi.round ha hb hl
    obtain⟨i1,i2,i3⟩:=ih hi2
    have hw:=hi.wpos hl
    have r0:=hi.rest0
    have fr: ∀ j,j∈l→p.froz rest weight a b j=true→z j=p.fz rest weight a b j:=by
      intro j hj hf
      rw [next.out j fun k=>by have:=(List.mem_filter.1 k).2;simp [hf]at this]
      exact if_pos ⟨hj,hf⟩
    have bounds: ∀ j,j∈l→p.mn j≤z j∧z j≤p.bd j:=by
      intro j hj
      by_cases c:p.froz rest weight a b j=true
      · rw [fr j hj c]
        have:=hi.ok.le j hj
        unfold FP.fz;split<;>omega
      · exact i2 j (List.mem_filter.2 ⟨hj,by simpa using c⟩)
    refine⟨?_,bounds,?_⟩
    · rw [sumL_filter z (p.froz rest weight a b) l,i1]
      have:sumL z (l.filter (p.froz rest weight a b))=sumL (p.fz rest weight a b) (l.filter (p.froz rest weight a b)):=sumL_congr fun j hj=>fr j (List.mem_filter.1 hj).1 (List.mem_filter.1 hj).2
      omega
    · intro i hi' k hk hm hbd hn
      have hx:rest*p.n k≤rest*p.n i:=Int.mul_le_mul_of_nonneg_left hn r0
      have bi:=bounds i hi'
      have bk:=bounds k hk
      have hle:=wmul_le (Int.le_of_lt hw) (hi.ok.le k hk)
      by_cases ci:p.froz rest weight a b i=true
      · by_cases mi:p.isMx rest weight a b i=true
        · have:=fr i hi' ci
          unfold FP.fz at this;rw [if_pos mi]at this;omega
        ·
          have ci':=ci
          simp only [FP.froz,Bool.or_eq_true,mi,Bool.false_eq_true,false_or,FP.isMn,Bool.and_eq_true,decide_eq_true_eq]at ci'
          have ck:p.froz rest weight a b k=true:=by
            by_cases mk:p.isMx rest weight a b k=true
            · simp [FP.froz,mk]
            · simp only [FP.froz,FP.isMn,Bool.or_eq_true,Bool.and_eq_true,decide_eq_true_eq]
              right
              refine⟨by simpa using mk,ci'.2.1,?_⟩
              rw [← hm];omega
          have e:=fr k hk ck
          unfold FP.fz at e
          split at e
          · rename_i mk
            simp only [FP.isMx,Bool.and_eq_true,decide_eq_true_eq]at mk
            exfalso;apply mi
            simp only [FP.isMx,Bool.and_eq_true,decide_eq_true_eq]
            exact⟨mk.1,by rw [hbd];omega⟩
          · omega
      · by_cases ck:p.froz rest weight a b k=true
        · have e:=fr k hk ck
          unfold FP.fz at e
          split at e
          · rename_i mk
            simp only [FP.isMx,Bool.and_eq_true,decide_eq_true_eq]at mk
            exfalso;apply ci
            have:p.isMx rest weight a b i=true:=by
              simp only [FP.isMx,Bool.and_eq_true,decide_eq_true_eq]
              exact⟨mk.1,by rw [hbd];omega⟩
            simp [FP.froz,this]
          · omega
        · exact i3 i (List.mem_filter.2 ⟨hi',by simpa using ci⟩) k (List.mem_filter.2 ⟨hk,by simpa using ck⟩) hm hbd hn
end Go.Lift
namespace Go.Lift
noncomputable section
open Go.RowKit
theorem lookF_mem {F:Facts}{t:Nat}{v:AVal}(hv:lookF F t=some v):(t,v)∈F:=by
  induction F with
  | nil=>cases hv
  | cons p r ih =>
    obtain⟨k,u⟩:=p
    rw [lookF_cons]at hv
    split at hv
    · rename_i e;simp only [Option.some.injEq]at hv;subst e;subst hv;simp
    · exact List.mem_cons_of_mem _ (ih hv)
theorem lookF_map {F:Facts}{g:AVal→AVal}{t:Nat}{v:AVal}(hv:lookF F t=some v):lookF (F.map fun p=>(p.1,g p.2)) t=some (g v):=by
  induction F with
  | nil=>cases hv
  | cons p r ih =>
    obtain⟨k,u⟩:=p
    rw [List.map_cons,lookF_cons]
    rw [lookF_cons]at hv
    split at hv
    · rename_i e;simp only [Option.some.injEq]at hv;subst hv;rw [if_pos e]
    · rename_i e;rw [if_neg e];exact ih hv
theorem Ent.move {base n:Nat}{F F1:Facts}{h:AHeap}{K:Nat}{l:List (Nat×ABlk)}(r:Nat→Nat)(hl:l.map (fun p=>h.get (r p.1))=l.map (fun p=>some (p.2.ren r)))(hK:l.all (fun p=>Nat.blt p.1 K)=true)
    (hr:((l.map (·.1)).map r).Nodup) (hb:(List.range base).all (fun i=>(l.map (·.1)).contains i && Nat.beq (r i) i)=true) (hnew:l.all (fun p=>Nat.blt p.1 base || Nat.ble base (r p.1))=true)
    (hFF:F=F1.map fun p=>(p.1,p.2.ren r)) (hn:F1.all (fun p=>Nat.blt p.1 n)=true) (hF:All (F1.map fun p=>Clo (Ids (l.map (·.1))) p.2))
    (hc:All (l.map fun p=> ∀ e∈p.2.elems,Clo (Ids (l.map (·.1))) e)):Ent base n F h F1 (AHeap.rows K l):=by
  have hget: ∀ i b,(AHeap.rows K l).get i=some b→i<K∧h.get (r i)=some (b.ren r):=by
    intro i b k
    have hm:=AHeap.rows_get k
    refine⟨Nat.blt_eq.mp (List.all_eq_true.1 hK _ hm),?_⟩
    obtain⟨j,hj,e⟩:=List.mem_iff_getElem.1 hm
    have h1:=congrArg (fun(x:List (Option ABlk))=>x[j]?) hl
    simp only [List.getElem?_map,List.getElem?_eq_getElem hj,Option.map_some,e,Option.some.injEq]at h1
    exact h1
  have hmono: ∀ {v:AVal},Clo (Ids (l.map (·.1))) v→Clo (In (AHeap.rows K l)) v:=Clo.mono fun i hi=>AHeap.rows_in hi
  subst hFF
  refine Ent.ren (r:=r) ⟨fun i b k=>⟨by rw [AHeap.rows_next];exact(hget i b k).1,(hget i b k).2⟩,?_,?_⟩ ?_ ?_ ?_ ?_
  · intro i j hi hj e
    have hi:=AHeap.rows_in_of hi
    have hj:=AHeap.rows_in_of hj
    obtain⟨a,ha,rfl⟩:=List.mem_iff_getElem.1 hi
    obtain⟨b,hb',rfl⟩:=List.mem_iff_getElem.1 hj
    have h1:((l.map (·.1)).map r)[a]'(by simpa using ha)=((l.map (·.1)).map r)[b]'(by simpa using hb'):=by simpa using e
    have:=(List.getElem_inj hr).1 h1
    subst this;rfl
  · intro i b k e he
    have hm:=AHeap.rows_get k
    exact hmono (hc _ (List.mem_map.2 ⟨_,hm,rfl⟩) e he)
  · intro t v hv
    have hm:=lookF_mem hv
    exact⟨Nat.blt_eq.mp (List.all_eq_true.1 hn _ hm),lookF_map hv,hmono (hF _ (List.mem_map.2 ⟨_,hm,rfl⟩))⟩
  · intro i hi _
    have:=List.all_eq_true.1 hb i (List.mem_range.2 hi)
    simp only [Bool.and_eq_true]at this
    exact AHeap.rows_in (by simpa using this.1)
  · intro i hi _
    have:=List.all_eq_true.1 hb i (List.mem_range.2 hi)
    simp only [Bool.and_eq_true]at this
    exact Nat.eq_of_beq_eq_true this.2
  · intro i hi hlt
    have hi:=AHeap.rows_in_of hi
    obtain⟨p,hm,rfl⟩:=List.mem_map.1 hi
    have:=List.all_eq_true.1 hnew p hm
    simp only [Bool.or_eq_true]at this
    rcases this with h1 | h1
    · exact Nat.blt_eq.mp h1
    · have:=Nat.le_of_ble_eq_true h1;omega
theorem AHeap.foldl_get_eq(l:List (Nat×ABlk)): ∀ (h g:AHeap) (i:Nat),h.get i=g.get i→(l.foldl (fun h p=>h.set p.1 p.2) h).get i=(l.foldl (fun h p=>h.set p.1 p.2) g).get i:=by
  induction l with
  | nil=>intro h g i e;exact e
  | cons p r ih =>
    intro h g i e
    refine ih _ _ i ?_
    rw [AHeap.get_set,AHeap.get_set,e]
theorem AHeap.foldl_out(l:List (Nat×ABlk)): ∀ (h:AHeap) (i:Nat),i ∉ l.map (·.1)→(l.foldl (fun h p=>h.set p.1 p.2) h).get i=h.get i:=by
  induction l with
  | nil=>intro h i _;rfl
  | cons p r ih =>
    intro h i hi
    simp only [List.map_cons,List.mem_cons,not_or]at hi
    rw [List.foldl_cons,ih _ i hi.2,AHeap.get_set_ne _ _ (Ne.symm hi.1)]
theorem Ent.more {base n:Nat}{F:Facts}{K K2:Nat}{l l2:List (Nat×ABlk)}(hK:Nat.ble K K2=true)(h2:l2.all (fun p=>Nat.ble K p.1)=true):Ent base n F (AHeap.rows K l) F (AHeap.rows K2 (l++l2)):=by
  refine Ent.pad (by rw [AHeap.rows_next,AHeap.rows_next];exact Nat.le_of_ble_eq_true hK) fun i hi=> ?_
  rw [AHeap.rows_next]at hi
  unfold AHeap.rows
  rw [List.foldl_append,AHeap.foldl_out l2 _ i fun hm=> ?_]
  · exact AHeap.foldl_get_eq l _ _ i rfl
  · obtain⟨p,hp,rfl⟩:=List.mem_map.1 hm
    have:=Nat.le_of_ble_eq_true (List.all_eq_true.1 h2 p hp)
    omega
def noRow0:ABlk:= .made [] 1 true
theorem noRow0_bare:BareB noRow0:=by intro e he;cases he
end
end Go.Lift
namespace Go.Proofs.Ytgfkllnaeekjeaa
open Go.Lift
set_option maxRecDepth 1000000
def sideZ(n:Int):Int:=min (max n 0) 4096
theorem side_p(n:Int) :
    FDoes Try.prog 38 [.int .i64 n] (⟨0,.nil⟩) (.int .i64 (if 4096<if 0>n then 0 else n then 4096 else if 0>n then 0 else n)) (AHeap.rows 5 []) :=
  pcall_does env_ok mixed (hs:= []) (rs:= []) (by kernel_rfl) (All.nil)
theorem side_does(n:Int)(H:AHeap):FDoes Try.prog 38 [.int .i64 n] H (.int .i64 (sideZ n)) H:=by
  have h:=(side_p n).bare (by simp [Bare,AVal.ren,Clo]) (Bare.int _ _) H
  have e:(if 4096<if 0>n then 0 else n then 4096 else if 0>n then 0 else n)=sideZ n:=by unfold sideZ;split<;>split<;>omega
  rwa [e]at h
theorem sideZ_range(n:Int):0≤sideZ n∧sideZ n≤4096:=by unfold sideZ;omega
def usedZ(x:Nat→Int)(gap:Int)(n:Nat):Int:=sideZ gap* ((n:Int)-1)+sumTo (fun j=>sideZ (x j)) n
def freeZ(x:Nat→Int)(extent gap:Int)(n:Nat):Int:=max 0 (sideZ extent-usedZ x gap n)
def wayZ(free:Int)(n:Nat)(how:Int)(i:Nat):Int :=
  if how=1 then free else if how=2 then free.tdiv 2 else if how=3 then(free*i).tdiv (max ((n:Int)-1) 1)else if how=4 then(free* (2*i+1)).tdiv (2*n)else 0
def aheadZ(x:Nat→Int)(gap:Int)(i:Nat):Int:=sumTo (fun j=>sideZ (x j)+sideZ gap) i
def placeZ(x:Nat→Int)(extent gap how:Int)(n i:Nat):Int:=max 0 (min (aheadZ x gap i+wayZ (freeZ x extent gap n) n how i) (sideZ extent-sideZ (x i)))
theorem mul_range {a b A B:Int}(ha:0≤a)(hA:a≤A)(hb:0≤b)(hB:b≤B):0≤a*b∧a*b≤A*B :=
  ⟨Int.mul_nonneg ha hb,Int.mul_le_mul hA hB hb (by omega)⟩
end Go.Proofs.Ytgfkllnaeekjeaa
namespace Go.Proofs.Ytgfkllnaeekjeaa
open Go.Lift
set_option maxRecDepth 1000000
structure FillIt(t:It):Prop where
  n:1≤t.n∧t.n≤1000
  mn:0≤t.mn∧t.mn≤4096
  mx:t.mx=0∨(t.mn≤t.mx∧1≤t.mx∧t.mx≤4096)
def fpOf(it:Nat→It):FP:=⟨fun i=>(it i).n,fun i=>(it i).mn,fun i=>boundZ (it i).mx⟩
theorem FillIt.bd {t:It}(h:FillIt t):t.mn≤boundZ t.mx∧0≤boundZ t.mx∧boundZ t.mx≤8192:=by
  have h1:=h.mn
  have h2:=h.mx
  unfold boundZ
  split<;>omega
theorem take_succ_getD {L:List Nat}{i:Nat}(h:i<L.length):L.take (i+1)=L.take i++ [L.getD i 0]:=by
  rw [List.take_add_one,List.getElem?_eq_getElem h,List.getD_eq_getElem?_getD,List.getElem?_eq_getElem h];rfl
theorem sumL_up {f:Nat→Int}{c:Int}{l:List Nat}(h: ∀ i∈l,f i≤c):sumL f l≤l.length*c:=by
  have:=sumL_le h
  rwa [sumL_const]at this
def overF(it:Nat→It)(rest weight:Int)(j:Nat):Int:=max 0 (rest* (it j).n-weight*boundZ (it j).mx)
def underF(it:Nat→It)(rest weight:Int)(j:Nat):Int:=max 0 (weight* (it j).mn-rest* (it j).n)
theorem max_if(x:Int):(if x>0 then x else 0)=max 0 x:=by split<;>omega
structure Nums(it:Nat→It)(rest weight:Int)(j:Nat):Prop where
  x:0≤rest* (it j).n∧rest* (it j).n≤2^23
  w:0≤weight*boundZ (it j).mx∧weight*boundZ (it j).mx≤2^40
  m:0≤weight* (it j).mn∧weight* (it j).mn≤2^40
theorem nums_of {it:Nat→It}{rest weight:Int}{j:Nat}(hr:0≤rest∧rest≤4096)(hw:0≤weight∧weight≤2^24)(h:FillIt (it j)):Nums it rest weight j:=by
  have h1:=mul_range (a:=rest) (b:=(it j).n) hr.1 hr.2 (show 0≤(it j).n by have:=h.n;omega) h.n.2
  have h2:=mul_range hw.1 hw.2 h.bd.2.1 h.bd.2.2
  have h3:=mul_range hw.1 hw.2 h.mn.1 h.mn.2
  exact⟨by omega,by omega,by omega⟩
theorem over_range {it:Nat→It}{rest weight:Int}{j:Nat}(h:Nums it rest weight j):0≤overF it rest weight j∧overF it rest weight j≤2^23:=by
  have:=h.x;have:=h.w
  unfold overF;omega
theorem under_range {it:Nat→It}{rest weight:Int}{j:Nat}(h:Nums it rest weight j):0≤underF it rest weight j∧underF it rest weight j≤2^40:=by
  have:=h.x;have:=h.m
  unfold underF;omega
theorem it_parts(t:It):t.val= .agg [.int .i8 t.k,.int .i64 t.n,.int .i64 t.d,.int .i64 t.mn,.int .i64 t.mx]:=rfl
section
variable {N:Nat}(hN:N≤2^14){it:Nat→It}{L:List Nat}{c ver off:Nat}{o:Option AAddr}{b:ABlk}(hs:SlArg o L.length c 9 ver off 1)(hb:BareB b)(hel: ∀ i,i<L.length→b.elem? ver (off+i)=some (.int .i64 (L.getD i 0:Nat)))
  (hL: ∀ j∈L,j<N∧FillIt (it j)) (hm:L.length≤N) {rest weight:Int} (hr:0≤rest∧rest≤4096) (hw:0≤weight∧weight≤2^24)
include hN hs hb hel hL hm hr hw
theorem fill_ab_loop(sz:List AVal)(hsz:BareB (.made sz 1 true)): ∀ (f i:Nat),i+f=L.length →
    Loops Try.prog 2 279 (loopAt Try.prog 42 3) [(0,.slice (some ⟨0,0,0,0,5⟩) N N),(1,.slice (some ⟨1,0,0,0,1⟩) N N),(6,.int .i64 rest),(7,.int .i64 weight),(9,.slice o L.length c),(15,.int .i64 (sumL (overF it rest weight) (L.take i))),(16,.int .i64 (sumL (underF it rest weight) (L.take i))),(92,.slice o L.length c),(93,.int .i64 L.length),(94,.int .i64 i)]
      (AHeap.rows 60 [(0,.made (irows N it) 5 true),(1,.made sz 1 true),(9,b)]) (.exit 6) [(0,.slice (some ⟨0,0,0,0,5⟩) N N),(1,.slice (some ⟨1,0,0,0,1⟩) N N),(6,.int .i64 rest),(7,.int .i64 weight),(9,.slice o L.length c),(15,.int .i64 (sumL (overF it rest weight) L)),(16,.int .i64 (sumL (underF it rest weight) L))]
      (AHeap.rows 61 [(0,.made (irows N it) 5 true),(1,.made sz 1 true),(9,b)])
  | 0,i,e=>by
    obtain rfl:i=L.length:=by omega
    rw [List.take_length]
    exact Loops.last (by simp) (fill_ab_end N _ c _ o b _ _ _ _ _ _ (by omega))
  | f +1,i,e=>by
    have hi:i<L.length:=by omega
    have hmem:=getD_mem hi
    obtain⟨h1,h2⟩:=hL _ hmem
    have q:=nums_of hr hw h2
    have o1:=over_range q
    have u1:=under_range q
    have hsub: ∀ j∈L.take i,j∈L:=fun j hj=>List.mem_of_mem_take hj
    have hlen:((L.take i).length:Int)=i:=by rw [List.length_take];omega
    have s1:0≤sumL (overF it rest weight) (L.take i):=sumL_ge0 fun j hj=>(over_range (nums_of hr hw (hL j (hsub j hj)).2)).1
    have s2:sumL (overF it rest weight) (L.take i)≤_:=sumL_up fun j hj=>(over_range (nums_of hr hw (hL j (hsub j hj)).2)).2
    have s3:0≤sumL (underF it rest weight) (L.take i):=sumL_ge0 fun j hj=>(under_range (nums_of hr hw (hL j (hsub j hj)).2)).1
    have s4:sumL (underF it rest weight) (L.take i)≤_:=sumL_up fun j hj=>(under_range (nums_of hr hw (hL j (hsub j hj)).2)).2
    rw [hlen]at s2 s4
    have g1:=q.x
    have g2:=q.w
    have g3:=q.m
    have iti:=elem_made (es:=5) (ex:=true) (irows_get (it:=it) h1)
    have s:=fill_ab N L.length c ver off i (L.getD i 0) o b (irows N it) sz (it (L.getD i 0)).k (it (L.getD i 0)).n (it (L.getD i 0)).d (it (L.getD i 0)).mn (it (L.getD i 0)).mx rest weight (sumL (overF it rest weight) (L.take i)) (sumL (underF it rest weight) (L.take i))
      (by omega) (ix_intN hs hi) (hel i hi) (ix_it h1) iti (by omega) (ix_it h1) iti (bound_does _ _ _ _ _ _) (by omega) (by omega) (by rw [max_if];unfold overF at o1;omega) (ix_it h1) iti (by omega) (by omega) (by rw [max_if];unfold underF at u1;omega) (by omega)
    rw [max_if,max_if]at s
    have e1:sumL (overF it rest weight) (L.take i)+max 0 (rest* (it (L.getD i 0)).n-weight*boundZ (it (L.getD i 0)).mx)=sumL (overF it rest weight) (L.take (i+1)):=by
      rw [take_succ_getD hi,sumL_append];simp only [sumL,Int.add_zero];rfl
    have e2:sumL (underF it rest weight) (L.take i)+max 0 (weight* (it (L.getD i 0)).mn-rest* (it (L.getD i 0)).n)=sumL (underF it rest weight) (L.take (i+1)):=by
      rw [take_succ_getD hi,sumL_append];simp only [sumL,Int.add_zero];rfl
    rw [e1,e2]at s
    refine Loops.round s ?_ (fill_ab_loop sz hsz f (i+1) (by omega))
    have hc:Clo (Ids [0,1,9]) (.slice o L.length c):=hs.clo (by simp [Ids])
    exact Ent.drop (by kernel_rfl) (by kernel_rfl) (by kernel_rfl) (by kernel_rfl) (by simp [All_cons,All_nil,Clo,hc];simp [Ids]) (by
      simp only [List.map,All_cons,All_nil,and_true]
      exact⟨(irows_bare N it).clo _,hsz.clo _,hb.clo _⟩)
end
abbrev F4(N m c:Nat)(o:Option AAddr)(rest weight a b:Int)(sv:AVal)(left heavy:Int)(i:Nat):Facts :=
  [(0,.slice (some ⟨0,0,0,0,5⟩) N N),(1,.slice (some ⟨1,0,0,0,1⟩) N N),(6,.int .i64 rest),(7,.int .i64 weight),(15,.int .i64 a),(16,.int .i64 b),(20,sv),(21,.int .i64 left),(22,.int .i64 heavy),(138,.slice o m c),(139,.int .i64 m),(140,.int .i64 i)]
noncomputable abbrev H4(K N:Nat)(it:Nat→It)(y:Nat→Int)(b r0:ABlk):AHeap:=AHeap.rows K [(0,.made (irows N it) 5 true),(1,.made (ints N y) 1 true),(9,b),(100,r0)]
def frzF(q:Nat→Bool)(z y:Nat→Int):List Nat→Nat→Int
  | []=>y
  | j::R=>frzF q z (if q j=true then fun k=>if k=j then z j else y k else y) R
theorem frzF_eq (q:Nat→Bool) (z:Nat→Int): ∀ (R:List Nat) (y:Nat→Int) (k:Nat),frzF q z y R k=if k∈R∧q k=true then z k else y k
  | [],y,k=>by simp [frzF]
  | j ::R,y,k=>by
    simp only [frzF]
    rw [frzF_eq q z R]
    by_cases h:k∈R∧q k=true
    · rw [if_pos h,if_pos ⟨by simp [h.1],h.2⟩]
    · rw [if_neg h]
      by_cases hq:q j=true
      · rw [if_pos hq]
        by_cases e:k=j
        · subst e
          simp [hq]
        · simp only [if_neg e]
          rw [if_neg fun hh=>h ⟨(List.mem_cons.1 hh.1).resolve_left e,hh.2⟩]
      · rw [if_neg hq]
        by_cases e:k=j
        · subst e
          rw [if_neg fun hh=>hq hh.2]
        · rw [if_neg fun hh=>h ⟨(List.mem_cons.1 hh.1).resolve_left e,hh.2⟩]
noncomputable abbrev stRow(S:List Nat):ABlk:=gRow (fun k=>(S.getD k 0:Nat)) 1 (S.length-1)
abbrev stSl(S:List Nat):AVal:= .slice (some ⟨100,S.length-1,0,0,1⟩) S.length S.length
theorem stRow_one(j:Nat):stRow [j]= .made [.int .i64 (j:Int)] 1 false:=rfl
theorem stRow_grow {S:List Nat}(h:S≠ [])(j:Nat):(stRow S).grow [.int .i64 (j:Int)]=stRow (S++ [j]):=by
  have hp:0<S.length:=List.length_pos_iff.2 h
  have e0:gRow (fun k=>(S.getD k 0:Nat)) 1 (S.length-1)=gRow (fun k=>((S++ [j]).getD k 0:Nat)) 1 (S.length-1):=by
    unfold gRow
    rw [ints_congr fun k hk=> ?_]
    rw [List.getD_eq_getElem?_getD,List.getD_eq_getElem?_getD,List.getElem?_append_left (by omega)]
  show(gRow (fun k=>(S.getD k 0:Nat)) 1 (S.length-1)).grow _=gRow (fun k=>((S++ [j]).getD k 0:Nat)) 1 ((S++ [j]).length-1)
  rw [e0]
  have e1:(j:Int)=((S++ [j]).getD (1+(S.length-1)) 0:Nat):=by
    rw [show 1+(S.length-1)=S.length by omega,List.getD_eq_getElem?_getD,List.getElem?_append_right (by omega)];simp
  conv=>lhs;rw [e1]
  rw [gRow_grow (fun k=>((S++ [j]).getD k 0:Nat))]
  congr 1
  simp;omega
end Go.Proofs.Ytgfkllnaeekjeaa
namespace Go.Proofs.Ytgfkllnaeekjeaa
open Go.Lift
set_option maxRecDepth 1000000
abbrev E4(N:Nat)(sv:AVal)(left heavy:Int):Facts:= [(0,.slice (some ⟨0,0,0,0,5⟩) N N),(1,.slice (some ⟨1,0,0,0,1⟩) N N),(20,sv),(21,.int .i64 left),(22,.int .i64 heavy)]
theorem stSl_snoc(S:List Nat)(h:S≠ [])(j:Nat):AVal.slice (some ⟨100,S.length-1+1,0,0,1⟩) (S.length+1) (S.length+1)=stSl (S++ [j]):=by
  have hp:0<S.length:=List.length_pos_iff.2 h
  unfold stSl
  rw [List.length_append,List.length_singleton,show S.length+1-1=S.length-1+1 by omega]
theorem app_stay {S:List Nat}(h:S≠ [])(hlen:S.length≤2^14)(j t K:Nat)(hp:AHeap)(hg:hp.get 100=some (stRow S))(hx:elemsOf 1 (.slice (some ⟨t,0,0,0,1⟩) 1 1) hp=some [.int .i64 (j:Int)]) :
    abuiltin env .append #[27,27] [.slice (some ⟨100,S.length-1,0,0,1⟩) S.length S.length,.slice (some ⟨t,0,0,0,1⟩) 1 1] K hp=some (.slice (some ⟨100,S.length-1+1,0,0,1⟩) (S.length+1) (S.length+1),hp.set 100 (stRow (S++ [j]))):=by
  have h0:0<S.length:=List.length_pos_iff.2 h
  refine(app_grow slInt hx (by simp) (b:=stRow S) (by simp;omega) (by simp;omega) hg rfl (by simp) rfl rfl rfl (by simp [gRow];omega)).trans ?_
  rw [stRow_grow h];rfl
theorem app_first(j t:Nat)(hp:AHeap)(hx:elemsOf 1 (.slice (some ⟨t,0,0,0,1⟩) 1 1) hp=some [.int .i64 (j:Int)]) :
    abuiltin env .append #[27,27] [.slice none 0 0,.slice (some ⟨t,0,0,0,1⟩) 1 1] 100 hp=some (.slice (some ⟨100,0,0,0,1⟩) 1 1,hp.set 100 (stRow [j])) :=
  (app_new slInt hx (by simp) (by simp) (by simp)).trans (by rw [stRow_one];rfl)
theorem drop_cons {L R:List Nat}{i j:Nat}(h:L.drop i=j::R):i<L.length∧L.getD i 0=j∧L.drop (i+1)=R:=by
  have h1:i<L.length:=by
    rcases Nat.lt_or_ge i L.length with c | c
    · exact c
    · rw [List.drop_eq_nil_of_le c]at h;cases h
  refine⟨h1,?_,?_⟩
  · have:=congrArg (fun l=>l[0]?) h
    simp at this
    rw [List.getD_eq_getElem?_getD,this];rfl
  · rw [← List.tail_drop,h];rfl
theorem filt_in {q:Nat→Bool}{x:Nat}{R:List Nat}(h:q x=true):(x::R).filter q=x::R.filter q∧(x::R).filter (fun j=> !q j)=R.filter fun j=> !q j:=by
  simp [List.filter_cons,h]
theorem filt_out {q:Nat→Bool}{x:Nat}{R:List Nat}(h:q x=false):(x::R).filter q=R.filter q∧(x::R).filter (fun j=> !q j)=x::R.filter fun j=> !q j:=by
  simp [List.filter_cons,h]
theorem stRow_bare(S:List Nat):BareB (stRow S):=gRow_bare _ _ _
section
variable {N:Nat}(hN:N≤2^14){it:Nat→It}{L:List Nat}{c ver off:Nat}{o:Option AAddr}{bk:ABlk}(hs:SlArg o L.length c 9 ver off 1)(hb:BareB bk)(hel: ∀ i,i<L.length→bk.elem? ver (off+i)=some (.int .i64 (L.getD i 0:Nat)))
  (hL: ∀ j∈L,j<N∧FillIt (it j)) (hm:L.length≤N) {rest weight:Int} (hr:0≤rest∧rest≤4096) (hw:0<weight∧weight≤2^24) (hnw: ∀ j∈L,(it j).n≤weight) {a b:Int}
include hN hs hb hel hL hm hr hw hnw
theorem frz_step {i:Nat} (hi:i<L.length) (hq:(fpOf it).froz rest weight a b (L.getD i 0)=true) {sv:AVal} (hsv:Clo (Ids [0,1,9,100]) sv) {r0:ABlk} (hr0:BareB r0) (y:Nat→Int) {left heavy:Int}
    (hl: -(2^60)+8192≤left∧left≤2^60) (hh: -(2^60)+8192≤heavy∧heavy≤2^60) :
    Runs Try.prog 2 279 (loopAt Try.prog 42 4) (F4 N L.length c o rest weight a b sv left heavy i) (H4 101 N it y bk r0) .normal
      (F4 N L.length c o rest weight a b sv (left- (fpOf it).fz rest weight a b (L.getD i 0)) (heavy- (it (L.getD i 0)).n) (i+1))
      (H4 101 N it (fun k=>if k=L.getD i 0 then(fpOf it).fz rest weight a b (L.getD i 0)else y k) bk r0):=by
  obtain⟨h1,h2⟩:=hL _ (getD_mem hi)
  have hn2:=hnw _ (getD_mem hi)
  have hel':=hel i hi
  generalize L.getD i 0=j at *
  have q:=nums_of hr ⟨Int.le_of_lt hw.1,hw.2⟩ h2
  have g1:=q.x
  have g2:=q.w
  have g3:=q.m
  have iti:=elem_made (es:=5) (ex:=true) (irows_get (it:=it) h1)
  have bdj:=h2.bd
  have hc:Clo (Ids [0,1,9,100]) (.slice o L.length c):=hs.clo (by simp [Ids])
  have sete: ∀ v:Int,(ABlk.made (List.set (ints N y) j (.int .i64 v)) 1 true).elem? 0 j=some (.int .i64 v):=fun v=>elem_made (by rw [ints_set,ints_get h1];simp)
  have fin: ∀ (K:Nat) (v l' h':Int) (hk: [(0,ABlk.made (irows N it) 5 true),(1,.made (List.set (ints N y) j (.int .i64 v)) 1 true),(9,bk),(100,r0)].map (fun p=>(AHeap.rows K [(0,ABlk.made (irows N it) 5 true),(1,.made (List.set (ints N y) j (.int .i64 v)) 1 true),(9,bk),(100,r0)]).get p.1)= [(0,ABlk.made (irows N it) 5 true),(1,.made (List.set (ints N y) j (.int .i64 v)) 1 true),(9,bk),(100,r0)].map (fun p=>some p.2)),
      Ent 2 279 (F4 N L.length c o rest weight a b sv l' h' (i+1)) (AHeap.rows K [(0,ABlk.made (irows N it) 5 true),(1,.made (List.set (ints N y) j (.int .i64 v)) 1 true),(9,bk),(100,r0)]) (F4 N L.length c o rest weight a b sv l' h' (i+1)) (H4 101 N it (fun k=>if k=j then v else y k) bk r0):=by
    intro K v l' h' hk
    rw [ints_set]at hk ⊢
    exact Ent.drop hk (by kernel_rfl) (by kernel_rfl) (by kernel_rfl) (by simp [All_cons,All_nil,Clo,hc,hsv];simp [Ids]) (by
      simp only [List.map,All_cons,All_nil,and_true]
      exact⟨(irows_bare N it).clo _,fun e he=>(ints_bare _ _ e he).clo _,hb.clo _,hr0.clo _⟩)
  by_cases c1:(fpOf it).isMx rest weight a b j=true
  · have c2:=c1
    simp only [FP.isMx,Bool.and_eq_true,decide_eq_true_eq]at c2
    have c3:weight*boundZ (it j).mx≤rest* (it j).n:=c2.2
    have hmx:(it j).mx=boundZ (it j).mx:=by
      by_cases cc:0<(it j).mx
      · unfold boundZ;rw [if_pos cc]
      · exfalso
        have eb:boundZ (it j).mx=8192:=by unfold boundZ;rw [if_neg cc]
        rw [eb]at c3
        have:rest* (it j).n≤4096*weight:=Int.mul_le_mul hr.2 hn2 (by have:=h2.n;omega) (by omega)
        omega
    have hz:(fpOf it).fz rest weight a b j=(it j).mx:=by
      unfold FP.fz;rw [if_pos c1,hmx]
      show boundZ (it j).mx=_
      rw [← hmx]
    rw [hz]
    exact(fill_mx N L.length c ver off i j o bk r0 (irows N it) (ints N y) (it j).k (it j).n (it j).d (it j).mn (it j).mx rest weight a b left heavy _ sv
      (by omega) (ix_intN hs hi) hel' (ix_it h1) iti (by omega) (by omega) (ix_it h1) iti (bound_does _ _ _ _ _ _) (by omega) c3 (ix_it h1) iti (ixR h1) ⟨rfl,ints_get h1⟩ (ixR h1) (sete _) (by omega) (ix_it h1) iti (by have:=h2.n;omega) (by omega)).post (fin _ _ _ _ (by kernel_rfl))
  · have c2:=hq
    simp only [FP.froz,Bool.or_eq_true,c1,Bool.false_eq_true,false_or,FP.isMn,Bool.and_eq_true,decide_eq_true_eq]at c2
    have c3:rest* (it j).n≤weight* (it j).mn:=c2.2.2
    have hz:(fpOf it).fz rest weight a b j=(it j).mn:=by
      unfold FP.fz;rw [if_neg c1];rfl
    rw [hz]
    by_cases c4:a≥b
    · have c5: ¬ (rest* (it j).n≥weight*boundZ (it j).mx):=by
        intro h;apply c1
        simp only [FP.isMx,Bool.and_eq_true,decide_eq_true_eq]
        exact⟨c4,h⟩
      exact(fill_mn_a N L.length c ver off i j o bk r0 (irows N it) (ints N y) (it j).k (it j).n (it j).d (it j).mn (it j).mx rest weight a b left heavy _ sv
        (by omega) (ix_intN hs hi) hel' (ix_it h1) iti (by omega) c4 (ix_it h1) iti (bound_does _ _ _ _ _ _) (by omega) c5 (by omega) (ix_it h1) iti (by omega) c3 (ix_it h1) iti (ixR h1) ⟨rfl,ints_get h1⟩ (ixR h1) (sete _) (by have:=h2.mn;omega) (ix_it h1) iti (by have:=h2.n;omega) (by omega)).post (fin _ _ _ _ (by kernel_rfl))
    · exact(fill_mn_b N L.length c ver off i j o bk r0 (irows N it) (ints N y) (it j).k (it j).n (it j).d (it j).mn (it j).mx rest weight a b left heavy _ sv
        (by omega) (ix_intN hs hi) hel' (ix_it h1) iti (by omega) c4 (by omega) (ix_it h1) iti (by omega) c3 (ix_it h1) iti (ixR h1) ⟨rfl,ints_get h1⟩ (ixR h1) (sete _) (by have:=h2.mn;omega) (ix_it h1) iti (by have:=h2.n;omega) (by omega)).post (fin _ _ _ _ (by kernel_rfl))
theorem stay_step {i:Nat}(hi:i<L.length)(hq:(fpOf it).froz rest weight a b (L.getD i 0)=false){S:List Nat}(hS:S≠ [])(hSl:S.length≤2^14)(y:Nat→Int){left heavy:Int} :
    Runs Try.prog 2 279 (loopAt Try.prog 42 4) (F4 N L.length c o rest weight a b (stSl S) left heavy i) (H4 101 N it y bk (stRow S)) .normal
      (F4 N L.length c o rest weight a b (stSl (S++ [L.getD i 0])) left heavy (i+1)) (H4 101 N it y bk (stRow (S++ [L.getD i 0]))):=by
  obtain⟨h1,h2⟩:=hL _ (getD_mem hi)
  have hel':=hel i hi
  generalize L.getD i 0=j at *
  have q:=nums_of hr ⟨Int.le_of_lt hw.1,hw.2⟩ h2
  have g1:=q.x
  have g2:=q.w
  have g3:=q.m
  have iti:=elem_made (es:=5) (ex:=true) (irows_get (it:=it) h1)
  have hc:Clo (Ids [0,1,9,100]) (.slice o L.length c):=hs.clo (by simp [Ids])
  have fin: ∀ (K t:Nat) (hk: [(0,ABlk.made (irows N it) 5 true),(1,.made (ints N y) 1 true),(9,bk),(100,stRow (S++ [j]))].map (fun p=>(AHeap.rows K [(0,ABlk.made (irows N it) 5 true),(1,.made (ints N y) 1 true),(9,bk),(100,stRow (S++ [j])),(t,ABlk.made [.int .i64 (j:Int)] 1 true)]).get p.1)= [(0,ABlk.made (irows N it) 5 true),(1,.made (ints N y) 1 true),(9,bk),(100,stRow (S++ [j]))].map (fun p=>some p.2)),
      Ent 2 279 (F4 N L.length c o rest weight a b (stSl (S++ [j])) left heavy (i+1)) (AHeap.rows K [(0,ABlk.made (irows N it) 5 true),(1,.made (ints N y) 1 true),(9,bk),(100,stRow (S++ [j])),(t,ABlk.made [.int .i64 (j:Int)] 1 true)]) (F4 N L.length c o rest weight a b (stSl (S++ [j])) left heavy (i+1)) (H4 101 N it y bk (stRow (S++ [j]))):=by
    intro K t hk
    exact Ent.drop hk (by kernel_rfl) (by kernel_rfl) (by kernel_rfl) (by simp [All_cons,All_nil,Clo,hc];simp [Ids]) (by
      simp only [List.map,All_cons,All_nil,and_true]
      exact⟨(irows_bare N it).clo _,fun e he=>(ints_bare _ _ e he).clo _,hb.clo _,(stRow_bare _).clo _⟩)
  have e0:=stSl_snoc S hS j
  have nq: ∀ (h:b≤a),¬ (rest* (it j).n≥weight*boundZ (it j).mx):=by
    intro h hh
    have:(fpOf it).isMx rest weight a b j=true:=by
      simp only [FP.isMx,Bool.and_eq_true,decide_eq_true_eq]
      exact⟨h,hh⟩
    simp [FP.froz,this]at hq
  have nm: ∀ (h:a≤b),¬ (rest* (it j).n≤weight* (it j).mn):=by
    intro h hh
    have hx:(fpOf it).isMx rest weight a b j=false:=by
      simp only [FP.froz,Bool.or_eq_false_iff]at hq;exact hq.1
    have:(fpOf it).isMn rest weight a b j=true:=by
      simp only [FP.isMn,Bool.and_eq_true,decide_eq_true_eq]
      exact⟨by simp [hx],h,hh⟩
    simp [FP.froz,this]at hq
  by_cases c4:a≥b
  · by_cases c5:b≥a
    · have s:=fill_st_a_grow N L.length c ver off i j (S.length-1) S.length o bk (stRow S) (stRow (S++ [j])) (irows N it) (ints N y) (it j).k (it j).n (it j).d (it j).mn (it j).mx rest weight a b left heavy
        (by omega) (ix_intN hs hi) hel' (ix_it h1) iti (by omega) c4 (ix_it h1) iti (bound_does _ _ _ _ _ _) (by omega) (nq c4) c5 (ix_it h1) iti (by omega) (nm c5) ((app_stay hS hSl j _ _ _ (by kernel_rfl) (by kernel_rfl)).trans (by kernel_rfl)) (by omega)
      rw [e0]at s
      exact s.post (fin _ _ (by kernel_rfl))
    · have s:=fill_st_b_grow N L.length c ver off i j (S.length-1) S.length o bk (stRow S) (stRow (S++ [j])) (irows N it) (ints N y) (it j).k (it j).n (it j).d (it j).mn (it j).mx rest weight a b left heavy
        (by omega) (ix_intN hs hi) hel' (ix_it h1) iti (by omega) c4 (ix_it h1) iti (bound_does _ _ _ _ _ _) (by omega) (nq c4) c5 ((app_stay hS hSl j _ _ _ (by kernel_rfl) (by kernel_rfl)).trans (by kernel_rfl)) (by omega)
      rw [e0]at s
      exact s.post (fin _ _ (by kernel_rfl))
  · have s:=fill_st_c_grow N L.length c ver off i j (S.length-1) S.length o bk (stRow S) (stRow (S++ [j])) (irows N it) (ints N y) (it j).k (it j).n (it j).d (it j).mn (it j).mx rest weight a b left heavy
      (by omega) (ix_intN hs hi) hel' (ix_it h1) iti (by omega) c4 (by omega) (ix_it h1) iti (by omega) (nm (by omega)) ((app_stay hS hSl j _ _ _ (by kernel_rfl) (by kernel_rfl)).trans (by kernel_rfl)) (by omega)
    rw [e0]at s
    exact s.post (fin _ _ (by kernel_rfl))
theorem stay_first {i:Nat}(hi:i<L.length)(hq:(fpOf it).froz rest weight a b (L.getD i 0)=false)(y:Nat→Int){left heavy:Int}{r0:ABlk}(hr0:BareB r0) :
    Runs Try.prog 2 279 (loopAt Try.prog 42 4) (F4 N L.length c o rest weight a b (.slice none 0 0) left heavy i) (H4 101 N it y bk r0) .normal
      (F4 N L.length c o rest weight a b (stSl [L.getD i 0]) left heavy (i+1)) (H4 101 N it y bk (stRow [L.getD i 0])):=by
  obtain⟨h1,h2⟩:=hL _ (getD_mem hi)
  have hel':=hel i hi
  generalize L.getD i 0=j at *
  have q:=nums_of hr ⟨Int.le_of_lt hw.1,hw.2⟩ h2
  have g1:=q.x
  have g2:=q.w
  have g3:=q.m
  have iti:=elem_made (es:=5) (ex:=true) (irows_get (it:=it) h1)
  have hc:Clo (Ids [0,1,9,100]) (.slice o L.length c):=hs.clo (by simp [Ids])
  have hc3:Clo (Ids [0,1,9]) (.slice o L.length c):=hs.clo (by simp [Ids])
  have pre:Ent 2 279 (F4 N L.length c o rest weight a b (.slice none 0 0) left heavy i) (H4 101 N it y bk r0) (F4 N L.length c o rest weight a b (.slice none 0 0) left heavy i) (AHeap.rows 57 [(0,ABlk.made (irows N it) 5 true),(1,.made (ints N y) 1 true),(9,bk)]) :=
    Ent.drop (by kernel_rfl) (by kernel_rfl) (by kernel_rfl) (by kernel_rfl) (by simp [All_cons,All_nil,Clo,hc3];simp [Ids]) (by
      simp only [List.map,All_cons,All_nil,and_true]
      exact⟨(irows_bare N it).clo _,fun e he=>(ints_bare _ _ e he).clo _,hb.clo _⟩)
  have fin: ∀ (K t:Nat) (hk: [(0,ABlk.made (irows N it) 5 true),(1,.made (ints N y) 1 true),(9,bk),(100,stRow [j])].map (fun p=>(AHeap.rows K [(0,ABlk.made (irows N it) 5 true),(1,.made (ints N y) 1 true),(9,bk),(t,ABlk.made [.int .i64 (j:Int)] 1 true),(100,stRow [j])]).get p.1)= [(0,ABlk.made (irows N it) 5 true),(1,.made (ints N y) 1 true),(9,bk),(100,stRow [j])].map (fun p=>some p.2)),
      Ent 2 279 (F4 N L.length c o rest weight a b (stSl [j]) left heavy (i+1)) (AHeap.rows K [(0,ABlk.made (irows N it) 5 true),(1,.made (ints N y) 1 true),(9,bk),(t,ABlk.made [.int .i64 (j:Int)] 1 true),(100,stRow [j])]) (F4 N L.length c o rest weight a b (stSl [j]) left heavy (i+1)) (H4 101 N it y bk (stRow [j])):=by
    intro K t hk
    exact Ent.drop hk (by kernel_rfl) (by kernel_rfl) (by kernel_rfl) (by simp [All_cons,All_nil,Clo,hc];simp [Ids]) (by
      simp only [List.map,All_cons,All_nil,and_true]
      exact⟨(irows_bare N it).clo _,fun e he=>(ints_bare _ _ e he).clo _,hb.clo _,(stRow_bare _).clo _⟩)
  have nq: ∀ (h:b≤a),¬ (rest* (it j).n≥weight*boundZ (it j).mx):=by
    intro h hh
    have:(fpOf it).isMx rest weight a b j=true:=by
      simp only [FP.isMx,Bool.and_eq_true,decide_eq_true_eq]
      exact⟨h,hh⟩
    simp [FP.froz,this]at hq
  have nm: ∀ (h:a≤b),¬ (rest* (it j).n≤weight* (it j).mn):=by
    intro h hh
    have hx:(fpOf it).isMx rest weight a b j=false:=by
      simp only [FP.froz,Bool.or_eq_false_iff]at hq;exact hq.1
    have:(fpOf it).isMn rest weight a b j=true:=by
      simp only [FP.isMn,Bool.and_eq_true,decide_eq_true_eq]
      exact⟨by simp [hx],h,hh⟩
    simp [FP.froz,this]at hq
  refine Tri.pre ?_ pre
  by_cases c4:a≥b
  · by_cases c5:b≥a
    · exact(fill_st_a_new N L.length c ver off i j 0 0 o bk noRow0 (stRow [j]) (irows N it) (ints N y) (it j).k (it j).n (it j).d (it j).mn (it j).mx rest weight a b left heavy
        (by omega) (ix_intN hs hi) hel' (ix_it h1) iti (by omega) c4 (ix_it h1) iti (bound_does _ _ _ _ _ _) (by omega) (nq c4) c5 (ix_it h1) iti (by omega) (nm c5) ((app_first j _ _ (by kernel_rfl)).trans (by kernel_rfl)) (by omega)).post (fin _ _ (by kernel_rfl))
    · exact(fill_st_b_new N L.length c ver off i j 0 0 o bk noRow0 (stRow [j]) (irows N it) (ints N y) (it j).k (it j).n (it j).d (it j).mn (it j).mx rest weight a b left heavy
        (by omega) (ix_intN hs hi) hel' (ix_it h1) iti (by omega) c4 (ix_it h1) iti (bound_does _ _ _ _ _ _) (by omega) (nq c4) c5 ((app_first j _ _ (by kernel_rfl)).trans (by kernel_rfl)) (by omega)).post (fin _ _ (by kernel_rfl))
  · exact(fill_st_c_new N L.length c ver off i j 0 0 o bk noRow0 (stRow [j]) (irows N it) (ints N y) (it j).k (it j).n (it j).d (it j).mn (it j).mx rest weight a b left heavy
      (by omega) (ix_intN hs hi) hel' (ix_it h1) iti (by omega) c4 (by omega) (ix_it h1) iti (by omega) (nm (by omega)) ((app_first j _ _ (by kernel_rfl)).trans (by kernel_rfl)) (by omega)).post (fin _ _ (by kernel_rfl))
theorem frz_loopA: ∀ (R:List Nat) (i:Nat) (S:List Nat) (y:Nat→Int) (left heavy:Int),L.drop i=R→S≠ []→S.length+R.length≤2^14→ -(2^60)+8192*R.length≤left→left≤2^60→ -(2^60)+8192*R.length≤heavy→heavy≤2^60→i≤L.length →
    Loops Try.prog 2 279 (loopAt Try.prog 42 4) (F4 N L.length c o rest weight a b (stSl S) left heavy i) (H4 101 N it y bk (stRow S)) (.exit 8)
      (E4 N (stSl (S++R.filter fun j=> !(fpOf it).froz rest weight a b j)) (left-sumL ((fpOf it).fz rest weight a b) (R.filter ((fpOf it).froz rest weight a b))) (heavy-sumL (fpOf it).n (R.filter ((fpOf it).froz rest weight a b))))
      (H4 102 N it (frzF ((fpOf it).froz rest weight a b) ((fpOf it).fz rest weight a b) y R) bk (stRow (S++R.filter fun j=> !(fpOf it).froz rest weight a b j)))
  | [],i,S,y,left,heavy,hd,hS,_,_,_,_,_,hi=>by
    have:L.length≤i:=by
      rcases Nat.lt_or_ge i L.length with c | c
      · have:=congrArg List.length hd;simp at this;omega
      · exact c
    obtain rfl:i=L.length:=by omega
    simp only [List.filter_nil,List.append_nil,sumL,frzF,Int.sub_zero]
    exact Loops.last (by simp) (fill_st_end N _ c _ o bk _ _ _ _ _ _ _ _ _ _ (by omega))
  | j ::R,i,S,y,left,heavy,hd,hS,hlen,l1,l2,h1,h2,hi=>by
    obtain⟨d1,rfl,d3⟩:=drop_cons hd
    have hmem:=getD_mem d1
    have fi:=(hL _ hmem).2
    have hS1:Clo (Ids [0,1,9,100]) (stSl S):=by simp [Clo,Ids]
    rw [List.length_cons]at hlen l1 h1
    by_cases c1:(fpOf it).froz rest weight a b (L.getD i 0)=true
    · have bdj:=fi.bd
      have zr:0≤(fpOf it).fz rest weight a b (L.getD i 0)∧(fpOf it).fz rest weight a b (L.getD i 0)≤8192:=by
        have:=fi.mn
        unfold FP.fz;split
        · exact bdj.2
        · show 0≤(it _).mn∧(it _).mn≤_;omega
      have ih:=frz_loopA R (i+1) S (fun k=>if k=L.getD i 0 then(fpOf it).fz rest weight a b (L.getD i 0)else y k) (left- (fpOf it).fz rest weight a b (L.getD i 0)) (heavy- (it (L.getD i 0)).n) d3 hS (by omega) (by omega) (by omega) (by have:=fi.n;omega) (by have:=fi.n;omega) (by omega)
      have e1:left-sumL ((fpOf it).fz rest weight a b) ((L.getD i 0::R).filter ((fpOf it).froz rest weight a b))=left- (fpOf it).fz rest weight a b (L.getD i 0)-sumL ((fpOf it).fz rest weight a b) (R.filter ((fpOf it).froz rest weight a b)):=by
        rw [(filt_in c1).1];simp only [sumL];omega
      have e2:heavy-sumL (fpOf it).n ((L.getD i 0::R).filter ((fpOf it).froz rest weight a b))=heavy- (it (L.getD i 0)).n-sumL (fpOf it).n (R.filter ((fpOf it).froz rest weight a b)):=by
        rw [(filt_in c1).1];simp only [sumL];show _=heavy- (fpOf it).n _-_;omega
      have e3:(L.getD i 0::R).filter (fun j=> !(fpOf it).froz rest weight a b j)=R.filter fun j=> !(fpOf it).froz rest weight a b j:=(filt_in c1).2
      rw [e1,e2,e3]
      simp only [frzF,c1,if_true]
      exact Loops.step (frz_step hN hs hb hel hL hm hr hw hnw d1 c1 hS1 (stRow_bare _) y (by omega) (by omega)) ih
    · have c1:(fpOf it).froz rest weight a b (L.getD i 0)=false:=by simpa using c1
      have ih:=frz_loopA R (i+1) (S++ [L.getD i 0]) y left heavy d3 (by simp) (by simp;omega) (by omega) l2 (by omega) h2 (by omega)
      have e1:(L.getD i 0::R).filter ((fpOf it).froz rest weight a b)=R.filter ((fpOf it).froz rest weight a b):=(filt_out c1).1
      have e3:S++(L.getD i 0::R).filter (fun j=> !(fpOf it).froz rest weight a b j)=(S++ [L.getD i 0])++R.filter fun j=> !(fpOf it).froz rest weight a b j:=by
        rw [(filt_out c1).2];simp
      rw [e1,e3]
      simp only [frzF,c1,Bool.false_eq_true,if_false]
      exact Loops.step (stay_step hN hs hb hel hL hm hr hw hnw d1 c1 hS (by omega) y) ih
theorem frz_loopB: ∀ (R:List Nat) (i:Nat) (y:Nat→Int) (left heavy:Int) {r0:ABlk} (hr0:BareB r0),L.drop i=R→ -(2^60)+8192*R.length≤left→left≤2^60→ -(2^60)+8192*R.length≤heavy→heavy≤2^60→i≤L.length→R.length≤2^14 →
    ∃ (o2:Option AAddr) (c2 v2:Nat) (b2:ABlk),SlArg o2 (R.filter fun j=> !(fpOf it).froz rest weight a b j).length c2 100 v2 0 1∧BareB b2∧(∀ k,k<(R.filter fun j=> !(fpOf it).froz rest weight a b j).length→b2.elem? v2 (0+k)=some (.int .i64 ((R.filter fun j=> !(fpOf it).froz rest weight a b j).getD k 0:Nat))) ∧
    Loops Try.prog 2 279 (loopAt Try.prog 42 4) (F4 N L.length c o rest weight a b (.slice none 0 0) left heavy i) (H4 101 N it y bk r0) (.exit 8)
      (E4 N (.slice o2 (R.filter fun j=> !(fpOf it).froz rest weight a b j).length c2) (left-sumL ((fpOf it).fz rest weight a b) (R.filter ((fpOf it).froz rest weight a b))) (heavy-sumL (fpOf it).n (R.filter ((fpOf it).froz rest weight a b))))
      (H4 102 N it (frzF ((fpOf it).froz rest weight a b) ((fpOf it).fz rest weight a b) y R) bk b2)
  | [],i,y,left,heavy,r0,hr0,hd,_,_,_,_,hi,_=>by
    have:L.length≤i:=by
      rcases Nat.lt_or_ge i L.length with c | c
      · have:=congrArg List.length hd;simp at this;omega
      · exact c
    obtain rfl:i=L.length:=by omega
    refine⟨none,0,0,r0,.inr ⟨rfl,rfl,rfl⟩,hr0,by simp,?_⟩
    simp only [List.filter_nil,sumL,frzF,Int.sub_zero,List.length_nil]
    exact Loops.last (by simp) (fill_st_end N _ c _ o bk _ _ _ _ _ _ _ _ _ _ (by omega))
  | j ::R,i,y,left,heavy,r0,hr0,hd,l1,l2,h1,h2,hi,hlen=>by
    obtain⟨d1,rfl,d3⟩:=drop_cons hd
    have hmem:=getD_mem d1
    have fi:=(hL _ hmem).2
    rw [List.length_cons]at hlen l1 h1
    by_cases c1:(fpOf it).froz rest weight a b (L.getD i 0)=true
    · have bdj:=fi.bd
      have zr:0≤(fpOf it).fz rest weight a b (L.getD i 0)∧(fpOf it).fz rest weight a b (L.getD i 0)≤8192:=by
        have:=fi.mn
        unfold FP.fz;split
        · exact bdj.2
        · show 0≤(it _).mn∧(it _).mn≤_;omega
      obtain⟨o2,c2,v2,b2,k1,k2,k3,ih⟩:=frz_loopB R (i+1) (fun k=>if k=L.getD i 0 then(fpOf it).fz rest weight a b (L.getD i 0)else y k) (left- (fpOf it).fz rest weight a b (L.getD i 0)) (heavy- (it (L.getD i 0)).n) hr0 d3 (by omega) (by omega) (by have:=fi.n;omega) (by have:=fi.n;omega) (by omega) (by omega)
      have e1:left-sumL ((fpOf it).fz rest weight a b) ((L.getD i 0::R).filter ((fpOf it).froz rest weight a b))=left- (fpOf it).fz rest weight a b (L.getD i 0)-sumL ((fpOf it).fz rest weight a b) (R.filter ((fpOf it).froz rest weight a b)):=by
        rw [(filt_in c1).1];simp only [sumL];omega
      have e2:heavy-sumL (fpOf it).n ((L.getD i 0::R).filter ((fpOf it).froz rest weight a b))=heavy- (it (L.getD i 0)).n-sumL (fpOf it).n (R.filter ((fpOf it).froz rest weight a b)):=by
        rw [(filt_in c1).1];simp only [sumL];show _=heavy- (fpOf it).n _-_;omega
      have e3:(L.getD i 0::R).filter (fun j=> !(fpOf it).froz rest weight a b j)=R.filter fun j=> !(fpOf it).froz rest weight a b j:=(filt_in c1).2
      rw [e1,e2,e3]
      refine⟨o2,c2,v2,b2,k1,k2,k3,?_⟩
      simp only [frzF,c1,if_true]
      exact Loops.step (frz_step hN hs hb hel hL hm hr hw hnw d1 c1 (by simp [Clo]) hr0 y (by omega) (by omega)) ih
    · have c1:(fpOf it).froz rest weight a b (L.getD i 0)=false:=by simpa using c1
      have ih:=frz_loopA hN hs hb hel hL hm hr hw hnw (a:=a) (b:=b) R (i+1) [L.getD i 0] y left heavy d3 (by simp) (by simp;omega) (by omega) l2 (by omega) h2 (by omega)
      have e1:(L.getD i 0::R).filter ((fpOf it).froz rest weight a b)=R.filter ((fpOf it).froz rest weight a b):=(filt_out c1).1
      have e3:(L.getD i 0::R).filter (fun j=> !(fpOf it).froz rest weight a b j)= [L.getD i 0]++R.filter fun j=> !(fpOf it).froz rest weight a b j:=by
        rw [(filt_out c1).2];simp
      rw [e1,e3]
      have hpos:0<([L.getD i 0]++R.filter fun j=> !(fpOf it).froz rest weight a b j).length:=by simp
      refine⟨some ⟨100,([L.getD i 0]++R.filter fun j=> !(fpOf it).froz rest weight a b j).length-1,0,0,1⟩,([L.getD i 0]++R.filter fun j=> !(fpOf it).froz rest weight a b j).length,([L.getD i 0]++R.filter fun j=> !(fpOf it).froz rest weight a b j).length-1,stRow ([L.getD i 0]++R.filter fun j=> !(fpOf it).froz rest weight a b j),.inl rfl,stRow_bare _,fun k hk=> ?_,?_⟩
      · exact gRow_el (f:=fun k=>(([L.getD i 0]++R.filter fun j=> !(fpOf it).froz rest weight a b j).getD k 0:Nat)) (by omega)
      · simp only [frzF,c1,Bool.false_eq_true,if_false]
        exact Loops.step (stay_first hN hs hb hel hL hm hr hw hnw d1 c1 y hr0) ih
end
end Go.Proofs.Ytgfkllnaeekjeaa
namespace Go.Proofs.Ytgfkllnaeekjeaa
open Go.Lift
set_option maxRecDepth 1000000
structure OpAt(o:Option AAddr)(L:List Nat)(c ver off:Nat)(bk:ABlk):Prop where
  sl:SlArg o L.length c 9 ver off 1
  bare:BareB bk
  el: ∀ i,i<L.length→bk.elem? ver (off+i)=some (.int .i64 (L.getD i 0:Nat))
abbrev F2(N m c:Nat)(o:Option AAddr)(rest weight:Int):Facts:= [(0,.slice (some ⟨0,0,0,0,5⟩) N N),(1,.slice (some ⟨1,0,0,0,1⟩) N N),(6,.int .i64 rest),(7,.int .i64 weight),(9,.slice o m c)]
noncomputable abbrev H2(K N:Nat)(it:Nat→It)(y:Nat→Int)(bk:ABlk):AHeap:=AHeap.rows K [(0,.made (irows N it) 5 true),(1,.made (ints N y) 1 true),(9,bk)]
def to9(i:Nat):Nat:=if i=9 then 100 else i
theorem finv_n_le {p:FP}{l:List Nat}{rest weight:Int}(h:FInv p l rest weight): ∀ j∈l,p.n j≤weight:=by
  intro j hj
  rw [h.w]
  exact sumL_mem_le (fun i hi=>by have:=h.ok.n i hi;omega) j hj
theorem fz_ge0 {it:Nat→It}{rest weight a b:Int}{j:Nat}(h:FillIt (it j)):0≤(fpOf it).fz rest weight a b j:=by
  have h1:=h.bd
  have h2:=h.mn
  unfold FP.fz;split
  · exact h1.2.1
  · exact h2.1
theorem fill_rounds {N:Nat} (hN:N≤2^14) {it:Nat→It} : ∀ (k:Nat) (L:List Nat) (o:Option AAddr) (c ver off:Nat) (bk:ABlk) (rest weight:Int) (y:Nat→Int),L.length≤k→OpAt o L c ver off bk→(∀ j∈L,j<N∧FillIt (it j))→L.length≤N→FInv (fpOf it) L rest weight→rest≤4096→weight≤2^24 →
    ∃ (L2:List Nat) (o2:Option AAddr) (c2 ver2 off2:Nat) (b2:ABlk) (rest2 weight2:Int) (y2:Nat→Int),OpAt o2 L2 c2 ver2 off2 b2∧(∀ j∈L2,j<N∧FillIt (it j))∧L2.length≤N∧FInv (fpOf it) L2 rest2 weight2∧rest2≤4096∧weight2≤2^24 ∧
      (fpOf it).above rest2 weight2 L2=0∧(fpOf it).below rest2 weight2 L2=0∧(∀ z,Fills (fpOf it) L2 rest2 weight2 y2 z→Fills (fpOf it) L rest weight y z) ∧
      Loops Try.prog 2 279 (loopAt Try.prog 42 2) (F2 N L.length c o rest weight) (H2 20 N it y bk) (.exit 4) (F2 N L2.length c2 o2 rest2 weight2) (H2 18 N it y2 b2):=by
  intro k
  induction k with
  | zero =>
    intro L o c ver off bk rest weight y hk hop hL hm hI hr hw
    obtain rfl:L= []:=List.eq_nil_of_length_eq_zero (by omega)
    refine⟨[],o,c,ver,off,bk,rest,weight,y,hop,hL,hm,hI,hr,hw,rfl,rfl,fun z h=>h,?_⟩
    have hc:Clo (Ids [0,1,9]) (.slice o ([]:List Nat).length c):=hop.sl.clo (by simp [Ids])
    refine(Loops.last (by simp) (fill_none N ([]:List Nat).length c o bk (irows N it) (ints N y) rest weight (by simp))).post ?_
    exact Ent.drop (by kernel_rfl) (by kernel_rfl) (by kernel_rfl) (by kernel_rfl) (by simp only [List.map,All_cons,All_nil,and_true];exact⟨by simp [Clo,Ids],by simp [Clo,Ids],by simp [Clo],by simp [Clo],hc⟩) (by
      simp only [List.map,All_cons,All_nil,and_true]
      exact⟨(irows_bare N it).clo _,fun e he=>(ints_bare _ _ e he).clo _,hop.bare.clo _⟩)
  | succ k ihk =>
    intro L o c ver off bk rest weight y hk hop hL hm hI hr hw
    have hc:Clo (Ids [0,1,9]) (.slice o L.length c):=hop.sl.clo (by simp [Ids])
    have drop: ∀ (K:Nat) (rest weight:Int) (K2:Nat) (hk: [(0,ABlk.made (irows N it) 5 true),(1,.made (ints N y) 1 true),(9,bk)].map (fun p=>(H2 K N it y bk).get p.1)= [(0,ABlk.made (irows N it) 5 true),(1,.made (ints N y) 1 true),(9,bk)].map (fun p=>some p.2)) (hK2: [0,1,9].all (fun i=>Nat.blt i K2)=true),
        Ent 2 279 (F2 N L.length c o rest weight) (H2 K N it y bk) (F2 N L.length c o rest weight) (H2 K2 N it y bk):=by
      intro K rest weight K2 hk hK2
      exact Ent.drop hk hK2 (by kernel_rfl) (by kernel_rfl) (by simp only [List.map,All_cons,All_nil,and_true];exact⟨by simp [Clo,Ids],by simp [Clo,Ids],by simp [Clo],by simp [Clo],hc⟩) (by
        simp only [List.map,All_cons,All_nil,and_true]
        exact⟨(irows_bare N it).clo _,fun e he=>(ints_bare _ _ e he).clo _,hop.bare.clo _⟩)
    by_cases hnil:L= []
    · subst hnil
      refine⟨[],o,c,ver,off,bk,rest,weight,y,hop,hL,hm,hI,hr,hw,rfl,rfl,fun z h=>h,?_⟩
      exact(Loops.last (by simp) (fill_none N ([]:List Nat).length c o bk (irows N it) (ints N y) rest weight (by simp))).post (drop _ _ _ _ (by kernel_rfl) (by kernel_rfl))
    have hpos:0<L.length:=List.length_pos_iff.2 hnil
    have r0:=hI.rest0
    have wpos:=hI.wpos hnil
    have l3:=fill_ab_loop hN hop.sl hop.bare hop.el hL hm ⟨r0,hr⟩ ⟨Int.le_of_lt wpos,hw⟩ (ints N y) (ints_bare N y) L.length 0 (by omega)
    have pre3:Ent 2 279 [(0,AVal.slice (some ⟨0,0,0,0,5⟩) N N),(1,.slice (some ⟨1,0,0,0,1⟩) N N),(6,.int .i64 rest),(7,.int .i64 weight),(9,.slice o L.length c),(15,.int .i64 0),(16,.int .i64 0),(92,.slice o L.length c),(93,.int .i64 L.length),(94,.int .i64 0)] (H2 28 N it y bk)
        [(0,AVal.slice (some ⟨0,0,0,0,5⟩) N N),(1,.slice (some ⟨1,0,0,0,1⟩) N N),(6,.int .i64 rest),(7,.int .i64 weight),(9,.slice o L.length c),(15,.int .i64 0),(16,.int .i64 0),(92,.slice o L.length c),(93,.int .i64 L.length),(94,.int .i64 0)] (H2 60 N it y bk) :=
      Ent.drop (by kernel_rfl) (by kernel_rfl) (by kernel_rfl) (by kernel_rfl) (by simp only [List.map,All_cons,All_nil,and_true];exact⟨by simp [Clo,Ids],by simp [Clo,Ids],by simp [Clo],by simp [Clo],hc,by simp [Clo],by simp [Clo],hc,by simp [Clo],by simp [Clo]⟩) (by
        simp only [List.map,All_cons,All_nil,and_true]
        exact⟨(irows_bare N it).clo _,fun e he=>(ints_bare _ _ e he).clo _,hop.bare.clo _⟩)
    have l3:=Runs.of_loops (Tri.pre l3 pre3)
    have ea:sumL (overF it rest weight) L=(fpOf it).above rest weight L:=rfl
    have eb:sumL (underF it rest weight) L=(fpOf it).below rest weight L:=rfl
    rw [ea,eb]at l3
    by_cases h0:(fpOf it).above rest weight L=0∧(fpOf it).below rest weight L=0
    · refine⟨L,o,c,ver,off,bk,rest,weight,y,hop,hL,hm,hI,hr,hw,h0.1,h0.2,fun z h=>h,?_⟩
      exact(Loops.last (by simp) (fill_break N L.length c o bk (irows N it) (ints N y) rest weight _ _ (by omega) l3 h0.1 h0.2)).post (drop _ _ _ _ (by kernel_rfl) (by kernel_rfl))
    · have h0':(fpOf it).above rest weight L≠0∨(fpOf it).below rest weight L≠0:=by omega
      generalize hA:(fpOf it).above rest weight L=a at *
      generalize hB:(fpOf it).below rest weight L=b at *
      have hlen14:L.length≤2^14:=by omega
      have hw16:weight≤2^24:=hw
      obtain⟨o2,c2,v2,b2,k1,k2,k3,l4⟩:=frz_loopB hN hop.sl hop.bare hop.el hL hm ⟨r0,hr⟩ ⟨wpos,hw⟩ (finv_n_le hI) (a:=a) (b:=b) L 0 y rest weight noRow0_bare (by simp) (by omega) (by omega) (by omega) (by omega) (by omega) hlen14
      have pre4:Ent 2 279 (F4 N L.length c o rest weight a b (.slice none 0 0) rest weight 0) (H2 75 N it y bk) (F4 N L.length c o rest weight a b (.slice none 0 0) rest weight 0) (H4 101 N it y bk noRow0) :=
        Ent.more (l2:= [(100,noRow0)]) (by kernel_rfl) (by kernel_rfl)
      have l4:=Runs.of_loops (Tri.pre l4 pre4)
      have hI2:=hI.round hA.symm hB.symm hnil
      have hless:=hI.less hA.symm hB.symm h0'
      generalize hL':(L.filter fun j=> !(fpOf it).froz rest weight a b j)=L' at *
      have hsub: ∀ j∈L',j∈L:=fun j hj=>by rw [← hL']at hj;exact(List.mem_filter.1 hj).1
      have e9:frzF ((fpOf it).froz rest weight a b) ((fpOf it).fz rest weight a b) y L=fun j=>if j∈L∧(fpOf it).froz rest weight a b j=true then(fpOf it).fz rest weight a b j else y j:=by
        funext j;exact frzF_eq _ _ _ _ _
      rw [e9]at l4
      generalize hy':(fun j=>if j∈L∧(fpOf it).froz rest weight a b j=true then(fpOf it).fz rest weight a b j else y j)=y' at *
      have hop':OpAt (o2.map fun x=> {x with id:=9}) L' c2 v2 0 b2:=⟨k1.at 9,k2,k3⟩
      have z1:0≤sumL ((fpOf it).fz rest weight a b) (L.filter ((fpOf it).froz rest weight a b)):=sumL_ge0 fun j hj=>fz_ge0 (hL j (List.mem_filter.1 hj).1).2
      have z2:0≤sumL (fpOf it).n (L.filter ((fpOf it).froz rest weight a b)):=sumL_ge0 fun j hj=>by have:=(hL j (List.mem_filter.1 hj).1).2.n;show 0≤(it j).n;omega
      obtain⟨L2,o3,c3,v3,off3,b3,rest2,weight2,y2,q1,q2,q3,q4,q5,q6,q7,q8,q9,l2⟩:=ihk L' (o2.map fun x=> {x with id:=9}) c2 v2 0 b2 _ _ y' (by omega) hop' (fun j hj=>hL j (hsub j hj)) (by omega) hI2 (by omega) (by omega)
      refine⟨L2,o3,c3,v3,off3,b3,rest2,weight2,y2,q1,q2,q3,q4,q5,q6,q7,q8,fun z hz=> ?_,?_⟩
      · refine Fills.round hA.symm hB.symm h0' ?_
        rw [hL',hy']
        exact q9 z hz
      · have hc2:Clo (Ids [0,1,9]) (.slice (o2.map fun x=> {x with id:=9}) L'.length c2):=hop'.sl.clo (by simp [Ids])
        have mv: ∀ (left heavy:Int),Ent 2 279 (F2 N L'.length c2 o2 left heavy) (AHeap.rows 108 [(0,.made (irows N it) 5 true),(1,.made (ints N y') 1 true),(9,bk),(100,b2)]) (F2 N L'.length c2 (o2.map fun x=> {x with id:=9}) left heavy) (H2 20 N it y' b2):=by
          intro left heavy
          refine Ent.move to9 ?_ (by kernel_rfl) (by simp [to9]) (by kernel_rfl) (by kernel_rfl) ?_ (by kernel_rfl) (by simp only [List.map,All_cons,All_nil,and_true];exact⟨by simp [Clo,Ids],by simp [Clo,Ids],by simp [Clo],by simp [Clo],hc2⟩) (by
            simp only [List.map,All_cons,All_nil,and_true]
            exact⟨(irows_bare N it).clo _,fun e he=>(ints_bare _ _ e he).clo _,k2.clo _⟩)
          · simp only [List.map]
            rw [(irows_bare N it).ren,k2.ren,BareB.ren (b:=ABlk.made (ints N y') 1 true) (ints_bare _ _)]
            kernel_rfl
          · simp only [List.map,k1.back (id':=9) (r:=to9) rfl]
            rfl
        refine Loops.step ?_ l2
        by_cases ha0:a=0
        · exact(fill_round_b N L.length c L'.length c2 o o2 bk b2 (irows N it) (ints N y) (ints N y') rest weight a b _ _ (by omega) l3 ha0 (by omega) l4).post (mv _ _)
        · exact(fill_round_a N L.length c L'.length c2 o o2 bk b2 (irows N it) (ints N y) (ints N y') rest weight a b _ _ (by omega) l3 ha0 l4).post (mv _ _)
end Go.Proofs.Ytgfkllnaeekjeaa
namespace Go.Proofs.Ytgfkllnaeekjeaa
open Go.Lift
set_option maxRecDepth 1000000
def isF(it:Nat→It)(j:Nat):Bool:=decide ((it j).k=3)
def opn(it:Nat→It)(i:Nat):List Nat:=(List.range i).filter (isF it)
def restAt(it:Nat→It)(y:Nat→Int)(room:Int)(i:Nat):Int:=room-sumL y ((List.range i).filter fun j=> !isF it j)
def weightAt(it:Nat→It)(i:Nat):Int:=sumL (fun j=>(it j).n) (opn it i)
def mostAt(it:Nat→It)(i:Nat):Int:=sumL (fun j=>(it j).mx) (opn it i)
def bndAt(it:Nat→It)(i:Nat):Bool:=(opn it i).all fun j=>decide (0<(it j).mx)
theorem opn_in {it:Nat→It}{i:Nat}(h:(it i).k=3):opn it (i+1)=opn it i++ [i]:=by
  unfold opn;rw [List.range_succ,List.filter_append];simp [isF,h]
theorem opn_out {it:Nat→It}{i:Nat}(h: ¬ (it i).k=3):opn it (i+1)=opn it i:=by
  unfold opn;rw [List.range_succ,List.filter_append];simp [isF,h]
theorem opn_mem {it:Nat→It}{i j:Nat} :j∈opn it i↔j<i∧(it j).k=3:=by
  unfold opn;simp [isF]
theorem opn_nodup(it:Nat→It)(i:Nat):(opn it i).Nodup:=List.nodup_range.filter _
theorem opn_length(it:Nat→It)(i:Nat):(opn it i).length≤i:=by
  have:=List.length_filter_le (isF it) (List.range i)
  simpa [opn]using this
theorem restAt_out {it:Nat→It}{y:Nat→Int}{room:Int}{i:Nat}(h: ¬ (it i).k=3):restAt it y room (i+1)=restAt it y room i-y i:=by
  unfold restAt
  rw [List.range_succ,List.filter_append,sumL_append]
  simp [isF,h,sumL];omega
theorem restAt_in {it:Nat→It}{y:Nat→Int}{room:Int}{i:Nat}(h:(it i).k=3):restAt it y room (i+1)=restAt it y room i:=by
  unfold restAt
  rw [List.range_succ,List.filter_append,sumL_append]
  simp [isF,h,sumL]
noncomputable abbrev opRow(S:List Nat):ABlk:=gRow (fun k=>(S.getD k 0:Nat)) 1 (S.length-1)
abbrev opSl(S:List Nat):AVal:= .slice (some ⟨60,S.length-1,0,0,1⟩) S.length S.length
theorem opSl_snoc(S:List Nat)(h:S≠ [])(j:Nat):AVal.slice (some ⟨60,S.length-1+1,0,0,1⟩) (S.length+1) (S.length+1)=opSl (S++ [j]):=by
  have hp:0<S.length:=List.length_pos_iff.2 h
  unfold opSl
  rw [List.length_append,List.length_singleton,show S.length+1-1=S.length-1+1 by omega]
theorem app_op {S:List Nat}(h:S≠ [])(hlen:S.length≤2^14)(j t K:Nat)(hp:AHeap)(hg:hp.get 60=some (opRow S))(hx:elemsOf 1 (.slice (some ⟨t,0,0,0,1⟩) 1 1) hp=some [.int .i64 (j:Int)]) :
    abuiltin env .append #[27,27] [.slice (some ⟨60,S.length-1,0,0,1⟩) S.length S.length,.slice (some ⟨t,0,0,0,1⟩) 1 1] K hp=some (.slice (some ⟨60,S.length-1+1,0,0,1⟩) (S.length+1) (S.length+1),hp.set 60 (opRow (S++ [j]))):=by
  have h0:0<S.length:=List.length_pos_iff.2 h
  refine(app_grow slInt hx (by simp) (b:=opRow S) (by simp;omega) (by simp;omega) hg rfl (by simp) rfl rfl rfl (by simp [gRow];omega)).trans ?_
  rw [stRow_grow h];rfl
theorem app_op1(j t:Nat)(hp:AHeap)(hx:elemsOf 1 (.slice (some ⟨t,0,0,0,1⟩) 1 1) hp=some [.int .i64 (j:Int)]) :
    abuiltin env .append #[27,27] [.slice none 0 0,.slice (some ⟨t,0,0,0,1⟩) 1 1] 60 hp=some (.slice (some ⟨60,0,0,0,1⟩) 1 1,hp.set 60 (opRow [j])) :=
  (app_new slInt hx (by simp) (by simp) (by simp)).trans (by rw [← stRow_one];rfl)
abbrev F0(N:Nat)(rest weight most:Int)(sv:AVal)(bd:Bool)(i:Nat):Facts :=
  [(0,.slice (some ⟨0,0,0,0,5⟩) N N),(1,.slice (some ⟨1,0,0,0,1⟩) N N),(6,.int .i64 rest),(7,.int .i64 weight),(8,.int .i64 most),(9,sv),(10,.bool bd),(33,.slice (some ⟨0,0,0,0,5⟩) N N),(34,.int .i64 N),(35,.int .i64 i)]
abbrev E0(N:Nat)(rest weight most:Int)(sv:AVal)(bd:Bool):Facts :=
  [(0,.slice (some ⟨0,0,0,0,5⟩) N N),(1,.slice (some ⟨1,0,0,0,1⟩) N N),(6,.int .i64 rest),(7,.int .i64 weight),(8,.int .i64 most),(9,sv),(10,.bool bd)]
noncomputable abbrev H0(K N:Nat)(it:Nat→It)(y:Nat→Int)(r0:ABlk):AHeap:=AHeap.rows K [(0,.made (irows N it) 5 true),(1,.made (ints N y) 1 true),(60,r0)]
section
variable {N:Nat}(hN:N≤2^14){it:Nat→It}(hF: ∀ j,j<N→(it j).k=3→FillIt (it j)){y:Nat→Int}
include hN hF
theorem sp_step {i:Nat}(hi:i<N)(hk: ¬ (it i).k=3)(hy:0≤y i∧y i≤4096){sv:AVal}(hsv:Clo (Ids [0,1,60]) sv){r0:ABlk}(hr0:BareB r0){rest weight most:Int}{bd:Bool}(hr: -(2^40)≤rest∧rest≤2^40) :
    Runs Try.prog 2 279 (loopAt Try.prog 42 0) (F0 N rest weight most sv bd i) (H0 61 N it y r0) .normal (F0 N (rest-y i) weight most sv bd (i+1)) (H0 61 N it y r0):=by
  have iti:=elem_made (es:=5) (ex:=true) (irows_get (it:=it) hi)
  refine(fill_sp N i r0 (irows N it) (ints N y) rest weight most sv bd (it i).k (it i).n (it i).d (it i).mn (it i).mx (y i) (by omega) (ix_it hi) iti hk (ixR hi) (ints_el hi) (by omega) (by omega)).post ?_
  exact Ent.drop (by kernel_rfl) (by kernel_rfl) (by kernel_rfl) (by kernel_rfl) (by simp [All_cons,All_nil,Clo,hsv];simp [Ids]) (by
    simp only [List.map,All_cons,All_nil,and_true]
    exact⟨(irows_bare N it).clo _,fun e he=>(ints_bare _ _ e he).clo _,hr0.clo _⟩)
theorem sf_stepA {i:Nat}(hi:i<N)(hk:(it i).k=3){S:List Nat}(hS:S≠ [])(hSl:S.length≤2^14){rest weight most:Int}{bd:Bool}(h1: -(2^40)≤weight∧weight≤2^40)(h2: -(2^40)≤most∧most≤2^40) :
    Runs Try.prog 2 279 (loopAt Try.prog 42 0) (F0 N rest weight most (opSl S) bd i) (H0 61 N it y (opRow S)) .normal (F0 N rest (weight+(it i).n) (most+(it i).mx) (opSl (S++ [i])) (bd && decide (0<(it i).mx)) (i+1)) (H0 61 N it y (opRow (S++ [i]))):=by
  have iti:=elem_made (es:=5) (ex:=true) (irows_get (it:=it) hi)
  have fi:=hF i hi hk
  have e0:=opSl_snoc S hS i
  have g1:=fi.n
  have g2:=fi.mx
  have fin: ∀ (K t u:Nat) (tb:ABlk) (w m:Int) (bd:Bool) (hk: [(0,ABlk.made (irows N it) 5 true),(1,.made (ints N y) 1 true),(60,opRow (S++ [i]))].map (fun p=>(AHeap.rows K [(0,ABlk.made (irows N it) 5 true),(1,.made (ints N y) 1 true),(60,opRow (S++ [i])),(t,tb),(u,ABlk.made [.int .i64 (i:Int)] 1 true)]).get p.1)= [(0,ABlk.made (irows N it) 5 true),(1,.made (ints N y) 1 true),(60,opRow (S++ [i]))].map (fun p=>some p.2)),
      Ent 2 279 (F0 N rest w m (opSl (S++ [i])) bd (i+1)) (AHeap.rows K [(0,ABlk.made (irows N it) 5 true),(1,.made (ints N y) 1 true),(60,opRow (S++ [i])),(t,tb),(u,ABlk.made [.int .i64 (i:Int)] 1 true)]) (F0 N rest w m (opSl (S++ [i])) bd (i+1)) (H0 61 N it y (opRow (S++ [i]))):=by
    intro K t u tb w m bd hk
    exact Ent.drop hk (by kernel_rfl) (by kernel_rfl) (by kernel_rfl) (by simp [All_cons,All_nil,Clo];simp [Ids]) (by
      simp only [List.map,All_cons,All_nil,and_true]
      exact⟨(irows_bare N it).clo _,fun e he=>(ints_bare _ _ e he).clo _,(stRow_bare _).clo _⟩)
  cases bd with
  | false =>
    have s:=fill_sf_N_grow N i (S.length-1) S.length (opRow S) (opRow (S++ [i])) (irows N it) (ints N y) (it i).k (it i).n (it i).d (it i).mn (it i).mx rest weight most (by omega) (ix_it hi) iti hk ((app_op hS hSl i _ _ _ (by kernel_rfl) (by kernel_rfl)).trans (by kernel_rfl)) (by omega) (by omega) (by omega)
    rw [e0]at s
    exact s.post (fin _ _ _ _ _ _ _ (by kernel_rfl))
  | true =>
    by_cases c:(it i).mx>0
    · have s:=fill_sf_T_grow N i (S.length-1) S.length (opRow S) (opRow (S++ [i])) (irows N it) (ints N y) (it i).k (it i).n (it i).d (it i).mn (it i).mx rest weight most (by omega) (ix_it hi) iti hk ((app_op hS hSl i _ _ _ (by kernel_rfl) (by kernel_rfl)).trans (by kernel_rfl)) (by omega) (by omega) c (by omega)
      rw [e0]at s
      rw [show(true && decide (0<(it i).mx))=true by simp;omega]
      exact s.post (fin _ _ _ _ _ _ _ (by kernel_rfl))
    · have s:=fill_sf_F_grow N i (S.length-1) S.length (opRow S) (opRow (S++ [i])) (irows N it) (ints N y) (it i).k (it i).n (it i).d (it i).mn (it i).mx rest weight most (by omega) (ix_it hi) iti hk ((app_op hS hSl i _ _ _ (by kernel_rfl) (by kernel_rfl)).trans (by kernel_rfl)) (by omega) (by omega) c (by omega)
      rw [e0]at s
      rw [show(true && decide (0<(it i).mx))=false by simp;omega]
      exact s.post (fin _ _ _ _ _ _ _ (by kernel_rfl))
theorem sf_stepB {i:Nat}(hi:i<N)(hk:(it i).k=3){r0:ABlk}{rest weight most:Int}{bd:Bool}(h1: -(2^40)≤weight∧weight≤2^40)(h2: -(2^40)≤most∧most≤2^40) :
    Runs Try.prog 2 279 (loopAt Try.prog 42 0) (F0 N rest weight most (.slice none 0 0) bd i) (H0 61 N it y r0) .normal (F0 N rest (weight+(it i).n) (most+(it i).mx) (opSl [i]) (bd && decide (0<(it i).mx)) (i+1)) (H0 61 N it y (opRow [i])):=by
  have iti:=elem_made (es:=5) (ex:=true) (irows_get (it:=it) hi)
  have fi:=hF i hi hk
  have g1:=fi.n
  have g2:=fi.mx
  have pre: ∀ bd,Ent 2 279 (F0 N rest weight most (.slice none 0 0) bd i) (H0 61 N it y r0) (F0 N rest weight most (.slice none 0 0) bd i) (AHeap.rows 47 [(0,.made (irows N it) 5 true),(1,.made (ints N y) 1 true)]):=fun bd =>
    Ent.drop (by kernel_rfl) (by kernel_rfl) (by kernel_rfl) (by kernel_rfl) (by simp [All_cons,All_nil,Clo];simp [Ids]) (by
      simp only [List.map,All_cons,All_nil,and_true]
      exact⟨(irows_bare N it).clo _,fun e he=>(ints_bare _ _ e he).clo _⟩)
  have fin: ∀ (K t u:Nat) (tb:ABlk) (w m:Int) (bd:Bool) (hk: [(0,ABlk.made (irows N it) 5 true),(1,.made (ints N y) 1 true),(60,opRow [i])].map (fun p=>(AHeap.rows K [(0,ABlk.made (irows N it) 5 true),(1,.made (ints N y) 1 true),(t,tb),(u,ABlk.made [.int .i64 (i:Int)] 1 true),(60,opRow [i])]).get p.1)= [(0,ABlk.made (irows N it) 5 true),(1,.made (ints N y) 1 true),(60,opRow [i])].map (fun p=>some p.2)),
      Ent 2 279 (F0 N rest w m (opSl [i]) bd (i+1)) (AHeap.rows K [(0,ABlk.made (irows N it) 5 true),(1,.made (ints N y) 1 true),(t,tb),(u,ABlk.made [.int .i64 (i:Int)] 1 true),(60,opRow [i])]) (F0 N rest w m (opSl [i]) bd (i+1)) (H0 61 N it y (opRow [i])):=by
    intro K t u tb w m bd hk
    exact Ent.drop hk (by kernel_rfl) (by kernel_rfl) (by kernel_rfl) (by simp [All_cons,All_nil,Clo];simp [Ids]) (by
      simp only [List.map,All_cons,All_nil,and_true]
      exact⟨(irows_bare N it).clo _,fun e he=>(ints_bare _ _ e he).clo _,(stRow_bare _).clo _⟩)
  refine Tri.pre ?_ (pre bd)
  cases bd with
  | false =>
    exact(fill_sf_N_new N i 0 0 noRow0 (opRow [i]) (irows N it) (ints N y) (it i).k (it i).n (it i).d (it i).mn (it i).mx rest weight most (by omega) (ix_it hi) iti hk ((app_op1 i _ _ (by kernel_rfl)).trans (by kernel_rfl)) (by omega) (by omega) (by omega)).post (fin _ _ _ _ _ _ _ (by kernel_rfl))
  | true =>
    by_cases c:(it i).mx>0
    · rw [show(true && decide (0<(it i).mx))=true by simp;omega]
      exact(fill_sf_T_new N i 0 0 noRow0 (opRow [i]) (irows N it) (ints N y) (it i).k (it i).n (it i).d (it i).mn (it i).mx rest weight most (by omega) (ix_it hi) iti hk ((app_op1 i _ _ (by kernel_rfl)).trans (by kernel_rfl)) (by omega) (by omega) c (by omega)).post (fin _ _ _ _ _ _ _ (by kernel_rfl))
    · rw [show(true && decide (0<(it i).mx))=false by simp;omega]
      exact(fill_sf_F_new N i 0 0 noRow0 (opRow [i]) (irows N it) (ints N y) (it i).k (it i).n (it i).d (it i).mn (it i).mx rest weight most (by omega) (ix_it hi) iti hk ((app_op1 i _ _ (by kernel_rfl)).trans (by kernel_rfl)) (by omega) (by omega) c (by omega)).post (fin _ _ _ _ _ _ _ (by kernel_rfl))
variable(hy: ∀ j,j<N→0≤y j∧y j≤4096){room:Int}(hroom:0≤room∧room≤4096)
include hy hroom
theorem restAt_range {i:Nat}(hi:i≤N): -(2^40)≤restAt it y room i∧restAt it y room i≤4096:=by
  have h1:0≤sumL y ((List.range i).filter fun j=> !isF it j):=sumL_ge0 fun j hj=>(hy j (by have:=List.mem_range.1 (List.mem_filter.1 hj).1;omega)).1
  have h2:sumL y ((List.range i).filter fun j=> !isF it j)≤_:=sumL_up (c:=4096) fun j hj=>(hy j (by have:=List.mem_range.1 (List.mem_filter.1 hj).1;omega)).2
  have h3:=List.length_filter_le (fun j=> !isF it j) (List.range i)
  rw [List.length_range]at h3
  unfold restAt;omega
omit hy hroom in
theorem weightAt_range {i:Nat}(hi:i≤N):0≤weightAt it i∧weightAt it i≤2^24∧0≤mostAt it i∧mostAt it i≤2^26:=by
  have hm: ∀ j∈opn it i,FillIt (it j):=fun j hj=>hF j (by have:=(opn_mem.1 hj).1;omega) (opn_mem.1 hj).2
  have h1:0≤weightAt it i:=sumL_ge0 fun j hj=>by have:=(hm j hj).n;omega
  have h2:weightAt it i≤_:=sumL_up (c:=1000) fun j hj=>(hm j hj).n.2
  have h3:0≤mostAt it i:=sumL_ge0 fun j hj=>by have:=(hm j hj).mx;omega
  have h4:mostAt it i≤_:=sumL_up (c:=4096) fun j hj=>by have:=(hm j hj).mx;omega
  have:=opn_length it i
  omega
theorem split_A: ∀ (f i:Nat),i+f=N→opn it i≠ [] →
    Loops Try.prog 2 279 (loopAt Try.prog 42 0) (F0 N (restAt it y room i) (weightAt it i) (mostAt it i) (opSl (opn it i)) (bndAt it i) i) (H0 61 N it y (opRow (opn it i))) (.exit 0)
      (E0 N (restAt it y room N) (weightAt it N) (mostAt it N) (opSl (opn it N)) (bndAt it N)) (H0 62 N it y (opRow (opn it N)))
  | 0,i,e,hS=>by
    obtain rfl:i=N:=by omega
    exact Loops.last (by simp) (fill_sf_end i i _ _ _ _ _ _ _ _ (by omega))
  | f +1,i,e,hS=>by
    have hi:i<N:=by omega
    have r1:=restAt_range hN hF hy hroom (i:=i) (by omega)
    obtain⟨w1,w2,w3,w4⟩:=weightAt_range hN hF (i:=i) (by omega)
    by_cases hk:(it i).k=3
    · have hS':opn it (i+1)≠ []:=by rw [opn_in hk];simp
      have ih:=split_A f (i+1) (by omega) hS'
      have e1:weightAt it (i+1)=weightAt it i+(it i).n:=by unfold weightAt;rw [opn_in hk,sumL_append];simp [sumL]
      have e2:mostAt it (i+1)=mostAt it i+(it i).mx:=by unfold mostAt;rw [opn_in hk,sumL_append];simp [sumL]
      have e3:bndAt it (i+1)=(bndAt it i && decide (0<(it i).mx)):=by unfold bndAt;rw [opn_in hk,List.all_append];simp
      rw [restAt_in hk,e1,e2,e3,opn_in hk]at ih
      exact Loops.step (sf_stepA hN hF hi hk hS (by have:=opn_length it i;omega) (by omega) (by omega)) ih
    · have ih:=split_A f (i+1) (by omega) (by rw [opn_out hk];exact hS)
      have e1:weightAt it (i+1)=weightAt it i:=by unfold weightAt;rw [opn_out hk]
      have e2:mostAt it (i+1)=mostAt it i:=by unfold mostAt;rw [opn_out hk]
      have e3:bndAt it (i+1)=bndAt it i:=by unfold bndAt;rw [opn_out hk]
      rw [restAt_out hk,e1,e2,e3,opn_out hk]at ih
      exact Loops.step (sp_step hN hF hi hk (hy i hi) (by simp [Clo,Ids]) (stRow_bare _) (by omega)) ih
theorem split_B: ∀ (f i:Nat),i+f=N→opn it i= [] →
    ∃ (o2:Option AAddr) (c2 v2:Nat) (b2:ABlk),SlArg o2 (opn it N).length c2 60 v2 0 1∧BareB b2∧(∀ k,k<(opn it N).length→b2.elem? v2 (0+k)=some (.int .i64 ((opn it N).getD k 0:Nat))) ∧
    Loops Try.prog 2 279 (loopAt Try.prog 42 0) (F0 N (restAt it y room i) (weightAt it i) (mostAt it i) (.slice none 0 0) (bndAt it i) i) (H0 61 N it y noRow0) (.exit 0)
      (E0 N (restAt it y room N) (weightAt it N) (mostAt it N) (.slice o2 (opn it N).length c2) (bndAt it N)) (H0 62 N it y b2)
  | 0,i,e,hS=>by
    obtain rfl:i=N:=by omega
    refine⟨none,0,0,noRow0,.inr ⟨rfl,by rw [hS];rfl,rfl⟩,noRow0_bare,by rw [hS];simp,?_⟩
    rw [hS]
    exact Loops.last (by simp) (fill_sf_end i i _ _ _ _ _ _ _ _ (by omega))
  | f + 1,i,e,hS=>by
    have hi:i<N:=by omega
    have r1:=restAt_range hN hF hy hroom (i:=i) (by omega)
    obtain⟨w1,w2,w3,w4⟩:=weightAt_range hN hF (i:=i) (by omega)
    by_cases hk:(it i).k=3
    · have e0:opn it (i+1)= [i]:=by rw [opn_in hk,hS];rfl
      have ih:=split_A hN hF hy hroom f (i+1) (by omega) (by rw [e0];simp)
      have e1:weightAt it (i+1)=weightAt it i+(it i).n:=by unfold weightAt;rw [opn_in hk,sumL_append];simp [sumL]
      have e2:mostAt it (i+1)=mostAt it i+(it i).mx:=by unfold mostAt;rw [opn_in hk,sumL_append];simp [sumL]
      have e3:bndAt it (i+1)=(bndAt it i && decide (0<(it i).mx)):=by unfold bndAt;rw [opn_in hk,List.all_append];simp
      rw [restAt_in hk,e1,e2,e3,e0]at ih
      have hp:0<(opn it N).length:=by
        refine List.length_pos_iff.2 fun h=> ?_
        have:i∈opn it N:=opn_mem.2 ⟨hi,hk⟩
        rw [h]at this;cases this
      refine⟨some ⟨60,(opn it N).length-1,0,0,1⟩,(opn it N).length,(opn it N).length-1,opRow (opn it N),.inl rfl,stRow_bare _,fun k hk=> ?_,?_⟩
      · exact gRow_el (f:=fun k=>((opn it N).getD k 0:Nat)) (by omega)
      · exact Loops.step (sf_stepB hN hF hi hk (by omega) (by omega)) ih
    · obtain⟨o2,c2,v2,b2,k1,k2,k3,ih⟩:=split_B f (i+1) (by omega) (by rw [opn_out hk];exact hS)
      refine⟨o2,c2,v2,b2,k1,k2,k3,?_⟩
      have e1:weightAt it (i+1)=weightAt it i:=by unfold weightAt;rw [opn_out hk]
      have e2:mostAt it (i+1)=mostAt it i:=by unfold mostAt;rw [opn_out hk]
      have e3:bndAt it (i+1)=bndAt it i:=by unfold bndAt;rw [opn_out hk]
      rw [restAt_out hk,e1,e2,e3]at ih
      exact Loops.step (sp_step hN hF hi hk (hy i hi) (by simp [Clo]) noRow0_bare (by omega)) ih
def to960(i:Nat):Nat:=if i=9 then 60 else i
theorem split_does: ∃ (o:Option AAddr) (c ver off:Nat) (bk:ABlk),OpAt o (opn it N) c ver off bk ∧
    Loops Try.prog 2 279 (loopAt Try.prog 42 0) (F0 N room 0 0 (.slice none 0 0) true 0) (AHeap.rows 11 [(0,.made (irows N it) 5 true),(1,.made (ints N y) 1 true)]) (.exit 0)
      (E0 N (restAt it y room N) (weightAt it N) (mostAt it N) (.slice o (opn it N).length c) (bndAt it N)) (H2 12 N it y bk):=by
  obtain⟨o2,c2,v2,b2,k1,k2,k3,l⟩:=split_B hN hF hy hroom N 0 (by omega) rfl
  have hop:OpAt (o2.map fun x=> {x with id:=9}) (opn it N) c2 v2 0 b2:=⟨k1.at 9,k2,k3⟩
  refine⟨_,c2,v2,0,b2,hop,?_⟩
  have e0:restAt it y room 0=room:=by simp [restAt,sumL]
  have e1:weightAt it 0=0:=rfl
  have e2:mostAt it 0=0:=rfl
  have e3:bndAt it 0=true:=rfl
  rw [e0,e1,e2,e3]at l
  have pre:Ent 2 279 (F0 N room 0 0 (.slice none 0 0) true 0) (AHeap.rows 11 [(0,.made (irows N it) 5 true),(1,.made (ints N y) 1 true)]) (F0 N room 0 0 (.slice none 0 0) true 0) (H0 61 N it y noRow0) :=
    Ent.more (l2:= [(60,noRow0)]) (by kernel_rfl) (by kernel_rfl)
  have hc2:Clo (Ids [0,1,9]) (.slice (o2.map fun x=> {x with id:=9}) (opn it N).length c2):=hop.sl.clo (by simp [Ids])
  refine(Tri.pre l pre).post ?_
  refine Ent.move to960 ?_ (by kernel_rfl) (by simp [to960]) (by kernel_rfl) (by kernel_rfl) ?_ (by kernel_rfl) (by simp only [List.map,All_cons,All_nil,and_true];exact⟨by simp [Clo,Ids],by simp [Clo,Ids],by simp [Clo],by simp [Clo],by simp [Clo],hc2,by simp [Clo]⟩) (by
    simp only [List.map,All_cons,All_nil,and_true]
    exact⟨(irows_bare N it).clo _,fun e he=>(ints_bare _ _ e he).clo _,k2.clo _⟩)
  · simp only [List.map]
    rw [(irows_bare N it).ren,k2.ren,BareB.ren (b:=ABlk.made (ints N y) 1 true) (ints_bare _ _)]
    kernel_rfl
  · simp only [List.map,k1.back (id':=9) (r:=to960) rfl]
    rfl
end
end Go.Proofs.Ytgfkllnaeekjeaa
namespace Go.Proofs.Ytgfkllnaeekjeaa
open Go.Lift
set_option maxRecDepth 1000000
theorem topF_topP(y:Nat→Int)(σ:Nat→Nat): ∀ k,topF y σ k=topP y σ k
  | 0=>rfl
  | k+1=>by funext j;simp only [topF,topP,topF_topP y σ k]
theorem sumTo_sumL(f:Nat→Int): ∀ n,sumTo f n=sumL f (List.range n)
  | 0=>rfl
  | n+1=>by rw [List.range_succ,sumL_append,← sumTo_sumL f n];simp [sumTo,sumL]
theorem putF_out {y v:Nat→Int}{op:Nat→Nat}{j:Nat} : ∀ {m:Nat},(∀ i,i<m→op i≠j)→putF y op v m j=y j
  | 0,_=>rfl
  | m+1,h=>by
    simp only [putF]
    rw [if_neg (Ne.symm (h m (by omega))),putF_out fun i hi=>h i (by omega)]
theorem putF_in {y v:Nat→Int}{op:Nat→Nat}{k:Nat} : ∀ {m:Nat},(∀ a b,a<b→b<m→op a≠op b)→k<m→putF y op v m (op k)=v k
  | 0,_,h=>by omega
  | m +1,hd,h=>by
    simp only [putF]
    by_cases c:k=m
    · subst c;simp
    · rw [if_neg (hd k m (by omega) (by omega))]
      exact putF_in (fun a b h1 h2=>hd a b h1 (by omega)) (by omega)
theorem getD_inj {L:List Nat}(h:L.Nodup): ∀ a b,a<b→b<L.length→L.getD a 0≠L.getD b 0:=by
  intro a b h1 h2 e
  rw [List.getD_eq_getElem?_getD,List.getD_eq_getElem?_getD,List.getElem?_eq_getElem (show a<L.length by omega),List.getElem?_eq_getElem h2]at e
  have:=(List.getElem_inj h).1 e
  omega
section
variable {N:Nat}(hN:N≤2^14){it:Nat→It}(hF: ∀ j,j<N→(it j).k=3→FillIt (it j)){y:Nat→Int}(hy: ∀ j,j<N→0≤y j∧y j≤4096){room:Int}(hroom:0≤room∧room≤4096)
include hN hF hy hroom
theorem opn_ok: ∀ j∈opn it N,j<N∧FillIt (it j):=fun j hj=>⟨(opn_mem.1 hj).1,hF j (opn_mem.1 hj).1 (opn_mem.1 hj).2⟩
abbrev fillArgs(N:Nat)(room:Int):List AVal:= [.slice (some ⟨0,0,0,0,5⟩) N N,.slice (some ⟨1,0,0,0,1⟩) N N,.int .i64 room]
theorem fill_most(hb:bndAt it N=true)(hmost:mostAt it N≤restAt it y room N) :
    FDoes Try.prog 42 (fillArgs N room) (AHeap.of [.made (irows N it) 5 true,IRow N y]) (.tuple []) (AHeap.of [.made (irows N it) 5 true,IRow N fun j=>if j∈opn it N then(it j).mx else y j]):=by
  obtain⟨o,c,ver,off,bk,hop,l0⟩:=split_does hN hF hy hroom
  rw [hb]at l0
  have hok:=opn_ok hN hF hy hroom
  have l1:=fill_max_loop hN (it:=it) hop.sl hop.bare (op:=fun i=>(opn it N).getD i 0) (fun i hi=>hop.el i hi) (fun i hi=>(hok _ (getD_mem hi)).1) (opn_length it N) y (opn it N).length 0 (by omega)
  have hc:Clo (Ids [0,1,9]) (.slice o (opn it N).length c):=hop.sl.clo (by simp [Ids])
  have pre:Ent 2 279 [(0,AVal.slice (some ⟨0,0,0,0,5⟩) N N),(1,.slice (some ⟨1,0,0,0,1⟩) N N),(74,.slice o (opn it N).length c),(75,.int .i64 (opn it N).length),(76,.int .i64 (0:Nat))] (H2 21 N it y bk)
      [(0,AVal.slice (some ⟨0,0,0,0,5⟩) N N),(1,.slice (some ⟨1,0,0,0,1⟩) N N),(74,.slice o (opn it N).length c),(75,.int .i64 (opn it N).length),(76,.int .i64 (0:Nat))] (H2 40 N it y bk) :=
    Ent.drop (by kernel_rfl) (by kernel_rfl) (by kernel_rfl) (by kernel_rfl) (by simp only [List.map,All_cons,All_nil,and_true];exact⟨by simp [Clo,Ids],by simp [Clo,Ids],hc,by simp [Clo],by simp [Clo]⟩) (by
      simp only [List.map,All_cons,All_nil,and_true]
      exact⟨(irows_bare N it).clo _,fun e he=>(ints_bare _ _ e he).clo _,hop.bare.clo _⟩)
  have e:ints N (putF y (fun i=>(opn it N).getD i 0) (fun i=>(it ((opn it N).getD i 0)).mx) (opn it N).length)=ints N fun j=>if j∈opn it N then(it j).mx else y j:=by
    refine ints_congr fun j hj=> ?_
    by_cases h:j∈opn it N
    · rw [if_pos h]
      obtain⟨k,hk,e⟩:=mem_getD h
      subst e
      exact putF_in (op:=fun i=>(opn it N).getD i 0) (v:=fun i=>(it ((opn it N).getD i 0)).mx) (getD_inj (opn_nodup it N)) hk
    · rw [if_neg h]
      exact putF_out fun i hi e=>h (e▸getD_mem hi)
  rw [e]at l1
  have k:=fill_call_max N (opn it N).length c 0 0 o none bk noRow0 (irows N it) (ints N y) _ [] [] [] [] room _ _ _ 0 0 0 (Runs.of_loops l0) hmost (Runs.of_loops (Tri.pre l1 pre))
  exact k.fin [] [.made (irows N it) 5 true,IRow N _] (.tuple []) (by simp;exact⟨irows_bare _ _,irow_bare _ _⟩) rfl (by kernel_rfl) rfl trivial rfl (by simp)
theorem fill_more (hno: ¬ (bndAt it N=true∧mostAt it N≤restAt it y room N)) (hI:FInv (fpOf it) (opn it N) (restAt it y room N) (weightAt it N)) :
    ∃ z,Fills (fpOf it) (opn it N) (restAt it y room N) (weightAt it N) y z ∧
    FDoes Try.prog 42 (fillArgs N room) (AHeap.of [.made (irows N it) 5 true,IRow N y]) (.tuple []) (AHeap.of [.made (irows N it) 5 true,IRow N z]):=by
  obtain⟨o,c,ver,off,bk,hop,l0⟩:=split_does hN hF hy hroom
  have hok:=opn_ok hN hF hy hroom
  obtain⟨L,o2,c2,ver2,off2,b2,rest2,weight2,y2,q1,q2,q3,q4,q5,q6,q7,q8,q9,l2⟩:=fill_rounds hN (opn it N).length (opn it N) o c ver off bk _ _ y (Nat.le_refl _) hop hok (opn_length it N) hI (by have:=restAt_range hN hF hy hroom (i:=N) (Nat.le_refl _);omega) (by have:=weightAt_range hN hF (i:=N) (Nat.le_refl _);omega)
  have hc3:Clo (Ids [0,1,9]) (.slice o (opn it N).length c):=hop.sl.clo (by simp [Ids])
  have pre2:Ent 2 279 (F2 N (opn it N).length c o (restAt it y room N) (weightAt it N)) (H2 18 N it y bk) (F2 N (opn it N).length c o (restAt it y room N) (weightAt it N)) (H2 20 N it y bk) :=
    Ent.drop (by kernel_rfl) (by kernel_rfl) (by kernel_rfl) (by kernel_rfl) (by simp only [List.map,All_cons,All_nil,and_true];exact⟨by simp [Clo,Ids],by simp [Clo,Ids],by simp [Clo],by simp [Clo],hc3⟩) (by
      simp only [List.map,All_cons,All_nil,and_true]
      exact⟨(irows_bare N it).clo _,fun e he=>(ints_bare _ _ e he).clo _,hop.bare.clo _⟩)
  have l2:=Runs.of_loops (Tri.pre l2 pre2)
  have hlt: ∀ i,i<L.length→L.getD i 0<N:=fun i hi=>(q2 _ (getD_mem hi)).1
  have hc:Clo (Ids [0,1,9,20,23]) (.slice o2 L.length c2):=q1.sl.clo (by simp [Ids])
  have h8:(8:Int)*L.length≤281474976710656:=by omega
  have drop5: ∀ (K K2:Nat) (F:Facts) (q r:Nat→Int) (hF1:F.all (fun p=>Nat.blt p.1 279)=true) (hF2:All (F.map fun p=>Clo (Ids [0,1,9,20,23]) p.2)) (hK2: [0,1,9,20,23].all (fun i=>Nat.blt i K2)=true)
      (hk: [(0,ABlk.made (irows N it) 5 true),(1,.made (ints N y2) 1 true),(9,b2),(20,IRow L.length q),(23,IRow L.length r)].map (fun p=>(AHeap.rows K [(0,ABlk.made (irows N it) 5 true),(1,.made (ints N y2) 1 true),(9,b2),(20,IRow L.length q),(23,IRow L.length r)]).get p.1)= [(0,ABlk.made (irows N it) 5 true),(1,.made (ints N y2) 1 true),(9,b2),(20,IRow L.length q),(23,IRow L.length r)].map (fun p=>some p.2)),
      Ent 2 279 F (AHeap.rows K [(0,.made (irows N it) 5 true),(1,.made (ints N y2) 1 true),(9,b2),(20,IRow L.length q),(23,IRow L.length r)]) F (AHeap.rows K2 [(0,.made (irows N it) 5 true),(1,.made (ints N y2) 1 true),(9,b2),(20,IRow L.length q),(23,IRow L.length r)]):=by
    intro K K2 F q r hF1 hF2 hK2 hk
    exact Ent.drop hk hK2 (by kernel_rfl) hF1 hF2 (by
      simp only [List.map,All_cons,All_nil,and_true]
      exact⟨(irows_bare N it).clo _,fun e he=>(ints_bare _ _ e he).clo _,q1.bare.clo _,(irow_bare _ _).clo _,(irow_bare _ _).clo _⟩)
  have clo5:All ([(0,AVal.slice (some ⟨0,0,0,0,5⟩) N N),(1,.slice (some ⟨1,0,0,0,1⟩) N N),(6,.int .i64 rest2),(7,.int .i64 weight2),(9,.slice o2 L.length c2),(26,.slice (some ⟨20,0,0,0,1⟩) L.length L.length),(27,.slice (some ⟨23,0,0,0,1⟩) L.length L.length),(222,.slice o2 L.length c2),(223,.int .i64 L.length),(224,.int .i64 (0:Nat))].map fun(p:Nat×AVal)=>Clo (Ids [0,1,9,20,23]) p.2):=by
    simp only [List.map,All_cons,All_nil,and_true]
    exact⟨by simp [Clo,Ids],by simp [Clo,Ids],by simp [Clo],by simp [Clo],hc,by simp [Clo,Ids],by simp [Clo,Ids],hc,by simp [Clo],by simp [Clo]⟩
  have clo6:All ([(1,AVal.slice (some ⟨1,0,0,0,1⟩) N N),(26,.slice (some ⟨20,0,0,0,1⟩) L.length L.length),(264,.slice o2 L.length c2),(265,.int .i64 L.length),(266,.int .i64 (0:Nat))].map fun(p:Nat×AVal)=>Clo (Ids [0,1,9,20,23]) p.2):=by
    simp only [List.map,All_cons,All_nil,and_true]
    exact⟨by simp [Clo,Ids],by simp [Clo,Ids],hc,by simp [Clo],by simp [Clo]⟩
  have done: ∀ {z:Nat→Int} {h':AHeap},FDoes Try.prog 42 (fillArgs N room) (AHeap.of [.made (irows N it) 5 true,IRow N y]) (.tuple []) h'→(List.range 2).map (fun i=>h'.get (finR 2 [] i))= [ABlk.made (irows N it) 5 true,IRow N z].map some →
      FDoes Try.prog 42 (fillArgs N room) (AHeap.of [.made (irows N it) 5 true,IRow N y]) (.tuple []) (AHeap.of [.made (irows N it) 5 true,IRow N z]):=by
    intro z h' k hg
    exact k.fin [] [.made (irows N it) 5 true,IRow N z] (.tuple []) (by simp;exact⟨irows_bare _ _,irow_bare _ _⟩) rfl hg rfl trivial rfl (by simp)
  have hcase:bndAt it N=false∨(bndAt it N=true∧ ¬ mostAt it N≤restAt it y room N):=by
    cases h:bndAt it N
    · exact .inl rfl
    · exact .inr ⟨rfl,fun k=>hno ⟨h,k⟩⟩
  by_cases hnil:L= []
  ·
    subst hnil
    have l6:=fill_w_loop hN (it:=it) q1.sl q1.bare (op:=fun i=>([]:List Nat).getD i 0) (fun i hi=>q1.el i hi) hlt q3 y2 (fun _=>0) (fun _=>0) 0 0 (by simp)
    have l5:=Loops.last (by simp) (fill_q_end N 0 c2 ver2 off2 0 0 o2 b2 (irows N it) (ints N y2) 0 0 0 0 0 (ints 0 fun _=>0) (ints 0 fun _=>0) rest2 weight2 0 0 (by simp))
    have l5:=Runs.of_loops (Tri.pre l5 (drop5 29 60 _ (fun _=>0) (fun _=>0) (by kernel_rfl) clo5 (by kernel_rfl) (by kernel_rfl)))
    have l6:=Runs.of_loops (Tri.pre l6 (drop5 67 60 _ (fun _=>0) (fun _=>0) (by kernel_rfl) clo6 (by kernel_rfl) (by kernel_rfl)))
    refine⟨y2,q9 y2 (Fills.stop q7 q8 (fun _=>0) (fun h=>absurd rfl h) (by simp) fun j _=>rfl),?_⟩
    rcases hcase with hb | ⟨hb,hm⟩
    · rw [hb]at l0
      exact done (fill_call_N0 N (opn it N).length c 0 c2 o o2 bk b2 (irows N it) (ints N y) (ints N y2) (ints N y2) (ints 0 fun _=>0) [] (ints 0 fun _=>0) room _ _ _ rest2 weight2 0 (Runs.of_loops l0) l2 (by omega) (by omega) l5 (by omega) l6) (by kernel_rfl)
    · rw [hb]at l0
      exact done (fill_call_T0 N (opn it N).length c 0 c2 o o2 bk b2 (irows N it) (ints N y) (ints N y2) (ints N y2) (ints 0 fun _=>0) [] (ints 0 fun _=>0) room _ _ _ rest2 weight2 0 (Runs.of_loops l0) hm l2 (by omega) (by omega) l5 (by omega) l6) (by kernel_rfl)
  · have hpos:0<L.length:=List.length_pos_iff.2 hnil
    have wpos:=q4.wpos hnil
    have r0:=q4.rest0
    have hwt:sumTo (fun k=>(it (L.getD k 0)).n) L.length=weight2:=by
      rw [sumTo_sumL,sumL_getD (fun i=>(it i).n) L,q4.w];rfl
    have hsQ: ∀ j,j<L.length→0≤(it (L.getD j 0)).n∧(it (L.getD j 0)).n≤1000:=fun j hj=>by have:=(q2 _ (getD_mem hj)).2.n;omega
    have eQ: ∀ k,shareQ rest2 (fun k=>(it (L.getD k 0)).n) L.length k=rest2* (it (L.getD k 0)).n / weight2:=fun k=>by unfold shareQ;rw [hwt]
    have eR: ∀ k,shareR rest2 (fun k=>(it (L.getD k 0)).n) L.length k=rest2* (it (L.getD k 0)).n % weight2:=fun k=>by unfold shareR;rw [hwt]
    obtain⟨t1,t2⟩:=share_left (t:=rest2) (w:=fun k=>(it (L.getD k 0)).n) (n:=L.length) (by rw [hwt];exact wpos)
    have hx: ∀ j,j<L.length→0≤rest2* (it (L.getD j 0)).n∧rest2* (it (L.getD j 0)).n≤2^23:=fun j hj=>(nums_of ⟨r0,q5⟩ ⟨Int.le_of_lt wpos,q6⟩ (q2 _ (getD_mem hj)).2).x
    have hQ: ∀ j,j<L.length→0≤shareQ rest2 (fun k=>(it (L.getD k 0)).n) L.length j∧shareQ rest2 (fun k=>(it (L.getD k 0)).n) L.length j≤2^23:=fun j hj=>by
      have h1:=hx j hj
      rw [eQ]
      have:=Int.ediv_le_self weight2 h1.1
      have:=Int.ediv_nonneg h1.1 (Int.le_of_lt wpos)
      omega
    have hR: ∀ j,0≤shareR rest2 (fun k=>(it (L.getD k 0)).n) L.length j∧shareR rest2 (fun k=>(it (L.getD k 0)).n) L.length j<weight2:=fun j=>by
      rw [eR];exact⟨Int.emod_nonneg _ (by omega),Int.emod_lt_of_pos _ wpos⟩
    have l5:=fill_q_loop hN (it:=it) q1.sl q1.bare (op:=fun i=>L.getD i 0) (fun i hi=>q1.el i hi) hlt q3 (ints N y2) (ints_bare N y2) (rest:=rest2) (weight:=weight2) wpos (fun i hi=>by have:=hx i hi;omega) L.length 0 (by omega)
    rw [show(ints L.length fun j=>if j<0 then rest2* (it (L.getD j 0)).n / weight2 else 0)=List.replicate L.length (.int .i64 0)by rw [ints_zero];exact ints_congr fun j _=>by simp,
      show(ints L.length fun j=>if j<0 then rest2* (it (L.getD j 0)).n % weight2 else 0)=List.replicate L.length (.int .i64 0)by rw [ints_zero];exact ints_congr fun j _=>by simp,
      show(ints L.length fun j=>if j<L.length then rest2* (it (L.getD j 0)).n / weight2 else 0)=ints L.length (shareQ rest2 (fun k=>(it (L.getD k 0)).n) L.length)from ints_congr fun j hj=>by rw [if_pos hj,eQ],
      show(ints L.length fun j=>if j<L.length then rest2* (it (L.getD j 0)).n % weight2 else 0)=ints L.length (shareR rest2 (fun k=>(it (L.getD k 0)).n) L.length)from ints_congr fun j hj=>by rw [if_pos hj,eR]]at l5
    have d5:=drop5 29 60 _ (fun _=>0) (fun _=>0) (by kernel_rfl) clo5 (by kernel_rfl) (by kernel_rfl)
    rw [show IRow L.length (fun _=>0)= .made (List.replicate L.length (.int .i64 0)) 1 true by rw [ints_zero]]at d5
    have l5:=Runs.of_loops (Tri.pre l5 d5)
    generalize hq:shareQ rest2 (fun k=>(it (L.getD k 0)).n) L.length=Q at *
    generalize hr:shareR rest2 (fun k=>(it (L.getD k 0)).n) L.length=R at *
    have fitQ: ∀ j,j≤L.length→Fit64 (sumTo Q j):=by
      intro j hj
      have h1:0≤sumTo Q j:=sumTo_ge0 fun i hi=>(hQ i (by omega)).1
      have h2:sumTo Q j≤j*2^23:=sumTo_up fun i hi=>(hQ i (by omega)).2
      unfold Fit64;omega
    have sm:=sum_does (o:=some ⟨20,0,0,0,1⟩) (n:=L.length) (c:=L.length) (.inl rfl) (irow_bare L.length Q) (x:=Q) (fun j hj=>by rw [Nat.zero_add];exact ints_el hj) fitQ (by omega) (H:=AHeap.rows 71 [(0,.made (irows N it) 5 true),(1,.made (ints N y2) 1 true),(9,b2),(20,IRow L.length Q),(23,IRow L.length R)]) (by kernel_rfl) (by rw [AHeap.rows_next];omega)
    obtain⟨σ,s1,s2,s3⟩:=top_does (n:=L.length) (by omega) (x:=R) (y:=Q) (fun p q _ _=>by have:=hR p;have:=hR q;omega) (k:=(rest2-sumTo Q L.length).toNat) (by omega) (fun j hj=>by have:=hQ j hj;omega)
    have tp:=s3.upW (by simp;exact⟨irow_bare _ _,irow_bare _ _⟩) (by simp;exact⟨irow_bare _ _,irow_bare _ _⟩) (by simp) (by simp [Clos,Clo]) (H:=AHeap.rows 71 [(0,.made (irows N it) 5 true),(1,.made (ints N y2) 1 true),(9,b2),(20,IRow L.length Q),(23,IRow L.length R)]) [20,23] (by simp) (by rw [AHeap.rows_next];simp) (by kernel_rfl)
    have ek:((rest2-sumTo Q L.length).toNat:Int)=rest2-sumTo Q L.length:=by omega
    rw [ek]at tp
    have l6:=fill_w_loop hN (it:=it) q1.sl q1.bare (op:=fun i=>L.getD i 0) (fun i hi=>q1.el i hi) hlt q3 y2 (topF Q σ (rest2-sumTo Q L.length).toNat) R L.length 0 (by omega)
    have l6:=Runs.of_loops (Tri.pre l6 (drop5 74 60 _ (topF Q σ (rest2-sumTo Q L.length).toNat) R (by kernel_rfl) clo6 (by kernel_rfl) (by kernel_rfl)))
    have hinj:=getD_inj q4.nd
    have tops:Tops L.length Q R (rest2-sumTo Q L.length).toNat (topF Q σ (rest2-sumTo Q L.length).toNat):=by
      rw [topF_topP]
      refine tops_of s1 s2 wpos (fun j _=>hR j) (by omega) ?_ Q
      rw [ek,sumTo_sumL]
      have e1:=share_rests (l:=List.range L.length) (x:=fun k=>rest2* (it (L.getD k 0)).n) (w:=weight2) (t:=rest2) wpos (by rw [sumL_mul,← sumTo_sumL,hwt])
      have e2:sumL R (List.range L.length)=sumL (fun k=>rest2* (it (L.getD k 0)).n % weight2) (List.range L.length):=sumL_congr fun k _=>eR k
      have e3:sumL Q (List.range L.length)=sumL (fun k=>rest2* (it (L.getD k 0)).n / weight2) (List.range L.length):=sumL_congr fun k _=>eQ k
      rw [e2,e3];exact e1
    have fl:Fills (fpOf it) L rest2 weight2 y2 (putF y2 (fun i=>L.getD i 0) (topF Q σ (rest2-sumTo Q L.length).toNat) L.length):=by
      refine Fills.stop q7 q8 (topF Q σ (rest2-sumTo Q L.length).toNat) (fun _=>⟨(rest2-sumTo Q L.length).toNat,?_,?_⟩) (fun k hk=>putF_in (op:=fun i=>L.getD i 0) hinj hk) fun j hj=>putF_out fun i hi e=>hj (by rw [← e];exact getD_mem hi)
      · rw [ek,sumTo_sumL,← sumL_getD (fun i=>rest2* (fpOf it).n i / weight2) L]
        congr 1
        exact sumL_congr fun k _=>eQ k
      · rw [show(fun k=>rest2* (fpOf it).n (L.getD k 0) / weight2)=Q from funext fun k=>(eQ k).symm,show(fun k=>rest2* (fpOf it).n (L.getD k 0) % weight2)=R from funext fun k=>(eR k).symm]
        exact tops
    refine⟨_,q9 _ fl,?_⟩
    rcases hcase with hb | ⟨hb,hm⟩
    · rw [hb]at l0
      exact done (fill_call_N N (opn it N).length c L.length c2 o o2 bk b2 (irows N it) (ints N y) (ints N y2) _ (ints L.length Q) (ints L.length (topF Q σ (rest2-sumTo Q L.length).toNat)) (ints L.length R) room _ _ _ rest2 weight2 (sumTo Q L.length) (Runs.of_loops l0) l2 (by omega) (by omega) l5 (by omega) sm (by omega) (tp.to (by kernel_rfl)) l6) (by kernel_rfl)
    · rw [hb]at l0
      exact done (fill_call_T N (opn it N).length c L.length c2 o o2 bk b2 (irows N it) (ints N y) (ints N y2) _ (ints L.length Q) (ints L.length (topF Q σ (rest2-sumTo Q L.length).toNat)) (ints L.length R) room _ _ _ rest2 weight2 (sumTo Q L.length) (Runs.of_loops l0) hm l2 (by omega) (by omega) l5 (by omega) sm (by omega) (tp.to (by kernel_rfl)) l6) (by kernel_rfl)
end
end Go.Proofs.Ytgfkllnaeekjeaa
