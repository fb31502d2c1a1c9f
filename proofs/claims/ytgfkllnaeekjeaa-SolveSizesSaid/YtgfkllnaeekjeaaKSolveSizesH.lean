/-
  Parts of the proof, one behind the other:
  solve.Sizes: the contract.
  What Sizes answers, plain: sums, bounds, order, more room.
  THE LIFT, PART R: the abstract machine once more, so written that the kernel runs it with every value worked out at once. What it answers the abstract machine answers.
  'frescolaw08.works' answers true, wherever it is called (a closed run).
  'frescolaw08.SolveMore': the walk.
  'frescolaw08.SolveMore' answers true.
  frescoref08: Into, wants, at, total, all: the walk.
  frescoref08: given, Shared: the walk.
  frescoref08: Into, wants, at, total, all: what they answer.
  frescoref08: given: what it answers.
  frescoref08: Shared: what it answers.
  frescoref08: start, filled: the walk.
-/
import Derived.Test.YtgfkllnaeekjeaaKSolveSizesG
set_option linter.unusedVariables false
set_option linter.unusedSimpArgs false
set_option linter.unusedSectionVars false
namespace Go.Proofs.Ytgfkllnaeekjeaa
open Go.Lift
set_option maxRecDepth 1000000
def ShareZ(n:Nat)(t:Int)(w z:Nat→Int):Prop :=
  (sumTo w n=0∧ ∀ j,z j=0)∨(0<sumTo w n∧ ∃ k:Nat,(k:Int)=t-sumTo (shareQ t w n) n∧k≤n∧Tops n (shareQ t w n) (shareR t w n) k z)
theorem share_all {n:Nat}(hn:n≤2^14){t:Int}(ht:0≤t∧t≤2^36){w:Nat→Int}(hw: ∀ j,j<n→0≤w j∧w j≤2^25) :
    ∃ s,ShareZ n t w s∧FDoes Try.prog 41 [.int .i64 t,.slice (some ⟨0,0,0,0,1⟩) n n] (AHeap.of [IRow n w]) (.slice (some ⟨1,0,0,0,1⟩) n n) (AHeap.of [IRow n w,IRow n s]):=by
  have h0:0≤sumTo w n:=sumTo_ge0 fun j hj=>(hw j hj).1
  by_cases ha:sumTo w n=0
  · exact⟨fun _=>0,.inl ⟨ha,fun _=>rfl⟩,share_zero hn ht hw ha⟩
  · have ha:0<sumTo w n:=by omega
    obtain⟨σ,s1,s2,s3⟩:=share_does hn ht hw ha
    obtain⟨k1,k2⟩:=share_left (t:=t) ha
    refine⟨_,.inr ⟨ha,(t-sumTo (shareQ t w n) n).toNat,by omega,by omega,?_⟩,s3⟩
    rw [topF_topP]
    refine tops_of s1 s2 ha (fun j _=>⟨Int.emod_nonneg _ (by omega),Int.emod_lt_of_pos _ ha⟩) (by omega) ?_ _
    rw [show(((t-sumTo (shareQ t w n) n).toNat:Nat):Int)=t-sumTo (shareQ t w n) n by omega,sumTo_sumL (shareQ t w n)]
    exact share_rests (l:=List.range n) (x:=fun j=>t*w j) (w:=sumTo w n) (t:=t) ha (by rw [sumL_mul,← sumTo_sumL])
def roomZ(n:Nat)(extent gap:Int):Int:=max 0 (sideZ extent-sideZ gap* ((n:Int)-1))
theorem roomZ_range {n:Nat}(h:1≤n)(extent gap:Int):0≤roomZ n extent gap∧roomZ n extent gap≤4096:=by
  have h1:=sideZ_range extent
  have h2:=sideZ_range gap
  have:0≤sideZ gap* ((n:Int)-1):=Int.mul_nonneg h2.1 (by omega)
  unfold roomZ;omega
structure SizesZ (eff:Nat→It) (N:Nat) (room:Int) (z:Nat→Int):Prop where
  cases : (room<sumTo (fun j=>(eff j).mn) N∧ShareZ N room (fun j=>(eff j).mn) z) ∨
    (sumTo (fun j=>(eff j).mn) N≤room∧room<sumTo (fun j=>wantZ room (eff j)) N∧ ∃ s,ShareZ N (sumTo (fun j=>wantZ room (eff j)) N-room) (fun j=>wantZ room (eff j)- (eff j).mn) s∧ ∀ j,j<N→z j=wantZ room (eff j)-s j) ∨
    (sumTo (fun j=>(eff j).mn) N≤room∧sumTo (fun j=>wantZ room (eff j)) N≤room ∧
      ((bndAt eff N=true∧mostAt eff N≤restAt eff (fun j=>wantZ room (eff j)) room N∧ ∀ j,j<N→z j=if j∈opn eff N then(eff j).mx else wantZ room (eff j)) ∨
        (¬ (bndAt eff N=true∧mostAt eff N≤restAt eff (fun j=>wantZ room (eff j)) room N)∧FInv (fpOf eff) (opn eff N) (restAt eff (fun j=>wantZ room (eff j)) room N) (weightAt eff N) ∧
          Fills (fpOf eff) (opn eff N) (restAt eff (fun j=>wantZ room (eff j)) room N) (weightAt eff N) (fun j=>wantZ room (eff j)) z)))
theorem sumTo_le_one {f:Nat→Int} : ∀ {n:Nat},(∀ j,j<n→0≤f j)→ ∀ j,j<n→f j≤sumTo f n
  | 0,_,j,h=>by omega
  | n+1,h,j,hj=>by
    have h0:=sumTo_ge0 (f:=f) (n:=n) fun i hi=>h i (by omega)
    have h1:=h n (by omega)
    simp only [sumTo]
    by_cases c:j=n
    · subst c;omega
    · have:=sumTo_le_one (n:=n) (fun i hi=>h i (by omega)) j (by omega);omega
theorem fill_inv {eff:Nat→It} (heff: ∀ j,RightIt (eff j)) {N:Nat} {room:Int} (hr:0≤room∧room≤4096) (hsum:sumTo (fun j=>wantZ room (eff j)) N≤room)
    (hno: ¬ (bndAt eff N=true∧mostAt eff N≤restAt eff (fun j=>wantZ room (eff j)) room N)):FInv (fpOf eff) (opn eff N) (restAt eff (fun j=>wantZ room (eff j)) room N) (weightAt eff N):=by
  have hf: ∀ j∈opn eff N,FillIt (eff j):=fun j hj=>(heff j).fill (opn_mem.1 hj).2
  have hw0: ∀ j,0≤wantZ room (eff j):=fun j=>by have:=wantZ_range (heff j) hr;have:=(heff j).mn;omega
  have hrest:restAt eff (fun j=>wantZ room (eff j)) room N≤room:=by
    have:0≤sumL (fun j=>wantZ room (eff j)) ((List.range N).filter fun j=> !isF eff j):=sumL_ge0 fun j _=>hw0 j
    unfold restAt;omega
  refine⟨⟨fun i hi=>(hf i hi).n.1,fun i hi=>(hf i hi).mn.1,fun i hi=>(hf i hi).bd.1⟩,opn_nodup _ _,rfl,?_,?_⟩
  · rw [sumTo_sumL,sumL_filter _ (isF eff)]at hsum
    have e:sumL (fun j=>wantZ room (eff j)) ((List.range N).filter (isF eff))=sumL (fpOf eff).mn (opn eff N):=sumL_congr fun j hj=>by
      have hk:(eff j).k=3:=(opn_mem.1 (show j∈opn eff N from hj)).2
      show wantZ room (eff j)=(eff j).mn
      unfold wantZ
      rw [if_neg (by omega),if_pos hk]
    unfold restAt
    omega
  · have hb0: ∀ i∈opn eff N,0≤(fpOf eff).bd i:=fun i hi=>(hf i hi).bd.2.1
    cases hb:bndAt eff N with
    | true =>
      have h1: ¬ mostAt eff N≤restAt eff (fun j=>wantZ room (eff j)) room N:=fun h=>hno ⟨hb,h⟩
      have e:mostAt eff N=sumL (fpOf eff).bd (opn eff N):=sumL_congr fun j hj=>by
        have:=List.all_eq_true.1 hb j hj
        simp only [decide_eq_true_eq]at this
        show _=boundZ (eff j).mx
        unfold boundZ;rw [if_pos this]
      omega
    | false =>
      have: ∃ j∈opn eff N,¬ 0<(eff j).mx:=by
        unfold bndAt at hb
        rw [List.all_eq_false]at hb
        obtain⟨j,hj,h⟩:=hb
        exact⟨j,hj,by simpa using h⟩
      obtain⟨j,hj,h⟩:=this
      have h2:=sumL_mem_le hb0 j hj
      have:(fpOf eff).bd j=8192:=by
        show boundZ (eff j).mx=8192
        unfold boundZ;rw [if_neg h]
      omega
section
variable {N:Nat}(hN:N≤4096)(h1:1≤N){o:Option AAddr}{c ver off:Nat}{b:ABlk}(hs:SlArg o N c 0 ver off 5)(hb:BareB b){src:Nat→It}(hel: ∀ j,j<N→b.elem? ver (off+j)=some (src j).val)
include hN h1 hs hb hel
theorem sub_loop(w s:Nat→Int)(hw: ∀ j,j<N→0≤w j∧w j≤2^40)(hs2: ∀ j,j<N→0≤s j∧s j≤2^40): ∀ (f i:Nat),i+f=N →
    Loops Try.prog 1 142 (loopAt Try.prog 16 1) [(11,.slice (some ⟨27,0,0,0,1⟩) N N),(121,.slice (some ⟨57,0,0,0,1⟩) N N),(122,.int .i64 N),(123,.int .i64 i)]
      (AHeap.rows 90 [(0,b),(27,.made (ints N fun j=>if j<i then w j-s j else w j) 1 true),(57,.made (ints N s) 1 true)]) (.exit 3) [(11,.slice (some ⟨27,0,0,0,1⟩) N N)]
      (AHeap.rows 91 [(0,b),(27,.made (ints N fun j=>if j<N then w j-s j else w j) 1 true),(57,.made (ints N s) 1 true)])
  | 0,i,e=>by
    obtain rfl:i=N:=by omega
    exact Loops.last (by simp) (sz_subEnd i i b _ _ (by omega))
  | f +1,i,e=>by
    have hi:i<N:=by omega
    have hwi:=hw i hi
    have hsi:=hs2 i hi
    have st:=sz_sub N i b (ints N fun j=>if j<i then w j-s j else w j) (ints N s) (s i) (w i) (w i) (by omega) (ixR hi) (elem_made (ints_get hi)) (ixR hi) (elem_made (by rw [ints_get hi];simp)) (by omega) (ixR hi) ⟨rfl,by rw [ints_get hi];simp⟩ (by omega)
    rw [ints_step (y:=fun j=>w j-s j) (z:=w)]at st
    refine Loops.round st ?_ (sub_loop w s hw hs2 f (i+1) (by omega))
    exact Ent.drop (by kernel_rfl) (by kernel_rfl) (by kernel_rfl) (by kernel_rfl) (by simp [All_cons,All_nil,Clo];simp [Ids]) (by
      simp only [List.map,All_cons,All_nil,and_true]
      exact⟨hb.clo _,(irow_bare _ _).clo _,(irow_bare _ _).clo _⟩)
theorem sizes_small(extent gap:Int): ∃ (z:Nat→Int) (j:Nat) (h':AHeap),SizesZ (fun j=>effI (src j)) N (roomZ N extent gap) z∧1≤j∧h'.get 0=some b∧h'.get j=some (IRow N z) ∧
    FDoes Try.prog 16 [.slice o N c,.int .i64 extent,.int .i64 gap] (AHeap.of [b]) (.slice (some ⟨j,0,0,0,1⟩) N N) h':=by
  have se:=sideZ_range extent
  have sg:=sideZ_range gap
  have pg:=mul_range (b:=(N:Int)-1) (B:=4096) sg.1 sg.2 (by omega) (by omega)
  have hr:=roomZ_range h1 extent gap
  have er:(if sideZ extent-sideZ gap* ((N:Int)-1)>0 then sideZ extent-sideZ gap* ((N:Int)-1)else 0)=roomZ N extent gap:=by unfold roomZ;split<;>omega
  have heff: ∀ j,RightIt (effI (src j)):=fun j=>effI_right _
  have l:=sz_loop hN hs hb hel hr N 0 (by omega)
  have hc:Clo (Ids [0,22,25,27,29]) (.slice o N c):=hs.clo (by simp [Ids])
  have pre:Ent 1 142 [(8,.int .i64 (roomZ N extent gap)),(9,.slice (some ⟨22,0,0,0,5⟩) N N),(10,.slice (some ⟨25,0,0,0,1⟩) N N),(11,.slice (some ⟨27,0,0,0,1⟩) N N),(12,.slice (some ⟨29,0,0,0,1⟩) N N),(43,.slice o N c),(44,.int .i64 N),(45,.int .i64 (0:Nat))]
      (HS 36 N b (fun j=>if j<0 then effI (src j)else It0) (fun j=>if j<0 then(effI (src j)).mn else 0) (fun j=>if j<0 then wantZ (roomZ N extent gap) (effI (src j))else 0) (fun j=>if j<0 then wantZ (roomZ N extent gap) (effI (src j))- (effI (src j)).mn else 0))
      [(8,.int .i64 (roomZ N extent gap)),(9,.slice (some ⟨22,0,0,0,5⟩) N N),(10,.slice (some ⟨25,0,0,0,1⟩) N N),(11,.slice (some ⟨27,0,0,0,1⟩) N N),(12,.slice (some ⟨29,0,0,0,1⟩) N N),(43,.slice o N c),(44,.int .i64 N),(45,.int .i64 (0:Nat))]
      (HS 40 N b (fun j=>if j<0 then effI (src j)else It0) (fun j=>if j<0 then(effI (src j)).mn else 0) (fun j=>if j<0 then wantZ (roomZ N extent gap) (effI (src j))else 0) (fun j=>if j<0 then wantZ (roomZ N extent gap) (effI (src j))- (effI (src j)).mn else 0)) :=
    Ent.drop (by kernel_rfl) (by kernel_rfl) (by kernel_rfl) (by kernel_rfl) (by simp only [List.map,All_cons,All_nil,and_true];exact⟨by simp [Clo],by simp [Clo,Ids],by simp [Clo,Ids],by simp [Clo,Ids],by simp [Clo,Ids],hc,by simp [Clo],by simp [Clo]⟩) (by
      simp only [List.map,All_cons,All_nil,and_true]
      exact⟨hb.clo _,(irows_bare _ _).clo _,(irow_bare _ _).clo _,(irow_bare _ _).clo _,(irow_bare _ _).clo _⟩)
  have l:=Runs.of_loops (Tri.pre l pre)
  have z0: ∀ f:Nat→Int,IRow N (fun j=>if j<0 then f j else 0)= .made (List.replicate N (.int .i64 0)) 1 true:=fun f=>by rw [ints_zero];show ABlk.made _ _ _=_;rw [ints_congr (f:=fun j=>if j<0 then f j else 0) (g:=fun _=>0) fun j _=>by simp]
  have zN: ∀ f:Nat→Int,IRow N (fun j=>if j<N then f j else 0)=IRow N f:=fun f=>by show ABlk.made _ _ _=_;rw [ints_congr fun j hj=>by rw [if_pos hj]]
  have i0:(ABlk.made (irows N fun j=>if j<0 then effI (src j)else It0) 5 true)= .made (List.replicate N It0.val) 5 true:=by rw [irows_zero,irows_congr (f:=fun j=>if j<0 then effI (src j)else It0) (g:=fun _=>It0) fun j _=>by simp]
  have iN:(ABlk.made (irows N fun j=>if j<N then effI (src j)else It0) 5 true)= .made (irows N fun j=>effI (src j)) 5 true:=by rw [irows_congr (f:=fun j=>if j<N then effI (src j)else It0) (g:=fun j=>effI (src j)) fun j hj=>by simp [hj]]
  rw [zN,zN,zN,iN]at l
  unfold HS at l
  rw [z0,z0,z0,i0]at l
  generalize hroom:roomZ N extent gap=room at *
  generalize hE:(fun j=>effI (src j))=eff at *
  have heff': ∀ j,RightIt (eff j):=fun j=>by rw [← hE];exact effI_right _
  have e1: ∀ j,effI (src j)=eff j:=fun j=>by rw [← hE]
  simp only [e1]at l
  have hmn: ∀ j,j<N→0≤(eff j).mn∧(eff j).mn≤2^25:=fun j _=>by have:=(heff' j).mn;omega
  have hwt: ∀ j,(eff j).mn≤wantZ room (eff j)∧wantZ room (eff j)≤2^22:=fun j=>wantZ_range (heff' j) hr
  have sfit: ∀ f:Nat→Int,(∀ j,j<N→0≤f j∧f j≤2^25)→ ∀ j,j≤N→Fit64 (sumTo f j):=by
    intro f hf j hj
    have h1:0≤sumTo f j:=sumTo_ge0 fun i hi=>(hf i (by omega)).1
    have h2:sumTo f j≤j*2^25:=sumTo_up fun i hi=>(hf i (by omega)).2
    unfold Fit64;omega
  have hw25: ∀ j,j<N→0≤wantZ room (eff j)∧wantZ room (eff j)≤2^25:=fun j hj=>by have:=hmn j hj;have:=hwt j;omega
  have ho25: ∀ j,j<N→0≤wantZ room (eff j)- (eff j).mn∧wantZ room (eff j)- (eff j).mn≤2^25:=fun j hj=>by have:=hmn j hj;have:=hwt j;omega
  have sw:sumTo (fun j=>wantZ room (eff j)) N≤N*2^22:=sumTo_up fun j hj=>(hwt j).2
  have sw0:0≤sumTo (fun j=>wantZ room (eff j)) N:=sumTo_ge0 fun j hj=>(hw25 j hj).1
  have smm:=fun(K:Nat) (hk:(AHeap.rows K [(0,b),(22,.made (irows N eff) 5 true),(25,IRow N fun j=>(eff j).mn),(27,IRow N fun j=>wantZ room (eff j)),(29,IRow N fun j=>wantZ room (eff j)- (eff j).mn)]).get 25=some (IRow N fun j=>(eff j).mn)) (hK:25<K) =>
    sum_does (o:=some ⟨25,0,0,0,1⟩) (n:=N) (c:=N) (.inl rfl) (irow_bare N fun j=>(eff j).mn) (x:=fun j=>(eff j).mn) (fun j hj=>by rw [Nat.zero_add];exact ints_el hj) (sfit _ hmn) (by omega) (H:=AHeap.rows K [(0,b),(22,.made (irows N eff) 5 true),(25,IRow N fun j=>(eff j).mn),(27,IRow N fun j=>wantZ room (eff j)),(29,IRow N fun j=>wantZ room (eff j)- (eff j).mn)]) hk (by rw [AHeap.rows_next];exact hK)
  have smw:=fun(K:Nat) (hk:(AHeap.rows K [(0,b),(22,.made (irows N eff) 5 true),(25,IRow N fun j=>(eff j).mn),(27,IRow N fun j=>wantZ room (eff j)),(29,IRow N fun j=>wantZ room (eff j)- (eff j).mn)]).get 27=some (IRow N fun j=>wantZ room (eff j))) (hK:27<K) =>
    sum_does (o:=some ⟨27,0,0,0,1⟩) (n:=N) (c:=N) (.inl rfl) (irow_bare N fun j=>wantZ room (eff j)) (x:=fun j=>wantZ room (eff j)) (fun j hj=>by rw [Nat.zero_add];exact ints_el hj) (sfit _ hw25) (by omega) (H:=AHeap.rows K [(0,b),(22,.made (irows N eff) 5 true),(25,IRow N fun j=>(eff j).mn),(27,IRow N fun j=>wantZ room (eff j)),(29,IRow N fun j=>wantZ room (eff j)- (eff j).mn)]) hk (by rw [AHeap.rows_next];exact hK)
  have sm0:0≤sumTo (fun j=>(eff j).mn) N:=sumTo_ge0 fun j hj=>(hmn j hj).1
  by_cases c1:sumTo (fun j=>(eff j).mn) N>room
  · obtain⟨s,sh1,sh2⟩:=share_all (n:=N) (by omega) (t:=room) (by omega) hmn
    have u:=sh2.upN (l:= [IRow N fun j=>(eff j).mn]) (l2:= [IRow N s]) (by simp;exact irow_bare _ _) (by simp;exact irow_bare _ _) (by simp [Clos,Clo]) (H:=AHeap.rows 49 [(0,b),(22,.made (irows N eff) 5 true),(25,IRow N fun j=>(eff j).mn),(27,IRow N fun j=>wantZ room (eff j)),(29,IRow N fun j=>wantZ room (eff j)- (eff j).mn)]) [25] (by simp) (by rw [AHeap.rows_next];simp) (by kernel_rfl)
    exact⟨s,49,_,⟨.inl ⟨c1,sh1⟩⟩,by omega,by kernel_rfl,by kernel_rfl,
      sz_least N c o b (irows N eff) _ _ _ [] (ints N s) extent gap room (sumTo (fun j=>(eff j).mn) N) 0 (by omega) (by omega) (side_does _ _) (side_does _ _) (by omega) (by omega) (by omega) (by omega) (by omega) (by omega) (by omega) (by rw [er];exact l) (smm 45 (by kernel_rfl) (by omega)) c1 (u.to (by kernel_rfl))⟩
  · by_cases c2:sumTo (fun j=>wantZ room (eff j)) N-room>0
    · obtain⟨s,sh1,sh2⟩:=share_all (n:=N) (by omega) (t:=sumTo (fun j=>wantZ room (eff j)) N-room) (by omega) ho25
      have u:=sh2.upN (l:= [IRow N fun j=>wantZ room (eff j)- (eff j).mn]) (l2:= [IRow N s]) (by simp;exact irow_bare _ _) (by simp;exact irow_bare _ _) (by simp [Clos,Clo]) (H:=AHeap.rows 57 [(0,b),(22,.made (irows N eff) 5 true),(25,IRow N fun j=>(eff j).mn),(27,IRow N fun j=>wantZ room (eff j)),(29,IRow N fun j=>wantZ room (eff j)- (eff j).mn)]) [29] (by simp) (by rw [AHeap.rows_next];simp) (by kernel_rfl)
      have hsr: ∀ j,j<N→0≤s j∧s j≤2^40:=by
        intro j hj
        rcases sh1 with ⟨_,h⟩ | ⟨ha,k,hk,hkn,tops⟩
        · rw [h j];omega
        · have hq:0≤shareQ (sumTo (fun j=>wantZ room (eff j)) N-room) (fun j=>wantZ room (eff j)- (eff j).mn) N j:=Int.ediv_nonneg (Int.mul_nonneg (by omega) (ho25 j hj).1) (by omega)
          have hq2:shareQ (sumTo (fun j=>wantZ room (eff j)) N-room) (fun j=>wantZ room (eff j)- (eff j).mn) N j≤sumTo (fun j=>wantZ room (eff j)) N-room:=by
            have h3:wantZ room (eff j)- (eff j).mn≤sumTo (fun j=>wantZ room (eff j)- (eff j).mn) N:=sumTo_le_one (f:=fun j=>wantZ room (eff j)- (eff j).mn) (fun i hi=>(ho25 i hi).1) j hj
            have h4:(sumTo (fun j=>wantZ room (eff j)) N-room)* (wantZ room (eff j)- (eff j).mn)≤(sumTo (fun j=>wantZ room (eff j)) N-room)*sumTo (fun j=>wantZ room (eff j)- (eff j).mn) N:=Int.mul_le_mul_of_nonneg_left h3 (by omega)
            have h5:=Int.ediv_le_ediv ha h4
            rwa [Int.mul_ediv_cancel _ (by omega)]at h5
          rcases tops.one j hj with e | ⟨e,_⟩<;>omega
      have sl:=sub_loop hN h1 hs hb hel (fun j=>wantZ room (eff j)) s (fun j hj=>by have:=hw25 j hj;omega) hsr N 0 (by omega)
      have pre2:Ent 1 142 [(11,.slice (some ⟨27,0,0,0,1⟩) N N),(121,.slice (some ⟨57,0,0,0,1⟩) N N),(122,.int .i64 N),(123,.int .i64 (0:Nat))] (AHeap.rows 58 [(0,b),(22,.made (irows N eff) 5 true),(25,IRow N fun j=>(eff j).mn),(27,.made (ints N fun j=>if j<0 then wantZ room (eff j)-s j else wantZ room (eff j)) 1 true),(29,IRow N fun j=>wantZ room (eff j)- (eff j).mn),(57,.made (ints N s) 1 true)])
          [(11,.slice (some ⟨27,0,0,0,1⟩) N N),(121,.slice (some ⟨57,0,0,0,1⟩) N N),(122,.int .i64 N),(123,.int .i64 (0:Nat))] (AHeap.rows 90 [(0,b),(27,.made (ints N fun j=>if j<0 then wantZ room (eff j)-s j else wantZ room (eff j)) 1 true),(57,.made (ints N s) 1 true)]) :=
        Ent.drop (by kernel_rfl) (by kernel_rfl) (by kernel_rfl) (by kernel_rfl) (by simp [All_cons,All_nil,Clo];simp [Ids]) (by
          simp only [List.map,All_cons,All_nil,and_true]
          exact⟨hb.clo _,(irow_bare _ _).clo _,(irow_bare _ _).clo _⟩)
      have sl:=Runs.of_loops (Tri.pre sl pre2)
      rw [show(ints N fun j=>if j<0 then wantZ room (eff j)-s j else wantZ room (eff j))=ints N fun j=>wantZ room (eff j)from ints_congr fun j _=>by simp,
        show(ints N fun j=>if j<N then wantZ room (eff j)-s j else wantZ room (eff j))=ints N fun j=>wantZ room (eff j)-s j from ints_congr fun j hj=>by rw [if_pos hj]]at sl
      exact⟨fun j=>wantZ room (eff j)-s j,27,_,⟨.inr (.inl ⟨by omega,by omega,s,sh1,fun j _=>rfl⟩)⟩,by omega,by kernel_rfl,by kernel_rfl,
        sz_wants N c o b (irows N eff) _ _ _ (ints N fun j=>wantZ room (eff j)-s j) (ints N s) extent gap room (sumTo (fun j=>(eff j).mn) N) (sumTo (fun j=>wantZ room (eff j)) N) (by omega) (by omega) (side_does _ _) (side_does _ _) (by omega) (by omega) (by omega) (by omega) (by omega) (by omega) (by omega) (by rw [er];exact l) (smm 45 (by kernel_rfl) (by omega)) c1
          (smw 50 (by kernel_rfl) (by omega)) (by omega) c2 (u.to (by kernel_rfl)) sl⟩
    · have hy: ∀ j,j<N→0≤wantZ room (eff j)∧wantZ room (eff j)≤4096:=fun j hj=>by
        have:=sumTo_le_one (f:=fun j=>wantZ room (eff j)) (fun i hi=>(hw25 i hi).1) j hj
        have:=hw25 j hj
        omega
      have hF: ∀ j,j<N→(eff j).k=3→FillIt (eff j):=fun j _ hk=>(heff' j).fill hk
      have fin: ∀ (z:Nat→Int),FDoes Try.prog 42 (fillArgs N room) (AHeap.of [.made (irows N eff) 5 true,IRow N fun j=>wantZ room (eff j)]) (.tuple []) (AHeap.of [.made (irows N eff) 5 true,IRow N z]) →
          ∃ h',h'.get 0=some b∧h'.get 27=some (IRow N z)∧FDoes Try.prog 16 [.slice o N c,.int .i64 extent,.int .i64 gap] (AHeap.of [b]) (.slice (some ⟨27,0,0,0,1⟩) N N) h':=by
        intro z k
        have u:=k.upW (by simp;exact⟨irows_bare _ _,irow_bare _ _⟩) (by simp;exact⟨irows_bare _ _,irow_bare _ _⟩) (by simp) (by simp [Clos,Clo]) (H:=AHeap.rows 56 [(0,b),(22,.made (irows N eff) 5 true),(25,IRow N fun j=>(eff j).mn),(27,IRow N fun j=>wantZ room (eff j)),(29,IRow N fun j=>wantZ room (eff j)- (eff j).mn)]) [22,27] (by simp) (by rw [AHeap.rows_next];simp) (by kernel_rfl)
        exact⟨_,by kernel_rfl,by kernel_rfl,sz_fills N c o b (irows N eff) _ _ _ (ints N z) [] extent gap room (sumTo (fun j=>(eff j).mn) N) (sumTo (fun j=>wantZ room (eff j)) N) (by omega) (by omega) (side_does _ _) (side_does _ _) (by omega) (by omega) (by omega) (by omega) (by omega) (by omega) (by omega) (by rw [er];exact l) (smm 45 (by kernel_rfl) (by omega)) c1
          (smw 50 (by kernel_rfl) (by omega)) (by omega) c2 (u.to (by kernel_rfl))⟩
      by_cases c3:bndAt eff N=true∧mostAt eff N≤restAt eff (fun j=>wantZ room (eff j)) room N
      · obtain⟨h',g0,g27,k⟩:=fin _ (fill_most (by omega) hF hy hr c3.1 c3.2)
        exact⟨_,27,h',⟨.inr (.inr ⟨by omega,by omega,.inl ⟨c3.1,c3.2,fun j _=>rfl⟩⟩)⟩,by omega,g0,g27,k⟩
      · have inv:=fill_inv heff' hr (N:=N) (by omega) c3
        obtain⟨z,hz,k⟩:=fill_more (by omega) hF hy hr c3 inv
        obtain⟨h',g0,g27,k⟩:=fin z k
        exact⟨z,27,h',⟨.inr (.inr ⟨by omega,by omega,.inr ⟨c3,inv,hz⟩⟩)⟩,by omega,g0,g27,k⟩
end
theorem sizes_nil {H:AHeap}{o:Option AAddr}{n c id ver off:Nat}{b:ABlk}{src:Nat→It}(hi:ItemsAt H o n c id ver off b src)(hn:n=0∨4096<n)(extent gap:Int) :
    FDoes Try.prog 16 [.slice o n c,.int .i64 extent,.int .i64 gap] H (.slice none 0 0) H:=by
  have s0:=hi.sl.at 0
  have fin: ∀ (h':AHeap),FDoes Try.prog 16 [.slice (o.map fun a=> {a with id:=0}) n c,.int .i64 extent,.int .i64 gap] (AHeap.of [b]) (.slice none 0 0) h'→h'.get 0=some b→FDoes Try.prog 16 [.slice o n c,.int .i64 extent,.int .i64 gap] H (.slice none 0 0) H:=by
    intro h' k g0
    have:=k.pure (by simp [hi.bare]) (by simp [List.range_succ,g0]) ⟨fun _=>rfl,by simp [Clo]⟩ (by simp [Clos,Clo,s0.clo]) (H:=H) [id] (by simp) (by simp [hi.lt]) (by simp [hi.get])
    simpa [hi.sl.back (id':=0) (r:=toBig [id] H.next) rfl,AVal.ren]using this
  by_cases c0:n=0
  · exact fin _ (sz_nil1 n c _ b extent gap (by omega)) (by kernel_rfl)
  · exact fin _ (sz_nil2 n c _ b extent gap (by omega) (by omega)) (by kernel_rfl)
end Go.Proofs.Ytgfkllnaeekjeaa
namespace Go.Proofs.Ytgfkllnaeekjeaa
open Go.Lift
set_option maxRecDepth 1000000
theorem sumTo_sub(f g:Nat→Int): ∀ n,sumTo (fun j=>f j-g j) n=sumTo f n-sumTo g n
  | 0=>by simp [sumTo]
  | n+1=>by simp only [sumTo];rw [sumTo_sub f g n];omega
def otherW(eff:Nat→It)(room:Int)(N:Nat):Int:=sumL (fun j=>wantZ room (eff j)) ((List.range N).filter fun j=> !isF eff j)
section
variable {eff:Nat→It}(heff: ∀ j,RightIt (eff j)){N:Nat}{room:Int}(hr:0≤room∧room≤4096){z:Nat→Int}(h:SizesZ eff N room z)
include heff hr
include h
end
end Go.Proofs.Ytgfkllnaeekjeaa
namespace Go.Lift
noncomputable section
section
variable {β:Type}
def fNat(n:Nat)(k:Nat→β):β:=Nat.rec (motive:=fun _=>β) (k 0) (fun m _=>k (Nat.succ m)) n
theorem fNat_eq(n:Nat)(k:Nat→β):fNat n k=k n:=by cases n<;>rfl
def fInt(n:Int)(k:Int→β):β :=
  match n with
  | .ofNat m=>fNat m fun m=>k (.ofNat m)
  | .negSucc m=>fNat m fun m=>k (.negSucc m)
theorem fInt_eq(n:Int)(k:Int→β):fInt n k=k n:=by cases n<;>simp [fInt,fNat_eq]
def fKind(d:IntKind)(k:IntKind→β):β :=
  match d with
  | .i8=>k .i8 | .i16=>k .i16 | .i32=>k .i32 | .i64=>k .i64 | .u8=>k .u8 | .u16=>k .u16 | .u32=>k .u32 | .u64=>k .u64
theorem fKind_eq(d:IntKind)(k:IntKind→β):fKind d k=k d:=by cases d<;>rfl
def fBool(b:Bool)(k:Bool→β):β :=
  match b with
  | true=>k true
  | false=>k false
theorem fBool_eq(b:Bool)(k:Bool→β):fBool b k=k b:=by cases b<;>rfl
def fAddr(a:AAddr)(k:AAddr→β):β :=
  match a with
  | ⟨a,b,c,d,e⟩=>fNat a fun a=>fNat b fun b=>fNat c fun c=>fNat d fun d=>fNat e fun e=>k ⟨a,b,c,d,e⟩
theorem fAddr_eq(a:AAddr)(k:AAddr→β):fAddr a k=k a:=by cases a;simp [fAddr,fNat_eq]
def fByte(b:UInt8)(k:UInt8→β):β :=
  match b with
  | ⟨⟨⟨n,h⟩⟩⟩=>fNat n fun m=>k (UInt8.ofNat m)
theorem fByte_eq(b:UInt8)(k:UInt8→β):fByte b k=k b:=by
  obtain⟨⟨⟨n,h⟩⟩⟩:=b
  simp only [fByte,fNat_eq]
  congr 1
  apply UInt8.toNat_inj.1
  simp [UInt8.toNat,UInt8.ofNat]
  omega
def fBytes:List UInt8→(List UInt8→β)→β
  | [],k=>k []
  | b::r,k=>fByte b fun b=>fBytes r fun r=>k (b::r)
theorem fBytes_eq: ∀ (l:List UInt8) (k:List UInt8→β),fBytes l k=k l
  | [],k=>rfl
  | b::r,k=>by simp only [fBytes,fByte_eq,fBytes_eq r]
def fS(v:AVal)(k:AVal→β):β :=
  match v with
  | .undef=>k .undef
  | .bool b=>fBool b fun b=>k (.bool b)
  | .int d n=>fKind d fun d=>fInt n fun n=>k (.int d n)
  | .str s=>fBytes s fun s=>k (.str s)
  | .ptr none=>k (.ptr none)
  | .ptr (some a)=>fAddr a fun a=>k (.ptr (some a))
  | .slice none n c=>fNat n fun n=>fNat c fun c=>k (.slice none n c)
  | .slice (some a) n c=>fAddr a fun a=>fNat n fun n=>fNat c fun c=>k (.slice (some a) n c)
  | .nilFunc=>k .nilFunc
  | .nilIface=>k .nilIface
  | .func a b c=>k (.func a b c)
  | .iface t v=>k (.iface t v)
  | .agg l=>k (.agg l)
  | .tuple l=>k (.tuple l)
theorem fS_eq(v:AVal)(k:AVal→β):fS v k=k v:=by
  cases v with
  | ptr o=>cases o<;>simp [fS,fAddr_eq]
  | slice o n c=>cases o<;>simp [fS,fAddr_eq,fNat_eq]
  | _=>simp [fS,fBool_eq,fKind_eq,fInt_eq,fBytes_eq]
def fSs:List AVal→(List AVal→β)→β
  | [],k=>k []
  | a::r,k=>fS a fun a=>fSs r fun r=>k (a::r)
theorem fSs_eq: ∀ (l:List AVal) (k:List AVal→β),fSs l k=k l
  | [],k=>rfl
  | a::r,k=>by simp only [fSs,fS_eq,fSs_eq r]
def fV1(v:AVal)(k:AVal→β):β :=
  match v with
  | .agg l=>fSs l fun l=>k (.agg l)
  | .iface t v=>fNat t fun t=>fS v fun v=>k (.iface t v)
  | .func a b c=>fSs b fun b=>fSs c fun c=>k (.func a b c)
  | .tuple l=>fSs l fun l=>k (.tuple l)
  | v=>fS v k
theorem fV1_eq(v:AVal)(k:AVal→β):fV1 v k=k v:=by
  unfold fV1;split<;>simp [fS_eq,fSs_eq,fNat_eq]
def fV1s:List AVal→(List AVal→β)→β
  | [],k=>k []
  | a::r,k=>fV1 a fun a=>fV1s r fun r=>k (a::r)
theorem fV1s_eq: ∀ (l:List AVal) (k:List AVal→β),fV1s l k=k l
  | [],k=>rfl
  | a::r,k=>by simp only [fV1s,fV1_eq,fV1s_eq r]
def fV(v:AVal)(k:AVal→β):β :=
  match v with
  | .tuple l=>fV1s l fun l=>k (.tuple l)
  | .iface t v=>fNat t fun t=>fV1 v fun v=>k (.iface t v)
  | v=>fV1 v k
theorem fV_eq(v:AVal)(k:AVal→β):fV v k=k v:=by
  unfold fV;split<;>simp [fV1_eq,fV1s_eq,fNat_eq]
def fVs:List AVal→(List AVal→β)→β
  | [],k=>k []
  | a::r,k=>fV a fun a=>fVs r fun r=>k (a::r)
def fBlk(b:ABlk)(k:ABlk→β):β :=
  match b with
  | ⟨l,es,ex,ro,v,m,f⟩=>fV1s l fun l=>fNat es fun es=>fBool ex fun ex=>fBool ro fun ro=>fNat v fun v=>fNat m fun m=>fNat f fun f=>k ⟨l,es,ex,ro,v,m,f⟩
theorem fBlk_eq(b:ABlk)(k:ABlk→β):fBlk b k=k b:=by cases b;simp [fBlk,fV1s_eq,fNat_eq,fBool_eq]
def toL(n:Nat)(t:Trie AVal):List AVal:=(List.range n).map fun i=>(t.get i).getD skipped
theorem toL_get(n:Nat)(t:Trie AVal)(i:Nat):(toL n t)[i]? =if i<n then some ((t.get i).getD skipped)else none:=by
  simp only [toL,List.getElem?_map]
  by_cases h:i<n
  · rw [List.getElem?_range h,if_pos h];rfl
  · rw [List.getElem?_eq_none (by simpa using h),if_neg h];rfl
def tget(n:Nat)(t:Trie AVal)(i:Nat):Option AVal:=cond (Nat.blt i n) (some (Option.rec (motive:=fun _=>AVal) skipped (fun v=>v) (t.get i))) none
theorem tget_eq(n:Nat)(t:Trie AVal)(i:Nat):tget n t i=(toL n t)[i]? :=by
  rw [toL_get];unfold tget
  by_cases h:i<n
  · rw [show Nat.blt i n=true by simpa [Nat.blt_eq]using h,if_pos h];cases t.get i<;>rfl
  · rw [show Nat.blt i n=false by cases hb:Nat.blt i n with | false=>rfl | true=>exact absurd (Nat.blt_eq.mp hb) h,if_neg h];rfl
def agetT(n:Nat)(t:Trie AVal)(o:Operand):AVal :=
  match o with
  | .tmp i=>cond (Nat.blt i n) (Option.rec (motive:=fun _=>AVal) skipped (fun v=>v) (t.get i)) .undef
  | .const v=>ofConst v
  | .global _=> .undef
  | .func f=> .func (.func f) [] []
theorem agetT_eq(n:Nat)(t:Trie AVal):agetT n t=agetOp (toL n t):=by
  funext o
  cases o with
  | tmp i =>
    have:=tget_eq n t i
    simp only [agetOp,List.getD_eq_getElem?_getD,← this]
    unfold tget
    show cond (Nat.blt i n) (Option.rec (motive:=fun _=>AVal) skipped (fun v=>v) (t.get i)) .undef=_
    cases Nat.blt i n<;>rfl
  | const v=>rfl
  | global g=>rfl
  | func f=>rfl
theorem toL_set(n:Nat)(t:Trie AVal)(d:Nat)(v:AVal):toL n (t.set d v)=(toL n t).set d v:=by
  apply List.ext_getElem?
  intro i
  rw [toL_get,List.getElem?_set,toL_get]
  by_cases h:i<n
  · simp only [h,if_true,Trie.get_set]
    by_cases hd:d=i
    · subst hd;simp [toL,h]
    · simp [hd]
  · simp only [h,if_false]
    by_cases hd:d=i
    · subst hd;simp [toL,h]
    · simp [hd]
section
variable {α:Type}
def fSing (f:Nat):Nat→α→(Trie α→β)→β :=
  Nat.rec (motive:=fun _=>Nat→α→(Trie α→β)→β) (fun _ v c=>c (.node (some v) .nil .nil))
    (fun _ ih k v c=>cond (Nat.beq k 0) (c (.node (some v) .nil .nil)) (cond (Nat.beq (Nat.mod k 2) 1) (ih (Nat.div k 2) v fun u=>c (.node none u .nil)) (ih (Nat.sub (Nat.div k 2) 1) v fun u=>c (.node none .nil u)))) f
theorem fSing_eq: ∀ (f k:Nat) (v:α) (c:Trie α→β),fSing f k v c=c (Trie.sing f k v)
  | 0,k,v,c=>rfl
  | f +1,k,v,c=>by
    show cond (Nat.beq k 0) (c (.node (some v) .nil .nil)) (cond (Nat.beq (k % 2) 1) (fSing f (k / 2) v fun u=>c (.node none u .nil)) (fSing f (k / 2-1) v fun u=>c (.node none .nil u))) =
      c (cond (Nat.beq k 0) (.node (some v) .nil .nil) (cond (Nat.beq (k % 2) 1) (.node none (Trie.sing f (k / 2) v) .nil) (.node none .nil (Trie.sing f (k / 2-1) v))))
    rw [fSing_eq f,fSing_eq f]
    cases Nat.beq k 0<;>cases Nat.beq (k % 2) 1<;>rfl
def fSetT (t:Trie α):Nat→α→(Trie α→β)→β :=
  Trie.rec (motive:=fun _=>Nat→α→(Trie α→β)→β) (fun k v c=>fSing k k v c)
    (fun o l r sl sr k v c=>cond (Nat.beq k 0) (c (.node (some v) l r)) (cond (Nat.beq (Nat.mod k 2) 1) (sl (Nat.div k 2) v fun u=>c (.node o u r)) (sr (Nat.sub (Nat.div k 2) 1) v fun u=>c (.node o l u)))) t
theorem fSetT_eq: ∀ (t:Trie α) (k:Nat) (v:α) (c:Trie α→β),fSetT t k v c=c (t.set k v)
  | .nil,k,v,c=>fSing_eq k k v c
  | .node o l r,k,v,c=>by
    show cond (Nat.beq k 0) (c (.node (some v) l r)) (cond (Nat.beq (k % 2) 1) (fSetT l (k / 2) v fun u=>c (.node o u r)) (fSetT r (k / 2-1) v fun u=>c (.node o l u))) =
      c (cond (Nat.beq k 0) (.node (some v) l r) (cond (Nat.beq (k % 2) 1) (.node o (l.set (k / 2) v) r) (.node o l (r.set (k / 2-1) v))))
    rw [fSetT_eq l,fSetT_eq r]
    cases Nat.beq k 0<;>cases Nat.beq (k % 2) 1<;>rfl
def fAt (f:α→(α→β)→β) (t:Trie α):Nat→(Trie α→β)→β :=
  Trie.rec (motive:=fun _=>Nat→(Trie α→β)→β) (fun _ c=>c .nil)
    (fun o l r fl fr k c=>cond (Nat.beq k 0) (Option.rec (motive:=fun _=>β) (c (.node none l r)) (fun b=>f b fun b=>c (.node (some b) l r)) o) (cond (Nat.beq (Nat.mod k 2) 1) (fl (Nat.div k 2) fun u=>c (.node o u r)) (fr (Nat.sub (Nat.div k 2) 1) fun u=>c (.node o l u)))) t
theorem fAt_eq {f:α→(α→β)→β}(hf: ∀ a k,f a k=k a): ∀ (t:Trie α) (k:Nat) (c:Trie α→β),fAt f t k c=c t
  | .nil,k,c=>rfl
  | .node o l r,k,c=>by
    show cond (Nat.beq k 0) (Option.rec (motive:=fun _=>β) (c (.node none l r)) (fun b=>f b fun b=>c (.node (some b) l r)) o) (cond (Nat.beq (k % 2) 1) (fAt f l (k / 2) fun u=>c (.node o u r)) (fAt f r (k / 2-1) fun u=>c (.node o l u)))=_
    rw [fAt_eq hf l,fAt_eq hf r]
    cases o<;>cases Nat.beq k 0<;>cases Nat.beq (k % 2) 1<;>simp [hf]
end
def fPut(s:Trie AVal)(d:Option Tmp)(v:AVal)(k:Trie AVal→β):β:=Option.rec (motive:=fun _=>β) (k s) (fun d=>fSetT s d v k) d
theorem fPut_eq(n:Nat)(s:Trie AVal)(d:Option Tmp)(v:AVal)(k:Trie AVal→β):fPut s d v k=k (Option.rec (motive:=fun _=>Trie AVal) s (fun d=>s.set d v) d):=by cases d<;>simp [fPut,fSetT_eq]
theorem toL_put(n:Nat)(s:Trie AVal)(d:Option Tmp)(v:AVal):toL n (Option.rec (motive:=fun _=>Trie AVal) s (fun d=>s.set d v) d)=aput (toL n s) d v:=by cases d<;>simp [aput,toL_set]
def fHeapTo(id:Nat)(h:AHeap)(k:AHeap→β):β :=
  match h with
  | ⟨n,l⟩=>fAt fBlk l id fun l=>k ⟨n,l⟩
theorem fHeapTo_eq(id:Nat)(h:AHeap)(k:AHeap→β):fHeapTo id h k=k h:=by cases h;simp [fHeapTo,fAt_eq fBlk_eq]
def fHeap(h:AHeap)(k:AHeap→β):β :=
  match h with
  | ⟨n,l⟩=>fNat n fun n=>k ⟨n,l⟩
theorem fHeap_eq(h:AHeap)(k:AHeap→β):fHeap h k=k h:=by cases h;simp [fHeap,fNat_eq]
inductive Turns where
  | no | at (id:Nat) | all
def fTurn(t:Turns)(h:AHeap)(k:AHeap→β):β :=
  match t with
  | .no=>k h
  | .at id=>fHeapTo id h k
  | .all=>fHeap h k
theorem fTurn_eq(t:Turns)(h:AHeap)(k:AHeap→β):fTurn t h k=k h:=by cases t<;>simp [fTurn,fHeapTo_eq,fHeap_eq]
def fW(v:AVal)(k:AVal→β):β :=
  match v with
  | .undef=>k .undef
  | .bool b=>k (.bool b)
  | .int d n=>k (.int d n)
  | .str s=>k (.str s)
  | .ptr a=>k (.ptr a)
  | .slice a n c=>k (.slice a n c)
  | .nilFunc=>k .nilFunc
  | .nilIface=>k .nilIface
  | .func a b c=>k (.func a b c)
  | .iface t v=>k (.iface t v)
  | .agg l=>k (.agg l)
  | .tuple l=>k (.tuple l)
theorem fW_eq(v:AVal)(k:AVal→β):fW v k=k v:=by cases v<;>rfl
def shallow(o:Op):Bool :=
  match o with
  | .move (.tmp _) | .assign (.tmp _) | .pick _ (.tmp _) (.tmp _) | .extract _ _ | .load _ _=>true
  | .call c=>match c.callee with | .value _=>true | _=>false
  | _=>false
def fRes(o:Op)(v:AVal)(k:AVal→β):β:=cond (shallow o) (fW v k) (fV v k)
theorem fRes_eq(o:Op)(v:AVal)(k:AVal→β):fRes o v k=k v:=by unfold fRes;cases shallow o<;>simp [fW_eq,fV_eq]
end
def turnsOf (nid:Nat) (ρ:Operand→AVal) (o:Op) (v:AVal):Turns :=
  match o with
  | .alloc _ | .box _ _ | .buildSlice _ _ _ | .makeSlice _ _ _=> .at nid
  | .store _ a _=>match ρ a with | .ptr (some a)=> .at a.id | _=> .no
  | .call c =>
    match c.callee with
    | .value _=> .all
    | .builtin .append=>match v with | .slice (some a) _ _=> .at a.id | _=> .no
    | _=> .no
  | _=> .no
section
variable {E:AEnv}
def wantedT (ops:Array Oper) (n:Nat) (s:Trie AVal) (o:Oper):Option Bool :=
  match o.guard with
  | none=>some true
  | some (j,want) =>
    match (ops[j]?).bind (·.dst)with
    | some d =>
      match tget n s d with
      | some (.bool b)=>some (b == want)
      | some (.tuple [])=>some false
      | _=>none
    | none=>none
theorem wantedT_eq(ops:Array Oper)(n:Nat)(s:Trie AVal)(o:Oper):wantedT ops n s o=awanted ops (toL n s) o:=by
  unfold wantedT awanted
  simp only [tget_eq]
  rfl
structure FSt where
  slots:Trie AVal
  heap:AHeap
def FSt.to(n:Nat)(s:FSt):ASt:=⟨toL n s.slots,s.heap⟩
def frun (E:AEnv) (call:ACall) (ops:Array Oper) (draw:Bool) (n n0:Nat) (l:List Oper):Nat→Trie AVal→AHeap→Option FSt :=
  List.rec (motive:=fun _=>Nat→Trie AVal→AHeap→Option FSt) (fun _ s h=>some ⟨s,h⟩)
    (fun o _ ih i s h =>
      match wantedT ops n s o with
      | some true =>
        match (cond draw (dop E call ops n0 i (agetT n s) h o.op) (aop E call (Nat.add n0 i) (agetT n s) h o.op))with
        | some (v,h')=>fRes o.op v fun v=>fTurn (turnsOf (Nat.add n0 i) (agetT n s) o.op v) h' fun h'=>fPut s o.dst v fun s'=>ih (Nat.succ i) s' h'
        | none=>none
      | some false=>fPut s o.dst skipped fun s'=>ih (Nat.succ i) s' h
      | none=>none) l
theorem frun_cons (call:ACall) (ops:Array Oper) (draw:Bool) (n n0 i:Nat) (s:Trie AVal) (h:AHeap) (o:Oper) (r:List Oper):frun E call ops draw n n0 (o::r) i s h =
      match wantedT ops n s o with
      | some true =>
        match (cond draw (dop E call ops n0 i (agetT n s) h o.op) (aop E call (n0+i) (agetT n s) h o.op))with
        | some (v,h')=>frun E call ops draw n n0 r (i+1) (Option.rec (motive:=fun _=>Trie AVal) s (fun d=>s.set d v) o.dst) h'
        | none=>none
      | some false=>frun E call ops draw n n0 r (i+1) (Option.rec (motive:=fun _=>Trie AVal) s (fun d=>s.set d skipped) o.dst) h
      | none=>none:=by
  show (match wantedT ops n s o with
      | some true =>
        match (cond draw (dop E call ops n0 i (agetT n s) h o.op) (aop E call (n0+i) (agetT n s) h o.op))with
        | some (v,h')=>fRes o.op v fun v=>fTurn (turnsOf (n0+i) (agetT n s) o.op v) h' fun h'=>fPut s o.dst v fun s'=>frun E call ops draw n n0 r (i+1) s' h'
        | none=>none
      | some false=>fPut s o.dst skipped fun s'=>frun E call ops draw n n0 r (i+1) s' h
      | none=>none)=_
  simp only [fRes_eq,fTurn_eq,fPut_eq n]
theorem frun_arun {call:ACall} {ops:Array Oper} {n n0:Nat} : ∀ (l:List Oper) (i:Nat) (s:Trie AVal) (h:AHeap),(∀ j,l[j]? =ops[i+j]?) →
    (frun E call ops false n n0 l i s h).map (FSt.to n)=arun E call ops n0 (List.range' i l.length) ⟨toL n s,h⟩
  | [],i,s,h,_=>rfl
  | o ::r,i,s,h,hl=>by
    have ho:ops[i]? =some o:=by have:=hl 0;simpa using this.symm
    have hr: ∀ j,r[j]? =ops[i+1+j]? :=fun j=>by have:=hl (j+1);simp at this;rw [this];congr 1;omega
    rw [frun_cons]
    simp only [List.length_cons,List.range'_succ,arun,astep,ho,wantedT_eq,agetT_eq,cond_false]
    cases hw:awanted ops (toL n s) o with
    | none=>rfl
    | some b =>
      cases b with
      | true =>
        simp only
        cases ha:aop E call (n0+i) (agetOp (toL n s)) h o.op with
        | none=>rfl
        | some p =>
          obtain⟨v,h'⟩:=p
          simp only
          rw [frun_arun r (i+1) _ _ hr,toL_put]
      | false =>
        simp only
        rw [frun_arun r (i+1) _ _ hr,toL_put]
theorem frun_drun {call:ACall} {ops:Array Oper} {n n0:Nat} : ∀ (l:List Oper) (i:Nat) (s:Trie AVal) (h:AHeap),(∀ j,l[j]? =ops[i+j]?) →
    (frun E call ops true n n0 l i s h).map (FSt.to n)=drun E call ops n0 (List.range' i l.length) ⟨toL n s,h⟩
  | [],i,s,h,_=>rfl
  | o ::r,i,s,h,hl=>by
    have ho:ops[i]? =some o:=by have:=hl 0;simpa using this.symm
    have hr: ∀ j,r[j]? =ops[i+1+j]? :=fun j=>by have:=hl (j+1);simp at this;rw [this];congr 1;omega
    rw [frun_cons]
    simp only [List.length_cons,List.range'_succ,drun,dstep,ho,wantedT_eq,agetT_eq,cond_true]
    cases hw:awanted ops (toL n s) o with
    | none=>rfl
    | some b =>
      cases b with
      | true =>
        simp only
        cases ha:dop E call ops n0 i (agetOp (toL n s)) h o.op with
        | none=>rfl
        | some p =>
          obtain⟨v,h'⟩:=p
          simp only
          rw [frun_drun r (i+1) _ _ hr,toL_put]
      | false =>
        simp only
        rw [frun_drun r (i+1) _ _ hr,toL_put]
def fregion(E:AEnv)(call:ACall)(ops:Array Oper)(draw:Bool)(n:Nat)(s:FSt):Option FSt :=
  match s with
  | ⟨s,⟨n0,l⟩⟩=>cond (!draw || drawOk ops) (fNat (Nat.add n0 ops.size) fun m=>frun E call ops draw n n0 ops.toList 0 s ⟨m,l⟩) none
theorem fregion_eq(call:ACall)(ops:Array Oper)(draw:Bool)(n:Nat)(s:FSt):(fregion E call ops draw n s).map (FSt.to n)=aregion E call ops draw (s.to n):=by
  obtain⟨s,n0,l⟩:=s
  have hl: ∀ j:Nat,ops.toList[j]? =ops[0+j]? :=fun j=>by simp
  have hr:List.range ops.size=List.range' 0 ops.toList.length:=by rw [List.range_eq_range',Array.length_toList]
  unfold fregion aregion
  cases draw with
  | false=>simp only [Bool.not_false,Bool.true_or,cond_true,fNat_eq,Bool.false_eq_true,if_false,frun_arun _ _ _ _ hl,hr,FSt.to,Nat.add_eq]
  | true =>
    cases hd:drawOk ops with
    | false=>simp
    | true=>simp only [Bool.not_true,Bool.false_or,hd,cond_true,if_true,fNat_eq,frun_drun _ _ _ _ hl,hr,FSt.to,Nat.add_eq]
def fexec (E:AEnv) (call:ACall) (n:Nat) (fuel:Nat):Option Code→Code→FSt→Option (AExit×FSt) :=
  Nat.rec (motive:=fun _=>Option Code→Code→FSt→Option (AExit×FSt)) (fun _ _ _=>none)
  (fun m ih b c s =>
  match b with
  | some body =>
    match ih none c s with
    | some (.goto l,s') =>
      match findLabel body l with
      | some rest=>ih (some body) rest s'
      | none=>some (.goto l,s')
    | r=>r
  | none =>
    match c with
    | .skip=>some (.normal,s)
    | .label _=>some (.normal,s)
    | .region _ ops draw =>
      match fregion E call ops draw n s with
      | some s'=>some (.normal,s')
      | none=>none
    | .seq a b =>
      match ih none a s with
      | some (.normal,s')=>ih none b s'
      | r=>r
    | .cond x a b =>
      match agetT n s.slots x with
      | .bool true=>ih none a s
      | .bool false=>ih none b s
      | _=>none
    | .block id c =>
      match ih none c s with
      | some (.exit j,s')=>some (if j=id then .normal else .exit j,s')
      | r=>r
    | .loop c =>
      match ih none c s with
      | some (.normal,s')=>ih none (.loop c) s'
      | r=>r
    | .scope c=>ih (some c) c s
    | .goto l=>some (.goto l,s)
    | .exit id=>some (.exit id,s)
    | .ret=>some (.ret,s)
    | _=>none) fuel
def toP(n:Nat)(p:AExit×FSt):AExit×ASt:=(p.1,p.2.to n)
theorem fexec_eq (call:ACall) (k:Nat): ∀ (n:Nat) (b:Option Code) (c:Code) (s:FSt),(fexec E call k n b c s).map (toP k)=aexec E call n b c (s.to k):=by
  intro n
  induction n with
  | zero=>intro b c s;rfl
  | succ n ih =>
    intro b c s
    cases b with
    | some body =>
      show Option.map (toP k) (match fexec E call k n none c s with
        | some (.goto l,s') =>
          match findLabel body l with
          | some rest=>fexec E call k n (some body) rest s'
          | none=>some (.goto l,s')
        | r=>r)=_
      simp only [aexec,← ih]
      cases hx:fexec E call k n none c s with
      | none=>rfl
      | some p =>
        obtain⟨e,s'⟩:=p
        cases e with
        | goto l =>
          simp only [Option.map_some,toP]
          cases hf:findLabel body l with
          | none=>rfl
          | some rest=>simp only [hf];exact ih (some body) rest s'
        | _=>rfl
    | none =>
      cases c
      case region id ops draw =>
        show Option.map (toP k) (match fregion E call ops draw k s with
          | some s'=>some (.normal,s')
          | none=>none)=_
        simp only [aexec,← fregion_eq]
        cases fregion E call ops draw k s<;>rfl
      case seq a b =>
        show Option.map (toP k) (match fexec E call k n none a s with
          | some (.normal,s')=>fexec E call k n none b s'
          | r=>r)=_
        simp only [aexec,← ih]
        cases hx:fexec E call k n none a s with
        | none=>rfl
        | some p=>obtain⟨e,s'⟩:=p;cases e<;>first | exact ih none b s' | rfl
      case cond x a b =>
        show Option.map (toP k) (match agetT k s.slots x with
          | .bool true=>fexec E call k n none a s
          | .bool false=>fexec E call k n none b s
          | _=>none)=_
        simp only [aexec,← ih,agetT_eq]
        have he:agetOp (s.to k).slots x=agetOp (toL k s.slots) x:=rfl
        rw [he]
        cases agetOp (toL k s.slots) x with
        | bool t=>cases t<;>rfl
        | _=>rfl
      case block id c =>
        show Option.map (toP k) (match fexec E call k n none c s with
          | some (.exit j,s')=>some (if j=id then .normal else .exit j,s')
          | r=>r)=_
        simp only [aexec,← ih]
        cases hx:fexec E call k n none c s with
        | none=>rfl
        | some p=>obtain⟨e,s'⟩:=p;cases e<;>rfl
      case loop c =>
        show Option.map (toP k) (match fexec E call k n none c s with
          | some (.normal,s')=>fexec E call k n none (.loop c) s'
          | r=>r)=_
        simp only [aexec,← ih]
        cases hx:fexec E call k n none c s with
        | none=>rfl
        | some p=>obtain⟨e,s'⟩:=p;cases e<;>first | exact ih none (.loop c) s' | rfl
      case scope c=>exact ih (some c) c s
      all_goals rfl
def fArgs:List AVal→Nat→Trie AVal→(Trie AVal→Option (AVal×AHeap))→Option (AVal×AHeap)
  | [],_,t,k=>k t
  | v::r,i,t,k=>fV v fun v=>fSetT t i v fun t=>fArgs r (Nat.succ i) t k
theorem fArgs_eq: ∀ (l:List AVal) (i:Nat) (t:Trie AVal) (k:Trie AVal→Option (AVal×AHeap)),
    ∃ t',fArgs l i t k=k t'∧ ∀ j,t'.get j=if j<i then t.get j else if h:j-i<l.length then some l[j-i]else t.get j
  | [],i,t,k=>⟨t,rfl,fun j=>by simp⟩
  | v ::r,i,t,k=>by
    obtain⟨t',h1,h2⟩:=fArgs_eq r (i+1) (t.set i v) k
    refine⟨t',by simp only [fArgs,fV_eq,fSetT_eq];exact h1,fun j=> ?_⟩
    rw [h2 j,Trie.get_set]
    by_cases hj:j<i
    · rw [if_pos (by omega),if_neg (by omega),if_pos hj]
    · rw [if_neg hj]
      by_cases he:i=j
      · subst he;rw [if_pos (by omega),if_pos rfl];simp
      · rw [if_neg (by omega),if_neg he]
        by_cases hl:j- (i+1)<r.length
        · rw [dif_pos hl,dif_pos (by simp;omega)]
          obtain⟨m,hm⟩: ∃ m,j-i=m+1:=⟨j-i-1,by omega⟩
          have hm':j- (i+1)=m:=by omega
          simp only [hm,hm',List.getElem_cons_succ]
        · rw [dif_neg hl,dif_neg (by simp;omega)]
theorem fArgs_toL {l:List AVal}{m:Nat}{t:Trie AVal}(h: ∀ j,t.get j=if j<0 then(Trie.nil:Trie AVal).get j else if h:j-0<l.length then some l[j-0]else(Trie.nil:Trie AVal).get j) :
    toL (l.length+(m-l.length)) t=l++List.replicate (m-l.length) skipped:=by
  apply List.ext_getElem?
  intro i
  rw [toL_get,h i,if_neg (Nat.not_lt_zero i)]
  simp only [Nat.sub_zero,Trie.get_nil]
  by_cases hi:i<l.length
  · rw [if_pos (by omega),dif_pos hi,List.getElem?_append_left hi,List.getElem?_eq_getElem hi];rfl
  · rw [dif_neg hi,List.getElem?_append_right (by omega),List.getElem?_replicate]
    by_cases hn:i<l.length+(m-l.length)
    · rw [if_pos hn,if_pos (by omega)];rfl
    · rw [if_neg hn,if_neg (by omega)]
def fresults (D:Tys) (n:Nat) (rs:List ResultVar) (s:FSt):Option (List AVal) :=
  match rs with
  | []=>some []
  | .tmp t::r=>(fresults D n r s).map fun l=>agetT n s.slots (.tmp t)::l
  | .cell a t::r =>
    match agetT n s.slots (.tmp a)with
    | .ptr (some p) =>
      match aload D t p s.heap,fresults D n r s with
      | some v,some l=>some (v::l)
      | _,_=>none
    | _=>none
theorem fresults_eq(D:Tys)(n:Nat)(s:FSt): ∀ (rs:List ResultVar),fresults D n rs s=aresults D rs (s.to n)
  | []=>rfl
  | .tmp t::r=>by simp only [fresults,aresults,fresults_eq D n s r,agetT_eq];rfl
  | .cell a t::r=>by simp only [fresults,aresults,fresults_eq D n s r,agetT_eq];rfl
def fOut(r:Option (AVal×AHeap)):Option (AVal×AHeap) :=
  match r with
  | some (v,⟨n,l⟩)=>fNat n fun n=>fV v fun v=>some (v,⟨n,l⟩)
  | none=>none
theorem fOut_eq(r:Option (AVal×AHeap)):fOut r=r:=by
  cases r with
  | none=>rfl
  | some p=>obtain⟨v,n,l⟩:=p;simp [fOut,fNat_eq,fV_eq]
def fcall (P:Program) (E:AEnv) (fuel:Nat):ACall :=
  Nat.rec (motive:=fun _=>ACall) (fun _ _ _=>none)
  (fun n ih f args h =>
    match E.prim f with
    | some g=>g args h
    | none =>
    match P.funcs[f]? with
    | some fn =>
      match fn.body with
      | some c =>
        fNat (args.length+(fn.ntmps-args.length)) fun k=>fArgs args 0 .nil fun sl =>
        match fexec E ih k n none c ⟨sl,h⟩with
        | some (.exit _,_)=>none
        | some (.goto _,_)=>none
        | some (_,s) =>
          match fresults E.D k fn.results.toList s with
          | some l=>fOut (some (aresult l,s.heap))
          | none=>none
        | none=>none
      | none=>none
    | none=>none) fuel
theorem fcall_eq (P:Program) (E:AEnv): ∀ (n:Nat),fcall P E n=acall P E n:=by
  intro n
  induction n with
  | zero=>rfl
  | succ n ih =>
    funext f args h
    show(match E.prim f with
    | some g=>g args h
    | none =>
    match P.funcs[f]? with
    | some fn =>
      match fn.body with
      | some c =>
        fNat (args.length+(fn.ntmps-args.length)) fun k=>fArgs args 0 .nil fun sl =>
        match fexec E (fcall P E n) k n none c ⟨sl,h⟩with
        | some (.exit _,_)=>none
        | some (.goto _,_)=>none
        | some (_,s) =>
          match fresults E.D k fn.results.toList s with
          | some l=>fOut (some (aresult l,s.heap))
          | none=>none
        | none=>none
      | none=>none
    | none=>none)=_
    simp only [acall,ih,fNat_eq,fOut_eq]
    cases E.prim f with
    | some g=>rfl
    | none =>
    simp only
    cases hf:P.funcs[f]? with
    | none=>rfl
    | some fn =>
      simp only
      cases fn.body with
      | none=>rfl
      | some c =>
        simp only
        obtain⟨t,h1,h2⟩:=fArgs_eq args 0 .nil fun sl =>
          match fexec E (acall P E n) (args.length+(fn.ntmps-args.length)) n none c ⟨sl,h⟩with
          | some (.exit _,_)=>none
          | some (.goto _,_)=>none
          | some (_,s) =>
            match fresults E.D (args.length+(fn.ntmps-args.length)) fn.results.toList s with
            | some l=>some (aresult l,s.heap)
            | none=>none
          | none=>none
        rw [h1]
        have hs:(FSt.mk t h).to (args.length+(fn.ntmps-args.length))=⟨args++List.replicate (fn.ntmps-args.length) skipped,h⟩:=by
          simp only [FSt.to,fArgs_toL h2]
        have hx:=fexec_eq (E:=E) (acall P E n) (args.length+(fn.ntmps-args.length)) n none c ⟨t,h⟩
        rw [hs]at hx
        rw [← hx]
        cases hy:fexec E (acall P E n) (args.length+(fn.ntmps-args.length)) n none c ⟨t,h⟩with
        | none=>rfl
        | some p =>
          obtain⟨e,s⟩:=p
          simp only [Option.map_some,toP]
          cases e with
          | exit id=>rfl
          | goto l=>rfl
          | normal=>simp only [fresults_eq];cases aresults E.D fn.results.toList (s.to (args.length+(fn.ntmps-args.length)))<;>rfl
          | ret=>simp only [fresults_eq];cases aresults E.D fn.results.toList (s.to (args.length+(fn.ntmps-args.length)))<;>rfl
theorem fcall_true {P:Program}{E:AEnv}{n:Nat}{f:FuncId}{args:List AVal}{h:AHeap}(k:saysTrue (fcall P E n f args h)=true): ∃ h',acall P E n f args h=some (.bool true,h'):=by
  rw [fcall_eq]at k;exact saysTrue_spec k
end
end
end Go.Lift
namespace Go.Proofs.Ytgfkllnaeekjeaa
open Go.Lift
set_option maxRecDepth 1000000
theorem works_run:saysTrue (fcall Try.prog env 300 21 [] ⟨0,.nil⟩)=true:=by decide+kernel
theorem works_does(H:AHeap):FDoes Try.prog 21 [] H (.bool true) H:=by
  obtain⟨h',hc⟩:=fcall_true works_run
  exact(FDoes.of_acall env_ok mixed hc).bare (by simp) (Bare.bool _) H
end Go.Proofs.Ytgfkllnaeekjeaa
namespace Go.Proofs.Ytgfkllnaeekjeaa
open Go.Lift
set_option maxRecDepth 1000000
def szLen(n:Nat):Nat:=if n=0∨4096<n then 0 else n
end Go.Proofs.Ytgfkllnaeekjeaa
namespace Go.Proofs.Ytgfkllnaeekjeaa
open Go.Lift
set_option maxRecDepth 1000000
theorem items_of {W:World}{x:Addr}{len:Nat}{b:ABlk}(hx: ∀ i,i<len→b.elem? 0 (0+i)=some (elemAt W x true 5 i))(he: ∀ i j,i<len→j<5→ ∃ k,itKinds[j]? =some k∧CellIs k (cellAt W x (i*5+j))) :
    ∃ src:Nat→It,(∀ i,i<len→b.elem? 0 (0+i)=some (src i).val)∧ ∀ i,i<len→(src i).Fits:=by
  have h: ∀ i,∃ t:It,i<len→elemAt W x true 5 i=t.val∧t.Fits:=by
    intro i
    by_cases c:i<len
    · obtain⟨t,h1,h2⟩:=it_cells (fun j=>cellAt W x (i*5+j)) (fun j hj=>he i j c hj)
      refine⟨t,fun _=>⟨?_,h2⟩⟩
      show AVal.agg _=AVal.agg _
      rw [h1]
    · exact⟨It0,fun h=>absurd h c⟩
  refine⟨fun i=>Classical.choose (h i),fun i hi=> ?_,fun i hi=>(Classical.choose_spec (h i) hi).2⟩
  rw [hx i hi,(Classical.choose_spec (h i) hi).1]
end Go.Proofs.Ytgfkllnaeekjeaa
namespace Go.Proofs.Ytgfkllnaeekjeaa
open Go.Lift
set_option maxRecDepth 1000000
section
variable(x k n d mn mx:Int)
include x k n d mn mx
theorem rinto_lo(hc_0:x<mn) :
    FDoes Try.prog 52 [zqI x,zqA k n d mn mx] (⟨0,.nil⟩) (zqI mn) (AHeap.rows 9 [(0,.made [zqA k n d mn mx] 5 true)]) :=
  pcall_does env_ok mixed (hs:= [.val 1003 (.bool true)]) (rs:= []) (by kernel_rfl) (All.cons (okT hc_0) (All.nil))
theorem rinto_hi(hc_0: ¬ (x<mn))(hc_1:mx>0)(hc_2:x>mx) :
    FDoes Try.prog 52 [zqI x,zqA k n d mn mx] (⟨0,.nil⟩) (zqI mx) (AHeap.rows 18 [(0,.made [zqA k n d mn mx] 5 true)]) :=
  pcall_does env_ok mixed (hs:= [.val 1003 (.bool false),.val 3002 (.bool true),.val 3007 (.bool true)]) (rs:= []) (by kernel_rfl) (All.cons (okF hc_0) (All.cons (okT hc_1) (All.cons (okT hc_2) (All.nil))))
theorem rinto_in1(hc_0: ¬ (x<mn))(hc_1:mx>0)(hc_2: ¬ (x>mx)) :
    FDoes Try.prog 52 [zqI x,zqA k n d mn mx] (⟨0,.nil⟩) (zqI x) (AHeap.rows 17 [(0,.made [zqA k n d mn mx] 5 true)]) :=
  pcall_does env_ok mixed (hs:= [.val 1003 (.bool false),.val 3002 (.bool true),.val 3007 (.bool false)]) (rs:= []) (by kernel_rfl) (All.cons (okF hc_0) (All.cons (okT hc_1) (All.cons (okF hc_2) (All.nil))))
theorem rinto_in2(hc_0: ¬ (x<mn))(hc_1: ¬ (mx>0)) :
    FDoes Try.prog 52 [zqI x,zqA k n d mn mx] (⟨0,.nil⟩) (zqI x) (AHeap.rows 17 [(0,.made [zqA k n d mn mx] 5 true)]) :=
  pcall_does env_ok mixed (hs:= [.val 1003 (.bool false),.val 3002 (.bool false)]) (rs:= []) (by kernel_rfl) (All.cons (okF hc_0) (All.cons (okF hc_1) (All.nil)))
end
section
variable(k n d mn mx room w:Int)
include k n d mn mx room w
theorem rwants_P(hc_0:k=2)(hc_1:zqF (n*room))(hc_2:d≠0∧zqF (Int.tdiv (n*room) d))(hc_3:FDoes Try.prog 52 [zqI (Int.tdiv (n*room) d),zqA k n d mn mx] (AHeap.rows 16 [(0,.made [zqA k n d mn mx] 5 true)]) (zqI w) (AHeap.rows 16 [(0,.made [zqA k n d mn mx] 5 true)])) :
    FDoes Try.prog 34 [zqA k n d mn mx,zqI room] (⟨0,.nil⟩) (zqI w) (AHeap.rows 16 [(0,.made [zqA k n d mn mx] 5 true)]) :=
  pcall_does env_ok mixed (hs:= [.val 2000 (.bool true),.go 3003,.go 3006,.val 3008 (zqI w)]) (rs:= []) (by kernel_rfl) (All.cons (eqT hc_0) (All.cons hc_1 (All.cons hc_2 (All.cons (CallT.mk hc_3) (All.nil)))))
theorem rwants_F(hc_0: ¬ (k=2))(hc_1:k=3) :
    FDoes Try.prog 34 [zqA k n d mn mx,zqI room] (⟨0,.nil⟩) (zqI mn) (AHeap.rows 11 [(0,.made [zqA k n d mn mx] 5 true)]) :=
  pcall_does env_ok mixed (hs:= [.val 2000 (.bool false),.val 4000 (.bool true)]) (rs:= []) (by kernel_rfl) (All.cons (eqF hc_0) (All.cons (eqT hc_1) (All.nil)))
theorem rwants_O(hc_0: ¬ (k=2))(hc_1: ¬ (k=3))(hc_2:FDoes Try.prog 52 [zqI n,zqA k n d mn mx] (AHeap.rows 13 [(0,.made [zqA k n d mn mx] 5 true)]) (zqI w) (AHeap.rows 13 [(0,.made [zqA k n d mn mx] 5 true)])) :
    FDoes Try.prog 34 [zqA k n d mn mx,zqI room] (⟨0,.nil⟩) (zqI w) (AHeap.rows 13 [(0,.made [zqA k n d mn mx] 5 true)]) :=
  pcall_does env_ok mixed (hs:= [.val 2000 (.bool false),.val 4000 (.bool false),.val 6003 (zqI w)]) (rs:= []) (by kernel_rfl) (All.cons (eqF hc_0) (All.cons (eqF hc_1) (All.cons (CallT.mk hc_2) (All.nil))))
end
section
variable(k n d mn mx p q:Int)(hc_0:zqF (p*n))(hc_1:zqF (mn*q))
include k n d mn mx p q hc_0 hc_1
theorem rat_lo(hc_2:p*n<mn*q)(hc_3:zqF (mn*q)) :
    FDoes Try.prog 59 [zqA k n d mn mx,zqI p,zqI q] (⟨0,.nil⟩) (zqI (mn*q)) (AHeap.rows 18 [(0,.made [zqA k n d mn mx] 5 true)]) :=
  pcall_does env_ok mixed (hs:= [.go 1003,.go 2004,.val 2005 (.bool true),.go 3003]) (rs:= []) (by kernel_rfl) (All.cons hc_0 (All.cons hc_1 (All.cons (okT hc_2) (All.cons hc_3 (All.nil)))))
section
variable(hc_2: ¬ (p*n<mn*q))(hc_3:mx>0)(hc_4:zqF (mx*q))
include hc_2 hc_3 hc_4
theorem rat_hi(hc_5:p*n>mx*q)(hc_6:zqF (mx*q)) :
    FDoes Try.prog 59 [zqA k n d mn mx,zqI p,zqI q] (⟨0,.nil⟩) (zqI (mx*q)) (AHeap.rows 29 [(0,.made [zqA k n d mn mx] 5 true)]) :=
  pcall_does env_ok mixed (hs:= [.go 1003,.go 2004,.val 2005 (.bool false),.val 4002 (.bool true),.go 4008,.val 4009 (.bool true),.go 5003]) (rs:= []) (by kernel_rfl) (All.cons hc_0 (All.cons hc_1 (All.cons (okF hc_2) (All.cons (okT hc_3) (All.cons hc_4 (All.cons (okT hc_5) (All.cons hc_6 (All.nil))))))))
theorem rat_in1(hc_5: ¬ (p*n>mx*q)) :
    FDoes Try.prog 59 [zqA k n d mn mx,zqI p,zqI q] (⟨0,.nil⟩) (zqI (p*n)) (AHeap.rows 26 [(0,.made [zqA k n d mn mx] 5 true)]) :=
  pcall_does env_ok mixed (hs:= [.go 1003,.go 2004,.val 2005 (.bool false),.val 4002 (.bool true),.go 4008,.val 4009 (.bool false)]) (rs:= []) (by kernel_rfl) (All.cons hc_0 (All.cons hc_1 (All.cons (okF hc_2) (All.cons (okT hc_3) (All.cons hc_4 (All.cons (okF hc_5) (All.nil)))))))
end
theorem rat_in2(hc_2: ¬ (p*n<mn*q))(hc_3: ¬ (mx>0)) :
    FDoes Try.prog 59 [zqA k n d mn mx,zqI p,zqI q] (⟨0,.nil⟩) (zqI (p*n)) (AHeap.rows 26 [(0,.made [zqA k n d mn mx] 5 true)]) :=
  pcall_does env_ok mixed (hs:= [.go 1003,.go 2004,.val 2005 (.bool false),.val 4002 (.bool false)]) (rs:= []) (by kernel_rfl) (All.cons hc_0 (All.cons hc_1 (All.cons (okF hc_2) (All.cons (okF hc_3) (All.nil)))))
end
section
variable(o:Option AAddr)
include o
theorem rtot_step(N c ver off i:Nat)(b:ABlk)(x acc:Int)(hc_0:(i:Int)<(N:Int))(hc_1:aindexAddr env.D 27 (.slice o N c) (zqI (i:Int))=some (.ptr (some ⟨0,ver,off+i,0,1⟩)))(hc_2:ABlk.elem? b ver (off+i)=some (zqI x))(hc_3:zqF (acc+x))(hc_4:zqF ((i:Int)+1)) :
    Runs Try.prog 1 18 (loopAt Try.prog 35 0) [(0,.slice o N c),(3,zqI acc),(4,zqI i)] (AHeap.rows 6 [(0,b)]) .normal [(0,.slice o N c),(3,zqI (acc+x)),(4,zqI ((i:Int)+1))] (AHeap.rows 20 [(0,b)]) :=
  ppath_runs env_ok mixed (hs:= [.val 3003 (.bool true),.val 5003 (.ptr (some ⟨0,ver,off+i,0,1⟩)),.ld 5004 (zqI x),.go 5005,.go 4001]) (keep:= [0,3,4]) (by kernel_rfl) (All.cons (okT hc_0) (All.cons hc_1 (All.cons hc_2 (All.cons hc_3 (All.cons hc_4 (All.nil))))))
theorem rtot_end(N c i:Nat)(b:ABlk)(acc:Int)(hc_0: ¬ ((i:Int)<(N:Int))) :
    Runs Try.prog 1 18 (loopAt Try.prog 35 0) [(0,.slice o N c),(3,zqI acc),(4,zqI i)] (AHeap.rows 6 [(0,b)]) (.exit 0) [(3,zqI acc)] (AHeap.rows 10 [(0,b)]) :=
  ppath_runs env_ok mixed (hs:= [.val 3003 (.bool false)]) (keep:= [3]) (by kernel_rfl) (All.cons (okF hc_0) (All.nil))
theorem rtot_call(N c:Nat)(b:ABlk)(r:Int)(hc_0:Runs Try.prog 1 18 (.loop (loopAt Try.prog 35 0)) [(0,.slice o N c),(3,zqI 0),(4,zqI 0)] (AHeap.rows 4 [(0,b)]) (.exit 0) [(3,zqI r)] (AHeap.rows 7 [(0,b)])) :
    FDoes Try.prog 35 [.slice o N c] (AHeap.of [b]) (zqI r) (AHeap.rows 9 [(0,b)]) :=
  pcall_does env_ok mixed (hs:= [.keep [0,3,4],.loop [(3,zqI r)] (AHeap.rows 7 [(0,b)]) (.exit 0)]) (rs:= []) (by kernel_rfl) (All.cons hc_0 (All.nil))
theorem rall_F(N c ver off i:Nat)(b:ABlk)(k n d mn mx p q acc w:Int)(hc_0:(i:Int)<(N:Int))(hc_1:aindexAddr env.D 26 (.slice o N c) (zqI (i:Int))=some (.ptr (some ⟨0,ver,off+i,0,5⟩)))(hc_2:ABlk.elem? b ver (off+i)=some (zqA k n d mn mx))(hc_3:k=3)(hc_4:aindexAddr env.D 26 (.slice o N c) (zqI (i:Int))=some (.ptr (some ⟨0,ver,off+i,0,5⟩)))(hc_5:ABlk.elem? b ver (off+i)=some (zqA k n d mn mx))(hc_6:FDoes Try.prog 59 [zqA k n d mn mx,zqI p,zqI q] (AHeap.rows 26 [(0,b)]) (zqI w) (AHeap.rows 26 [(0,b)]))(hc_7:zqF (acc+w))(hc_8:zqF ((i:Int)+1)) :
    Runs Try.prog 1 31 (loopAt Try.prog 58 0) [(0,.slice o N c),(1,zqI p),(2,zqI q),(7,zqI acc),(8,zqI i)] (AHeap.rows 6 [(0,b)]) .normal [(0,.slice o N c),(1,zqI p),(2,zqI q),(7,zqI (acc+w)),(8,zqI ((i:Int)+1))] (AHeap.rows 29 [(0,b)]) :=
  ppath_runs env_ok mixed (hs:= [.val 3003 (.bool true),.val 5002 (.ptr (some ⟨0,ver,off+i,0,5⟩)),.ld 5004 (zqA k n d mn mx),.val 5005 (.bool true),.val 6003 (.ptr (some ⟨0,ver,off+i,0,5⟩)),.ld 6004 (zqA k n d mn mx),.val 6007 (zqI w),.go 6008,.go 4001]) (keep:= [0,1,2,7,8]) (by kernel_rfl) (All.cons (okT hc_0) (All.cons hc_1 (All.cons hc_2 (All.cons (eqT hc_3) (All.cons hc_4 (All.cons hc_5 (All.cons (CallT.mk hc_6) (All.cons hc_7 (All.cons hc_8 (All.nil))))))))))
theorem rall_O(N c ver off i:Nat)(b:ABlk)(k n d mn mx p q acc:Int)(hc_0:(i:Int)<(N:Int))(hc_1:aindexAddr env.D 26 (.slice o N c) (zqI (i:Int))=some (.ptr (some ⟨0,ver,off+i,0,5⟩)))(hc_2:ABlk.elem? b ver (off+i)=some (zqA k n d mn mx))(hc_3: ¬ (k=3))(hc_4:zqF ((i:Int)+1)) :
    Runs Try.prog 1 31 (loopAt Try.prog 58 0) [(0,.slice o N c),(1,zqI p),(2,zqI q),(7,zqI acc),(8,zqI i)] (AHeap.rows 6 [(0,b)]) .normal [(0,.slice o N c),(1,zqI p),(2,zqI q),(7,zqI acc),(8,zqI ((i:Int)+1))] (AHeap.rows 19 [(0,b)]) :=
  ppath_runs env_ok mixed (hs:= [.val 3003 (.bool true),.val 5002 (.ptr (some ⟨0,ver,off+i,0,5⟩)),.ld 5004 (zqA k n d mn mx),.val 5005 (.bool false),.go 4001]) (keep:= [0,1,2,7,8]) (by kernel_rfl) (All.cons (okT hc_0) (All.cons hc_1 (All.cons hc_2 (All.cons (eqF hc_3) (All.cons hc_4 (All.nil))))))
theorem rall_end(N c i:Nat)(b:ABlk)(p q acc:Int)(hc_0: ¬ ((i:Int)<(N:Int))) :
    Runs Try.prog 1 31 (loopAt Try.prog 58 0) [(0,.slice o N c),(1,zqI p),(2,zqI q),(7,zqI acc),(8,zqI i)] (AHeap.rows 6 [(0,b)]) (.exit 0) [(7,zqI acc)] (AHeap.rows 10 [(0,b)]) :=
  ppath_runs env_ok mixed (hs:= [.val 3003 (.bool false)]) (keep:= [7]) (by kernel_rfl) (All.cons (okF hc_0) (All.nil))
theorem rall_call(N c:Nat)(b:ABlk)(p q r:Int)(hc_0:Runs Try.prog 1 31 (.loop (loopAt Try.prog 58 0)) [(0,.slice o N c),(1,zqI p),(2,zqI q),(7,zqI 0),(8,zqI 0)] (AHeap.rows 4 [(0,b)]) (.exit 0) [(7,zqI r)] (AHeap.rows 7 [(0,b)])) :
    FDoes Try.prog 58 [.slice o N c,zqI p,zqI q] (AHeap.of [b]) (zqI r) (AHeap.rows 9 [(0,b)]) :=
  pcall_does env_ok mixed (hs:= [.keep [0,1,2,7,8],.loop [(7,zqI r)] (AHeap.rows 7 [(0,b)]) (.exit 0)]) (rs:= []) (by kernel_rfl) (All.cons hc_0 (All.nil))
end
end Go.Proofs.Ytgfkllnaeekjeaa
namespace Go.Proofs.Ytgfkllnaeekjeaa
open Go.Lift
set_option maxRecDepth 1000000
noncomputable abbrev zq70_1(sz:List AVal)(v:Nat)(m:Nat)(f:Nat)(b:ABlk)(hd:List AVal):List (Nat×ABlk):= [(0,⟨sz,1,false,false,v,m,f⟩),(1,b),(5,.made hd 1 true)]
noncomputable abbrev zq70_2(N:Nat)(i:Nat):Prop:=aindexAddr env.D 63 (.slice (some ⟨5,0,0,0,1⟩) N N) (zqI (i:Int))=some (.ptr (some ⟨5,0,i,0,1⟩))
section
variable(o:Option AAddr)(N c ver off i v m f p:Nat)(b:ABlk)(sz hd:List AVal)(left best x y:Int)(hc_0:(i:Int)<(N:Int))(hc_1:(zq70_2 N i))
include o N c ver off i v m f p b sz hd left best x y hc_0 hc_1
theorem gi_had(hc_2:ABlk.elem? (.made hd 1 true) 0 i=some (AVal.bool true))(hc_3:zqF ((i:Int)+1)) :
    Runs Try.prog 2 54 (loopAt Try.prog 53 1) [(0,.slice (some ⟨0,v,0,0,1⟩) N N),(1,.slice o N c),(2,zqI left),(7,.slice (some ⟨5,0,0,0,1⟩) N N),(8,zqI best),(9,zqI i)] (AHeap.rows 20 (zq70_1 sz v m f b hd)) .normal [(0,.slice (some ⟨0,v,0,0,1⟩) N N),(1,.slice o N c),(2,zqI left),(7,.slice (some ⟨5,0,0,0,1⟩) N N),(8,zqI best),(9,zqI ((i:Int)+1))] (AHeap.rows 47 (zq70_1 sz v m f b hd)) :=
  ppath_runs env_ok mixed (hs:= [.val 6003 (.bool true),.val 8002 (.ptr (some ⟨5,0,i,0,1⟩)),.ld 8003 (.bool true),.go 7001]) (keep:= [0,1,2,7,8,9]) (by kernel_rfl) (All.cons (okT hc_0) (All.cons hc_1 (All.cons hc_2 (All.cons hc_3 (All.nil)))))
section
variable(hc_2:ABlk.elem? (.made hd 1 true) 0 i=some (AVal.bool false))
include hc_2
theorem gi_first(hc_3:best<0)(hc_4:zqF ((i:Int)+1)) :
    Runs Try.prog 2 54 (loopAt Try.prog 53 1) [(0,.slice (some ⟨0,v,0,0,1⟩) N N),(1,.slice o N c),(2,zqI left),(7,.slice (some ⟨5,0,0,0,1⟩) N N),(8,zqI best),(9,zqI i)] (AHeap.rows 20 (zq70_1 sz v m f b hd)) .normal [(0,.slice (some ⟨0,v,0,0,1⟩) N N),(1,.slice o N c),(2,zqI left),(7,.slice (some ⟨5,0,0,0,1⟩) N N),(8,zqI (i:Int)),(9,zqI ((i:Int)+1))] (AHeap.rows 49 (zq70_1 sz v m f b hd)) :=
  ppath_runs env_ok mixed (hs:= [.val 6003 (.bool true),.val 8002 (.ptr (some ⟨5,0,i,0,1⟩)),.ld 8003 (.bool false),.val 8007 (.bool true),.go 7001]) (keep:= [0,1,2,7,8,9]) (by kernel_rfl) (All.cons (okT hc_0) (All.cons hc_1 (All.cons hc_2 (All.cons (okT hc_3) (All.cons hc_4 (All.nil))))))
section
variable(hc_4:aindexAddr env.D 27 (.slice o N c) (zqI (i:Int))=some (.ptr (some ⟨1,ver,off+i,0,1⟩)))(hc_5:ABlk.elem? b ver (off+i)=some (zqI x))(hc_6:aindexAddr env.D 27 (.slice o N c) (zqI (p:Int))=some (.ptr (some ⟨1,ver,off+p,0,1⟩)))(hc_7:ABlk.elem? b ver (off+p)=some (zqI y))
include hc_4 hc_5 hc_6 hc_7
theorem gi_more(hc_8:x>y)(hc_9:zqF ((i:Int)+1)) :
    Runs Try.prog 2 54 (loopAt Try.prog 53 1) [(0,.slice (some ⟨0,v,0,0,1⟩) N N),(1,.slice o N c),(2,zqI left),(7,.slice (some ⟨5,0,0,0,1⟩) N N),(8,zqI p),(9,zqI i)] (AHeap.rows 20 (zq70_1 sz v m f b hd)) .normal [(0,.slice (some ⟨0,v,0,0,1⟩) N N),(1,.slice o N c),(2,zqI left),(7,.slice (some ⟨5,0,0,0,1⟩) N N),(8,zqI (i:Int)),(9,zqI ((i:Int)+1))] (AHeap.rows 49 (zq70_1 sz v m f b hd)) :=
  ppath_runs env_ok mixed (hs:= [.val 6003 (.bool true),.val 8002 (.ptr (some ⟨5,0,i,0,1⟩)),.ld 8003 (.bool false),.val 8007 (.bool false),.val 8011 (.ptr (some ⟨1,ver,off+i,0,1⟩)),.ld 8012 (zqI x),.val 8015 (.ptr (some ⟨1,ver,off+p,0,1⟩)),.ld 8016 (zqI y),.val 8017 (.bool true),.go 7001]) (keep:= [0,1,2,7,8,9]) (by kernel_rfl) (All.cons (okT hc_0) (All.cons hc_1 (All.cons hc_2 (All.cons (show some (AVal.bool false)=some (AVal.bool false)from congrArg (fun q=>some (AVal.bool q)) (rfl)) (All.cons hc_4 (All.cons hc_5 (All.cons hc_6 (All.cons hc_7 (All.cons (okT hc_8) (All.cons hc_9 (All.nil)))))))))))
theorem gi_not(hc_8: ¬ (x>y))(hc_9:zqF ((i:Int)+1)) :
    Runs Try.prog 2 54 (loopAt Try.prog 53 1) [(0,.slice (some ⟨0,v,0,0,1⟩) N N),(1,.slice o N c),(2,zqI left),(7,.slice (some ⟨5,0,0,0,1⟩) N N),(8,zqI p),(9,zqI i)] (AHeap.rows 20 (zq70_1 sz v m f b hd)) .normal [(0,.slice (some ⟨0,v,0,0,1⟩) N N),(1,.slice o N c),(2,zqI left),(7,.slice (some ⟨5,0,0,0,1⟩) N N),(8,zqI (p:Int)),(9,zqI ((i:Int)+1))] (AHeap.rows 47 (zq70_1 sz v m f b hd)) :=
  ppath_runs env_ok mixed (hs:= [.val 6003 (.bool true),.val 8002 (.ptr (some ⟨5,0,i,0,1⟩)),.ld 8003 (.bool false),.val 8007 (.bool false),.val 8011 (.ptr (some ⟨1,ver,off+i,0,1⟩)),.ld 8012 (zqI x),.val 8015 (.ptr (some ⟨1,ver,off+p,0,1⟩)),.ld 8016 (zqI y),.val 8017 (.bool false),.go 7001]) (keep:= [0,1,2,7,8,9]) (by kernel_rfl) (All.cons (okT hc_0) (All.cons hc_1 (All.cons hc_2 (All.cons (show some (AVal.bool false)=some (AVal.bool false)from congrArg (fun q=>some (AVal.bool q)) (rfl)) (All.cons hc_4 (All.cons hc_5 (All.cons hc_6 (All.cons hc_7 (All.cons (okF hc_8) (All.cons hc_9 (All.nil)))))))))))
end
end
end
section
variable(o:Option AAddr)
include o
theorem gi_end(N c ver off i v m f p:Nat)(b:ABlk)(sz hd:List AVal)(left best x y:Int)(hc_0: ¬ ((i:Int)<(N:Int))) :
    Runs Try.prog 2 54 (loopAt Try.prog 53 1) [(0,.slice (some ⟨0,v,0,0,1⟩) N N),(1,.slice o N c),(2,zqI left),(7,.slice (some ⟨5,0,0,0,1⟩) N N),(8,zqI best),(9,zqI i)] (AHeap.rows 20 (zq70_1 sz v m f b hd)) (.exit 2) [(0,.slice (some ⟨0,v,0,0,1⟩) N N),(1,.slice o N c),(2,zqI left),(7,.slice (some ⟨5,0,0,0,1⟩) N N),(8,zqI best)] (AHeap.rows 24 (zq70_1 sz v m f b hd)) :=
  ppath_runs env_ok mixed (hs:= [.val 6003 (.bool false)]) (keep:= [0,1,2,7,8]) (by kernel_rfl) (All.cons (okF hc_0) (All.nil))
section
variable(N c v m f p:Nat)(b:ABlk)(sz hd:List AVal)(left x:Int)(old:Bool)
include N c v m f p b sz hd left x old
theorem go_step(hc_0:left>0)(hc_1:Runs Try.prog 2 54 (.loop (loopAt Try.prog 53 1)) [(0,.slice (some ⟨0,v,0,0,1⟩) N N),(1,.slice o N c),(2,zqI left),(7,.slice (some ⟨5,0,0,0,1⟩) N N),(8,zqI (-1)),(9,zqI 0)] (AHeap.rows 19 (zq70_1 sz v m f b hd)) (.exit 2) [(0,.slice (some ⟨0,v,0,0,1⟩) N N),(1,.slice o N c),(2,zqI left),(7,.slice (some ⟨5,0,0,0,1⟩) N N),(8,zqI (p:Int))] (AHeap.rows 21 (zq70_1 sz v m f b hd)))(hc_2:aindexAddr env.D 63 (.slice (some ⟨5,0,0,0,1⟩) N N) (zqI (p:Int))=some (.ptr (some ⟨5,0,p,0,1⟩)))(hc_3:0=0∧hd[p]? =some (AVal.bool old))(hc_4:aindexAddr env.D 27 (.slice (some ⟨0,v,0,0,1⟩) N N) (zqI (p:Int))=some (.ptr (some ⟨0,v,p,0,1⟩)))(hc_5:ABlk.elem? ⟨sz,1,false,false,v,m,f⟩ v p=some (zqI x))(hc_6:zqF (x+1))(hc_7:aindexAddr env.D 27 (.slice (some ⟨0,v,0,0,1⟩) N N) (zqI (p:Int))=some (.ptr (some ⟨0,v,p,0,1⟩)))(hc_8:v=v∧sz[p]? =some (zqI x))(hc_9:zqF (left-1)) :
    Runs Try.prog 2 54 (loopAt Try.prog 53 0) [(0,.slice (some ⟨0,v,0,0,1⟩) N N),(1,.slice o N c),(2,zqI left),(7,.slice (some ⟨5,0,0,0,1⟩) N N)] (AHeap.rows 15 (zq70_1 sz v m f b hd)) .normal [(0,.slice (some ⟨0,v,0,0,1⟩) N N),(1,.slice o N c),(2,zqI (left-1)),(7,.slice (some ⟨5,0,0,0,1⟩) N N)] (AHeap.rows 35 [(0,⟨List.set sz p (zqI (x+1)),1,false,false,v,v,f⟩),(1,b),(5,(.made (List.set hd p (AVal.bool true)) 1 true))]) :=
  ppath_runs env_ok mixed (hs:= [.val 2001 (.bool true),.keep [0,1,2,7,8,9],.loop [(0,.slice (some ⟨0,v,0,0,1⟩) N N),(1,.slice o N c),(2,zqI left),(7,.slice (some ⟨5,0,0,0,1⟩) N N),(8,zqI p)] (AHeap.rows 21 (zq70_1 sz v m f b hd)) (.exit 2),.val 10002 (.ptr (some ⟨5,0,p,0,1⟩)),.st 10003 (.bool old),.val 11002 (.ptr (some ⟨0,v,p,0,1⟩)),.ld 11003 (zqI x),.go 11004,.val 11005 (.ptr (some ⟨0,v,p,0,1⟩)),.st 11006 (zqI x),.go 3001]) (keep:= [0,1,2,7]) (by kernel_rfl) (All.cons (okT hc_0) (All.cons hc_1 (All.cons hc_2 (All.cons hc_3 (All.cons hc_4 (All.cons hc_5 (All.cons hc_6 (All.cons hc_7 (All.cons hc_8 (All.cons hc_9 (All.nil)))))))))))
theorem go_end(hc_0: ¬ (left>0)) :
    Runs Try.prog 2 54 (loopAt Try.prog 53 0) [(0,.slice (some ⟨0,v,0,0,1⟩) N N),(1,.slice o N c),(2,zqI left),(7,.slice (some ⟨5,0,0,0,1⟩) N N)] (AHeap.rows 15 (zq70_1 sz v m f b hd)) (.exit 0) [(0,.slice (some ⟨0,v,0,0,1⟩) N N)] (AHeap.rows 17 (zq70_1 sz v m f b hd)) :=
  ppath_runs env_ok mixed (hs:= [.val 2001 (.bool false)]) (keep:= [0]) (by kernel_rfl) (All.cons (okF hc_0) (All.nil))
end
theorem given_call(N c v m f m2:Nat)(b:ABlk)(sz sz2 hd:List AVal)(left:Int)(hc_0:0≤(N:Int)∧(N:Int)≤(N:Int)∧(N:Int)<4611686018427387904∧(1:Int)* (N:Int)≤281474976710656)(hc_1:Runs Try.prog 2 54 (.loop (loopAt Try.prog 53 0)) [(0,.slice (some ⟨0,v,0,0,1⟩) N N),(1,.slice o N c),(2,zqI left),(7,.slice (some ⟨5,0,0,0,1⟩) N N)] (AHeap.set (AHeap.rows 7 [(0,⟨sz,1,false,false,v,m,f⟩),(1,b)]) 5 (.made (List.replicate N (AVal.bool false)) 1 true)) (.exit 0) [(0,.slice (some ⟨0,v,0,0,1⟩) N N)] (AHeap.rows 16 [(0,⟨sz2,1,false,false,v,m2,f⟩),(1,b),(5,.made hd 1 true)])) :
    FDoes Try.prog 53 [.slice (some ⟨0,v,0,0,1⟩) N N,.slice o N c,zqI left] (AHeap.of [⟨sz,1,false,false,v,m,f⟩,b]) (.slice (some ⟨0,v,0,0,1⟩) N N) (AHeap.rows 18 [(0,⟨sz2,1,false,false,v,m2,f⟩),(1,b),(5,.made hd 1 true)]) :=
  pcall_does env_ok mixed (hs:= [.go 1002,.keep [0,1,2,7],.loop [(0,.slice (some ⟨0,v,0,0,1⟩) N N)] (AHeap.rows 16 [(0,⟨sz2,1,false,false,v,m2,f⟩),(1,b),(5,.made hd 1 true)]) (.exit 0)]) (rs:= []) (by kernel_rfl) (All.cons hc_0 (All.cons hc_1 (All.nil)))
section
variable(N c ver off i v q:Nat)(b r0 r1 s0 s1:ABlk)(t sum x:Int)(hc_0:(i:Int)<(N:Int))
include N c ver off i v q b r0 r1 s0 s1 t sum x hc_0
theorem sh0_new(hc_1:sum=0)(hc_2:abuiltin env Builtin.append {toList:= [27,27]} [.slice none 0 0,.slice (some ⟨59,0,0,0,1⟩) 1 1] 60 (AHeap.set (AHeap.rows 62 [(0,b)]) 59 (.made [zqI 0] 1 true))=some (.slice (some ⟨60,0,0,0,1⟩) 1 1,(AHeap.rows 62 [(0,b),(59,.made [zqI 0] 1 true),(60,r1)])))(hc_3:zqF ((i:Int)+1)) :
    Runs Try.prog 1 54 (loopAt Try.prog 36 0) [(0,zqI t),(1,.slice o N c),(5,zqI sum),(6,.slice none 0 0),(7,.slice none 0 0),(8,zqI i)] (AHeap.rows 52 [(0,b)]) .normal [(0,zqI t),(1,.slice o N c),(5,zqI sum),(6,.slice (some ⟨60,0,0,0,1⟩) 1 1),(7,.slice none 0 0),(8,zqI ((i:Int)+1))] (AHeap.rows 65 [(0,b),(59,.made [zqI 0] 1 true),(60,r1)]) :=
  ppath_runs env_ok mixed (hs:= [.val 5003 (.bool true),.val 7001 (.bool true),.act 8002 (.slice (some ⟨60,0,0,0,1⟩) 1 1) (fun h=>h.set 60 r1),.go 6001]) (keep:= [0,1,5,6,7,8]) (by kernel_rfl) (All.cons (okT hc_0) (All.cons (eqT hc_1) (All.cons hc_2 (All.cons hc_3 (All.nil)))))
theorem sh0_grow(hc_1:sum=0)(hc_2:abuiltin env Builtin.append {toList:= [27,27]} [.slice (some ⟨60,v,0,0,1⟩) q q,.slice (some ⟨87,0,0,0,1⟩) 1 1] 88 (AHeap.set (AHeap.rows 90 [(0,b),(60,r0)]) 87 (.made [zqI 0] 1 true))=some (.slice (some ⟨60,v+1,0,0,1⟩) (q+1) (q+1),(AHeap.rows 90 [(0,b),(60,r1),(87,.made [zqI 0] 1 true)])))(hc_3:zqF ((i:Int)+1)) :
    Runs Try.prog 1 54 (loopAt Try.prog 36 0) [(0,zqI t),(1,.slice o N c),(5,zqI sum),(6,.slice (some ⟨60,v,0,0,1⟩) q q),(7,.slice none 0 0),(8,zqI i)] (AHeap.rows 80 [(0,b),(60,r0)]) .normal [(0,zqI t),(1,.slice o N c),(5,zqI sum),(6,.slice (some ⟨60,v+1,0,0,1⟩) (q+1) (q+1)),(7,.slice none 0 0),(8,zqI ((i:Int)+1))] (AHeap.rows 93 [(0,b),(60,r1),(87,.made [zqI 0] 1 true)]) :=
  ppath_runs env_ok mixed (hs:= [.val 5003 (.bool true),.val 7001 (.bool true),.act 8002 (.slice (some ⟨60,v+1,0,0,1⟩) (q+1) (q+1)) (fun h=>h.set 60 r1),.go 6001]) (keep:= [0,1,5,6,7,8]) (by kernel_rfl) (All.cons (okT hc_0) (All.cons (eqT hc_1) (All.cons hc_2 (All.cons hc_3 (All.nil)))))
section
variable(hc_1: ¬ (sum=0))(hc_2:aindexAddr env.D 27 (.slice o N c) (zqI (i:Int))=some (.ptr (some ⟨0,ver,off+i,0,1⟩)))(hc_3:ABlk.elem? b ver (off+i)=some (zqI x))(hc_4:zqF (t*x))(hc_5:sum≠0∧zqF (Int.tdiv (t*x) sum))
include hc_1 hc_2 hc_3 hc_4 hc_5
theorem shp_new(hc_6:abuiltin env Builtin.append {toList:= [27,27]} [.slice none 0 0,.slice (some ⟨59,0,0,0,1⟩) 1 1] 60 (AHeap.set (AHeap.rows 62 [(0,b)]) 59 (.made [zqI (Int.tdiv (t*x) sum)] 1 true))=some (.slice (some ⟨60,0,0,0,1⟩) 1 1,(AHeap.rows 62 [(0,b),(59,.made [zqI (Int.tdiv (t*x) sum)] 1 true),(60,r1)])))(hc_7:aindexAddr env.D 27 (.slice o N c) (zqI (i:Int))=some (.ptr (some ⟨0,ver,off+i,0,1⟩)))(hc_8:ABlk.elem? b ver (off+i)=some (zqI x))(hc_9:zqF (t*x))(hc_10:sum≠0)(hc_11:abuiltin env Builtin.append {toList:= [27,27]} [.slice none 0 0,.slice (some ⟨71,0,0,0,1⟩) 1 1] 72 (AHeap.set (AHeap.rows 74 [(0,b),(59,.made [zqI (Int.tdiv (t*x) sum)] 1 true),(60,r1)]) 71 (.made [zqI (Int.tmod (t*x) sum)] 1 true))=some (.slice (some ⟨72,0,0,0,1⟩) 1 1,(AHeap.rows 74 [(0,b),(59,.made [zqI (Int.tdiv (t*x) sum)] 1 true),(60,r1),(71,.made [zqI (Int.tmod (t*x) sum)] 1 true),(72,s1)])))(hc_12:zqF ((i:Int)+1)) :
    Runs Try.prog 1 54 (loopAt Try.prog 36 0) [(0,zqI t),(1,.slice o N c),(5,zqI sum),(6,.slice none 0 0),(7,.slice none 0 0),(8,zqI i)] (AHeap.rows 44 [(0,b)]) .normal [(0,zqI t),(1,.slice o N c),(5,zqI sum),(6,.slice (some ⟨60,0,0,0,1⟩) 1 1),(7,.slice (some ⟨72,0,0,0,1⟩) 1 1),(8,zqI ((i:Int)+1))] (AHeap.rows 77 [(0,b),(59,.made [zqI (Int.tdiv (t*x) sum)] 1 true),(60,r1),(71,.made [zqI (Int.tmod (t*x) sum)] 1 true),(72,s1)]) :=
  ppath_runs env_ok mixed (hs:= [.val 5003 (.bool true),.val 7001 (.bool false),.val 9004 (.ptr (some ⟨0,ver,off+i,0,1⟩)),.ld 9005 (zqI x),.go 9006,.go 9008,.act 9010 (.slice (some ⟨60,0,0,0,1⟩) 1 1) (fun h=>h.set 60 r1),.val 10004 (.ptr (some ⟨0,ver,off+i,0,1⟩)),.ld 10005 (zqI x),.go 10006,.go 10008,.act 10010 (.slice (some ⟨72,0,0,0,1⟩) 1 1) (fun h=>h.set 72 s1),.go 6001]) (keep:= [0,1,5,6,7,8]) (by kernel_rfl) (All.cons (okT hc_0) (All.cons (eqF hc_1) (All.cons hc_2 (All.cons hc_3 (All.cons hc_4 (All.cons hc_5 (All.cons hc_6 (All.cons hc_7 (All.cons hc_8 (All.cons hc_9 (All.cons hc_10 (All.cons hc_11 (All.cons hc_12 (All.nil))))))))))))))
theorem shp_grow(hc_6:abuiltin env Builtin.append {toList:= [27,27]} [.slice (some ⟨60,v,0,0,1⟩) q q,.slice (some ⟨95,0,0,0,1⟩) 1 1] 96 (AHeap.set (AHeap.rows 98 [(0,b),(60,r0),(72,s0)]) 95 (.made [zqI (Int.tdiv (t*x) sum)] 1 true))=some (.slice (some ⟨60,v+1,0,0,1⟩) (q+1) (q+1),(AHeap.rows 98 [(0,b),(60,r1),(72,s0),(95,(.made ([zqI (Int.tdiv (t*x) sum)]) 1 true))])))(hc_7:aindexAddr env.D 27 (.slice o N c) (zqI (i:Int))=some (.ptr (some ⟨0,ver,off+i,0,1⟩)))(hc_8:ABlk.elem? b ver (off+i)=some (zqI x))(hc_9:zqF (t*x))(hc_10:sum≠0)(hc_11:abuiltin env Builtin.append {toList:= [27,27]} [.slice (some ⟨72,v,0,0,1⟩) q q,.slice (some ⟨107,0,0,0,1⟩) 1 1] 108 (AHeap.set (AHeap.rows 110 [(0,b),(60,r1),(72,s0),(95,(.made ([zqI (Int.tdiv (t*x) sum)]) 1 true))]) 107 (.made [zqI (Int.tmod (t*x) sum)] 1 true))=some (.slice (some ⟨72,v+1,0,0,1⟩) (q+1) (q+1),(AHeap.rows 110 [(0,b),(60,r1),(72,s1),(95,(.made ([zqI (Int.tdiv (t*x) sum)]) 1 true)),(107,(.made ([zqI (Int.tmod (t*x) sum)]) 1 true))])))(hc_12:zqF ((i:Int)+1)) :
    Runs Try.prog 1 54 (loopAt Try.prog 36 0) [(0,zqI t),(1,.slice o N c),(5,zqI sum),(6,.slice (some ⟨60,v,0,0,1⟩) q q),(7,.slice (some ⟨72,v,0,0,1⟩) q q),(8,zqI i)] (AHeap.rows 80 [(0,b),(60,r0),(72,s0)]) .normal [(0,zqI t),(1,.slice o N c),(5,zqI sum),(6,.slice (some ⟨60,v+1,0,0,1⟩) (q+1) (q+1)),(7,.slice (some ⟨72,v+1,0,0,1⟩) (q+1) (q+1)),(8,zqI ((i:Int)+1))] (AHeap.rows 113 [(0,b),(60,r1),(72,s1),(95,(.made ([zqI (Int.tdiv (t*x) sum)]) 1 true)),(107,(.made ([zqI (Int.tmod (t*x) sum)]) 1 true))]) :=
  ppath_runs env_ok mixed (hs:= [.val 5003 (.bool true),.val 7001 (.bool false),.val 9004 (.ptr (some ⟨0,ver,off+i,0,1⟩)),.ld 9005 (zqI x),.go 9006,.go 9008,.act 9010 (.slice (some ⟨60,v+1,0,0,1⟩) (q+1) (q+1)) (fun h=>AHeap.rows 98 [(0,b),(60,r1),(72,s0),(95,.made [zqI (Int.tdiv (t*x) sum)] 1 true)]),.val 10004 (.ptr (some ⟨0,ver,off+i,0,1⟩)),.ld 10005 (zqI x),.go 10006,.go 10008,.act 10010 (.slice (some ⟨72,v+1,0,0,1⟩) (q+1) (q+1)) (fun h=>AHeap.rows 110 [(0,b),(60,r1),(72,s1),(95,.made [zqI (Int.tdiv (t*x) sum)] 1 true),(107,.made [zqI (Int.tmod (t*x) sum)] 1 true)]),.go 6001]) (keep:= [0,1,5,6,7,8]) (by kernel_rfl) (All.cons (okT hc_0) (All.cons (eqF hc_1) (All.cons hc_2 (All.cons hc_3 (All.cons hc_4 (All.cons hc_5 (All.cons hc_6 (All.cons hc_7 (All.cons hc_8 (All.cons hc_9 (All.cons hc_10 (All.cons hc_11 (All.cons hc_12 (All.nil))))))))))))))
end
end
theorem shp_end(N c i:Nat)(b r0 s0:ABlk)(t sum:Int)(sv rv:AVal)(hc_0: ¬ ((i:Int)<(N:Int))) :
    Runs Try.prog 1 54 (loopAt Try.prog 36 0) [(0,zqI t),(1,.slice o N c),(5,zqI sum),(6,sv),(7,rv),(8,zqI i)] (AHeap.rows 80 [(0,b),(60,r0),(72,s0)]) (.exit 0) [(0,zqI t),(5,zqI sum),(6,sv),(7,rv)] (AHeap.rows 84 [(0,b),(60,r0),(72,s0)]) :=
  ppath_runs env_ok mixed (hs:= [.val 5003 (.bool false)]) (keep:= [0,5,6,7]) (by kernel_rfl) (All.cons (okF hc_0) (All.nil))
end
section
variable(o o2 o3:Option AAddr)(N c c2 c3:Nat)(b r0 r1 s0:ABlk)(t sum tot:Int)(sv:AVal)(hc_0:FDoes Try.prog 35 [.slice o N c] (AHeap.rows 5 [(0,b)]) (zqI sum) (AHeap.rows 5 [(0,b)]))
include o o2 o3 N c c2 c3 b r0 r1 s0 t sum tot sv hc_0
theorem shared_zero(hc_1:Runs Try.prog 1 54 (.loop (loopAt Try.prog 36 0)) [(0,zqI t),(1,.slice o N c),(5,zqI sum),(6,.slice none 0 0),(7,.slice none 0 0),(8,zqI 0)] (AHeap.rows 8 [(0,b)]) (.exit 0) [(0,zqI t),(5,zqI sum),(6,.slice o2 N c2),(7,sv)] (AHeap.rows 81 [(0,b),(60,r0),(72,s0)]))(hc_2:sum=0) :
    FDoes Try.prog 36 [zqI t,.slice o N c] (AHeap.of [b]) (.slice o2 N c2) (AHeap.rows 85 [(0,b),(60,r0),(72,s0)]) :=
  pcall_does env_ok mixed (hs:= [.val 1001 (zqI sum),.keep [0,1,5,6,7,8],.loop [(0,zqI t),(5,zqI sum),(6,.slice o2 N c2),(7,sv)] (AHeap.rows 81 [(0,b),(60,r0),(72,s0)]) (.exit 0),.val 11001 (.bool true)]) (rs:= []) (by kernel_rfl) (All.cons (CallT.mk hc_0) (All.cons hc_1 (All.cons (eqT hc_2) (All.nil))))
theorem shared_given(hc_1:Runs Try.prog 1 54 (.loop (loopAt Try.prog 36 0)) [(0,zqI t),(1,.slice o N c),(5,zqI sum),(6,.slice none 0 0),(7,.slice none 0 0),(8,zqI 0)] (AHeap.rows 8 [(0,b)]) (.exit 0) [(0,zqI t),(5,zqI sum),(6,.slice o2 N c2),(7,.slice o3 N c3)] (AHeap.rows 81 [(0,b),(60,r0),(72,s0)]))(hc_2: ¬ (sum=0))(hc_3:FDoes Try.prog 35 [.slice o2 N c2] (AHeap.rows 91 [(0,b),(60,r0),(72,s0)]) (zqI tot) (AHeap.rows 91 [(0,b),(60,r0),(72,s0)]))(hc_4:zqF (t-tot))(hc_5:FDoes Try.prog 53 [.slice o2 N c2,.slice o3 N c3,zqI (t-tot)] (AHeap.rows 91 [(0,b),(60,r0),(72,s0)]) (.slice o2 N c2) (AHeap.rows 91 [(0,b),(60,r1),(72,s0)])) :
    FDoes Try.prog 36 [zqI t,.slice o N c] (AHeap.of [b]) (.slice o2 N c2) (AHeap.rows 91 [(0,b),(60,r1),(72,s0)]) :=
  pcall_does env_ok mixed (hs:= [.val 1001 (zqI sum),.keep [0,1,5,6,7,8],.loop [(0,zqI t),(5,zqI sum),(6,.slice o2 N c2),(7,.slice o3 N c3)] (AHeap.rows 81 [(0,b),(60,r0),(72,s0)]) (.exit 0),.val 11001 (.bool false),.val 13004 (zqI tot),.go 13005,.act 13006 (.slice o2 N c2) (fun h=>h.set 60 r1)]) (rs:= []) (by kernel_rfl) (All.cons (CallT.mk hc_0) (All.cons hc_1 (All.cons (eqF hc_2) (All.cons (CallT.mk hc_3) (All.cons hc_4 (All.cons (CallT.mk hc_5) (All.nil)))))))
end
end Go.Proofs.Ytgfkllnaeekjeaa
namespace Go.Proofs.Ytgfkllnaeekjeaa
open Go.Lift
set_option maxRecDepth 1000000
theorem it_args1(x:Int)(t:It): ∀ a∈ [AVal.int .i64 x,t.val],Bare a:=by
  intro a h
  rcases List.mem_cons.1 h with h | h
  · rw [h];exact Bare.int _ _
  · rw [List.mem_singleton.1 h];exact t.bare
theorem it_args2(x:Int)(t:It): ∀ a∈ [t.val,AVal.int .i64 x],Bare a:=by
  intro a h
  rcases List.mem_cons.1 h with h | h
  · rw [h];exact t.bare
  · rw [List.mem_singleton.1 h];exact Bare.int _ _
theorem it_args3(x y:Int)(t:It): ∀ a∈ [t.val,AVal.int .i64 x,AVal.int .i64 y],Bare a:=by
  intro a h
  simp only [List.mem_cons,List.not_mem_nil,or_false]at h
  rcases h with h | h | h
  · rw [h];exact t.bare
  · rw [h];exact Bare.int _ _
  · rw [h];exact Bare.int _ _
theorem rinto_does (x:Int) (t:It) (h:t.mx=0∨(1≤t.mx∧t.mn≤t.mx)) (H:AHeap):FDoes Try.prog 52 [.int .i64 x,t.val] H (.int .i64 (intoZ t.mn t.mx x)) H:=by
  unfold intoZ
  by_cases c1:x<t.mn
  · have k:=(rinto_lo x t.k t.n t.d t.mn t.mx c1).bare (it_args1 x t) (Bare.int _ _) H
    rwa [show(if 0<t.mx then min (max x t.mn) t.mx else max x t.mn)=t.mn by split<;>omega]
  · by_cases c2:t.mx>0
    · by_cases c3:x>t.mx
      · have k:=(rinto_hi x t.k t.n t.d t.mn t.mx c1 c2 c3).bare (it_args1 x t) (Bare.int _ _) H
        rwa [show(if 0<t.mx then min (max x t.mn) t.mx else max x t.mn)=t.mx by split<;>omega]
      · have k:=(rinto_in1 x t.k t.n t.d t.mn t.mx c1 c2 c3).bare (it_args1 x t) (Bare.int _ _) H
        rwa [show(if 0<t.mx then min (max x t.mn) t.mx else max x t.mn)=x by split<;>omega]
    · have k:=(rinto_in2 x t.k t.n t.d t.mn t.mx c1 c2).bare (it_args1 x t) (Bare.int _ _) H
      rwa [show(if 0<t.mx then min (max x t.mn) t.mx else max x t.mn)=x by split<;>omega]
theorem rwants_does {t:It}(ht:RightIt t){room:Int}(hr:0≤room∧room≤4096)(H:AHeap):FDoes Try.prog 34 [t.val,.int .i64 room] H (.int .i64 (wantZ room t)) H:=by
  have hm:=ht.mx
  unfold wantZ
  by_cases c1:t.k=2
  · have pr:=part_range ht c1 hr
    have eq:Int.tdiv (t.n*room) t.d=t.n*room / t.d:=Int.tdiv_eq_ediv_of_nonneg pr.1
    rw [if_pos c1,← eq]
    exact(rwants_P t.k t.n t.d t.mn t.mx room _ c1 (by omega) ⟨by omega,by rw [eq];omega⟩ (rinto_does _ t (by omega) _)).bare (it_args2 room t) (Bare.int _ _) H
  · by_cases c2:t.k=3
    · rw [if_neg c1,if_pos c2]
      exact(rwants_F t.k t.n t.d t.mn t.mx room 0 c1 c2).bare (it_args2 room t) (Bare.int _ _) H
    · rw [if_neg c1,if_neg c2]
      exact(rwants_O t.k t.n t.d t.mn t.mx room _ c1 c2 (rinto_does _ t (by omega) _)).bare (it_args2 room t) (Bare.int _ _) H
def atZ(t:It)(p q:Int):Int:=if p*t.n<t.mn*q then t.mn*q else if 0<t.mx∧t.mx*q<p*t.n then t.mx*q else p*t.n
theorem rat_does {t:It} (ht:RightIt t) {p q:Int} (hp:0≤p∧p≤4096) (hq:0≤q∧q≤1000) (hn:0≤t.n∧t.n≤4096) (H:AHeap):FDoes Try.prog 59 [t.val,.int .i64 p,.int .i64 q] H (.int .i64 (atZ t p q)) H:=by
  have hm:=ht.mx
  have h1:=mul_range hp.1 hp.2 hn.1 hn.2
  have h2:=mul_range ht.mn.1 ht.mn.2 hq.1 hq.2
  have h3:=mul_range (a:=t.mx) (A:=4096) (by omega) (by omega) hq.1 hq.2
  unfold atZ
  by_cases c1:p*t.n<t.mn*q
  · rw [if_pos c1]
    exact(rat_lo t.k t.n t.d t.mn t.mx p q (by omega) (by omega) c1 (by omega)).bare (it_args3 p q t) (Bare.int _ _) H
  · rw [if_neg c1]
    by_cases c2:t.mx>0
    · by_cases c3:p*t.n>t.mx*q
      · rw [if_pos ⟨c2,c3⟩]
        exact(rat_hi t.k t.n t.d t.mn t.mx p q (by omega) (by omega) c1 c2 (by omega) c3 (by omega)).bare (it_args3 p q t) (Bare.int _ _) H
      · rw [if_neg fun h=>c3 h.2]
        exact(rat_in1 t.k t.n t.d t.mn t.mx p q (by omega) (by omega) c1 c2 (by omega) c3).bare (it_args3 p q t) (Bare.int _ _) H
    · rw [if_neg fun h=>c2 h.1]
      exact(rat_in2 t.k t.n t.d t.mn t.mx p q (by omega) (by omega) c1 c2).bare (it_args3 p q t) (Bare.int _ _) H
theorem rtot_loop {o:Option AAddr}{n c ver off:Nat}{b:ABlk}(hs:SlArg o n c 0 ver off 1)(hb:BareB b){x:Nat→Int}(hx: ∀ j,j<n→b.elem? ver (off+j)=some (.int .i64 (x j)))(hf: ∀ j,j≤n→Fit64 (sumTo x j))(hn:n<2^62): ∀ (f i:Nat),i+f=n →
    Loops Try.prog 1 18 (loopAt Try.prog 35 0) [(0,.slice o n c),(3,.int .i64 (sumTo x i)),(4,.int .i64 i)] (AHeap.rows 6 [(0,b)]) (.exit 0) [(3,.int .i64 (sumTo x n))] (AHeap.rows 7 [(0,b)])
  | 0,i,e=>by
    obtain rfl:i=n:=by omega
    refine(Loops.last (by simp) (rtot_end o i c i b _ (by omega))).post ?_
    exact Ent.drop (by kernel_rfl) (by kernel_rfl) (by kernel_rfl) (by kernel_rfl) (by simp [All_cons,All_nil,Clo]) (by simp only [List.map,All_cons,All_nil,and_true];exact hb.clo _)
  | f+1,i,e=>by
    have hc:Clo (Ids [0]) (.slice o n c):=hs.clo (by simp [Ids])
    have h1:=hf (i+1) (by omega)
    unfold Fit64 at h1
    simp only [sumTo]at h1
    refine Loops.step ((rtot_step o n c ver off i b (x i) _ (by omega) (ix_intN hs (by omega)) (hx i (by omega)) (by omega) (by omega)).post ?_) (rtot_loop hs hb hx hf hn f (i+1) (by omega))
    exact Ent.drop (by kernel_rfl) (by kernel_rfl) (by kernel_rfl) (by kernel_rfl) (by simp only [List.map,All_cons,All_nil,and_true];exact⟨hc,by simp [Clo],by simp [Clo]⟩) (by simp only [List.map,All_cons,All_nil,and_true];exact hb.clo _)
theorem rtot_does {H:AHeap}{o:Option AAddr}{n c id ver off:Nat}{b:ABlk}{x:Nat→Int}(h1:IntsAt H o n c id ver off b x)(hf: ∀ j,j≤n→Fit64 (sumTo x j))(hn:n<2^62) :
    FDoes Try.prog 35 [.slice o n c] H (.int .i64 (sumTo x n)) H:=by
  have s1:=h1.sl.at 0
  have hc:Clo (Ids [0]) (.slice (o.map fun a=> {a with id:=0}) n c):=s1.clo (by simp [Ids])
  have l:=rtot_loop s1 h1.bare h1.el hf hn n 0 (by omega)
  have pre:Ent 1 18 [(0,.slice (o.map fun a=> {a with id:=0}) n c),(3,.int .i64 0),(4,.int .i64 (0:Nat))] (AHeap.rows 4 [(0,b)]) [(0,.slice (o.map fun a=> {a with id:=0}) n c),(3,.int .i64 0),(4,.int .i64 (0:Nat))] (AHeap.rows 6 [(0,b)]) :=
    Ent.drop (by kernel_rfl) (by kernel_rfl) (by kernel_rfl) (by kernel_rfl) (by simp only [List.map,All_cons,All_nil,and_true];exact⟨hc,by simp [Clo],by simp [Clo]⟩) (by simp only [List.map,All_cons,All_nil,and_true];exact h1.bare.clo _)
  have k:=(rtot_call (o.map fun a=> {a with id:=0}) n c b _ (Runs.of_loops (Tri.pre l pre))).pure (by simp [h1.bare]) (by kernel_rfl) (Bare.int _ _) (by simp [Clos,Clo,s1.clo]) (H:=H) [id] (by simp) (by simp [h1.lt]) (by simp [h1.get])
  simpa [h1.sl.back (id':=0) (r:=toBig [id] H.next) rfl,AVal.ren]using k
def allZ(it:Nat→It)(p q:Int)(j:Nat):Int:=if(it j).k=3 then atZ (it j) p q else 0
theorem atZ_range {t:It}(ht:RightIt t){p q:Int}(hp:0≤p∧p≤4096)(hq:0≤q∧q≤1000)(hn:0≤t.n∧t.n≤4096):0≤atZ t p q∧atZ t p q≤2^24:=by
  have hm:=ht.mx
  have h1:=mul_range hp.1 hp.2 hn.1 hn.2
  have h2:=mul_range ht.mn.1 ht.mn.2 hq.1 hq.2
  have h3:=mul_range (a:=t.mx) (A:=4096) (by omega) (by omega) hq.1 hq.2
  unfold atZ
  split
  · omega
  · split<;>omega
theorem RightIt.nn {t:It}(h:RightIt t):0≤t.n∧t.n≤4096:=by have:=h.kind;omega
section
variable {n:Nat}(hn:n≤4096){o:Option AAddr}{c ver off:Nat}{b:ABlk}(hs:SlArg o n c 0 ver off 5)(hb:BareB b){it:Nat→It}(hel: ∀ j,j<n→b.elem? ver (off+j)=some (it j).val)(hit: ∀ j,RightIt (it j)){p q:Int}(hp:0≤p∧p≤4096)(hq:0≤q∧q≤1000)
include hn hs hb hel hit hp hq
theorem rall_loop: ∀ (f i:Nat),i+f=n →
    Loops Try.prog 1 31 (loopAt Try.prog 58 0) [(0,.slice o n c),(1,.int .i64 p),(2,.int .i64 q),(7,.int .i64 (sumTo (allZ it p q) i)),(8,.int .i64 i)] (AHeap.rows 6 [(0,b)]) (.exit 0) [(7,.int .i64 (sumTo (allZ it p q) n))] (AHeap.rows 7 [(0,b)])
  | 0,i,e=>by
    obtain rfl:i=n:=by omega
    refine(Loops.last (by simp) (rall_end o i c i b p q _ (by omega))).post ?_
    exact Ent.drop (by kernel_rfl) (by kernel_rfl) (by kernel_rfl) (by kernel_rfl) (by simp [All_cons,All_nil,Clo]) (by simp only [List.map,All_cons,All_nil,and_true];exact hb.clo _)
  | f + 1,i,e=>by
    have hi:i<n:=by omega
    have hc:Clo (Ids [0]) (.slice o n c):=hs.clo (by simp [Ids])
    have ar:=fun j=>atZ_range (hit j) hp hq (hit j).nn
    have az: ∀ j,0≤allZ it p q j∧allZ it p q j≤2^24:=fun j=>by unfold allZ;split;exact ar j;omega
    have s1:0≤sumTo (allZ it p q) i:=sumTo_ge0 fun j _=>(az j).1
    have s2:sumTo (allZ it p q) i≤i*2^24:=sumTo_up fun j _=>(az j).2
    have ih:=rall_loop f (i+1) (by omega)
    have dr: ∀ (K:Nat) (acc:Int) (hk: [(0,b)].map (fun p=>(AHeap.rows K [(0,b)]).get p.1)= [(0,b)].map (fun p=>some p.2)),
        Ent 1 31 [(0,.slice o n c),(1,.int .i64 p),(2,.int .i64 q),(7,.int .i64 acc),(8,.int .i64 (i+1:Nat))] (AHeap.rows K [(0,b)]) [(0,.slice o n c),(1,.int .i64 p),(2,.int .i64 q),(7,.int .i64 acc),(8,.int .i64 (i+1:Nat))] (AHeap.rows 6 [(0,b)]):=fun K acc hk =>
      Ent.drop hk (by kernel_rfl) (by kernel_rfl) (by kernel_rfl) (by simp only [List.map,All_cons,All_nil,and_true];exact⟨hc,by simp [Clo],by simp [Clo],by simp [Clo],by simp [Clo]⟩) (by simp only [List.map,All_cons,All_nil,and_true];exact hb.clo _)
    by_cases hk:(it i).k=3
    · have a1:=ar i
      have e1:sumTo (allZ it p q) (i+1)=sumTo (allZ it p q) i+atZ (it i) p q:=by simp only [sumTo,allZ];rw [if_pos hk]
      rw [e1]at ih
      exact Loops.step ((rall_F o n c ver off i b (it i).k (it i).n (it i).d (it i).mn (it i).mx p q _ _ (by omega) (ix_itS hs hi) (hel i hi) hk (ix_itS hs hi) (hel i hi) (rat_does (hit i) hp hq (hit i).nn _) (by omega) (by omega)).post (dr _ _ (by kernel_rfl))) ih
    · have e1:sumTo (allZ it p q) (i+1)=sumTo (allZ it p q) i:=by simp only [sumTo,allZ];rw [if_neg hk];simp
      rw [e1]at ih
      exact Loops.step ((rall_O o n c ver off i b (it i).k (it i).n (it i).d (it i).mn (it i).mx p q _ (by omega) (ix_itS hs hi) (hel i hi) hk (by omega)).post (dr _ _ (by kernel_rfl))) ih
end
theorem rall_does {H:AHeap}{o:Option AAddr}{n c id ver off:Nat}{b:ABlk}{it:Nat→It}(hi:ItemsAt H o n c id ver off b it)(hn:n≤4096)(hit: ∀ j,RightIt (it j)){p q:Int}(hp:0≤p∧p≤4096)(hq:0≤q∧q≤1000) :
    FDoes Try.prog 58 [.slice o n c,.int .i64 p,.int .i64 q] H (.int .i64 (sumTo (allZ it p q) n)) H:=by
  have s1:=hi.sl.at 0
  have l:=rall_loop hn s1 hi.bare hi.el hit hp hq n 0 (by omega)
  have hc:Clo (Ids [0]) (.slice (o.map fun a=> {a with id:=0}) n c):=s1.clo (by simp [Ids])
  have pre:Ent 1 31 [(0,.slice (o.map fun a=> {a with id:=0}) n c),(1,.int .i64 p),(2,.int .i64 q),(7,.int .i64 0),(8,.int .i64 (0:Nat))] (AHeap.rows 4 [(0,b)]) [(0,.slice (o.map fun a=> {a with id:=0}) n c),(1,.int .i64 p),(2,.int .i64 q),(7,.int .i64 0),(8,.int .i64 (0:Nat))] (AHeap.rows 6 [(0,b)]) :=
    Ent.drop (by kernel_rfl) (by kernel_rfl) (by kernel_rfl) (by kernel_rfl) (by simp only [List.map,All_cons,All_nil,and_true];exact⟨hc,by simp [Clo],by simp [Clo],by simp [Clo],by simp [Clo]⟩) (by simp only [List.map,All_cons,All_nil,and_true];exact hi.bare.clo _)
  have k:=(rall_call (o.map fun a=> {a with id:=0}) n c b p q _ (Runs.of_loops (Tri.pre l pre))).pure (by simp [hi.bare]) (by kernel_rfl) (Bare.int _ _) (by simp [Clos,Clo,s1.clo]) (H:=H) [id] (by simp) (by simp [hi.lt]) (by simp [hi.get])
  simpa [hi.sl.back (id':=0) (r:=toBig [id] H.next) rfl,AVal.ren]using k
end Go.Proofs.Ytgfkllnaeekjeaa
namespace Go.Proofs.Ytgfkllnaeekjeaa
open Go.Lift
set_option maxRecDepth 1000000
def hadF(σ:Nat→Nat):Nat→Nat→Bool
  | 0,_=>false
  | k+1,j=>if j=σ k then true else hadF σ k j
theorem hadF_iff {σ:Nat→Nat} {j:Nat} : ∀ {k:Nat},hadF σ k j=true↔ ∃ i,i<k∧σ i=j
  | 0=>by simp [hadF]
  | k + 1 =>by
    simp only [hadF]
    split
    · rename_i e;exact⟨fun _=>⟨k,by omega,e.symm⟩,fun _=>rfl⟩
    · rename_i e
      rw [hadF_iff (k:=k)]
      exact⟨fun⟨i,h1,h2⟩=>⟨i,by omega,h2⟩,fun⟨i,h1,h2⟩=>⟨i,by
        rcases Nat.lt_or_ge i k with c | c
        · exact c
        · obtain rfl:i=k:=by omega
          exact absurd h2.symm e,h2⟩⟩
def bestZ(had:Nat→Bool)(r:Nat→Int):Nat→Int
  | 0=> -1
  | i+1=>if had i=false∧(bestZ had r i<0∨r i>r (bestZ had r i).toNat)then(i:Int)else bestZ had r i
theorem best_spec (had:Nat→Bool) (r:Nat→Int): ∀ m,(bestZ had r m= -1∧ ∀ j,j<m→had j=true)∨(∃ p,p<m∧bestZ had r m=(p:Int)∧had p=false∧ ∀ j,j<m→had j=false→r j≤r p∧(r j=r p→p≤j))
  | 0=> .inl ⟨rfl,fun j hj=>by omega⟩
  | m + 1 =>by
    simp only [bestZ]
    rcases best_spec had r m with ⟨h1,h2⟩ | ⟨p,h1,h2,h3,h4⟩
    · cases hm:had m with
      | true =>
        left
        rw [if_neg (by simp)]
        refine⟨h1,fun j hj=> ?_⟩
        by_cases c:j=m
        · rw [c];exact hm
        · exact h2 j (by omega)
      | false =>
        right
        rw [if_pos ⟨rfl,.inl (by omega)⟩]
        refine⟨m,by omega,rfl,hm,fun j hj hf=> ?_⟩
        by_cases c:j=m
        · subst c;exact⟨Int.le_refl _,fun _=>Nat.le_refl _⟩
        · rw [h2 j (by omega)]at hf;cases hf
    · right
      have et:(bestZ had r m).toNat=p:=by rw [h2];simp
      rw [et]
      by_cases c:had m=false∧(bestZ had r m<0∨r m>r p)
      · rw [if_pos c]
        refine⟨m,by omega,rfl,c.1,fun j hj hf=> ?_⟩
        have hlt:r p<r m:=by
          rcases c.2 with h | h
          · omega
          · exact h
        by_cases e:j=m
        · subst e;exact⟨Int.le_refl _,fun _=>Nat.le_refl _⟩
        · have:=h4 j (by omega) hf;exact⟨by omega,fun _=>by omega⟩
      · rw [if_neg c]
        refine⟨p,by omega,h2,h3,fun j hj hf=> ?_⟩
        by_cases e:j=m
        · subst e
          have hle: ¬ r j>r p:=fun h=>c ⟨hf,.inr h⟩
          exact⟨by omega,fun _=>by omega⟩
        · exact h4 j (by omega) hf
theorem best_is {σ:Nat→Nat}{n:Nat}(h:Same (fun j=>j) σ 0 n){r:Nat→Int}(hs:Srt (restP r) σ 0 n){k:Nat}(hk:k<n):bestZ (hadF σ k) r n=(σ k:Int):=by
  have hlt:=same_lt h hk
  have nk:hadF σ k (σ k)=false:=by
    cases hh:hadF σ k (σ k)with
    | false=>rfl
    | true =>
      obtain⟨i,h1,h2⟩:=hadF_iff.1 hh
      exact absurd h2 (same_inj h i k h1 hk)
  rcases best_spec (hadF σ k) r n with ⟨_,h2⟩ | ⟨p,h1,h2,h3,h4⟩
  · rw [h2 _ hlt]at nk;cases nk
  · rw [h2]
    obtain⟨i,hi,e⟩:=same_onto h h1
    have hik:k≤i:=by
      rcases Nat.lt_or_ge i k with c | c
      · rw [hadF_iff.2 ⟨i,c,e⟩]at h3;cases h3
      · exact c
    by_cases c:i=k
    · rw [← e,c]
    · exfalso
      have h5:=h4 (σ k) hlt nk
      have h6:=hs k i (by omega) (by omega) hi
      unfold Lt at h6
      simp only [restP,decide_eq_true_eq,decide_eq_false_iff_not]at h6
      rw [e]at h6
      rcases h6 with h6 | ⟨h6,h7⟩
      · omega
      · have:=h5.2 (by omega);omega
def bls(n:Nat)(f:Nat→Bool):List AVal:=(List.range n).map fun j=> .bool (f j)
theorem bls_get {n:Nat}{f:Nat→Bool}{i:Nat}(h:i<n):(bls n f)[i]? =some (.bool (f i)):=by simp [bls,h]
theorem bls_bare(n:Nat)(f:Nat→Bool):BareB (.made (bls n f) 1 true):=by
  intro e he
  obtain⟨j,_,rfl⟩:=List.mem_map.1 (show e∈(List.range n).map fun j=>AVal.bool (f j)from he)
  exact Bare.bool _
theorem bls_set {n:Nat}{f:Nat→Bool}{i:Nat}{v:Bool} :(bls n f).set i (.bool v)=bls n (fun j=>if j=i then v else f j):=by
  apply List.ext_getElem (by simp [bls])
  intro j h1 h2
  rw [List.getElem_set]
  simp only [bls,List.getElem_map,List.getElem_range]
  by_cases e:i=j
  · subst e;simp
  · rw [if_neg e,if_neg (Ne.symm e)]
theorem bls_zero(n:Nat):List.replicate n (AVal.bool false)=bls n (fun _=>false):=by
  apply List.ext_getElem (by simp [bls])
  intro j h1 h2
  simp [bls]
theorem ix_boolN {o:Option AAddr}{n c id ver off:Nat}(h:SlArg o n c id ver off 1){k:IntKind}{i:Nat}(hi:i<n) :
    aindexAddr env.D 63 (.slice o n c) (.int k i)=some (.ptr (some ⟨id,ver,off+i,0,1⟩)):=by
  have:=h.index (D:=env.D) (t:=63) (e:=4) (d:=⟨.slice 4,1,24,some (.slice none 0 0)⟩) (xd:=⟨.bool,1,1,some (.bool false)⟩) (by kernel_rfl) rfl (by kernel_rfl) rfl (k:=k) (i:=(i:Int)) (by omega) (by omega)
  simpa using this
abbrev vRow(n:Nat)(y:Nat→Int)(v m f:Nat):ABlk:=⟨ints n y,1,false,false,v,m,f⟩
theorem vRow_bare(n:Nat)(y:Nat→Int)(v m f:Nat):BareB (vRow n y v m f):=fun e he=>ints_bare _ _ e he
theorem vRow_el {n:Nat}{y:Nat→Int}{v m f j:Nat}(h:j<n):(vRow n y v m f).elem? v j=some (.int .i64 (y j)):=by
  show(if j<(vRow n y v m f).lim v then(ints n y)[j]? else none)=_
  have:(vRow n y v m f).lim v=n:=by simp [ABlk.lim]
  rw [this,if_pos h,ints_get h]
section
variable {n:Nat}(hn:n≤4096){o:Option AAddr}{c ver off:Nat}{b:ABlk}(hs:SlArg o n c 1 ver off 1)(hb:BareB b){r:Nat→Int}(hel: ∀ j,j<n→b.elem? ver (off+j)=some (.int .i64 (r j))){v f0:Nat}
include hn hs hb hel
theorem gi_loop (had:Nat→Bool) (y:Nat→Int) (m:Nat) (left:Int): ∀ (f i:Nat),i+f=n →
    Loops Try.prog 2 54 (loopAt Try.prog 53 1) [(0,.slice (some ⟨0,v,0,0,1⟩) n n),(1,.slice o n c),(2,.int .i64 left),(7,.slice (some ⟨5,0,0,0,1⟩) n n),(8,.int .i64 (bestZ had r i)),(9,.int .i64 i)]
      (AHeap.rows 20 [(0,vRow n y v m f0),(1,b),(5,.made (bls n had) 1 true)]) (.exit 2)
      [(0,.slice (some ⟨0,v,0,0,1⟩) n n),(1,.slice o n c),(2,.int .i64 left),(7,.slice (some ⟨5,0,0,0,1⟩) n n),(8,.int .i64 (bestZ had r n))]
      (AHeap.rows 21 [(0,vRow n y v m f0),(1,b),(5,.made (bls n had) 1 true)])
  | 0,i,e=>by
    obtain rfl:i=n:=by omega
    have hc:Clo (Ids [0,1,5]) (.slice o i c):=hs.clo (by simp [Ids])
    refine(Loops.last (by simp) (gi_end o i c 0 0 i v m f0 0 b (ints i y) (bls i had) left _ 0 0 (by omega))).post ?_
    exact Ent.drop (by kernel_rfl) (by kernel_rfl) (by kernel_rfl) (by kernel_rfl) (by simp only [List.map,All_cons,All_nil,and_true];exact⟨by simp [Clo,Ids],hc,by simp [Clo],by simp [Clo,Ids],by simp [Clo]⟩) (by
      simp only [List.map,All_cons,All_nil,and_true]
      exact⟨fun e he=>(ints_bare _ _ e he).clo _,hb.clo _,(bls_bare _ _).clo _⟩)
  | f + 1,i,e=>by
    have hi:i<n:=by omega
    have hc:Clo (Ids [0,1,5]) (.slice o n c):=hs.clo (by simp [Ids])
    have ih:=gi_loop had y m left f (i+1) (by omega)
    have ixb:aindexAddr env.D 63 (.slice (some ⟨5,0,0,0,1⟩) n n) (.int .i64 (i:Int))=some (.ptr (some ⟨5,0,i,0,1⟩)):=by
      have:=ix_boolN (o:=some ⟨5,0,0,0,1⟩) (n:=n) (c:=n) (.inl rfl) (k:= .i64) hi
      rwa [Nat.zero_add]at this
    have eb:(ABlk.made (bls n had) 1 true).elem? 0 i=some (.bool (had i)):=elem_made (bls_get hi)
    have dr: ∀ (K:Nat) (best:Int) (hk: [(0,vRow n y v m f0),(1,b),(5,ABlk.made (bls n had) 1 true)].map (fun p=>(AHeap.rows K [(0,vRow n y v m f0),(1,b),(5,.made (bls n had) 1 true)]).get p.1)= [(0,vRow n y v m f0),(1,b),(5,ABlk.made (bls n had) 1 true)].map (fun p=>some p.2)),
        Ent 2 54 [(0,.slice (some ⟨0,v,0,0,1⟩) n n),(1,.slice o n c),(2,.int .i64 left),(7,.slice (some ⟨5,0,0,0,1⟩) n n),(8,.int .i64 best),(9,.int .i64 (i+1:Nat))] (AHeap.rows K [(0,vRow n y v m f0),(1,b),(5,.made (bls n had) 1 true)])
          [(0,.slice (some ⟨0,v,0,0,1⟩) n n),(1,.slice o n c),(2,.int .i64 left),(7,.slice (some ⟨5,0,0,0,1⟩) n n),(8,.int .i64 best),(9,.int .i64 (i+1:Nat))] (AHeap.rows 20 [(0,vRow n y v m f0),(1,b),(5,.made (bls n had) 1 true)]):=fun K best hk =>
      Ent.drop hk (by kernel_rfl) (by kernel_rfl) (by kernel_rfl) (by simp only [List.map,All_cons,All_nil,and_true];exact⟨by simp [Clo,Ids],hc,by simp [Clo],by simp [Clo,Ids],by simp [Clo],by simp [Clo]⟩) (by
        simp only [List.map,All_cons,All_nil,and_true]
        exact⟨fun e he=>(ints_bare _ _ e he).clo _,hb.clo _,(bls_bare _ _).clo _⟩)
    cases hh:had i with
    | true =>
      have e1:bestZ had r (i+1)=bestZ had r i:=by simp only [bestZ,hh];rw [if_neg (by simp)]
      rw [e1]at ih
      rw [hh]at eb
      exact Loops.step ((gi_had o n c ver off i v m f0 0 b (ints n y) (bls n had) left _ 0 0 (by omega) ixb eb (by omega)).post (dr _ _ (by kernel_rfl))) ih
    | false =>
      rw [hh]at eb
      rcases best_spec had r i with ⟨h1,h2⟩ | ⟨p,h1,h2,h3,h4⟩
      · have e1:bestZ had r (i+1)=(i:Int):=by simp only [bestZ,hh];rw [if_pos ⟨trivial,.inl (by omega)⟩]
        rw [e1]at ih
        exact Loops.step ((gi_first o n c ver off i v m f0 0 b (ints n y) (bls n had) left _ 0 0 (by omega) ixb eb (by omega) (by omega)).post (dr _ _ (by kernel_rfl))) ih
      · have et:(bestZ had r i).toNat=p:=by rw [h2];simp
        by_cases hg:r i>r p
        · have e1:bestZ had r (i+1)=(i:Int):=by simp only [bestZ,hh];rw [if_pos ⟨trivial,.inr (by rw [et];exact hg)⟩]
          rw [e1]at ih
          rw [h2]
          exact Loops.step ((gi_more o n c ver off i v m f0 p b (ints n y) (bls n had) left 0 (r i) (r p) (by omega) ixb eb (ix_intN hs hi) (hel i hi) (ix_intN hs (by omega)) (hel p (by omega)) hg (by omega)).post (dr _ _ (by kernel_rfl))) ih
        · have e1:bestZ had r (i+1)=(p:Int):=by simp only [bestZ,hh];rw [if_neg (by rw [et,h2];rintro ⟨_,h | h⟩<;>omega),h2]
          rw [e1]at ih
          rw [h2]
          exact Loops.step ((gi_not o n c ver off i v m f0 p b (ints n y) (bls n had) left 0 (r i) (r p) (by omega) ixb eb (ix_intN hs hi) (hel i hi) (ix_intN hs (by omega)) (hel p (by omega)) hg (by omega)).post (dr _ _ (by kernel_rfl))) ih
theorem go_loop {σ:Nat→Nat} (hσ:Same (fun j=>j) σ 0 n) (hsr:Srt (restP r) σ 0 n) {K:Nat} (hK:K≤n) (y:Nat→Int) (hy: ∀ j,j<n→ -(2^60)≤y j∧y j≤2^60) (m:Nat): ∀ (f k:Nat),k+f=K →
    Loops Try.prog 2 54 (loopAt Try.prog 53 0) [(0,.slice (some ⟨0,v,0,0,1⟩) n n),(1,.slice o n c),(2,.int .i64 ((K:Int)-k)),(7,.slice (some ⟨5,0,0,0,1⟩) n n)]
      (AHeap.rows 15 [(0,vRow n (topP y σ k) v (if k=0 then m else v) f0),(1,b),(5,.made (bls n (hadF σ k)) 1 true)]) (.exit 0)
      [(0,.slice (some ⟨0,v,0,0,1⟩) n n)] (AHeap.rows 16 [(0,vRow n (topP y σ K) v (if K=0 then m else v) f0),(1,b),(5,.made (bls n (hadF σ K)) 1 true)])
  | 0,k,e=>by
    obtain rfl:k=K:=by omega
    refine(Loops.last (by simp) (go_end o n c v (if k=0 then m else v) f0 0 b (ints n (topP y σ k)) (bls n (hadF σ k)) _ 0 false (by omega))).post ?_
    exact Ent.drop (by kernel_rfl) (by kernel_rfl) (by kernel_rfl) (by kernel_rfl) (by simp [All_cons,All_nil,Clo];simp [Ids]) (by
      simp only [List.map,All_cons,All_nil,and_true]
      exact⟨fun e he=>(ints_bare _ _ e he).clo _,hb.clo _,(bls_bare _ _).clo _⟩)
  | f + 1,k,e=>by
    have hk:k<n:=by omega
    have hc:Clo (Ids [0,1,5]) (.slice o n c):=hs.clo (by simp [Ids])
    have ih:=go_loop hσ hsr hK y hy m f (k+1) (by omega)
    rw [if_neg (show ¬ k+1=0 by omega)]at ih
    have hp:=same_lt hσ hk
    have l1:=gi_loop hn hs hb hel (v:=v) (f0:=f0) (hadF σ k) (topP y σ k) (if k=0 then m else v) ((K:Int)-k) n 0 (by omega)
    rw [best_is hσ hsr hk]at l1
    have pre:Ent 2 54 [(0,.slice (some ⟨0,v,0,0,1⟩) n n),(1,.slice o n c),(2,.int .i64 ((K:Int)-k)),(7,.slice (some ⟨5,0,0,0,1⟩) n n),(8,.int .i64 (-1)),(9,.int .i64 (0:Nat))] (AHeap.rows 19 [(0,vRow n (topP y σ k) v (if k=0 then m else v) f0),(1,b),(5,.made (bls n (hadF σ k)) 1 true)])
        [(0,.slice (some ⟨0,v,0,0,1⟩) n n),(1,.slice o n c),(2,.int .i64 ((K:Int)-k)),(7,.slice (some ⟨5,0,0,0,1⟩) n n),(8,.int .i64 (-1)),(9,.int .i64 (0:Nat))] (AHeap.rows 20 [(0,vRow n (topP y σ k) v (if k=0 then m else v) f0),(1,b),(5,.made (bls n (hadF σ k)) 1 true)]) :=
      Ent.drop (by kernel_rfl) (by kernel_rfl) (by kernel_rfl) (by kernel_rfl) (by simp only [List.map,All_cons,All_nil,and_true];exact⟨by simp [Clo,Ids],hc,by simp [Clo],by simp [Clo,Ids],by simp [Clo],by simp [Clo]⟩) (by
        simp only [List.map,All_cons,All_nil,and_true]
        exact⟨fun e he=>(ints_bare _ _ e he).clo _,hb.clo _,(bls_bare _ _).clo _⟩)
    have tle:y (σ k)≤topP y σ k (σ k)∧topP y σ k (σ k)≤y (σ k)+k:=by
      rw [← topF_topP];exact topF_le y σ (σ k) k
    have hyk:=hy (σ k) hp
    have ixb:aindexAddr env.D 63 (.slice (some ⟨5,0,0,0,1⟩) n n) (.int .i64 (σ k:Int))=some (.ptr (some ⟨5,0,σ k,0,1⟩)):=by
      have:=ix_boolN (o:=some ⟨5,0,0,0,1⟩) (n:=n) (c:=n) (.inl rfl) (k:= .i64) hp
      rwa [Nat.zero_add]at this
    have ixs:aindexAddr env.D 27 (.slice (some ⟨0,v,0,0,1⟩) n n) (.int .i64 (σ k:Int))=some (.ptr (some ⟨0,v,σ k,0,1⟩)):=by
      have:=ix_intN (o:=some ⟨0,v,0,0,1⟩) (n:=n) (c:=n) (.inl rfl) (k:= .i64) hp
      rwa [Nat.zero_add]at this
    have s:=go_step o n c v (if k=0 then m else v) f0 (σ k) b (ints n (topP y σ k)) (bls n (hadF σ k)) ((K:Int)-k) (topP y σ k (σ k)) (hadF σ k (σ k)) (by omega) (Runs.of_loops (Tri.pre l1 pre)) ixb ⟨rfl,bls_get hp⟩ ixs (vRow_el hp) (by omega) ixs ⟨rfl,ints_get hp⟩ (by omega)
    have e1:(ints n (topP y σ k)).set (σ k) (.int .i64 (topP y σ k (σ k)+1))=ints n (topP y σ (k+1)):=by
      rw [ints_set]
      refine ints_congr fun j hj=> ?_
      simp only [topP]
      by_cases c:j=σ k
      · rw [if_pos c,if_pos c,c]
      · rw [if_neg c,if_neg c]
    have e2:(bls n (hadF σ k)).set (σ k) (.bool true)=bls n (hadF σ (k+1)):=by rw [bls_set];rfl
    rw [e1,e2]at s
    rw [show(K:Int)- (k+1:Nat)=(K:Int)-k-1 by omega]at ih
    refine Loops.step (s.post ?_) ih
    exact Ent.drop (by kernel_rfl) (by kernel_rfl) (by kernel_rfl) (by kernel_rfl) (by simp only [List.map,All_cons,All_nil,and_true];exact⟨by simp [Clo,Ids],hc,by simp [Clo],by simp [Clo,Ids]⟩) (by
      simp only [List.map,All_cons,All_nil,and_true]
      exact⟨fun e he=>(ints_bare _ _ e he).clo _,hb.clo _,(bls_bare _ _).clo _⟩)
theorem given_does {σ:Nat→Nat}(hσ:Same (fun j=>j) σ 0 n)(hsr:Srt (restP r) σ 0 n){K:Nat}(hK:K≤n)(y:Nat→Int)(hy: ∀ j,j<n→ -(2^60)≤y j∧y j≤2^60)(m:Nat) :
    FDoes Try.prog 53 [.slice (some ⟨0,v,0,0,1⟩) n n,.slice o n c,.int .i64 K] (AHeap.of [vRow n y v m f0,b]) (.slice (some ⟨0,v,0,0,1⟩) n n) (AHeap.of [vRow n (topP y σ K) v (if K=0 then m else v) f0,b]):=by
  have l:=go_loop hn hs hb hel (v:=v) (f0:=f0) hσ hsr hK y hy m K 0 (by omega)
  have hc:Clo (Ids [0,1,5]) (.slice o n c):=hs.clo (by simp [Ids])
  rw [show bls n (hadF σ 0)=List.replicate n (.bool false)by rw [bls_zero];rfl,show(K:Int)- (0:Nat)=K by omega,if_pos rfl]at l
  have pre:Ent 2 54 [(0,.slice (some ⟨0,v,0,0,1⟩) n n),(1,.slice o n c),(2,.int .i64 K),(7,.slice (some ⟨5,0,0,0,1⟩) n n)] (AHeap.rows 7 [(0,vRow n (topP y σ 0) v m f0),(1,b),(5,.made (List.replicate n (.bool false)) 1 true)])
      [(0,.slice (some ⟨0,v,0,0,1⟩) n n),(1,.slice o n c),(2,.int .i64 K),(7,.slice (some ⟨5,0,0,0,1⟩) n n)] (AHeap.rows 15 [(0,vRow n (topP y σ 0) v m f0),(1,b),(5,.made (List.replicate n (.bool false)) 1 true)]) :=
    Ent.drop (by kernel_rfl) (by kernel_rfl) (by kernel_rfl) (by kernel_rfl) (by simp only [List.map,All_cons,All_nil,and_true];exact⟨by simp [Clo,Ids],hc,by simp [Clo],by simp [Clo,Ids]⟩) (by
      simp only [List.map,All_cons,All_nil,and_true]
      exact⟨fun e he=>(ints_bare _ _ e he).clo _,hb.clo _,by rw [bls_zero];exact(bls_bare _ _).clo _⟩)
  have k:=given_call o n c v m f0 (if K=0 then m else v) b (ints n y) (ints n (topP y σ K)) (bls n (hadF σ K)) (K:Int) (by omega) (Runs.of_loops (Tri.pre l pre))
  exact k.fin [] [vRow n (topP y σ K) v (if K=0 then m else v) f0,b] (.slice (some ⟨0,v,0,0,1⟩) n n) (by simp;exact⟨vRow_bare _ _ _ _ _,hb⟩) rfl (by kernel_rfl) rfl (by simp [Clo]) rfl (by simp)
end
end Go.Proofs.Ytgfkllnaeekjeaa
namespace Go.Proofs.Ytgfkllnaeekjeaa
open Go.Lift
set_option maxRecDepth 1000000
theorem app_row {f:Nat→Int}{v id:Nat}(hv:v≤2^40)(x:Int)(hx1:f (1+v)=x)(t K:Nat)(hp:AHeap)(hg:hp.get id=some (gRow f 1 v))(hx:elemsOf 1 (.slice (some ⟨t,0,0,0,1⟩) 1 1) hp=some [.int .i64 x]) :
    abuiltin env .append #[27,27] [.slice (some ⟨id,v,0,0,1⟩) (1+v) (1+v),.slice (some ⟨t,0,0,0,1⟩) 1 1] K hp=some (.slice (some ⟨id,v+1,0,0,1⟩) (1+v+1) (1+v+1),hp.set id (gRow f 1 (v+1))):=by
  refine(app_grow slInt hx (by simp) (b:=gRow f 1 v) (by simp;omega) (by simp;omega) hg rfl (by simp) rfl rfl rfl (by simp [gRow])).trans ?_
  rw [← hx1,← gRow_grow];rfl
theorem app_row1 {f:Nat→Int}{id:Nat}(x:Int)(hx1:f 0=x)(t:Nat)(hp:AHeap)(hx:elemsOf 1 (.slice (some ⟨t,0,0,0,1⟩) 1 1) hp=some [.int .i64 x]) :
    abuiltin env .append #[27,27] [.slice none 0 0,.slice (some ⟨t,0,0,0,1⟩) 1 1] id hp=some (.slice (some ⟨id,0,0,0,1⟩) 1 1,hp.set id (gRow f 1 0)):=by
  refine(app_new slInt hx (by simp) (by simp) (by simp)).trans ?_
  rw [← gRow_zero,show ints 1 f= [.int .i64 x]by simp [ints,hx1]];rfl
theorem gRow_vRow(f:Nat→Int){n:Nat}(h:1≤n):gRow f 1 (n-1)=vRow n f (n-1) 0 (if n-1=0 then 0 else 1):=by
  unfold gRow vRow
  rw [show 1+(n-1)=n by omega]
section
variable {n:Nat}(hn:n≤4096){o:Option AAddr}{c ver off:Nat}{b:ABlk}(hs:SlArg o n c 0 ver off 1)(hb:BareB b){w:Nat→Int}(hel: ∀ j,j<n→b.elem? ver (off+j)=some (.int .i64 (w j))){t:Int}(ht:0≤t∧t≤2^36)(hw: ∀ j,j<n→0≤w j∧w j≤2^25)
include hn hs hb hel ht hw
theorem sh0_loop (hsum:sumTo w n=0): ∀ (f v:Nat),1+v+f=n →
    Loops Try.prog 1 54 (loopAt Try.prog 36 0) [(0,.int .i64 t),(1,.slice o n c),(5,.int .i64 (sumTo w n)),(6,.slice (some ⟨60,v,0,0,1⟩) (1+v) (1+v)),(7,.slice none 0 0),(8,.int .i64 (1+v:Nat))] (AHeap.rows 80 [(0,b),(60,gRow (fun _=>0) 1 v)]) (.exit 0)
      [(0,.int .i64 t),(5,.int .i64 (sumTo w n)),(6,.slice (some ⟨60,n-1,0,0,1⟩) n n),(7,.slice none 0 0)] (AHeap.rows 81 [(0,b),(60,gRow (fun _=>0) 1 (n-1)),(72,noRow0)])
  | 0,v,e=>by
    obtain rfl:n=1+v:=by omega
    rw [show 1+v-1=v by omega]
    have hc:Clo (Ids [0,60,72]) (.slice o (1+v) c):=hs.clo (by simp [Ids])
    have hc':Clo (Ids [0,60]) (.slice o (1+v) c):=hs.clo (by simp [Ids])
    have d62:Ent 1 54 [(0,.int .i64 t),(1,.slice o (1+v) c),(5,.int .i64 (sumTo w (1+v))),(6,.slice (some ⟨60,v,0,0,1⟩) (1+v) (1+v)),(7,.slice none 0 0),(8,.int .i64 (1+v:Nat))] (AHeap.rows 80 [(0,b),(60,gRow (fun _=>0) 1 v)])
        [(0,.int .i64 t),(1,.slice o (1+v) c),(5,.int .i64 (sumTo w (1+v))),(6,.slice (some ⟨60,v,0,0,1⟩) (1+v) (1+v)),(7,.slice none 0 0),(8,.int .i64 (1+v:Nat))] (AHeap.rows 62 [(0,b),(60,gRow (fun _=>0) 1 v)]) :=
      Ent.drop (by kernel_rfl) (by kernel_rfl) (by kernel_rfl) (by kernel_rfl) (by simp only [List.map,All_cons,All_nil,and_true];exact⟨by simp [Clo],hc',by simp [Clo],by simp [Clo,Ids],by simp [Clo],by simp [Clo]⟩) (by
        simp only [List.map,All_cons,All_nil,and_true]
        exact⟨hb.clo _,(gRow_bare _ _ _).clo _⟩)
    refine Tri.pre ((Loops.last (by simp) (shp_end o (1+v) c (1+v) b (gRow (fun _=>0) 1 v) noRow0 t _ _ _ (by omega))).post ?_) (d62.trans (Ent.more (l2:= [(72,noRow0)]) (by kernel_rfl) (by kernel_rfl)))
    exact Ent.drop (by kernel_rfl) (by kernel_rfl) (by kernel_rfl) (by kernel_rfl) (by simp [All_cons,All_nil,Clo];simp [Ids]) (by
      simp only [List.map,All_cons,All_nil,and_true]
      exact⟨hb.clo _,(gRow_bare _ _ _).clo _,noRow0_bare.clo _⟩)
  | f +1,v,e=>by
    have hi:1+v<n:=by omega
    have hc:Clo (Ids [0,60]) (.slice o n c):=hs.clo (by simp [Ids])
    have ih:=sh0_loop hsum f (v+1) (by omega)
    rw [show 1+(v+1)=1+v+1 by omega]at ih
    refine Loops.step ((sh0_grow o n c ver off (1+v) v (1+v) b _ (gRow (fun _=>0) 1 (v+1)) noRow0 noRow0 t _ 0 (by omega) hsum ((app_row (f:=fun _=>0) (by omega) 0 rfl _ _ _ (by kernel_rfl) (by kernel_rfl)).trans (by kernel_rfl)) (by omega)).post ?_) ih
    exact Ent.drop (by kernel_rfl) (by kernel_rfl) (by kernel_rfl) (by kernel_rfl) (by simp only [List.map,All_cons,All_nil,and_true];exact⟨by simp [Clo],hc,by simp [Clo],by simp [Clo,Ids],by simp [Clo],by simp [Clo]⟩) (by
      simp only [List.map,All_cons,All_nil,and_true]
      exact⟨hb.clo _,(gRow_bare _ _ _).clo _⟩)
theorem sh_tw2(ha:0<sumTo w n){j:Nat}(hj:j<n):0≤t*w j∧t*w j≤2^61∧Int.tdiv (t*w j) (sumTo w n)=shareQ t w n j∧Int.tmod (t*w j) (sumTo w n)=shareR t w n j∧0≤shareQ t w n j∧shareQ t w n j≤t*w j:=by
  have h1:=sh_tw (by omega) ht hw hj
  exact⟨h1.1,h1.2,Int.tdiv_eq_ediv_of_nonneg h1.1,Int.tmod_eq_emod_of_nonneg h1.1,Int.ediv_nonneg h1.1 (by omega),Int.ediv_le_self _ h1.1⟩
theorem shp_loop(ha:0<sumTo w n): ∀ (f v:Nat),1+v+f=n →
    Loops Try.prog 1 54 (loopAt Try.prog 36 0) [(0,.int .i64 t),(1,.slice o n c),(5,.int .i64 (sumTo w n)),(6,.slice (some ⟨60,v,0,0,1⟩) (1+v) (1+v)),(7,.slice (some ⟨72,v,0,0,1⟩) (1+v) (1+v)),(8,.int .i64 (1+v:Nat))] (AHeap.rows 80 [(0,b),(60,gRow (shareQ t w n) 1 v),(72,gRow (shareR t w n) 1 v)]) (.exit 0)
      [(0,.int .i64 t),(5,.int .i64 (sumTo w n)),(6,.slice (some ⟨60,n-1,0,0,1⟩) n n),(7,.slice (some ⟨72,n-1,0,0,1⟩) n n)] (AHeap.rows 81 [(0,b),(60,gRow (shareQ t w n) 1 (n-1)),(72,gRow (shareR t w n) 1 (n-1))])
  | 0,v,e=>by
    obtain rfl:n=1+v:=by omega
    rw [show 1+v-1=v by omega]
    refine(Loops.last (by simp) (shp_end o (1+v) c (1+v) b (gRow (shareQ t w (1+v)) 1 v) (gRow (shareR t w (1+v)) 1 v) t _ _ _ (by omega))).post ?_
    exact Ent.drop (by kernel_rfl) (by kernel_rfl) (by kernel_rfl) (by kernel_rfl) (by simp [All_cons,All_nil,Clo];simp [Ids]) (by
      simp only [List.map,All_cons,All_nil,and_true]
      exact⟨hb.clo _,(gRow_bare _ _ _).clo _,(gRow_bare _ _ _).clo _⟩)
  | f +1,v,e=>by
    have hi:1+v<n:=by omega
    have hc:Clo (Ids [0,60,72]) (.slice o n c):=hs.clo (by simp [Ids])
    have ih:=shp_loop ha f (v+1) (by omega)
    rw [show 1+(v+1)=1+v+1 by omega]at ih
    obtain⟨a1,a2,a3,a4,a5,a6⟩:=sh_tw2 hn hs hb hel ht hw ha hi
    refine Loops.step ((shp_grow o n c ver off (1+v) v (1+v) b _ (gRow (shareQ t w n) 1 (v+1)) _ (gRow (shareR t w n) 1 (v+1)) t _ (w (1+v)) (by omega) (by omega) (ix_intN hs hi) (hel _ hi) (by omega) ⟨by omega,by rw [a3];omega⟩
      ((app_row (f:=shareQ t w n) (by omega) _ a3.symm _ _ _ (by kernel_rfl) (by kernel_rfl)).trans (by kernel_rfl)) (ix_intN hs hi) (hel _ hi) (by omega) (by omega) ((app_row (f:=shareR t w n) (by omega) _ a4.symm _ _ _ (by kernel_rfl) (by kernel_rfl)).trans (by kernel_rfl)) (by omega)).post ?_) ih
    exact Ent.drop (by kernel_rfl) (by kernel_rfl) (by kernel_rfl) (by kernel_rfl) (by simp only [List.map,All_cons,All_nil,and_true];exact⟨by simp [Clo],hc,by simp [Clo],by simp [Clo,Ids],by simp [Clo,Ids],by simp [Clo]⟩) (by
      simp only [List.map,All_cons,All_nil,and_true]
      exact⟨hb.clo _,(gRow_bare _ _ _).clo _,(gRow_bare _ _ _).clo _⟩)
theorem sh_ent(K K2:Nat)(s:Int)(hk: [(0,b)].map (fun p=>(AHeap.rows K [(0,b)]).get p.1)= [(0,b)].map (fun p=>some p.2))(hK2:Nat.blt 0 K2=true) :
    Ent 1 54 [(0,.int .i64 t),(1,.slice o n c),(5,.int .i64 s),(6,.slice none 0 0),(7,.slice none 0 0),(8,.int .i64 (0:Nat))] (AHeap.rows K [(0,b)]) [(0,.int .i64 t),(1,.slice o n c),(5,.int .i64 s),(6,.slice none 0 0),(7,.slice none 0 0),(8,.int .i64 (0:Nat))] (AHeap.rows K2 [(0,b)]):=by
  have hc:Clo (Ids [0]) (.slice o n c):=hs.clo (by simp [Ids])
  exact Ent.drop hk (by simp only [List.all,hK2,Bool.and_true]) (by kernel_rfl) (by kernel_rfl) (by simp only [List.map,All_cons,All_nil,and_true];exact⟨by simp [Clo],hc,by simp [Clo],by simp [Clo],by simp [Clo],by simp [Clo]⟩) (by simp only [List.map,All_cons,All_nil,and_true];exact hb.clo _)
theorem shared_small(h1:1≤n){z:Nat→Int}(hz:ShareZ n t w z): ∃ m f h',h'.get 0=some b∧h'.get 60=some (vRow n z (n-1) m f) ∧
    FDoes Try.prog 36 [.int .i64 t,.slice o n c] (AHeap.of [b]) (.slice (some ⟨60,n-1,0,0,1⟩) n n) h':=by
  have hsm:=sum_fit (by omega) ht hw
  have tot:=rtot_does (H:=AHeap.rows 5 [(0,b)]) ⟨hs,by kernel_rfl,by rw [AHeap.rows_next];omega,hb,hel⟩ hsm (by omega)
  rcases hz with ⟨h0,hz0⟩ | ⟨ha,k,hk,hkn,tp⟩
  ·
    have ih:=sh0_loop hn hs hb hel ht hw h0 (n-1) 0 (by omega)
    have hc:Clo (Ids [0,60]) (.slice o n c):=hs.clo (by simp [Ids])
    have first:=sh0_new o n c ver off 0 0 0 b noRow0 (gRow (fun _=>0) 1 0) noRow0 noRow0 t (sumTo w n) 0 (by omega) h0 ((app_row1 (f:=fun _=>0) 0 rfl _ _ (by kernel_rfl)).trans (by kernel_rfl)) (by omega)
    have fin:Ent 1 54 [(0,.int .i64 t),(1,.slice o n c),(5,.int .i64 (sumTo w n)),(6,.slice (some ⟨60,0,0,0,1⟩) 1 1),(7,.slice none 0 0),(8,.int .i64 (((0:Nat):Int)+1))] (AHeap.rows 65 [(0,b),(59,.made [.int .i64 0] 1 true),(60,gRow (fun _=>0) 1 0)])
        [(0,.int .i64 t),(1,.slice o n c),(5,.int .i64 (sumTo w n)),(6,.slice (some ⟨60,0,0,0,1⟩) (1+0) (1+0)),(7,.slice none 0 0),(8,.int .i64 (1+0:Nat))] (AHeap.rows 80 [(0,b),(60,gRow (fun _=>0) 1 0)]) :=
      Ent.drop (by kernel_rfl) (by kernel_rfl) (by kernel_rfl) (by kernel_rfl) (by simp only [List.map,All_cons,All_nil,and_true];exact⟨by simp [Clo],hc,by simp [Clo],by simp [Clo,Ids],by simp [Clo],by simp [Clo]⟩) (by
        simp only [List.map,All_cons,All_nil,and_true]
        exact⟨hb.clo _,(gRow_bare _ _ _).clo _⟩)
    have l:=Tri.pre (Loops.step (first.post fin) ih) (sh_ent hn hs hb hel ht hw 8 52 (sumTo w n) (by kernel_rfl) (by kernel_rfl))
    have e:vRow n z (n-1) 0 (if n-1=0 then 0 else 1)=gRow (fun _=>0) 1 (n-1):=by
      rw [gRow_vRow _ h1];unfold vRow;rw [ints_congr fun j _=>hz0 j]
    exact⟨0,if n-1=0 then 0 else 1,_,by kernel_rfl,by rw [e];kernel_rfl,shared_zero o (some ⟨60,n-1,0,0,1⟩) none n c n 0 b _ noRow0 noRow0 t (sumTo w n) 0 _ tot (Runs.of_loops l) h0⟩
  · obtain⟨σ,s1,s2,s3⟩:=tp.ord
    have ih:=shp_loop hn hs hb hel ht hw ha (n-1) 0 (by omega)
    have hc:Clo (Ids [0,60,72]) (.slice o n c):=hs.clo (by simp [Ids])
    obtain⟨a1,a2,a3,a4,a5,a6⟩:=sh_tw2 hn hs hb hel ht hw ha (show 0<n by omega)
    have first:=shp_new o n c ver off 0 0 0 b noRow0 (gRow (shareQ t w n) 1 0) noRow0 (gRow (shareR t w n) 1 0) t (sumTo w n) (w 0) (by omega) (by omega) (ix_intN hs (by omega)) (hel 0 (by omega)) (by omega) ⟨by omega,by rw [a3];omega⟩
      ((app_row1 (f:=shareQ t w n) _ a3.symm _ _ (by kernel_rfl)).trans (by kernel_rfl)) (ix_intN hs (by omega)) (hel 0 (by omega)) (by omega) (by omega) ((app_row1 (f:=shareR t w n) _ a4.symm _ _ (by kernel_rfl)).trans (by kernel_rfl)) (by omega)
    have fin: ∀ (K:Nat) (x y:ABlk) (hk: [(0,b),(60,gRow (shareQ t w n) 1 0),(72,gRow (shareR t w n) 1 0)].map (fun p=>(AHeap.rows K [(0,b),(59,x),(60,gRow (shareQ t w n) 1 0),(71,y),(72,gRow (shareR t w n) 1 0)]).get p.1)= [(0,b),(60,gRow (shareQ t w n) 1 0),(72,gRow (shareR t w n) 1 0)].map (fun p=>some p.2)),
        Ent 1 54 [(0,.int .i64 t),(1,.slice o n c),(5,.int .i64 (sumTo w n)),(6,.slice (some ⟨60,0,0,0,1⟩) 1 1),(7,.slice (some ⟨72,0,0,0,1⟩) 1 1),(8,.int .i64 (((0:Nat):Int)+1))] (AHeap.rows K [(0,b),(59,x),(60,gRow (shareQ t w n) 1 0),(71,y),(72,gRow (shareR t w n) 1 0)])
        [(0,.int .i64 t),(1,.slice o n c),(5,.int .i64 (sumTo w n)),(6,.slice (some ⟨60,0,0,0,1⟩) (1+0) (1+0)),(7,.slice (some ⟨72,0,0,0,1⟩) (1+0) (1+0)),(8,.int .i64 (1+0:Nat))] (AHeap.rows 80 [(0,b),(60,gRow (shareQ t w n) 1 0),(72,gRow (shareR t w n) 1 0)]):=fun K x y hk =>
      Ent.drop hk (by kernel_rfl) (by kernel_rfl) (by kernel_rfl) (by simp only [List.map,All_cons,All_nil,and_true];exact⟨by simp [Clo],hc,by simp [Clo],by simp [Clo,Ids],by simp [Clo,Ids],by simp [Clo]⟩) (by
        simp only [List.map,All_cons,All_nil,and_true]
        exact⟨hb.clo _,(gRow_bare _ _ _).clo _,(gRow_bare _ _ _).clo _⟩)
    have l:=Tri.pre (Loops.step (first.post (fin _ _ _ (by kernel_rfl))) ih) (sh_ent hn hs hb hel ht hw 8 44 (sumTo w n) (by kernel_rfl) (by kernel_rfl))
    have qb: ∀ j,j<n→0≤shareQ t w n j∧shareQ t w n j≤2^61:=fun j hj=>by
      obtain⟨b1,b2,_,_,b5,b6⟩:=sh_tw2 hn hs hb hel ht hw ha hj
      exact⟨b5,by omega⟩
    obtain⟨k1,k2⟩:=share_left (t:=t) ha
    have mono: ∀ m,m≤n→sumTo (shareQ t w n) (n-m)≤sumTo (shareQ t w n) n:=by
      intro m
      induction m with
      | zero=>intro _;simp
      | succ m ihm =>
        intro hm
        have:=ihm (by omega)
        have h3:=(qb (n- (m+1)) (by omega)).1
        have e:sumTo (shareQ t w n) (n-m)=sumTo (shareQ t w n) (n- (m+1))+shareQ t w n (n- (m+1)):=by
          rw [show n-m=n- (m+1)+1 by omega];rfl
        omega
    have qs: ∀ j,j≤n→Fit64 (sumTo (shareQ t w n) j):=by
      intro j hj
      have h1:0≤sumTo (shareQ t w n) j:=sumTo_ge0 fun i hi=>(qb i (by omega)).1
      have h2:=mono (n-j) (by omega)
      rw [show n- (n-j)=j by omega]at h2
      unfold Fit64;omega
    have qle: ∀ j,j<n→shareQ t w n j≤t:=fun j hj=>by
      have h1:=sumTo_le_one (fun i hi=>(qb i hi).1) j hj
      omega
    have eg: ∀ (f:Nat→Int) (j:Nat),j<n→(gRow f 1 (n-1)).elem? (n-1) (0+j)=some (.int .i64 (f j)):=fun f j hj=>gRow_el (by omega)
    have tot2:=rtot_does (H:=AHeap.rows 91 [(0,b),(60,gRow (shareQ t w n) 1 (n-1)),(72,gRow (shareR t w n) 1 (n-1))]) (o:=some ⟨60,n-1,0,0,1⟩) (n:=n) (c:=n) ⟨.inl rfl,by kernel_rfl,by rw [AHeap.rows_next];omega,gRow_bare _ _ _,eg _⟩ qs (by omega)
    have gv:=given_does hn (o:=some ⟨1,n-1,0,0,1⟩) (c:=n) (.inl rfl) (gRow_bare (shareR t w n) 1 (n-1)) (eg (shareR t w n)) (v:=n-1) (f0:=if n-1=0 then 0 else 1) s1 s2 hkn (shareQ t w n) (fun j hj=>by have:=qb j hj;have:=qle j hj;omega) 0
    rw [← gRow_vRow _ h1]at gv
    have u:=gv.upW (by simp;exact⟨gRow_bare _ _ _,gRow_bare _ _ _⟩) (by simp;exact⟨vRow_bare _ _ _ _ _,gRow_bare _ _ _⟩) (by simp) (by simp [Clos,Clo]) (H:=AHeap.rows 91 [(0,b),(60,gRow (shareQ t w n) 1 (n-1)),(72,gRow (shareR t w n) 1 (n-1))]) [60,72] (by simp) (by rw [AHeap.rows_next];simp) (by kernel_rfl)
    rw [hk]at u
    rw [← s3]at u
    exact⟨if k=0 then 0 else n-1,if n-1=0 then 0 else 1,_,by kernel_rfl,by kernel_rfl,shared_given o (some ⟨60,n-1,0,0,1⟩) (some ⟨72,n-1,0,0,1⟩) n c n n b (gRow (shareQ t w n) 1 (n-1)) (vRow n z (n-1) (if k=0 then 0 else n-1) (if n-1=0 then 0 else 1)) (gRow (shareR t w n) 1 (n-1)) t (sumTo w n) _ (.bool false) tot (Runs.of_loops l) (by omega) tot2 (by omega) (u.to (by kernel_rfl))⟩
end
theorem shared_does {H:AHeap}{o:Option AAddr}{n c id ver off:Nat}{b:ABlk}{w:Nat→Int}(hi:IntsAt H o n c id ver off b w)(h1:1≤n)(hn:n≤4096){t:Int}(ht:0≤t∧t≤2^36)(hw: ∀ j,j<n→0≤w j∧w j≤2^25){z:Nat→Int}(hz:ShareZ n t w z) :
    ∃ m f,FDoes Try.prog 36 [.int .i64 t,.slice o n c] H (.slice (some ⟨H.next,n-1,0,0,1⟩) n n) (H.upd [] [vRow n z (n-1) m f]):=by
  have s0:=hi.sl.at 0
  obtain⟨m,f,h',g0,g60,k⟩:=shared_small hn s0 hi.bare hi.el ht hw h1 hz
  refine⟨m,f,?_⟩
  have:=k.new1 (bn:=vRow n z (n-1) m f) (by simp [hi.bare]) (vRow_bare _ _ _ _ _) (by simp [List.range_succ,g0]) g60 (by simp) (by simp [Clos,Clo,s0.clo]) (H:=H) [id] (by simp) (by simp [hi.lt]) (by simp [hi.get])
  simpa [hi.sl.back (id':=0) (r:=toBig [id] H.next) rfl,AVal.ren]using this
end Go.Proofs.Ytgfkllnaeekjeaa
namespace Go.Proofs.Ytgfkllnaeekjeaa
open Go.Lift
set_option maxRecDepth 1000000
noncomputable abbrev zq74_1(o:Option AAddr)(N:Nat)(c:Nat)(i:Nat)(ver:Nat)(off:Nat):Prop:=aindexAddr env.D 26 (.slice o N c) (zqI (i:Int))=some (.ptr (some ⟨0,ver,off+i,0,5⟩))
noncomputable abbrev zq74_5(b:ABlk)(ver:Nat)(off:Nat)(i:Nat)(k:Int)(n:Int)(d:Int)(mn:Int)(mx:Int):Prop:=ABlk.elem? b ver (off+i)=some (zqA k n d mn mx)
section
variable(o:Option AAddr)(N c ver off i kk:Nat)(b:ABlk)(k n d mn mx rest p q e a:Int)
include o N c ver off i kk b k n d mn mx rest p q e a
theorem rs_O(hc_0:(i:Int)<(N:Int))(hc_1:(zq74_1 o N c i ver off))(hc_2:(zq74_5 b ver off i k n d mn mx))(hc_3: ¬ (k=3))(hc_4:zqF ((i:Int)+1)) :
    Runs Try.prog 1 84 (loopAt Try.prog 54 0) [(0,.slice o N c),(1,zqI rest),(6,zqI p),(7,zqI q),(8,zqI i)] (AHeap.rows 30 [(0,b)]) .normal [(0,.slice o N c),(1,zqI rest),(6,zqI p),(7,zqI q),(8,zqI ((i:Int)+1))] (AHeap.rows 43 [(0,b)]) :=
  ppath_runs env_ok mixed (hs:= [.val 4003 (.bool true),.val 6002 (.ptr (some ⟨0,ver,off+i,0,5⟩)),.ld 6004 (zqA k n d mn mx),.val 6005 (.bool true),.go 5001]) (keep:= [0,1,6,7,8]) (by kernel_rfl) (All.cons (okT hc_0) (All.cons hc_1 (All.cons hc_2 (All.cons (neT hc_3) (All.cons hc_4 (All.nil))))))
theorem rs_F(p2 q2:Int)(hc_0:(i:Int)<(N:Int))(hc_1:(zq74_1 o N c i ver off))(hc_2:(zq74_5 b ver off i k n d mn mx))(hc_3:k=3)(hc_4:(zq74_1 o N c i ver off))(hc_5:(zq74_5 b ver off i k n d mn mx))(hc_6:(zq74_1 o N c i ver off))(hc_7:(zq74_5 b ver off i k n d mn mx))(hc_8:Runs Try.prog 1 84 (.loop (loopAt Try.prog 54 1)) [(0,.slice o N c),(1,zqI rest),(6,zqI p),(7,zqI q),(8,zqI (i:Int)),(9,.slice (some ⟨50,0,0,0,1⟩) 2 2),(10,zqI 0)] (AHeap.rows 53 [(0,b),(50,.made [zqI mn,zqI mx] 1 true)]) (.exit 2) [(0,.slice o N c),(1,zqI rest),(6,zqI p2),(7,zqI q2),(8,zqI (i:Int))] (AHeap.rows 60 [(0,b)]))(hc_9:zqF ((i:Int)+1)) :
    Runs Try.prog 1 84 (loopAt Try.prog 54 0) [(0,.slice o N c),(1,zqI rest),(6,zqI p),(7,zqI q),(8,zqI i)] (AHeap.rows 30 [(0,b)]) .normal [(0,.slice o N c),(1,zqI rest),(6,zqI p2),(7,zqI q2),(8,zqI ((i:Int)+1))] (AHeap.rows 63 [(0,b)]) :=
  ppath_runs env_ok mixed (hs:= [.val 4003 (.bool true),.val 6002 (.ptr (some ⟨0,ver,off+i,0,5⟩)),.ld 6004 (zqA k n d mn mx),.val 6005 (.bool false),.val 7002 (.ptr (some ⟨0,ver,off+i,0,5⟩)),.ld 7004 (zqA k n d mn mx),.val 7007 (.ptr (some ⟨0,ver,off+i,0,5⟩)),.ld 7009 (zqA k n d mn mx),.keep [0,1,6,7,8,9,10],.loop [(0,.slice o N c),(1,zqI rest),(6,zqI p2),(7,zqI q2),(8,zqI i)] (AHeap.rows 60 [(0,b)]) (.exit 2),.go 5001]) (keep:= [0,1,6,7,8]) (by kernel_rfl) (All.cons (okT hc_0) (All.cons hc_1 (All.cons hc_2 (All.cons (neF hc_3) (All.cons hc_4 (All.cons hc_5 (All.cons hc_6 (All.cons hc_7 (All.cons hc_8 (All.cons hc_9 (All.nil)))))))))))
theorem rs_end(hc_0: ¬ ((i:Int)<(N:Int))) :
    Runs Try.prog 1 84 (loopAt Try.prog 54 0) [(0,.slice o N c),(1,zqI rest),(6,zqI p),(7,zqI q),(8,zqI i)] (AHeap.rows 30 [(0,b)]) (.exit 0) [(6,zqI p),(7,zqI q)] (AHeap.rows 34 [(0,b)]) :=
  ppath_runs env_ok mixed (hs:= [.val 4003 (.bool false)]) (keep:= [6,7]) (by kernel_rfl) (All.cons (okF hc_0) (All.nil))
end
noncomputable abbrev zq74_3(kk:Nat):Prop:=aindexAddr env.D 27 (.slice (some ⟨50,0,0,0,1⟩) 2 2) (zqI (kk:Int))=some (.ptr (some ⟨50,0,kk,0,1⟩))
noncomputable abbrev zq74_4(b:ABlk)(mn:Int)(mx:Int):List (Nat×ABlk):= [(0,b),(50,(.made ([zqI mn,zqI mx]) 1 true))]
noncomputable abbrev zq74_6(o:Option AAddr)(N:Nat)(c:Nat)(rest:Int)(p:Int)(q:Int)(i:Nat)(kk:Nat):Facts:= [(0,.slice o N c),(1,zqI rest),(6,zqI p),(7,zqI q),(8,zqI i),(9,.slice (some ⟨50,0,0,0,1⟩) 2 2),(10,zqI kk)]
noncomputable abbrev zq74_7(mn:Int)(mx:Int)(kk:Nat)(e:Int):Prop:=ABlk.elem? (.made ([zqI mn,zqI mx]) 1 true) 0 kk=some (zqI e)
section
variable(o:Option AAddr)(N c ver off i kk:Nat)(b:ABlk)(k n d mn mx rest p q e a:Int)(hc_0:(kk:Int)<2)(hc_1:(zq74_3 kk))(hc_2:(zq74_7 mn mx kk e))(hc_3:zqF (e*q))(hc_4:(zq74_1 o N c i ver off))(hc_5:(zq74_5 b ver off i k n d mn mx))(hc_6:zqF (p*n))
include o N c ver off i kk b k n d mn mx rest p q e a hc_0 hc_1 hc_2 hc_3 hc_4 hc_5 hc_6
theorem rsi_no1(hc_7: ¬ (e*q>p*n))(hc_8:zqF ((kk:Int)+1)) :
    Runs Try.prog 1 84 (loopAt Try.prog 54 1) (zq74_6 o N c rest p q i kk) (AHeap.rows 53 [(0,b),(50,.made [zqI mn,zqI mx] 1 true)]) .normal [(0,.slice o N c),(1,zqI rest),(6,zqI p),(7,zqI q),(8,zqI (i:Int)),(9,.slice (some ⟨50,0,0,0,1⟩) 2 2),(10,zqI ((kk:Int)+1))] (AHeap.rows 93 (zq74_4 b mn mx)) :=
  ppath_runs env_ok mixed (hs:= [.val 9001 (.bool true),.val 11002 (.ptr (some ⟨50,0,kk,0,1⟩)),.ld 11003 (zqI e),.go 11005,.val 11009 (.ptr (some ⟨0,ver,off+i,0,5⟩)),.ld 11011 (zqA k n d mn mx),.go 11012,.val 11013 (.bool false),.go 10001]) (keep:= [0,1,6,7,8,9,10]) (by kernel_rfl) (All.cons (okT hc_0) (All.cons hc_1 (All.cons hc_2 (All.cons hc_3 (All.cons hc_4 (All.cons hc_5 (All.cons hc_6 (All.cons (okF hc_7) (All.cons hc_8 (All.nil))))))))))
section
variable(hc_7:e*q>p*n)(hc_8:(zq74_3 kk))(hc_9:(zq74_7 mn mx kk e))(hc_10:(zq74_1 o N c i ver off))(hc_11:(zq74_5 b ver off i k n d mn mx))(hc_12:FDoes Try.prog 58 [.slice o N c,zqI e,zqI n] (AHeap.rows 90 (zq74_4 b mn mx)) (zqI a) (AHeap.rows 90 (zq74_4 b mn mx)))(hc_14:(zq74_1 o N c i ver off))(hc_15:(zq74_5 b ver off i k n d mn mx))(hc_16:zqF (rest*n))
include hc_7 hc_8 hc_9 hc_10 hc_11 hc_12 hc_14 hc_15 hc_16
theorem rsi_no2(hc_17: ¬ (a≤rest*n))(hc_18:zqF ((kk:Int)+1)) :
    Runs Try.prog 1 84 (loopAt Try.prog 54 1) (zq74_6 o N c rest p q i kk) (AHeap.rows 53 [(0,b),(50,.made [zqI mn,zqI mx] 1 true)]) .normal [(0,.slice o N c),(1,zqI rest),(6,zqI p),(7,zqI q),(8,zqI (i:Int)),(9,.slice (some ⟨50,0,0,0,1⟩) 2 2),(10,zqI ((kk:Int)+1))] (AHeap.rows 93 (zq74_4 b mn mx)) :=
  ppath_runs env_ok mixed (hs:= [.val 9001 (.bool true),.val 11002 (.ptr (some ⟨50,0,kk,0,1⟩)),.ld 11003 (zqI e),.go 11005,.val 11009 (.ptr (some ⟨0,ver,off+i,0,5⟩)),.ld 11011 (zqA k n d mn mx),.go 11012,.val 11013 (.bool true),.val 11018 (.ptr (some ⟨50,0,kk,0,1⟩)),.ld 11019 (zqI e),.val 11022 (.ptr (some ⟨0,ver,off+i,0,5⟩)),.ld 11024 (zqA k n d mn mx),.val 11025 (zqI a),.val 11029 (.ptr (some ⟨0,ver,off+i,0,5⟩)),.ld 11031 (zqA k n d mn mx),.go 11032,.val 11033 (.bool false),.go 10001]) (keep:= [0,1,6,7,8,9,10]) (by kernel_rfl) (All.cons (okT hc_0) (All.cons hc_1 (All.cons hc_2 (All.cons hc_3 (All.cons hc_4 (All.cons hc_5 (All.cons hc_6 (All.cons (okT hc_7) (All.cons hc_8 (All.cons hc_9 (All.cons hc_10 (All.cons hc_11 (All.cons (CallT.mk hc_12) (All.cons (show sameOld 90 (AHeap.rows 90 (zq74_4 b mn mx)) (AHeap.rows 90 (zq74_4 b mn mx))=true from sameOld_refl _ _) (All.cons hc_14 (All.cons hc_15 (All.cons hc_16 (All.cons (okF hc_17) (All.cons hc_18 (All.nil))))))))))))))))))))
theorem rsi_yes(hc_17:a≤rest*n)(hc_18:(zq74_3 kk))(hc_19:(zq74_7 mn mx kk e))(hc_20:(zq74_1 o N c i ver off))(hc_21:(zq74_5 b ver off i k n d mn mx))(hc_22:zqF ((kk:Int)+1)) :
    Runs Try.prog 1 84 (loopAt Try.prog 54 1) (zq74_6 o N c rest p q i kk) (AHeap.rows 53 [(0,b),(50,.made [zqI mn,zqI mx] 1 true)]) .normal [(0,.slice o N c),(1,zqI rest),(6,zqI e),(7,zqI n),(8,zqI (i:Int)),(9,.slice (some ⟨50,0,0,0,1⟩) 2 2),(10,zqI ((kk:Int)+1))] (AHeap.rows 104 (zq74_4 b mn mx)) :=
  ppath_runs env_ok mixed (hs:= [.val 9001 (.bool true),.val 11002 (.ptr (some ⟨50,0,kk,0,1⟩)),.ld 11003 (zqI e),.go 11005,.val 11009 (.ptr (some ⟨0,ver,off+i,0,5⟩)),.ld 11011 (zqA k n d mn mx),.go 11012,.val 11013 (.bool true),.val 11018 (.ptr (some ⟨50,0,kk,0,1⟩)),.ld 11019 (zqI e),.val 11022 (.ptr (some ⟨0,ver,off+i,0,5⟩)),.ld 11024 (zqA k n d mn mx),.val 11025 (zqI a),.val 11029 (.ptr (some ⟨0,ver,off+i,0,5⟩)),.ld 11031 (zqA k n d mn mx),.go 11032,.val 11033 (.bool true),.val 12002 (.ptr (some ⟨50,0,kk,0,1⟩)),.ld 12003 (zqI e),.val 13002 (.ptr (some ⟨0,ver,off+i,0,5⟩)),.ld 13004 (zqA k n d mn mx),.go 10001]) (keep:= [0,1,6,7,8,9,10]) (by kernel_rfl) (All.cons (okT hc_0) (All.cons hc_1 (All.cons hc_2 (All.cons hc_3 (All.cons hc_4 (All.cons hc_5 (All.cons hc_6 (All.cons (okT hc_7) (All.cons hc_8 (All.cons hc_9 (All.cons hc_10 (All.cons hc_11 (All.cons (CallT.mk hc_12) (All.cons (show sameOld 90 (AHeap.rows 90 (zq74_4 b mn mx)) (AHeap.rows 90 (zq74_4 b mn mx))=true from sameOld_refl _ _) (All.cons hc_14 (All.cons hc_15 (All.cons hc_16 (All.cons (okT hc_17) (All.cons hc_18 (All.cons hc_19 (All.cons hc_20 (All.cons hc_21 (All.cons hc_22 (All.nil))))))))))))))))))))))))
end
end
theorem rsi_end(o:Option AAddr)(N c ver off i kk:Nat)(b:ABlk)(k n d mn mx rest p q e a:Int)(hc_0: ¬ ((kk:Int)<2)) :
    Runs Try.prog 1 84 (loopAt Try.prog 54 1) (zq74_6 o N c rest p q i kk) (AHeap.rows 53 [(0,b),(50,.made [zqI mn,zqI mx] 1 true)]) (.exit 2) [(0,.slice o N c),(1,zqI rest),(6,zqI p),(7,zqI q),(8,zqI (i:Int))] (AHeap.rows 55 (zq74_4 b mn mx)) :=
  ppath_runs env_ok mixed (hs:= [.val 9001 (.bool false)]) (keep:= [0,1,6,7,8]) (by kernel_rfl) (All.cons (okF hc_0) (All.nil))
theorem start_call(o:Option AAddr)(N c:Nat)(b:ABlk)(rest p q:Int)(hc_0:Runs Try.prog 1 84 (.loop (loopAt Try.prog 54 0)) [(0,.slice o N c),(1,zqI rest),(6,zqI 0),(7,zqI 1),(8,zqI 0)] (AHeap.rows 6 [(0,b)]) (.exit 0) [(6,zqI p),(7,zqI q)] (AHeap.rows 61 [(0,b)])) :
    FDoes Try.prog 54 [.slice o N c,zqI rest] (AHeap.of [b]) (.tuple [zqI p,zqI q]) (AHeap.rows 65 [(0,b)]) :=
  pcall_does env_ok mixed (hs:= [.keep [0,1,6,7,8],.loop [(6,zqI p),(7,zqI q)] (AHeap.rows 61 [(0,b)]) (.exit 0)]) (rs:= []) (by kernel_rfl) (All.cons hc_0 (All.nil))
noncomputable abbrev zq74_2(b:ABlk)(sz:List AVal)(v:Nat)(m:Nat)(f:Nat):List (Nat×ABlk):= [(0,b),(1,⟨sz,1,false,false,v,m,f⟩)]
section
variable(o:Option AAddr)(N c ver off i v m f:Nat)(b:ABlk)(sz:List AVal)(k n d mn mx x rest most:Int)
include o N c ver off i v m f b sz k n d mn mx x rest most
theorem rfl_O(bd:Bool)(hc_0:(i:Int)<(N:Int))(hc_1:(zq74_1 o N c i ver off))(hc_2:(zq74_5 b ver off i k n d mn mx))(hc_3: ¬ (k=3))(hc_4:aindexAddr env.D 27 (.slice (some ⟨1,v,0,0,1⟩) N N) (zqI (i:Int))=some (.ptr (some ⟨1,v,i,0,1⟩)))(hc_5:ABlk.elem? ⟨sz,1,false,false,v,m,f⟩ v i=some (zqI x))(hc_6:zqF (rest-x))(hc_7:zqF ((i:Int)+1)) :
    Runs Try.prog 2 88 (loopAt Try.prog 37 0) [(0,.slice o N c),(1,.slice (some ⟨1,v,0,0,1⟩) N N),(7,zqI rest),(8,zqI most),(9,.bool bd),(10,zqI i)] (AHeap.rows 20 (zq74_2 b sz v m f)) .normal [(0,.slice o N c),(1,.slice (some ⟨1,v,0,0,1⟩) N N),(7,zqI (rest-x)),(8,zqI most),(9,AVal.bool bd),(10,zqI ((i:Int)+1))] (AHeap.rows 40 (zq74_2 b sz v m f)) :=
  ppath_runs env_ok mixed (hs:= [.val 5003 (.bool true),.val 7002 (.ptr (some ⟨0,ver,off+i,0,5⟩)),.ld 7004 (zqA k n d mn mx),.val 7005 (.bool true),.val 8003 (.ptr (some ⟨1,v,i,0,1⟩)),.ld 8004 (zqI x),.go 8005,.go 6001]) (keep:= [0,1,7,8,9,10]) (by kernel_rfl) (All.cons (okT hc_0) (All.cons hc_1 (All.cons hc_2 (All.cons (neT hc_3) (All.cons hc_4 (All.cons hc_5 (All.cons hc_6 (All.cons hc_7 (All.nil)))))))))
section
variable(hc_0:(i:Int)<(N:Int))(hc_1:(zq74_1 o N c i ver off))(hc_2:(zq74_5 b ver off i k n d mn mx))(hc_3:k=3)(hc_4:(zq74_1 o N c i ver off))(hc_5:(zq74_5 b ver off i k n d mn mx))(hc_6:zqF (most+mx))
include hc_0 hc_1 hc_2 hc_3 hc_4 hc_5 hc_6
section
variable(hc_7:(zq74_1 o N c i ver off))(hc_8:(zq74_5 b ver off i k n d mn mx))
include hc_7 hc_8
theorem rfl_T(hc_9:mx>0)(hc_10:zqF ((i:Int)+1)) :
    Runs Try.prog 2 88 (loopAt Try.prog 37 0) [(0,.slice o N c),(1,.slice (some ⟨1,v,0,0,1⟩) N N),(7,zqI rest),(8,zqI most),(9,.bool true),(10,zqI i)] (AHeap.rows 20 (zq74_2 b sz v m f)) .normal [(0,.slice o N c),(1,.slice (some ⟨1,v,0,0,1⟩) N N),(7,zqI rest),(8,zqI (most+mx)),(9,AVal.bool true),(10,zqI ((i:Int)+1))] (AHeap.rows 51 (zq74_2 b sz v m f)) :=
  ppath_runs env_ok mixed (hs:= [.val 5003 (.bool true),.val 7002 (.ptr (some ⟨0,ver,off+i,0,5⟩)),.ld 7004 (zqA k n d mn mx),.val 7005 (.bool false),.val 9003 (.ptr (some ⟨0,ver,off+i,0,5⟩)),.ld 9005 (zqA k n d mn mx),.go 9006,.val 10004 (.ptr (some ⟨0,ver,off+i,0,5⟩)),.ld 10006 (zqA k n d mn mx),.val 10007 (.bool true),.go 6001]) (keep:= [0,1,7,8,9,10]) (by kernel_rfl) (All.cons (okT hc_0) (All.cons hc_1 (All.cons hc_2 (All.cons (neF hc_3) (All.cons hc_4 (All.cons hc_5 (All.cons hc_6 (All.cons hc_7 (All.cons hc_8 (All.cons (okT hc_9) (All.cons hc_10 (All.nil))))))))))))
theorem rfl_F(hc_9: ¬ (mx>0))(hc_10:zqF ((i:Int)+1)) :
    Runs Try.prog 2 88 (loopAt Try.prog 37 0) [(0,.slice o N c),(1,.slice (some ⟨1,v,0,0,1⟩) N N),(7,zqI rest),(8,zqI most),(9,.bool true),(10,zqI i)] (AHeap.rows 20 (zq74_2 b sz v m f)) .normal [(0,.slice o N c),(1,.slice (some ⟨1,v,0,0,1⟩) N N),(7,zqI rest),(8,zqI (most+mx)),(9,AVal.bool false),(10,zqI ((i:Int)+1))] (AHeap.rows 51 (zq74_2 b sz v m f)) :=
  ppath_runs env_ok mixed (hs:= [.val 5003 (.bool true),.val 7002 (.ptr (some ⟨0,ver,off+i,0,5⟩)),.ld 7004 (zqA k n d mn mx),.val 7005 (.bool false),.val 9003 (.ptr (some ⟨0,ver,off+i,0,5⟩)),.ld 9005 (zqA k n d mn mx),.go 9006,.val 10004 (.ptr (some ⟨0,ver,off+i,0,5⟩)),.ld 10006 (zqA k n d mn mx),.val 10007 (.bool false),.go 6001]) (keep:= [0,1,7,8,9,10]) (by kernel_rfl) (All.cons (okT hc_0) (All.cons hc_1 (All.cons hc_2 (All.cons (neF hc_3) (All.cons hc_4 (All.cons hc_5 (All.cons hc_6 (All.cons hc_7 (All.cons hc_8 (All.cons (okF hc_9) (All.cons hc_10 (All.nil))))))))))))
end
theorem rfl_N(hc_7:zqF ((i:Int)+1)) :
    Runs Try.prog 2 88 (loopAt Try.prog 37 0) [(0,.slice o N c),(1,.slice (some ⟨1,v,0,0,1⟩) N N),(7,zqI rest),(8,zqI most),(9,.bool false),(10,zqI i)] (AHeap.rows 20 (zq74_2 b sz v m f)) .normal [(0,.slice o N c),(1,.slice (some ⟨1,v,0,0,1⟩) N N),(7,zqI rest),(8,zqI (most+mx)),(9,AVal.bool false),(10,zqI ((i:Int)+1))] (AHeap.rows 51 (zq74_2 b sz v m f)) :=
  ppath_runs env_ok mixed (hs:= [.val 5003 (.bool true),.val 7002 (.ptr (some ⟨0,ver,off+i,0,5⟩)),.ld 7004 (zqA k n d mn mx),.val 7005 (.bool false),.val 9003 (.ptr (some ⟨0,ver,off+i,0,5⟩)),.ld 9005 (zqA k n d mn mx),.go 9006,.go 6001]) (keep:= [0,1,7,8,9,10]) (by kernel_rfl) (All.cons (okT hc_0) (All.cons hc_1 (All.cons hc_2 (All.cons (neF hc_3) (All.cons hc_4 (All.cons hc_5 (All.cons hc_6 (All.cons hc_7 (All.nil)))))))))
end
theorem rfl_end(bd:Bool)(hc_0: ¬ ((i:Int)<(N:Int))) :
    Runs Try.prog 2 88 (loopAt Try.prog 37 0) [(0,.slice o N c),(1,.slice (some ⟨1,v,0,0,1⟩) N N),(7,zqI rest),(8,zqI most),(9,.bool bd),(10,zqI i)] (AHeap.rows 20 (zq74_2 b sz v m f)) (.exit 0) [(0,.slice o N c),(1,.slice (some ⟨1,v,0,0,1⟩) N N),(7,zqI rest),(8,zqI most),(9,AVal.bool bd)] (AHeap.rows 24 (zq74_2 b sz v m f)) :=
  ppath_runs env_ok mixed (hs:= [.val 5003 (.bool false)]) (keep:= [0,1,7,8,9]) (by kernel_rfl) (All.cons (okF hc_0) (All.nil))
section
variable(hc_0:(i:Int)<(N:Int))(hc_1:(zq74_1 o N c i ver off))(hc_2:(zq74_5 b ver off i k n d mn mx))
include hc_0 hc_1 hc_2
theorem rfm_F(hc_3:k=3)(hc_4:(zq74_1 o N c i ver off))(hc_5:(zq74_5 b ver off i k n d mn mx))(hc_6:aindexAddr env.D 27 (.slice (some ⟨1,v,0,0,1⟩) N N) (zqI (i:Int))=some (.ptr (some ⟨1,v,i,0,1⟩)))(hc_7:v=v∧sz[i]? =some (zqI x))(hc_8:zqF ((i:Int)+1)) :
    Runs Try.prog 2 88 (loopAt Try.prog 37 1) [(0,.slice o N c),(1,.slice (some ⟨1,v,0,0,1⟩) N N),(11,zqI i)] (AHeap.rows 20 (zq74_2 b sz v m f)) .normal [(0,.slice o N c),(1,.slice (some ⟨1,v,0,0,1⟩) N N),(11,zqI ((i:Int)+1))] (AHeap.rows 42 [(0,b),(1,⟨List.set sz i (zqI mx),1,false,false,v,v,f⟩)]) :=
  ppath_runs env_ok mixed (hs:= [.val 13003 (.bool true),.val 15002 (.ptr (some ⟨0,ver,off+i,0,5⟩)),.ld 15004 (zqA k n d mn mx),.val 15005 (.bool true),.val 16004 (.ptr (some ⟨0,ver,off+i,0,5⟩)),.ld 16006 (zqA k n d mn mx),.val 16007 (.ptr (some ⟨1,v,i,0,1⟩)),.st 16008 (zqI x),.go 14001]) (keep:= [0,1,11]) (by kernel_rfl) (All.cons (okT hc_0) (All.cons hc_1 (All.cons hc_2 (All.cons (eqT hc_3) (All.cons hc_4 (All.cons hc_5 (All.cons hc_6 (All.cons hc_7 (All.cons hc_8 (All.nil))))))))))
theorem rfm_O(hc_3: ¬ (k=3))(hc_4:zqF ((i:Int)+1)) :
    Runs Try.prog 2 88 (loopAt Try.prog 37 1) [(0,.slice o N c),(1,.slice (some ⟨1,v,0,0,1⟩) N N),(11,zqI i)] (AHeap.rows 20 (zq74_2 b sz v m f)) .normal [(0,.slice o N c),(1,.slice (some ⟨1,v,0,0,1⟩) N N),(11,zqI ((i:Int)+1))] (AHeap.rows 33 (zq74_2 b sz v m f)) :=
  ppath_runs env_ok mixed (hs:= [.val 13003 (.bool true),.val 15002 (.ptr (some ⟨0,ver,off+i,0,5⟩)),.ld 15004 (zqA k n d mn mx),.val 15005 (.bool false),.go 14001]) (keep:= [0,1,11]) (by kernel_rfl) (All.cons (okT hc_0) (All.cons hc_1 (All.cons hc_2 (All.cons (eqF hc_3) (All.cons hc_4 (All.nil))))))
end
theorem rfm_end(hc_0: ¬ ((i:Int)<(N:Int))) :
    Runs Try.prog 2 88 (loopAt Try.prog 37 1) [(0,.slice o N c),(1,.slice (some ⟨1,v,0,0,1⟩) N N),(11,zqI i)] (AHeap.rows 20 (zq74_2 b sz v m f)) (.exit 2) [(1,.slice (some ⟨1,v,0,0,1⟩) N N)] (AHeap.rows 24 (zq74_2 b sz v m f)) :=
  ppath_runs env_ok mixed (hs:= [.val 13003 (.bool false)]) (keep:= [1]) (by kernel_rfl) (All.cons (okF hc_0) (All.nil))
end
noncomputable abbrev zq74_8(o:Option AAddr)(N:Nat)(c:Nat)(v:Nat)(room:Int)(b:ABlk)(sz:List AVal)(m:Nat)(f:Nat)(rest:Int)(most:Int):Prop:=Runs Try.prog 2 88 (.loop (loopAt Try.prog 37 0)) [(0,.slice o N c),(1,.slice (some ⟨1,v,0,0,1⟩) N N),(7,zqI room),(8,zqI 0),(9,AVal.bool true),(10,zqI 0)] (AHeap.rows 8 (zq74_2 b sz v m f)) (.exit 0) [(0,.slice o N c),(1,.slice (some ⟨1,v,0,0,1⟩) N N),(7,zqI rest),(8,zqI most),(9,AVal.bool true)] (AHeap.rows 21 (zq74_2 b sz v m f))
section
variable(o:Option AAddr)(N c v m f m2 f2:Nat)(b:ABlk)(sz sz2:List AVal)(room rest most p q:Int)
include o N c v m f m2 f2 b sz sz2 room rest most p q
section
variable(hc_0:(zq74_8 o N c v room b sz m f rest most))
include hc_0
theorem filled_max(hc_1:most≤rest)(hc_2:Runs Try.prog 2 88 (.loop (loopAt Try.prog 37 1)) [(0,.slice o N c),(1,.slice (some ⟨1,v,0,0,1⟩) N N),(11,zqI 0)] (AHeap.rows 28 (zq74_2 b sz v m f)) (.exit 2) [(1,.slice (some ⟨1,v,0,0,1⟩) N N)] (AHeap.rows 22 [(0,b),(1,⟨sz2,1,false,false,v,m2,f2⟩)])) :
    FDoes Try.prog 37 [.slice o N c,.slice (some ⟨1,v,0,0,1⟩) N N,zqI room] (AHeap.of [b,⟨sz,1,false,false,v,m,f⟩]) (.slice (some ⟨1,v,0,0,1⟩) N N) (AHeap.rows 24 [(0,b),(1,⟨sz2,1,false,false,v,m2,f2⟩)]) :=
  pcall_does env_ok mixed (hs:= [.keep [0,1,7,8,9,10],.loop [(0,.slice o N c),(1,.slice (some ⟨1,v,0,0,1⟩) N N),(7,zqI rest),(8,zqI most),(9,.bool true)] (AHeap.rows 21 (zq74_2 b sz v m f)) (.exit 0),.val 11004 (.bool true),.keep [0,1,11],.loop [(1,.slice (some ⟨1,v,0,0,1⟩) N N)] (AHeap.rows 22 [(0,b),(1,⟨sz2,1,false,false,v,m2,f2⟩)]) (.exit 2)]) (rs:= []) (by kernel_rfl) (All.cons hc_0 (All.cons (okT hc_1) (All.cons hc_2 (All.nil))))
theorem filled_T(hc_1: ¬ (most≤rest))(hc_2:FDoes Try.prog 54 [.slice o N c,zqI rest] (AHeap.rows 35 (zq74_2 b sz v m f)) (.tuple [zqI p,zqI q]) (AHeap.rows 35 (zq74_2 b sz v m f)))(hc_3:FDoes Try.prog 55 [.slice o N c,.slice (some ⟨1,v,0,0,1⟩) N N,zqI rest,zqI p,zqI q] (AHeap.rows 42 (zq74_2 b sz v m f)) (.slice (some ⟨1,v,0,0,1⟩) N N) (AHeap.rows 42 [(0,b),(1,⟨sz2,1,false,false,v,m2,f2⟩)])) :
    FDoes Try.prog 37 [.slice o N c,.slice (some ⟨1,v,0,0,1⟩) N N,zqI room] (AHeap.of [b,⟨sz,1,false,false,v,m,f⟩]) (.slice (some ⟨1,v,0,0,1⟩) N N) (AHeap.rows 42 [(0,b),(1,⟨sz2,1,false,false,v,m2,f2⟩)]) :=
  pcall_does env_ok mixed (hs:= [.keep [0,1,7,8,9,10],.loop [(0,.slice o N c),(1,.slice (some ⟨1,v,0,0,1⟩) N N),(7,zqI rest),(8,zqI most),(9,.bool true)] (AHeap.rows 21 (zq74_2 b sz v m f)) (.exit 0),.val 11004 (.bool false),.val 18002 (.tuple [zqI p,zqI q]),.act 19005 (.slice (some ⟨1,v,0,0,1⟩) N N) (fun h=>h.set 1 ⟨sz2,1,false,false,v,m2,f2⟩)]) (rs:= []) (by kernel_rfl) (All.cons hc_0 (All.cons (okF hc_1) (All.cons (CallT.mk hc_2) (All.cons (CallT.mk hc_3) (All.nil)))))
end
theorem filled_N(hc_0:Runs Try.prog 2 88 (.loop (loopAt Try.prog 37 0)) [(0,.slice o N c),(1,.slice (some ⟨1,v,0,0,1⟩) N N),(7,zqI room),(8,zqI 0),(9,AVal.bool true),(10,zqI 0)] (AHeap.rows 8 (zq74_2 b sz v m f)) (.exit 0) [(0,.slice o N c),(1,.slice (some ⟨1,v,0,0,1⟩) N N),(7,zqI rest),(8,zqI most),(9,AVal.bool false)] (AHeap.rows 21 (zq74_2 b sz v m f)))(hc_1:FDoes Try.prog 54 [.slice o N c,zqI rest] (AHeap.rows 35 (zq74_2 b sz v m f)) (.tuple [zqI p,zqI q]) (AHeap.rows 35 (zq74_2 b sz v m f)))(hc_2:FDoes Try.prog 55 [.slice o N c,.slice (some ⟨1,v,0,0,1⟩) N N,zqI rest,zqI p,zqI q] (AHeap.rows 42 (zq74_2 b sz v m f)) (.slice (some ⟨1,v,0,0,1⟩) N N) (AHeap.rows 42 [(0,b),(1,⟨sz2,1,false,false,v,m2,f2⟩)])) :
    FDoes Try.prog 37 [.slice o N c,.slice (some ⟨1,v,0,0,1⟩) N N,zqI room] (AHeap.of [b,⟨sz,1,false,false,v,m,f⟩]) (.slice (some ⟨1,v,0,0,1⟩) N N) (AHeap.rows 42 [(0,b),(1,⟨sz2,1,false,false,v,m2,f2⟩)]) :=
  pcall_does env_ok mixed (hs:= [.keep [0,1,7,8,9,10],.loop [(0,.slice o N c),(1,.slice (some ⟨1,v,0,0,1⟩) N N),(7,zqI rest),(8,zqI most),(9,.bool false)] (AHeap.rows 21 (zq74_2 b sz v m f)) (.exit 0),.val 18002 (.tuple [zqI p,zqI q]),.act 19005 (.slice (some ⟨1,v,0,0,1⟩) N N) (fun h=>h.set 1 ⟨sz2,1,false,false,v,m2,f2⟩)]) (rs:= []) (by kernel_rfl) (All.cons hc_0 (All.cons (CallT.mk hc_1) (All.cons (CallT.mk hc_2) (All.nil))))
end
end Go.Proofs.Ytgfkllnaeekjeaa
