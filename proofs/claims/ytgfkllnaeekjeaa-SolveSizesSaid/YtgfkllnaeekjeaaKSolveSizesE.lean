/-
  Parts of the proof, one behind the other:
  SORTING, the walk: symMerge.
  SORTING, the walk: symMerge puts two stretches in order.
  SORTING, the walk: slices.stableCmpFunc.
  SORTING, the walk: slices.SortStableFunc sorts, and keeps what is alike in its order.
  SORTING, the walk: slices.SortStableFunc.
  solve.topped, the walk.
  solve.topped: to the first ones of the order by rests one each.
  solve.share, the walk.
  solve.share: what it shares.
  THE LIFT: arguments that came in, as rows that must not be written.
  THE LIFT: arguments of flat types (numbers, bools, strings, structs and arrays of these; slices of such), as they came in.
  ITEMS: as values, and as they came in.
  solve.into and solve.bound.
  solve.fill, the walk (under way: loops 0 (others), 1, 3, 5, 6).
  solve.fill, the walk: what is appended (to stay: row 100; to open: row 60).
-/
import Derived.ProofKit
import Derived.OpenShut
import Derived.ChangeOld
import Derived.HandedShaped
import Derived.Deep.Slices
import Derived.Test.YtgfkllnaeekjeaaKSolveSizesD
set_option linter.unusedVariables false
set_option linter.unusedSimpArgs false
set_option linter.unusedSectionVars false
namespace Go.Proofs.Ytgfkllnaeekjeaa
open Go.Lift
set_option maxRecDepth 1000000
section
variable {N:Nat}(hN:N<2^44){b1 b2:ABlk}(c1:CloB (fun i=>i<3) b1)(c2:CloB (fun i=>i<3) b2){g:FuncId}{cs:List AVal}(hcs:Clos (fun i=>i<3) cs){less:Nat→Nat→Bool}(hw:Weak less)(hcmp:CmpOk N g cs b1 b2 less)
include hN c1 c2 hcs hw hcmp
theorem sm4_loop {a m b d n p s0 r0:Nat} (π:Nat→Nat) (hπ:InN N π) (hp: ∀ h,s0≤h→h<r0→h≤p∧p-h<N∧h<N) (hpN:p<2^50) (hr0:r0≤N): ∀ (fuel i j:Nat),j-i≤fuel→s0≤i→i≤j→j≤r0→(i=s0∨less (π (p- (i-1))) (π (i-1))=false)→(j=r0∨less (π (p-j)) (π j)=true) →
    ∃ k,s0≤k∧k≤r0∧(k=s0∨less (π (p- (k-1))) (π (k-1))=false)∧(k=r0∨less (π (p-k)) (π k)=true) ∧
    Loops Try.prog 3 220 (loopAt Try.prog 64 4) [(0,.slice (some ⟨0,0,0,0,1⟩) N N),(1,.int .i64 a),(2,.int .i64 m),(3,.int .i64 b),(4,.func (.func g) [] cs),(18,.int .i64 d),(19,.int .i64 n),(20,.int .i64 i),(21,.int .i64 j),(22,.int .i64 p)] (SH 36 N π b1 b2)
      (.exit 8) [(0,.slice (some ⟨0,0,0,0,1⟩) N N),(1,.int .i64 a),(2,.int .i64 m),(3,.int .i64 b),(4,.func (.func g) [] cs),(18,.int .i64 d),(19,.int .i64 n),(20,.int .i64 k)] (SH 39 N π b1 b2)
  | fuel, i,j,hf,h1,h2,h3,hl,hr=>by
    by_cases hij:i=j
    · subst hij
      exact⟨i,h1,h3,hl,hr,Loops.last (by simp) (sm4_end N g cs _ b1 b2 a m b d n i i p (by omega))⟩
    · match fuel,hf with
      | 0,hf=>omega
      | fuel+1,hf =>
        have hh:i≤(i+j) / 2∧(i+j) / 2<j:=by omega
        generalize hhd:(i+j) / 2=h at hh
        have hd:Int.fdiv ((i:Int)+(j:Int)) (2^1)=(h:Int):=by rw [fdiv2,hhd]
        obtain⟨p1,p2,p3⟩:=hp h (by omega) (by omega)
        obtain⟨c,hc,hfd⟩:=hcmp 60 π (π (p-h)) (π h) (by omega) (hπ (p-h) p2) (hπ h p3)
        by_cases hls:less (π (p-h)) (π h)=true
        · obtain⟨k,k1,k2,k3,k4,k5⟩:=sm4_loop π hπ hp hpN hr0 fuel i h (by omega) h1 (by omega) (by omega) hl (.inr hls)
          refine⟨k,k1,k2,k3,k4,?_⟩
          have s:=sm4_t N g cs (ints N fun k=>(π k:Int)) b1 b2 a m b d n i j p h (π (p-h):Int) (π h:Int) c (by omega) (by omega) (by omega) (by rw [hd];omega) (by rw [hd];omega) (ixS (by rw [hd];omega) p2) (ints_el p2) (ixS hd p3) (ints_el p3) hfd (hc.2 hls)
          rw [hd]at s
          exact Loops.round s (SDrop c1 c2 (by omega) (by kernel_rfl) (by simp [All_cons,All_nil,Clo,Clos,clos3 hcs];simp [Ids])) k5
        · have hls:less (π (p-h)) (π h)=false:=by simpa using hls
          obtain⟨k,k1,k2,k3,k4,k5⟩:=sm4_loop π hπ hp hpN hr0 fuel (h+1) j (by omega) (by omega) (by omega) h3 (.inr (by rw [show h+1-1=h by omega];exact hls)) hr
          refine⟨k,k1,k2,k3,k4,?_⟩
          have s:=sm4_f N g cs (ints N fun k=>(π k:Int)) b1 b2 a m b d n i j p h (π (p-h):Int) (π h:Int) c (by omega) (by omega) (by omega) (by rw [hd];omega) (by rw [hd];omega) (ixS (by rw [hd];omega) p2) (ints_el p2) (ixS hd p3) (ints_el p3) hfd (fun h=>by have:=hc.1 h;rw [hls]at this;cases this) (by rw [hd];omega)
          rw [hd]at s
          exact Loops.round s (SDrop c1 c2 (by omega) (by kernel_rfl) (by simp [All_cons,All_nil,Clo,Clos,clos3 hcs];simp [Ids])) k5
end
def SmDo(N:Nat)(b1 b2:ABlk)(g:FuncId)(cs:List AVal)(π σ:Nat→Nat)(a m b:Nat):Prop :=
  ∀ (K:Nat) (ea em eb:Int),3≤K→ea=a→em=m→eb=b→FDoes Try.prog 64 [.slice (some ⟨0,0,0,0,1⟩) N N,.int .i64 ea,.int .i64 em,.int .i64 eb,.func (.func g) [] cs] (SH K N π b1 b2) (.tuple []) (SH K N σ b1 b2)
def RotDo(N:Nat)(b1 b2:ABlk)(g:FuncId)(cs:List AVal)(π σ:Nat→Nat)(a m b:Nat):Prop :=
  ∀ (K:Nat) (ea em eb:Int),3≤K→ea=a→em=m→eb=b→FDoes Try.prog 65 [.slice (some ⟨0,0,0,0,1⟩) N N,.int .i64 ea,.int .i64 em,.int .i64 eb,.func (.func g) [] cs] (SH K N π b1 b2) (.tuple []) (SH K N σ b1 b2)
section
variable {N:Nat}(hN:N<2^44){b1 b2:ABlk}(c1:CloB (fun i=>i<3) b1)(c2:CloB (fun i=>i<3) b2){g:FuncId}{cs:List AVal}(hcs:Clos (fun i=>i<3) cs)
include hN c1 c2 hcs
theorem smc_allT {a m b k mid e:Nat}(π ρ σ τ:Nat→Nat)(hmid:mid=(a+b) / 2)(he:e=mid+m-k)(hk:k≤mid+m)(ham:a<m)(ha1:m≠a+1)(hmb:m<b)(hb1:b≠m+1)(hb:b≤N)(ht:mid<m)
    (hloop:Runs Try.prog 3 220 (.loop (loopAt Try.prog 64 4)) [(0,.slice (some ⟨0,0,0,0,1⟩) N N),(1,.int .i64 a),(2,.int .i64 m),(3,.int .i64 b),(4,.func (.func g) [] cs),(18,.int .i64 (Int.fdiv ((a:Int)+(b:Int)) (2^1))),(19,.int .i64 (Int.fdiv ((a:Int)+(b:Int)) (2^1)+(m:Int))),(20,.int .i64 (Int.fdiv ((a:Int)+(b:Int)) (2^1)+(m:Int)- (b:Int))),(21,.int .i64 (Int.fdiv ((a:Int)+(b:Int)) (2^1))),(22,.int .i64 (Int.fdiv ((a:Int)+(b:Int)) (2^1)+(m:Int)-1))] (SH 36 N π b1 b2)
      (.exit 8) [(0,.slice (some ⟨0,0,0,0,1⟩) N N),(1,.int .i64 a),(2,.int .i64 m),(3,.int .i64 b),(4,.func (.func g) [] cs),(18,.int .i64 (Int.fdiv ((a:Int)+(b:Int)) (2^1))),(19,.int .i64 (Int.fdiv ((a:Int)+(b:Int)) (2^1)+(m:Int))),(20,.int .i64 k)] (SH 39 N π b1 b2))
    (hr:(k<m∧m<e∧RotDo N b1 b2 g cs π ρ k m e)∨(k<m∧ ¬ m<e∧π=ρ)∨(¬ k<m∧π=ρ))
    (hl:(a<k∧k<mid∧SmDo N b1 b2 g cs ρ σ a k mid)∨(a<k∧ ¬ k<mid∧ρ=σ)∨(¬ a<k∧ρ=σ))
    (hd:(mid<e∧e<b∧SmDo N b1 b2 g cs σ τ mid e b)∨(mid<e∧ ¬ e<b∧σ=τ)∨(¬ mid<e∧σ=τ)) {K:Nat} (hK:3≤K) :
    FDoes Try.prog 64 [.slice (some ⟨0,0,0,0,1⟩) N N,.int .i64 a,.int .i64 m,.int .i64 b,.func (.func g) [] cs] (SH K N π b1 b2) (.tuple []) (SH K N τ b1 b2):=by
  have hd2:Int.fdiv ((a:Int)+(b:Int)) (2^1)=(mid:Int):=by rw [fdiv2,hmid]
  rcases hr with ⟨r1,r2,hr⟩ | ⟨r1,r2,hr⟩ | ⟨r1,hr⟩<;>rcases hl with ⟨l1,l2,hl⟩ | ⟨l1,l2,hl⟩ | ⟨l1,hl⟩<;>rcases hd with ⟨d1,d2,hd⟩ | ⟨d1,d2,hd⟩ | ⟨d1,hd⟩
  · exact(smc_T_TT_TT_TT N g cs (ints N fun j=>(π j:Int)) b1 b2 a m b k (ints N fun j=>(ρ j:Int)) (ints N fun j=>(σ j:Int)) (ints N fun j=>(τ j:Int)) (by omega) (by omega) (by omega) (by omega) (by omega) (by omega) (by omega) (by omega) (by omega) (by omega) (by omega) hloop (by omega) (by omega) (by omega) (hr _ _ _ _ (by omega) rfl rfl (by omega)) (by omega) (by omega) (hl _ _ _ _ (by omega) rfl rfl hd2) (by omega) (by omega) (hd _ _ _ _ (by omega) hd2 (by omega) rfl)).all3 (by kernel_rfl) ⟨fun _=>rfl,by simp [Clo,Clos]⟩ (srow_clo _ _ _) (srow_clo _ _ _) c1 c2 (by simp [Clos,Clo,hcs]) hK
  · subst hd;exact(smc_T_TT_TT_TF N g cs (ints N fun j=>(π j:Int)) b1 b2 a m b k (ints N fun j=>(ρ j:Int)) (ints N fun j=>(σ j:Int)) (ints N fun j=>(σ j:Int)) (by omega) (by omega) (by omega) (by omega) (by omega) (by omega) (by omega) (by omega) (by omega) (by omega) (by omega) hloop (by omega) (by omega) (by omega) (hr _ _ _ _ (by omega) rfl rfl (by omega)) (by omega) (by omega) (hl _ _ _ _ (by omega) rfl rfl hd2) (by omega) (by omega)).all3 (by kernel_rfl) ⟨fun _=>rfl,by simp [Clo,Clos]⟩ (srow_clo _ _ _) (srow_clo _ _ _) c1 c2 (by simp [Clos,Clo,hcs]) hK
  · subst hd;exact(smc_T_TT_TT_F N g cs (ints N fun j=>(π j:Int)) b1 b2 a m b k (ints N fun j=>(ρ j:Int)) (ints N fun j=>(σ j:Int)) (ints N fun j=>(σ j:Int)) (by omega) (by omega) (by omega) (by omega) (by omega) (by omega) (by omega) (by omega) (by omega) (by omega) (by omega) hloop (by omega) (by omega) (by omega) (hr _ _ _ _ (by omega) rfl rfl (by omega)) (by omega) (by omega) (hl _ _ _ _ (by omega) rfl rfl hd2) (by omega)).all3 (by kernel_rfl) ⟨fun _=>rfl,by simp [Clo,Clos]⟩ (srow_clo _ _ _) (srow_clo _ _ _) c1 c2 (by simp [Clos,Clo,hcs]) hK
  · subst hl;exact(smc_T_TT_TF_TT N g cs (ints N fun j=>(π j:Int)) b1 b2 a m b k (ints N fun j=>(ρ j:Int)) (ints N fun j=>(ρ j:Int)) (ints N fun j=>(τ j:Int)) (by omega) (by omega) (by omega) (by omega) (by omega) (by omega) (by omega) (by omega) (by omega) (by omega) (by omega) hloop (by omega) (by omega) (by omega) (hr _ _ _ _ (by omega) rfl rfl (by omega)) (by omega) (by omega) (by omega) (by omega) (hd _ _ _ _ (by omega) hd2 (by omega) rfl)).all3 (by kernel_rfl) ⟨fun _=>rfl,by simp [Clo,Clos]⟩ (srow_clo _ _ _) (srow_clo _ _ _) c1 c2 (by simp [Clos,Clo,hcs]) hK
  · subst hd;subst hl;exact(smc_T_TT_TF_TF N g cs (ints N fun j=>(π j:Int)) b1 b2 a m b k (ints N fun j=>(ρ j:Int)) (ints N fun j=>(ρ j:Int)) (ints N fun j=>(ρ j:Int)) (by omega) (by omega) (by omega) (by omega) (by omega) (by omega) (by omega) (by omega) (by omega) (by omega) (by omega) hloop (by omega) (by omega) (by omega) (hr _ _ _ _ (by omega) rfl rfl (by omega)) (by omega) (by omega) (by omega) (by omega)).all3 (by kernel_rfl) ⟨fun _=>rfl,by simp [Clo,Clos]⟩ (srow_clo _ _ _) (srow_clo _ _ _) c1 c2 (by simp [Clos,Clo,hcs]) hK
  · subst hd;subst hl;exact(smc_T_TT_TF_F N g cs (ints N fun j=>(π j:Int)) b1 b2 a m b k (ints N fun j=>(ρ j:Int)) (ints N fun j=>(ρ j:Int)) (ints N fun j=>(ρ j:Int)) (by omega) (by omega) (by omega) (by omega) (by omega) (by omega) (by omega) (by omega) (by omega) (by omega) (by omega) hloop (by omega) (by omega) (by omega) (hr _ _ _ _ (by omega) rfl rfl (by omega)) (by omega) (by omega) (by omega)).all3 (by kernel_rfl) ⟨fun _=>rfl,by simp [Clo,Clos]⟩ (srow_clo _ _ _) (srow_clo _ _ _) c1 c2 (by simp [Clos,Clo,hcs]) hK
  · subst hl;exact(smc_T_TT_F_TT N g cs (ints N fun j=>(π j:Int)) b1 b2 a m b k (ints N fun j=>(ρ j:Int)) (ints N fun j=>(ρ j:Int)) (ints N fun j=>(τ j:Int)) (by omega) (by omega) (by omega) (by omega) (by omega) (by omega) (by omega) (by omega) (by omega) (by omega) (by omega) hloop (by omega) (by omega) (by omega) (hr _ _ _ _ (by omega) rfl rfl (by omega)) (by omega) (by omega) (by omega) (hd _ _ _ _ (by omega) hd2 (by omega) rfl)).all3 (by kernel_rfl) ⟨fun _=>rfl,by simp [Clo,Clos]⟩ (srow_clo _ _ _) (srow_clo _ _ _) c1 c2 (by simp [Clos,Clo,hcs]) hK
  · subst hd;subst hl;exact(smc_T_TT_F_TF N g cs (ints N fun j=>(π j:Int)) b1 b2 a m b k (ints N fun j=>(ρ j:Int)) (ints N fun j=>(ρ j:Int)) (ints N fun j=>(ρ j:Int)) (by omega) (by omega) (by omega) (by omega) (by omega) (by omega) (by omega) (by omega) (by omega) (by omega) (by omega) hloop (by omega) (by omega) (by omega) (hr _ _ _ _ (by omega) rfl rfl (by omega)) (by omega) (by omega) (by omega)).all3 (by kernel_rfl) ⟨fun _=>rfl,by simp [Clo,Clos]⟩ (srow_clo _ _ _) (srow_clo _ _ _) c1 c2 (by simp [Clos,Clo,hcs]) hK
  · subst hd;subst hl;exact(smc_T_TT_F_F N g cs (ints N fun j=>(π j:Int)) b1 b2 a m b k (ints N fun j=>(ρ j:Int)) (ints N fun j=>(ρ j:Int)) (ints N fun j=>(ρ j:Int)) (by omega) (by omega) (by omega) (by omega) (by omega) (by omega) (by omega) (by omega) (by omega) (by omega) (by omega) hloop (by omega) (by omega) (by omega) (hr _ _ _ _ (by omega) rfl rfl (by omega)) (by omega) (by omega)).all3 (by kernel_rfl) ⟨fun _=>rfl,by simp [Clo,Clos]⟩ (srow_clo _ _ _) (srow_clo _ _ _) c1 c2 (by simp [Clos,Clo,hcs]) hK
  · subst hr;exact(smc_T_TF_TT_TT N g cs (ints N fun j=>(π j:Int)) b1 b2 a m b k (ints N fun j=>(π j:Int)) (ints N fun j=>(σ j:Int)) (ints N fun j=>(τ j:Int)) (by omega) (by omega) (by omega) (by omega) (by omega) (by omega) (by omega) (by omega) (by omega) (by omega) (by omega) hloop (by omega) (by omega) (by omega) (by omega) (by omega) (hl _ _ _ _ (by omega) rfl rfl hd2) (by omega) (by omega) (hd _ _ _ _ (by omega) hd2 (by omega) rfl)).all3 (by kernel_rfl) ⟨fun _=>rfl,by simp [Clo,Clos]⟩ (srow_clo _ _ _) (srow_clo _ _ _) c1 c2 (by simp [Clos,Clo,hcs]) hK
  · subst hd;subst hr;exact(smc_T_TF_TT_TF N g cs (ints N fun j=>(π j:Int)) b1 b2 a m b k (ints N fun j=>(π j:Int)) (ints N fun j=>(σ j:Int)) (ints N fun j=>(σ j:Int)) (by omega) (by omega) (by omega) (by omega) (by omega) (by omega) (by omega) (by omega) (by omega) (by omega) (by omega) hloop (by omega) (by omega) (by omega) (by omega) (by omega) (hl _ _ _ _ (by omega) rfl rfl hd2) (by omega) (by omega)).all3 (by kernel_rfl) ⟨fun _=>rfl,by simp [Clo,Clos]⟩ (srow_clo _ _ _) (srow_clo _ _ _) c1 c2 (by simp [Clos,Clo,hcs]) hK
  · subst hd;subst hr;exact(smc_T_TF_TT_F N g cs (ints N fun j=>(π j:Int)) b1 b2 a m b k (ints N fun j=>(π j:Int)) (ints N fun j=>(σ j:Int)) (ints N fun j=>(σ j:Int)) (by omega) (by omega) (by omega) (by omega) (by omega) (by omega) (by omega) (by omega) (by omega) (by omega) (by omega) hloop (by omega) (by omega) (by omega) (by omega) (by omega) (hl _ _ _ _ (by omega) rfl rfl hd2) (by omega)).all3 (by kernel_rfl) ⟨fun _=>rfl,by simp [Clo,Clos]⟩ (srow_clo _ _ _) (srow_clo _ _ _) c1 c2 (by simp [Clos,Clo,hcs]) hK
  · subst hl;subst hr;exact(smc_T_TF_TF_TT N g cs (ints N fun j=>(π j:Int)) b1 b2 a m b k (ints N fun j=>(π j:Int)) (ints N fun j=>(π j:Int)) (ints N fun j=>(τ j:Int)) (by omega) (by omega) (by omega) (by omega) (by omega) (by omega) (by omega) (by omega) (by omega) (by omega) (by omega) hloop (by omega) (by omega) (by omega) (by omega) (by omega) (by omega) (by omega) (hd _ _ _ _ (by omega) hd2 (by omega) rfl)).all3 (by kernel_rfl) ⟨fun _=>rfl,by simp [Clo,Clos]⟩ (srow_clo _ _ _) (srow_clo _ _ _) c1 c2 (by simp [Clos,Clo,hcs]) hK
  · subst hd;subst hl;subst hr;exact(smc_T_TF_TF_TF N g cs (ints N fun j=>(π j:Int)) b1 b2 a m b k (ints N fun j=>(π j:Int)) (ints N fun j=>(π j:Int)) (ints N fun j=>(π j:Int)) (by omega) (by omega) (by omega) (by omega) (by omega) (by omega) (by omega) (by omega) (by omega) (by omega) (by omega) hloop (by omega) (by omega) (by omega) (by omega) (by omega) (by omega) (by omega)).all3 (by kernel_rfl) ⟨fun _=>rfl,by simp [Clo,Clos]⟩ (srow_clo _ _ _) (srow_clo _ _ _) c1 c2 (by simp [Clos,Clo,hcs]) hK
  · subst hd;subst hl;subst hr;exact(smc_T_TF_TF_F N g cs (ints N fun j=>(π j:Int)) b1 b2 a m b k (ints N fun j=>(π j:Int)) (ints N fun j=>(π j:Int)) (ints N fun j=>(π j:Int)) (by omega) (by omega) (by omega) (by omega) (by omega) (by omega) (by omega) (by omega) (by omega) (by omega) (by omega) hloop (by omega) (by omega) (by omega) (by omega) (by omega) (by omega)).all3 (by kernel_rfl) ⟨fun _=>rfl,by simp [Clo,Clos]⟩ (srow_clo _ _ _) (srow_clo _ _ _) c1 c2 (by simp [Clos,Clo,hcs]) hK
  · subst hl;subst hr;exact(smc_T_TF_F_TT N g cs (ints N fun j=>(π j:Int)) b1 b2 a m b k (ints N fun j=>(π j:Int)) (ints N fun j=>(π j:Int)) (ints N fun j=>(τ j:Int)) (by omega) (by omega) (by omega) (by omega) (by omega) (by omega) (by omega) (by omega) (by omega) (by omega) (by omega) hloop (by omega) (by omega) (by omega) (by omega) (by omega) (by omega) (hd _ _ _ _ (by omega) hd2 (by omega) rfl)).all3 (by kernel_rfl) ⟨fun _=>rfl,by simp [Clo,Clos]⟩ (srow_clo _ _ _) (srow_clo _ _ _) c1 c2 (by simp [Clos,Clo,hcs]) hK
  · subst hd;subst hl;subst hr;exact(smc_T_TF_F_TF N g cs (ints N fun j=>(π j:Int)) b1 b2 a m b k (ints N fun j=>(π j:Int)) (ints N fun j=>(π j:Int)) (ints N fun j=>(π j:Int)) (by omega) (by omega) (by omega) (by omega) (by omega) (by omega) (by omega) (by omega) (by omega) (by omega) (by omega) hloop (by omega) (by omega) (by omega) (by omega) (by omega) (by omega)).all3 (by kernel_rfl) ⟨fun _=>rfl,by simp [Clo,Clos]⟩ (srow_clo _ _ _) (srow_clo _ _ _) c1 c2 (by simp [Clos,Clo,hcs]) hK
  · subst hd;subst hl;subst hr;exact(smc_T_TF_F_F N g cs (ints N fun j=>(π j:Int)) b1 b2 a m b k (ints N fun j=>(π j:Int)) (ints N fun j=>(π j:Int)) (ints N fun j=>(π j:Int)) (by omega) (by omega) (by omega) (by omega) (by omega) (by omega) (by omega) (by omega) (by omega) (by omega) (by omega) hloop (by omega) (by omega) (by omega) (by omega) (by omega)).all3 (by kernel_rfl) ⟨fun _=>rfl,by simp [Clo,Clos]⟩ (srow_clo _ _ _) (srow_clo _ _ _) c1 c2 (by simp [Clos,Clo,hcs]) hK
  · subst hr;exact(smc_T_F_TT_TT N g cs (ints N fun j=>(π j:Int)) b1 b2 a m b k (ints N fun j=>(π j:Int)) (ints N fun j=>(σ j:Int)) (ints N fun j=>(τ j:Int)) (by omega) (by omega) (by omega) (by omega) (by omega) (by omega) (by omega) (by omega) (by omega) (by omega) (by omega) hloop (by omega) (by omega) (by omega) (by omega) (hl _ _ _ _ (by omega) rfl rfl hd2) (by omega) (by omega) (hd _ _ _ _ (by omega) hd2 (by omega) rfl)).all3 (by kernel_rfl) ⟨fun _=>rfl,by simp [Clo,Clos]⟩ (srow_clo _ _ _) (srow_clo _ _ _) c1 c2 (by simp [Clos,Clo,hcs]) hK
  · subst hd;subst hr;exact(smc_T_F_TT_TF N g cs (ints N fun j=>(π j:Int)) b1 b2 a m b k (ints N fun j=>(π j:Int)) (ints N fun j=>(σ j:Int)) (ints N fun j=>(σ j:Int)) (by omega) (by omega) (by omega) (by omega) (by omega) (by omega) (by omega) (by omega) (by omega) (by omega) (by omega) hloop (by omega) (by omega) (by omega) (by omega) (hl _ _ _ _ (by omega) rfl rfl hd2) (by omega) (by omega)).all3 (by kernel_rfl) ⟨fun _=>rfl,by simp [Clo,Clos]⟩ (srow_clo _ _ _) (srow_clo _ _ _) c1 c2 (by simp [Clos,Clo,hcs]) hK
  · subst hd;subst hr;exact(smc_T_F_TT_F N g cs (ints N fun j=>(π j:Int)) b1 b2 a m b k (ints N fun j=>(π j:Int)) (ints N fun j=>(σ j:Int)) (ints N fun j=>(σ j:Int)) (by omega) (by omega) (by omega) (by omega) (by omega) (by omega) (by omega) (by omega) (by omega) (by omega) (by omega) hloop (by omega) (by omega) (by omega) (by omega) (hl _ _ _ _ (by omega) rfl rfl hd2) (by omega)).all3 (by kernel_rfl) ⟨fun _=>rfl,by simp [Clo,Clos]⟩ (srow_clo _ _ _) (srow_clo _ _ _) c1 c2 (by simp [Clos,Clo,hcs]) hK
  · subst hl;subst hr;exact(smc_T_F_TF_TT N g cs (ints N fun j=>(π j:Int)) b1 b2 a m b k (ints N fun j=>(π j:Int)) (ints N fun j=>(π j:Int)) (ints N fun j=>(τ j:Int)) (by omega) (by omega) (by omega) (by omega) (by omega) (by omega) (by omega) (by omega) (by omega) (by omega) (by omega) hloop (by omega) (by omega) (by omega) (by omega) (by omega) (by omega) (hd _ _ _ _ (by omega) hd2 (by omega) rfl)).all3 (by kernel_rfl) ⟨fun _=>rfl,by simp [Clo,Clos]⟩ (srow_clo _ _ _) (srow_clo _ _ _) c1 c2 (by simp [Clos,Clo,hcs]) hK
  · subst hd;subst hl;subst hr;exact(smc_T_F_TF_TF N g cs (ints N fun j=>(π j:Int)) b1 b2 a m b k (ints N fun j=>(π j:Int)) (ints N fun j=>(π j:Int)) (ints N fun j=>(π j:Int)) (by omega) (by omega) (by omega) (by omega) (by omega) (by omega) (by omega) (by omega) (by omega) (by omega) (by omega) hloop (by omega) (by omega) (by omega) (by omega) (by omega) (by omega)).all3 (by kernel_rfl) ⟨fun _=>rfl,by simp [Clo,Clos]⟩ (srow_clo _ _ _) (srow_clo _ _ _) c1 c2 (by simp [Clos,Clo,hcs]) hK
  · subst hd;subst hl;subst hr;exact(smc_T_F_TF_F N g cs (ints N fun j=>(π j:Int)) b1 b2 a m b k (ints N fun j=>(π j:Int)) (ints N fun j=>(π j:Int)) (ints N fun j=>(π j:Int)) (by omega) (by omega) (by omega) (by omega) (by omega) (by omega) (by omega) (by omega) (by omega) (by omega) (by omega) hloop (by omega) (by omega) (by omega) (by omega) (by omega)).all3 (by kernel_rfl) ⟨fun _=>rfl,by simp [Clo,Clos]⟩ (srow_clo _ _ _) (srow_clo _ _ _) c1 c2 (by simp [Clos,Clo,hcs]) hK
  · subst hl;subst hr;exact(smc_T_F_F_TT N g cs (ints N fun j=>(π j:Int)) b1 b2 a m b k (ints N fun j=>(π j:Int)) (ints N fun j=>(π j:Int)) (ints N fun j=>(τ j:Int)) (by omega) (by omega) (by omega) (by omega) (by omega) (by omega) (by omega) (by omega) (by omega) (by omega) (by omega) hloop (by omega) (by omega) (by omega) (by omega) (by omega) (hd _ _ _ _ (by omega) hd2 (by omega) rfl)).all3 (by kernel_rfl) ⟨fun _=>rfl,by simp [Clo,Clos]⟩ (srow_clo _ _ _) (srow_clo _ _ _) c1 c2 (by simp [Clos,Clo,hcs]) hK
  · subst hd;subst hl;subst hr;exact(smc_T_F_F_TF N g cs (ints N fun j=>(π j:Int)) b1 b2 a m b k (ints N fun j=>(π j:Int)) (ints N fun j=>(π j:Int)) (ints N fun j=>(π j:Int)) (by omega) (by omega) (by omega) (by omega) (by omega) (by omega) (by omega) (by omega) (by omega) (by omega) (by omega) hloop (by omega) (by omega) (by omega) (by omega) (by omega)).all3 (by kernel_rfl) ⟨fun _=>rfl,by simp [Clo,Clos]⟩ (srow_clo _ _ _) (srow_clo _ _ _) c1 c2 (by simp [Clos,Clo,hcs]) hK
  · subst hd;subst hl;subst hr;exact(smc_T_F_F_F N g cs (ints N fun j=>(π j:Int)) b1 b2 a m b k (ints N fun j=>(π j:Int)) (ints N fun j=>(π j:Int)) (ints N fun j=>(π j:Int)) (by omega) (by omega) (by omega) (by omega) (by omega) (by omega) (by omega) (by omega) (by omega) (by omega) (by omega) hloop (by omega) (by omega) (by omega) (by omega)).all3 (by kernel_rfl) ⟨fun _=>rfl,by simp [Clo,Clos]⟩ (srow_clo _ _ _) (srow_clo _ _ _) c1 c2 (by simp [Clos,Clo,hcs]) hK
theorem smc_allF {a m b k mid e:Nat}(π ρ σ τ:Nat→Nat)(hmid:mid=(a+b) / 2)(he:e=mid+m-k)(hk:k≤mid+m)(ham:a<m)(ha1:m≠a+1)(hmb:m<b)(hb1:b≠m+1)(hb:b≤N)(ht: ¬ mid<m)
    (hloop:Runs Try.prog 3 220 (.loop (loopAt Try.prog 64 4)) [(0,.slice (some ⟨0,0,0,0,1⟩) N N),(1,.int .i64 a),(2,.int .i64 m),(3,.int .i64 b),(4,.func (.func g) [] cs),(18,.int .i64 (Int.fdiv ((a:Int)+(b:Int)) (2^1))),(19,.int .i64 (Int.fdiv ((a:Int)+(b:Int)) (2^1)+(m:Int))),(20,.int .i64 a),(21,.int .i64 m),(22,.int .i64 (Int.fdiv ((a:Int)+(b:Int)) (2^1)+(m:Int)-1))] (SH 34 N π b1 b2)
      (.exit 8) [(0,.slice (some ⟨0,0,0,0,1⟩) N N),(1,.int .i64 a),(2,.int .i64 m),(3,.int .i64 b),(4,.func (.func g) [] cs),(18,.int .i64 (Int.fdiv ((a:Int)+(b:Int)) (2^1))),(19,.int .i64 (Int.fdiv ((a:Int)+(b:Int)) (2^1)+(m:Int))),(20,.int .i64 k)] (SH 39 N π b1 b2))
    (hr:(k<m∧m<e∧RotDo N b1 b2 g cs π ρ k m e)∨(k<m∧ ¬ m<e∧π=ρ)∨(¬ k<m∧π=ρ))
    (hl:(a<k∧k<mid∧SmDo N b1 b2 g cs ρ σ a k mid)∨(a<k∧ ¬ k<mid∧ρ=σ)∨(¬ a<k∧ρ=σ))
    (hd:(mid<e∧e<b∧SmDo N b1 b2 g cs σ τ mid e b)∨(mid<e∧ ¬ e<b∧σ=τ)∨(¬ mid<e∧σ=τ)) {K:Nat} (hK:3≤K) :
    FDoes Try.prog 64 [.slice (some ⟨0,0,0,0,1⟩) N N,.int .i64 a,.int .i64 m,.int .i64 b,.func (.func g) [] cs] (SH K N π b1 b2) (.tuple []) (SH K N τ b1 b2):=by
  have hd2:Int.fdiv ((a:Int)+(b:Int)) (2^1)=(mid:Int):=by rw [fdiv2,hmid]
  rcases hr with ⟨r1,r2,hr⟩ | ⟨r1,r2,hr⟩ | ⟨r1,hr⟩<;>rcases hl with ⟨l1,l2,hl⟩ | ⟨l1,l2,hl⟩ | ⟨l1,hl⟩<;>rcases hd with ⟨d1,d2,hd⟩ | ⟨d1,d2,hd⟩ | ⟨d1,hd⟩
  · exact(smc_F_TT_TT_TT N g cs (ints N fun j=>(π j:Int)) b1 b2 a m b k (ints N fun j=>(ρ j:Int)) (ints N fun j=>(σ j:Int)) (ints N fun j=>(τ j:Int)) (by omega) (by omega) (by omega) (by omega) (by omega) (by omega) (by omega) (by omega) (by omega) (by omega) hloop (by omega) (by omega) (by omega) (hr _ _ _ _ (by omega) rfl rfl (by omega)) (by omega) (by omega) (hl _ _ _ _ (by omega) rfl rfl hd2) (by omega) (by omega) (hd _ _ _ _ (by omega) hd2 (by omega) rfl)).all3 (by kernel_rfl) ⟨fun _=>rfl,by simp [Clo,Clos]⟩ (srow_clo _ _ _) (srow_clo _ _ _) c1 c2 (by simp [Clos,Clo,hcs]) hK
  · subst hd;exact(smc_F_TT_TT_TF N g cs (ints N fun j=>(π j:Int)) b1 b2 a m b k (ints N fun j=>(ρ j:Int)) (ints N fun j=>(σ j:Int)) (ints N fun j=>(σ j:Int)) (by omega) (by omega) (by omega) (by omega) (by omega) (by omega) (by omega) (by omega) (by omega) (by omega) hloop (by omega) (by omega) (by omega) (hr _ _ _ _ (by omega) rfl rfl (by omega)) (by omega) (by omega) (hl _ _ _ _ (by omega) rfl rfl hd2) (by omega) (by omega)).all3 (by kernel_rfl) ⟨fun _=>rfl,by simp [Clo,Clos]⟩ (srow_clo _ _ _) (srow_clo _ _ _) c1 c2 (by simp [Clos,Clo,hcs]) hK
  · subst hd;exact(smc_F_TT_TT_F N g cs (ints N fun j=>(π j:Int)) b1 b2 a m b k (ints N fun j=>(ρ j:Int)) (ints N fun j=>(σ j:Int)) (ints N fun j=>(σ j:Int)) (by omega) (by omega) (by omega) (by omega) (by omega) (by omega) (by omega) (by omega) (by omega) (by omega) hloop (by omega) (by omega) (by omega) (hr _ _ _ _ (by omega) rfl rfl (by omega)) (by omega) (by omega) (hl _ _ _ _ (by omega) rfl rfl hd2) (by omega)).all3 (by kernel_rfl) ⟨fun _=>rfl,by simp [Clo,Clos]⟩ (srow_clo _ _ _) (srow_clo _ _ _) c1 c2 (by simp [Clos,Clo,hcs]) hK
  · subst hl;exact(smc_F_TT_TF_TT N g cs (ints N fun j=>(π j:Int)) b1 b2 a m b k (ints N fun j=>(ρ j:Int)) (ints N fun j=>(ρ j:Int)) (ints N fun j=>(τ j:Int)) (by omega) (by omega) (by omega) (by omega) (by omega) (by omega) (by omega) (by omega) (by omega) (by omega) hloop (by omega) (by omega) (by omega) (hr _ _ _ _ (by omega) rfl rfl (by omega)) (by omega) (by omega) (by omega) (by omega) (hd _ _ _ _ (by omega) hd2 (by omega) rfl)).all3 (by kernel_rfl) ⟨fun _=>rfl,by simp [Clo,Clos]⟩ (srow_clo _ _ _) (srow_clo _ _ _) c1 c2 (by simp [Clos,Clo,hcs]) hK
  · subst hd;subst hl;exact(smc_F_TT_TF_TF N g cs (ints N fun j=>(π j:Int)) b1 b2 a m b k (ints N fun j=>(ρ j:Int)) (ints N fun j=>(ρ j:Int)) (ints N fun j=>(ρ j:Int)) (by omega) (by omega) (by omega) (by omega) (by omega) (by omega) (by omega) (by omega) (by omega) (by omega) hloop (by omega) (by omega) (by omega) (hr _ _ _ _ (by omega) rfl rfl (by omega)) (by omega) (by omega) (by omega) (by omega)).all3 (by kernel_rfl) ⟨fun _=>rfl,by simp [Clo,Clos]⟩ (srow_clo _ _ _) (srow_clo _ _ _) c1 c2 (by simp [Clos,Clo,hcs]) hK
  · subst hd;subst hl;exact(smc_F_TT_TF_F N g cs (ints N fun j=>(π j:Int)) b1 b2 a m b k (ints N fun j=>(ρ j:Int)) (ints N fun j=>(ρ j:Int)) (ints N fun j=>(ρ j:Int)) (by omega) (by omega) (by omega) (by omega) (by omega) (by omega) (by omega) (by omega) (by omega) (by omega) hloop (by omega) (by omega) (by omega) (hr _ _ _ _ (by omega) rfl rfl (by omega)) (by omega) (by omega) (by omega)).all3 (by kernel_rfl) ⟨fun _=>rfl,by simp [Clo,Clos]⟩ (srow_clo _ _ _) (srow_clo _ _ _) c1 c2 (by simp [Clos,Clo,hcs]) hK
  · subst hl;exact(smc_F_TT_F_TT N g cs (ints N fun j=>(π j:Int)) b1 b2 a m b k (ints N fun j=>(ρ j:Int)) (ints N fun j=>(ρ j:Int)) (ints N fun j=>(τ j:Int)) (by omega) (by omega) (by omega) (by omega) (by omega) (by omega) (by omega) (by omega) (by omega) (by omega) hloop (by omega) (by omega) (by omega) (hr _ _ _ _ (by omega) rfl rfl (by omega)) (by omega) (by omega) (by omega) (hd _ _ _ _ (by omega) hd2 (by omega) rfl)).all3 (by kernel_rfl) ⟨fun _=>rfl,by simp [Clo,Clos]⟩ (srow_clo _ _ _) (srow_clo _ _ _) c1 c2 (by simp [Clos,Clo,hcs]) hK
  · subst hd;subst hl;exact(smc_F_TT_F_TF N g cs (ints N fun j=>(π j:Int)) b1 b2 a m b k (ints N fun j=>(ρ j:Int)) (ints N fun j=>(ρ j:Int)) (ints N fun j=>(ρ j:Int)) (by omega) (by omega) (by omega) (by omega) (by omega) (by omega) (by omega) (by omega) (by omega) (by omega) hloop (by omega) (by omega) (by omega) (hr _ _ _ _ (by omega) rfl rfl (by omega)) (by omega) (by omega) (by omega)).all3 (by kernel_rfl) ⟨fun _=>rfl,by simp [Clo,Clos]⟩ (srow_clo _ _ _) (srow_clo _ _ _) c1 c2 (by simp [Clos,Clo,hcs]) hK
  · subst hd;subst hl;exact(smc_F_TT_F_F N g cs (ints N fun j=>(π j:Int)) b1 b2 a m b k (ints N fun j=>(ρ j:Int)) (ints N fun j=>(ρ j:Int)) (ints N fun j=>(ρ j:Int)) (by omega) (by omega) (by omega) (by omega) (by omega) (by omega) (by omega) (by omega) (by omega) (by omega) hloop (by omega) (by omega) (by omega) (hr _ _ _ _ (by omega) rfl rfl (by omega)) (by omega) (by omega)).all3 (by kernel_rfl) ⟨fun _=>rfl,by simp [Clo,Clos]⟩ (srow_clo _ _ _) (srow_clo _ _ _) c1 c2 (by simp [Clos,Clo,hcs]) hK
  · subst hr;exact(smc_F_TF_TT_TT N g cs (ints N fun j=>(π j:Int)) b1 b2 a m b k (ints N fun j=>(π j:Int)) (ints N fun j=>(σ j:Int)) (ints N fun j=>(τ j:Int)) (by omega) (by omega) (by omega) (by omega) (by omega) (by omega) (by omega) (by omega) (by omega) (by omega) hloop (by omega) (by omega) (by omega) (by omega) (by omega) (hl _ _ _ _ (by omega) rfl rfl hd2) (by omega) (by omega) (hd _ _ _ _ (by omega) hd2 (by omega) rfl)).all3 (by kernel_rfl) ⟨fun _=>rfl,by simp [Clo,Clos]⟩ (srow_clo _ _ _) (srow_clo _ _ _) c1 c2 (by simp [Clos,Clo,hcs]) hK
  · subst hd;subst hr;exact(smc_F_TF_TT_TF N g cs (ints N fun j=>(π j:Int)) b1 b2 a m b k (ints N fun j=>(π j:Int)) (ints N fun j=>(σ j:Int)) (ints N fun j=>(σ j:Int)) (by omega) (by omega) (by omega) (by omega) (by omega) (by omega) (by omega) (by omega) (by omega) (by omega) hloop (by omega) (by omega) (by omega) (by omega) (by omega) (hl _ _ _ _ (by omega) rfl rfl hd2) (by omega) (by omega)).all3 (by kernel_rfl) ⟨fun _=>rfl,by simp [Clo,Clos]⟩ (srow_clo _ _ _) (srow_clo _ _ _) c1 c2 (by simp [Clos,Clo,hcs]) hK
  · subst hd;subst hr;exact(smc_F_TF_TT_F N g cs (ints N fun j=>(π j:Int)) b1 b2 a m b k (ints N fun j=>(π j:Int)) (ints N fun j=>(σ j:Int)) (ints N fun j=>(σ j:Int)) (by omega) (by omega) (by omega) (by omega) (by omega) (by omega) (by omega) (by omega) (by omega) (by omega) hloop (by omega) (by omega) (by omega) (by omega) (by omega) (hl _ _ _ _ (by omega) rfl rfl hd2) (by omega)).all3 (by kernel_rfl) ⟨fun _=>rfl,by simp [Clo,Clos]⟩ (srow_clo _ _ _) (srow_clo _ _ _) c1 c2 (by simp [Clos,Clo,hcs]) hK
  · subst hl;subst hr;exact(smc_F_TF_TF_TT N g cs (ints N fun j=>(π j:Int)) b1 b2 a m b k (ints N fun j=>(π j:Int)) (ints N fun j=>(π j:Int)) (ints N fun j=>(τ j:Int)) (by omega) (by omega) (by omega) (by omega) (by omega) (by omega) (by omega) (by omega) (by omega) (by omega) hloop (by omega) (by omega) (by omega) (by omega) (by omega) (by omega) (by omega) (hd _ _ _ _ (by omega) hd2 (by omega) rfl)).all3 (by kernel_rfl) ⟨fun _=>rfl,by simp [Clo,Clos]⟩ (srow_clo _ _ _) (srow_clo _ _ _) c1 c2 (by simp [Clos,Clo,hcs]) hK
  · subst hd;subst hl;subst hr;exact(smc_F_TF_TF_TF N g cs (ints N fun j=>(π j:Int)) b1 b2 a m b k (ints N fun j=>(π j:Int)) (ints N fun j=>(π j:Int)) (ints N fun j=>(π j:Int)) (by omega) (by omega) (by omega) (by omega) (by omega) (by omega) (by omega) (by omega) (by omega) (by omega) hloop (by omega) (by omega) (by omega) (by omega) (by omega) (by omega) (by omega)).all3 (by kernel_rfl) ⟨fun _=>rfl,by simp [Clo,Clos]⟩ (srow_clo _ _ _) (srow_clo _ _ _) c1 c2 (by simp [Clos,Clo,hcs]) hK
  · subst hd;subst hl;subst hr;exact(smc_F_TF_TF_F N g cs (ints N fun j=>(π j:Int)) b1 b2 a m b k (ints N fun j=>(π j:Int)) (ints N fun j=>(π j:Int)) (ints N fun j=>(π j:Int)) (by omega) (by omega) (by omega) (by omega) (by omega) (by omega) (by omega) (by omega) (by omega) (by omega) hloop (by omega) (by omega) (by omega) (by omega) (by omega) (by omega)).all3 (by kernel_rfl) ⟨fun _=>rfl,by simp [Clo,Clos]⟩ (srow_clo _ _ _) (srow_clo _ _ _) c1 c2 (by simp [Clos,Clo,hcs]) hK
  · subst hl;subst hr;exact(smc_F_TF_F_TT N g cs (ints N fun j=>(π j:Int)) b1 b2 a m b k (ints N fun j=>(π j:Int)) (ints N fun j=>(π j:Int)) (ints N fun j=>(τ j:Int)) (by omega) (by omega) (by omega) (by omega) (by omega) (by omega) (by omega) (by omega) (by omega) (by omega) hloop (by omega) (by omega) (by omega) (by omega) (by omega) (by omega) (hd _ _ _ _ (by omega) hd2 (by omega) rfl)).all3 (by kernel_rfl) ⟨fun _=>rfl,by simp [Clo,Clos]⟩ (srow_clo _ _ _) (srow_clo _ _ _) c1 c2 (by simp [Clos,Clo,hcs]) hK
  · subst hd;subst hl;subst hr;exact(smc_F_TF_F_TF N g cs (ints N fun j=>(π j:Int)) b1 b2 a m b k (ints N fun j=>(π j:Int)) (ints N fun j=>(π j:Int)) (ints N fun j=>(π j:Int)) (by omega) (by omega) (by omega) (by omega) (by omega) (by omega) (by omega) (by omega) (by omega) (by omega) hloop (by omega) (by omega) (by omega) (by omega) (by omega) (by omega)).all3 (by kernel_rfl) ⟨fun _=>rfl,by simp [Clo,Clos]⟩ (srow_clo _ _ _) (srow_clo _ _ _) c1 c2 (by simp [Clos,Clo,hcs]) hK
  · subst hd;subst hl;subst hr;exact(smc_F_TF_F_F N g cs (ints N fun j=>(π j:Int)) b1 b2 a m b k (ints N fun j=>(π j:Int)) (ints N fun j=>(π j:Int)) (ints N fun j=>(π j:Int)) (by omega) (by omega) (by omega) (by omega) (by omega) (by omega) (by omega) (by omega) (by omega) (by omega) hloop (by omega) (by omega) (by omega) (by omega) (by omega)).all3 (by kernel_rfl) ⟨fun _=>rfl,by simp [Clo,Clos]⟩ (srow_clo _ _ _) (srow_clo _ _ _) c1 c2 (by simp [Clos,Clo,hcs]) hK
  · subst hr;exact(smc_F_F_TT_TT N g cs (ints N fun j=>(π j:Int)) b1 b2 a m b k (ints N fun j=>(π j:Int)) (ints N fun j=>(σ j:Int)) (ints N fun j=>(τ j:Int)) (by omega) (by omega) (by omega) (by omega) (by omega) (by omega) (by omega) (by omega) (by omega) (by omega) hloop (by omega) (by omega) (by omega) (by omega) (hl _ _ _ _ (by omega) rfl rfl hd2) (by omega) (by omega) (hd _ _ _ _ (by omega) hd2 (by omega) rfl)).all3 (by kernel_rfl) ⟨fun _=>rfl,by simp [Clo,Clos]⟩ (srow_clo _ _ _) (srow_clo _ _ _) c1 c2 (by simp [Clos,Clo,hcs]) hK
  · subst hd;subst hr;exact(smc_F_F_TT_TF N g cs (ints N fun j=>(π j:Int)) b1 b2 a m b k (ints N fun j=>(π j:Int)) (ints N fun j=>(σ j:Int)) (ints N fun j=>(σ j:Int)) (by omega) (by omega) (by omega) (by omega) (by omega) (by omega) (by omega) (by omega) (by omega) (by omega) hloop (by omega) (by omega) (by omega) (by omega) (hl _ _ _ _ (by omega) rfl rfl hd2) (by omega) (by omega)).all3 (by kernel_rfl) ⟨fun _=>rfl,by simp [Clo,Clos]⟩ (srow_clo _ _ _) (srow_clo _ _ _) c1 c2 (by simp [Clos,Clo,hcs]) hK
  · subst hd;subst hr;exact(smc_F_F_TT_F N g cs (ints N fun j=>(π j:Int)) b1 b2 a m b k (ints N fun j=>(π j:Int)) (ints N fun j=>(σ j:Int)) (ints N fun j=>(σ j:Int)) (by omega) (by omega) (by omega) (by omega) (by omega) (by omega) (by omega) (by omega) (by omega) (by omega) hloop (by omega) (by omega) (by omega) (by omega) (hl _ _ _ _ (by omega) rfl rfl hd2) (by omega)).all3 (by kernel_rfl) ⟨fun _=>rfl,by simp [Clo,Clos]⟩ (srow_clo _ _ _) (srow_clo _ _ _) c1 c2 (by simp [Clos,Clo,hcs]) hK
  · subst hl;subst hr;exact(smc_F_F_TF_TT N g cs (ints N fun j=>(π j:Int)) b1 b2 a m b k (ints N fun j=>(π j:Int)) (ints N fun j=>(π j:Int)) (ints N fun j=>(τ j:Int)) (by omega) (by omega) (by omega) (by omega) (by omega) (by omega) (by omega) (by omega) (by omega) (by omega) hloop (by omega) (by omega) (by omega) (by omega) (by omega) (by omega) (hd _ _ _ _ (by omega) hd2 (by omega) rfl)).all3 (by kernel_rfl) ⟨fun _=>rfl,by simp [Clo,Clos]⟩ (srow_clo _ _ _) (srow_clo _ _ _) c1 c2 (by simp [Clos,Clo,hcs]) hK
  · subst hd;subst hl;subst hr;exact(smc_F_F_TF_TF N g cs (ints N fun j=>(π j:Int)) b1 b2 a m b k (ints N fun j=>(π j:Int)) (ints N fun j=>(π j:Int)) (ints N fun j=>(π j:Int)) (by omega) (by omega) (by omega) (by omega) (by omega) (by omega) (by omega) (by omega) (by omega) (by omega) hloop (by omega) (by omega) (by omega) (by omega) (by omega) (by omega)).all3 (by kernel_rfl) ⟨fun _=>rfl,by simp [Clo,Clos]⟩ (srow_clo _ _ _) (srow_clo _ _ _) c1 c2 (by simp [Clos,Clo,hcs]) hK
  · subst hd;subst hl;subst hr;exact(smc_F_F_TF_F N g cs (ints N fun j=>(π j:Int)) b1 b2 a m b k (ints N fun j=>(π j:Int)) (ints N fun j=>(π j:Int)) (ints N fun j=>(π j:Int)) (by omega) (by omega) (by omega) (by omega) (by omega) (by omega) (by omega) (by omega) (by omega) (by omega) hloop (by omega) (by omega) (by omega) (by omega) (by omega)).all3 (by kernel_rfl) ⟨fun _=>rfl,by simp [Clo,Clos]⟩ (srow_clo _ _ _) (srow_clo _ _ _) c1 c2 (by simp [Clos,Clo,hcs]) hK
  · subst hl;subst hr;exact(smc_F_F_F_TT N g cs (ints N fun j=>(π j:Int)) b1 b2 a m b k (ints N fun j=>(π j:Int)) (ints N fun j=>(π j:Int)) (ints N fun j=>(τ j:Int)) (by omega) (by omega) (by omega) (by omega) (by omega) (by omega) (by omega) (by omega) (by omega) (by omega) hloop (by omega) (by omega) (by omega) (by omega) (by omega) (hd _ _ _ _ (by omega) hd2 (by omega) rfl)).all3 (by kernel_rfl) ⟨fun _=>rfl,by simp [Clo,Clos]⟩ (srow_clo _ _ _) (srow_clo _ _ _) c1 c2 (by simp [Clos,Clo,hcs]) hK
  · subst hd;subst hl;subst hr;exact(smc_F_F_F_TF N g cs (ints N fun j=>(π j:Int)) b1 b2 a m b k (ints N fun j=>(π j:Int)) (ints N fun j=>(π j:Int)) (ints N fun j=>(π j:Int)) (by omega) (by omega) (by omega) (by omega) (by omega) (by omega) (by omega) (by omega) (by omega) (by omega) hloop (by omega) (by omega) (by omega) (by omega) (by omega)).all3 (by kernel_rfl) ⟨fun _=>rfl,by simp [Clo,Clos]⟩ (srow_clo _ _ _) (srow_clo _ _ _) c1 c2 (by simp [Clos,Clo,hcs]) hK
  · subst hd;subst hl;subst hr;exact(smc_F_F_F_F N g cs (ints N fun j=>(π j:Int)) b1 b2 a m b k (ints N fun j=>(π j:Int)) (ints N fun j=>(π j:Int)) (ints N fun j=>(π j:Int)) (by omega) (by omega) (by omega) (by omega) (by omega) (by omega) (by omega) (by omega) (by omega) (by omega) hloop (by omega) (by omega) (by omega) (by omega)).all3 (by kernel_rfl) ⟨fun _=>rfl,by simp [Clo,Clos]⟩ (srow_clo _ _ _) (srow_clo _ _ _) c1 c2 (by simp [Clos,Clo,hcs]) hK
end
end Go.Proofs.Ytgfkllnaeekjeaa
namespace Go.Proofs.Ytgfkllnaeekjeaa
open Go.Lift
set_option maxRecDepth 1000000
theorem rotF_id1(π:Nat→Nat){m b:Nat}(h:m≤b):rotF π m m b=π:=by
  funext k
  unfold rotF
  by_cases c:m≤k∧k<m+(b-m)
  · rw [if_pos c];congr 1;omega
  · rw [if_neg c,if_neg (by omega)]
theorem rotF_id2(π:Nat→Nat){a m:Nat}(h:a≤m):rotF π a m m=π:=by
  funext k
  unfold rotF
  rw [if_neg (by omega)]
  by_cases c:a+(m-m)≤k∧k<m
  · rw [if_pos c];congr 1;omega
  · rw [if_neg c]
theorem Parts.congr {less:Nat→Nat→Bool}{π σ:Nat→Nat}{a m b:Nat}(h:Parts less π a m b)(ham:a≤m)(hmb:m≤b)(e: ∀ k,a≤k→k<b→σ k=π k):Parts less σ a m b :=
  ⟨fun i j h1 h2 h3=>by rw [e i (by omega) (by omega),e j (by omega) (by omega)];exact h.one i j h1 h2 h3,
   fun i j h1 h2 h3=>by rw [e i (by omega) (by omega),e j (by omega) (by omega)];exact h.two i j h1 h2 h3,
   fun i j h1 h2 h3 h4=>by rw [e i (by omega) (by omega),e j (by omega) (by omega)];exact h.cross i j h1 h2 h3 h4⟩
section
variable {N:Nat}(hN:N<2^44){b1 b2:ABlk}(c1:CloB (fun i=>i<3) b1)(c2:CloB (fun i=>i<3) b2){g:FuncId}{cs:List AVal}(hcs:Clos (fun i=>i<3) cs){less:Nat→Nat→Bool}(hw:Weak less)(hcmp:CmpOk N g cs b1 b2 less)
include hN c1 c2 hcs hw hcmp
theorem sm_does: ∀ (f a m b:Nat) (π:Nat→Nat),b-a≤f→InN N π→a<m→m<b→b≤N→Parts less π a m b →
    ∃ σ,Same π σ a b∧Srt less σ a b∧SmDo N b1 b2 g cs π σ a m b
  | 0,a,m,b,π,hf,hπ,ham,hmb,hb,hp=>by omega
  | f + 1,a,m,b,π,hf,hπ,ham,hmb,hb,hp=>by
    by_cases e1:m=a+1
    · obtain⟨σ,s1,s2,s3⟩:=sm_one hN c1 c2 hcs hw hcmp π hπ e1 hmb hb hp
      exact⟨σ,s1,s2,fun K ea em eb hK h1 h2 h3=>by subst h1 h2 h3;exact s3 K hK⟩
    by_cases e2:b=m+1
    · obtain⟨σ,s1,s2,s3⟩:=sm_last hN c1 c2 hcs hw hcmp π hπ ham e1 e2 hb hp
      exact⟨σ,s1,s2,fun K ea em eb hK h1 h2 h3=>by subst h1 h2 h3;exact s3 K hK⟩
    obtain⟨mid,hmid⟩: ∃ mid,mid=(a+b) / 2:=⟨_,rfl⟩
    obtain⟨k,k1,k2,k3,k4,k5⟩:=sm4_loop hN c1 c2 hcs hw hcmp (a:=a) (m:=m) (b:=b) (d:=mid) (n:=mid+m) (p:=mid+m-1) (s0:=if mid<m then mid+m-b else a) (r0:=if mid<m then mid else m) π hπ
      (fun h h1 h2=>by split at h1<;>split at h2<;>omega) (by omega) (by split<;>omega) b (if mid<m then mid+m-b else a) (if mid<m then mid else m) (by split<;>omega) (by omega) (by split<;>omega) (by omega) (.inl rfl) (.inl rfl)
    obtain⟨P1,P2,hX⟩:=merge_split hw hp ham hmb hmid k1 k2 k3 k4
    have bd:a≤k∧k≤m∧k≤mid∧m≤mid+m-k∧mid+m-k≤b:=by split at k1<;>split at k2<;>omega
    obtain⟨e,he⟩: ∃ e,e=mid+m-k:=⟨_,rfl⟩
    rw [← he]at P1 P2 hX bd
    obtain⟨ρ,hρ⟩: ∃ ρ,ρ=rotF π k m e:=⟨_,rfl⟩
    rw [← hρ]at P1 P2 hX
    have hs1:Same π ρ k e:=by rw [hρ];exact rotF_same π (by omega) (by omega)
    have hρN:InN N ρ:=hπ.same hs1 (by omega)
    have hr:(k<m∧m<e∧RotDo N b1 b2 g cs π ρ k m e)∨(k<m∧ ¬ m<e∧π=ρ)∨(¬ k<m∧π=ρ):=by
      by_cases q1:k<m
      · by_cases q2:m<e
        · exact .inl ⟨q1,q2,fun K ea em eb hK h1 h2 h3=>by rw [hρ];exact rot_does hN c1 c2 hcs π q1 q2 (by omega) h1 h2 h3 hK⟩
        · exact .inr (.inl ⟨q1,q2,by rw [hρ,show e=m by omega,rotF_id2 π (by omega)]⟩)
      · exact .inr (.inr ⟨q1,by rw [hρ,show k=m by omega,rotF_id1 π (by omega)]⟩)
    have hl: ∃ σ,Same ρ σ a mid∧Srt less σ a mid∧((a<k∧k<mid∧SmDo N b1 b2 g cs ρ σ a k mid)∨(a<k∧ ¬ k<mid∧ρ=σ)∨(¬ a<k∧ρ=σ)):=by
      by_cases q1:a<k
      · by_cases q2:k<mid
        · obtain⟨σ,r1,r2,r3⟩:=sm_does f a k mid ρ (by omega) hρN q1 q2 (by omega) P1
          exact⟨σ,r1,r2,.inl ⟨q1,q2,r3⟩⟩
        · refine⟨ρ,Same.refl _ _ _,?_,.inr (.inl ⟨q1,q2,rfl⟩)⟩
          have:=P1.one
          rwa [show k=mid by omega]at this
      · refine⟨ρ,Same.refl _ _ _,?_,.inr (.inr ⟨q1,rfl⟩)⟩
        have:=P1.two
        rwa [show k=a by omega]at this
    obtain⟨σ,l1,l2,l3⟩:=hl
    have hσN:InN N σ:=hρN.same l1 (by omega)
    have P3:Parts less σ mid e b:=Parts.congr P2 (by omega) (by omega) fun k h1 h2=>l1.out k (.inr h1)
    have hd: ∃ τ,Same σ τ mid b∧Srt less τ mid b∧((mid<e∧e<b∧SmDo N b1 b2 g cs σ τ mid e b)∨(mid<e∧ ¬ e<b∧σ=τ)∨(¬ mid<e∧σ=τ)):=by
      by_cases q1:mid<e
      · by_cases q2:e<b
        · obtain⟨τ,r1,r2,r3⟩:=sm_does f mid e b σ (by omega) hσN q1 q2 hb P3
          exact⟨τ,r1,r2,.inl ⟨q1,q2,r3⟩⟩
        · refine⟨σ,Same.refl _ _ _,?_,.inr (.inl ⟨q1,q2,rfl⟩)⟩
          have:=P3.one
          rwa [show e=b by omega]at this
      · refine⟨σ,Same.refl _ _ _,?_,.inr (.inr ⟨q1,rfl⟩)⟩
        have:=P3.two
        rwa [show e=mid by omega]at this
    obtain⟨τ,d1,d2,d3⟩:=hd
    refine⟨τ,(hs1.wide (by omega) (by omega) (by omega)).trans ((l1.wide (Nat.le_refl _) (by omega) (by omega)).trans (d1.wide (by omega) (Nat.le_refl _) (by omega))),merge_join (by omega) (by omega) l1 l2 d1 d2 hX,fun K ea em eb hK h1 h2 h3=> ?_⟩
    subst h1 h2 h3
    have e18:(mid:Int)=Int.fdiv ((a:Int)+(b:Int)) (2^1):=by rw [fdiv2,hmid]
    have e19:((mid+m:Nat):Int)=(mid:Int)+(m:Int):=by omega
    have e22:((mid+m-1:Nat):Int)=(mid:Int)+(m:Int)-1:=by omega
    by_cases ht:mid<m
    · have e20:((if mid<m then mid+m-b else a:Nat):Int)=(mid:Int)+(m:Int)- (b:Int):=by rw [if_pos ht];omega
      have e21:((if mid<m then mid else m:Nat):Int)=(mid:Int):=by rw [if_pos ht]
      have r:=Runs.of_loops k5
      rw [e19,e20,e21,e22,e18]at r
      exact smc_allT hN c1 c2 hcs π ρ σ τ hmid he (by omega) ham e1 hmb e2 hb ht r hr l3 d3 hK
    · have e20:((if mid<m then mid+m-b else a:Nat):Int)=(a:Int):=by rw [if_neg ht]
      have e21:((if mid<m then mid else m:Nat):Int)=(m:Int):=by rw [if_neg ht]
      have r:=Runs.of_loops (Tri.pre k5 (SDrop (K:=34) (K':=36) c1 c2 (by omega) (by kernel_rfl) (by simp [All_cons,All_nil,Clo,Clos,clos3 hcs];simp [Ids])))
      rw [e19,e20,e21,e22,e18]at r
      exact smc_allF hN c1 c2 hcs π ρ σ τ hmid he (by omega) ham e1 hmb e2 hb ht r hr l3 d3 hK
end
end Go.Proofs.Ytgfkllnaeekjeaa
namespace Go.Proofs.Ytgfkllnaeekjeaa
open Go.Lift
set_option maxRecDepth 1000000
noncomputable abbrev zq38_2(l1:List AVal)(b1:ABlk)(b2:ABlk):List (Nat×ABlk):= [(0,.made l1 1 true),(1,b1),(2,b2)]
noncomputable abbrev zq38_3(N:Nat)(n:Nat)(g:FuncId)(cs:List AVal)(s:Nat)(a:Nat)(b:Nat):Facts:= [(0,.slice (some ⟨0,0,0,0,1⟩) N N),(1,zqI n),(2,.func (.func g) [] cs),(6,zqI s),(7,zqI a),(8,zqI b)]
section
variable(N:Nat)(g:FuncId)(cs:List AVal)(l:List AVal)(b1 b2:ABlk)(n s a b:Nat)
include N g cs l b1 b2 n s a b
theorem st0_step(l1:List AVal)(hc_0:(b:Int)≤(n:Int))(hc_1:FDoes Try.prog 63 [.slice (some ⟨0,0,0,0,1⟩) N N,zqI (a:Int),zqI (b:Int),.func (.func g) [] cs] (AHeap.rows 16 [(0,.made l 1 true),(1,b1),(2,b2)]) (.tuple []) (AHeap.rows 16 (zq38_2 l1 b1 b2)))(hc_2:zqF ((b:Int)+(s:Int))) :
    Runs Try.prog 3 63 (loopAt Try.prog 62 0) (zq38_3 N n g cs s a b) (AHeap.rows 8 [(0,.made l 1 true),(1,b1),(2,b2)]) .normal [(0,.slice (some ⟨0,0,0,0,1⟩) N N),(1,zqI (n:Int)),(2,.func (.func g) [] cs),(6,zqI (s:Int)),(7,zqI (b:Int)),(8,zqI ((b:Int)+(s:Int)))] (AHeap.rows 22 (zq38_2 l1 b1 b2)) :=
  ppath_runs env_ok mixed (hs:= [.val 2002 (.bool true),.act 3004 (.tuple []) (fun h=>h.upd [0] [.made l1 1 true]),.go 5002]) (keep:= [0,1,2,6,7,8]) (by kernel_rfl) (All.cons (okT hc_0) (All.cons (CallT.mk hc_1) (All.cons hc_2 (All.nil))))
theorem st0_end(hc_0: ¬ ((b:Int)≤(n:Int))) :
    Runs Try.prog 3 63 (loopAt Try.prog 62 0) (zq38_3 N n g cs s a b) (AHeap.rows 8 [(0,.made l 1 true),(1,b1),(2,b2)]) (.exit 0) [(0,.slice (some ⟨0,0,0,0,1⟩) N N),(1,zqI (n:Int)),(2,.func (.func g) [] cs),(6,zqI (s:Int)),(7,zqI (a:Int))] (AHeap.rows 11 [(0,.made l 1 true),(1,b1),(2,b2)]) :=
  ppath_runs env_ok mixed (hs:= [.val 2002 (.bool false)]) (keep:= [0,1,2,6,7]) (by kernel_rfl) (All.cons (okF hc_0) (All.nil))
theorem st2_step(l1:List AVal)(hc_0:(b:Int)≤(n:Int))(hc_1:zqF ((a:Int)+(s:Int)))(hc_2:FDoes Try.prog 64 [.slice (some ⟨0,0,0,0,1⟩) N N,zqI (a:Int),zqI ((a:Int)+(s:Int)),zqI (b:Int),.func (.func g) [] cs] (AHeap.rows 23 [(0,.made l 1 true),(1,b1),(2,b2)]) (.tuple []) (AHeap.rows 23 (zq38_2 l1 b1 b2)))(hc_3:zqF (2* (s:Int)))(hc_4:zqF ((b:Int)+2* (s:Int))) :
    Runs Try.prog 3 63 (loopAt Try.prog 62 2) (zq38_3 N n g cs s a b) (AHeap.rows 12 [(0,.made l 1 true),(1,b1),(2,b2)]) .normal [(0,.slice (some ⟨0,0,0,0,1⟩) N N),(1,zqI (n:Int)),(2,.func (.func g) [] cs),(6,zqI (s:Int)),(7,zqI (b:Int)),(8,zqI ((b:Int)+2* (s:Int)))] (AHeap.rows 30 (zq38_2 l1 b1 b2)) :=
  ppath_runs env_ok mixed (hs:= [.val 9002 (.bool true),.go 10004,.act 10007 (.tuple []) (fun h=>h.upd [0] [.made l1 1 true]),.go 12002,.go 12003]) (keep:= [0,1,2,6,7,8]) (by kernel_rfl) (All.cons (okT hc_0) (All.cons hc_1 (All.cons (CallT.mk hc_2) (All.cons hc_3 (All.cons hc_4 (All.nil))))))
theorem st2_end(hc_0: ¬ ((b:Int)≤(n:Int))) :
    Runs Try.prog 3 63 (loopAt Try.prog 62 2) (zq38_3 N n g cs s a b) (AHeap.rows 12 [(0,.made l 1 true),(1,b1),(2,b2)]) (.exit 4) [(0,.slice (some ⟨0,0,0,0,1⟩) N N),(1,zqI (n:Int)),(2,.func (.func g) [] cs),(6,zqI (s:Int)),(7,zqI (a:Int))] (AHeap.rows 15 [(0,.made l 1 true),(1,b1),(2,b2)]) :=
  ppath_runs env_ok mixed (hs:= [.val 9002 (.bool false)]) (keep:= [0,1,2,6,7]) (by kernel_rfl) (All.cons (okF hc_0) (All.nil))
end
noncomputable abbrev zq38_1(N:Nat)(n:Nat)(g:FuncId)(cs:List AVal)(s:Nat)(l:List AVal)(b1:ABlk)(b2:ABlk)(k:Nat)(l1:List AVal):Prop:=Runs Try.prog 3 63 (.loop (loopAt Try.prog 62 2)) [(0,.slice (some ⟨0,0,0,0,1⟩) N N),(1,zqI (n:Int)),(2,.func (.func g) [] cs),(6,zqI (s:Int)),(7,zqI 0),(8,zqI (2* (s:Int)))] (AHeap.rows 17 [(0,.made l 1 true),(1,b1),(2,b2)]) (.exit 4) [(0,.slice (some ⟨0,0,0,0,1⟩) N N),(1,zqI (n:Int)),(2,.func (.func g) [] cs),(6,zqI (s:Int)),(7,zqI (k:Int))] (AHeap.rows 15 [(0,.made l1 1 true),(1,b1),(2,b2)])
section
variable(N:Nat)(g:FuncId)(cs:List AVal)(l:List AVal)(b1 b2:ABlk)
include N g cs l b1 b2
section
variable(n s k:Nat)(l1 l2:List AVal)(hc_0:(s:Int)<(n:Int))(hc_1:zqF (2* (s:Int)))(hc_2:(zq38_1 N n g cs s l b1 b2 k l1))(hc_3:zqF ((k:Int)+(s:Int)))
include n s k l1 l2 hc_0 hc_1 hc_2 hc_3
theorem st1_T(hc_4:(k:Int)+(s:Int)<(n:Int))(hc_5:FDoes Try.prog 64 [.slice (some ⟨0,0,0,0,1⟩) N N,zqI (k:Int),zqI ((k:Int)+(s:Int)),zqI (n:Int),.func (.func g) [] cs] (AHeap.rows 28 (zq38_2 l1 b1 b2)) (.tuple []) (AHeap.rows 28 [(0,.made l2 1 true),(1,b1),(2,b2)]))(hc_6:zqF ((s:Int)*2)) :
    Runs Try.prog 3 63 (loopAt Try.prog 62 1) [(0,.slice (some ⟨0,0,0,0,1⟩) N N),(1,zqI n),(2,.func (.func g) [] cs),(6,zqI s)] (AHeap.rows 10 [(0,.made l 1 true),(1,b1),(2,b2)]) .normal [(0,.slice (some ⟨0,0,0,0,1⟩) N N),(1,zqI (n:Int)),(2,.func (.func g) [] cs),(6,zqI ((s:Int)*2))] (AHeap.rows 31 [(0,.made l2 1 true),(1,b1),(2,b2)]) :=
  ppath_runs env_ok mixed (hs:= [.val 7002 (.bool true),.go 8001,.keep [0,1,2,6,7,8],.loop [(0,.slice (some ⟨0,0,0,0,1⟩) N N),(1,zqI n),(2,.func (.func g) [] cs),(6,zqI s),(7,zqI k)] (AHeap.rows 15 (zq38_2 l1 b1 b2)) (.exit 4),.go 13002,.val 14002 (.bool true),.act 15005 (.tuple []) (fun h=>h.upd [0] [.made l2 1 true]),.go 16001]) (keep:= [0,1,2,6]) (by kernel_rfl) (All.cons (okT hc_0) (All.cons hc_1 (All.cons hc_2 (All.cons hc_3 (All.cons (okT hc_4) (All.cons (CallT.mk hc_5) (All.cons hc_6 (All.nil))))))))
theorem st1_F(hc_4: ¬ ((k:Int)+(s:Int)<(n:Int)))(hc_5:zqF ((s:Int)*2)) :
    Runs Try.prog 3 63 (loopAt Try.prog 62 1) [(0,.slice (some ⟨0,0,0,0,1⟩) N N),(1,zqI n),(2,.func (.func g) [] cs),(6,zqI s)] (AHeap.rows 10 [(0,.made l 1 true),(1,b1),(2,b2)]) .normal [(0,.slice (some ⟨0,0,0,0,1⟩) N N),(1,zqI (n:Int)),(2,.func (.func g) [] cs),(6,zqI ((s:Int)*2))] (AHeap.rows 25 (zq38_2 l1 b1 b2)) :=
  ppath_runs env_ok mixed (hs:= [.val 7002 (.bool true),.go 8001,.keep [0,1,2,6,7,8],.loop [(0,.slice (some ⟨0,0,0,0,1⟩) N N),(1,zqI n),(2,.func (.func g) [] cs),(6,zqI s),(7,zqI k)] (AHeap.rows 15 (zq38_2 l1 b1 b2)) (.exit 4),.go 13002,.val 14002 (.bool false),.go 16001]) (keep:= [0,1,2,6]) (by kernel_rfl) (All.cons (okT hc_0) (All.cons hc_1 (All.cons hc_2 (All.cons hc_3 (All.cons (okF hc_4) (All.cons hc_5 (All.nil)))))))
end
theorem st1_end(n s:Nat)(hc_0: ¬ ((s:Int)<(n:Int))) :
    Runs Try.prog 3 63 (loopAt Try.prog 62 1) [(0,.slice (some ⟨0,0,0,0,1⟩) N N),(1,zqI n),(2,.func (.func g) [] cs),(6,zqI s)] (AHeap.rows 10 [(0,.made l 1 true),(1,b1),(2,b2)]) (.exit 2) [] (AHeap.rows 13 [(0,.made l 1 true),(1,b1),(2,b2)]) :=
  ppath_runs env_ok mixed (hs:= [.val 7002 (.bool false)]) (keep:= []) (by kernel_rfl) (All.cons (okF hc_0) (All.nil))
theorem st_call(n k:Nat)(l1 l2 l3:List AVal)(hc_0:Runs Try.prog 3 63 (.loop (loopAt Try.prog 62 0)) [(0,.slice (some ⟨0,0,0,0,1⟩) N N),(1,zqI (n:Int)),(2,.func (.func g) [] cs),(6,zqI 20),(7,zqI 0),(8,zqI 20)] (AHeap.rows 7 [(0,.made l 1 true),(1,b1),(2,b2)]) (.exit 0) [(0,.slice (some ⟨0,0,0,0,1⟩) N N),(1,zqI (n:Int)),(2,.func (.func g) [] cs),(6,zqI 20),(7,zqI (k:Int))] (AHeap.rows 11 (zq38_2 l1 b1 b2)))(hc_1:FDoes Try.prog 63 [.slice (some ⟨0,0,0,0,1⟩) N N,zqI (k:Int),zqI (n:Int),.func (.func g) [] cs] (AHeap.rows 16 (zq38_2 l1 b1 b2)) (.tuple []) (AHeap.rows 16 [(0,.made l2 1 true),(1,b1),(2,b2)]))(hc_2:Runs Try.prog 3 63 (.loop (loopAt Try.prog 62 1)) [(0,.slice (some ⟨0,0,0,0,1⟩) N N),(1,zqI (n:Int)),(2,.func (.func g) [] cs),(6,zqI 20)] (AHeap.rows 16 [(0,.made l2 1 true),(1,b1),(2,b2)]) (.exit 2) [] (AHeap.rows 13 [(0,.made l3 1 true),(1,b1),(2,b2)])) :
    FDoes Try.prog 62 [.slice (some ⟨0,0,0,0,1⟩) N N,zqI n,.func (.func g) [] cs] (AHeap.of [.made l 1 true,b1,b2]) (.tuple []) (AHeap.rows 13 [(0,.made l3 1 true),(1,b1),(2,b2)]) :=
  pcall_does env_ok mixed (hs:= [.keep [0,1,2,6,7,8],.loop [(0,.slice (some ⟨0,0,0,0,1⟩) N N),(1,zqI n),(2,.func (.func g) [] cs),(6,zqI 20),(7,zqI k)] (AHeap.rows 11 (zq38_2 l1 b1 b2)) (.exit 0),.act 6004 (.tuple []) (fun h=>h.upd [0] [.made l2 1 true]),.keep [0,1,2,6],.loop [] (AHeap.rows 13 [(0,.made l3 1 true),(1,b1),(2,b2)]) (.exit 2)]) (rs:= []) (by kernel_rfl) (All.cons hc_0 (All.cons (CallT.mk hc_1) (All.cons hc_2 (All.nil))))
theorem ss_call(l1:List AVal)(hc_0:FDoes Try.prog 62 [.slice (some ⟨0,0,0,0,1⟩) N N,zqI (N:Int),.func (.func g) [] cs] (AHeap.rows 8 [(0,.made l 1 true),(1,b1),(2,b2)]) (.tuple []) (AHeap.rows 8 (zq38_2 l1 b1 b2))) :
    FDoes Try.prog 60 [.slice (some ⟨0,0,0,0,1⟩) N N,.func (.func g) [] cs] (AHeap.of [.made l 1 true,b1,b2]) (.tuple []) (AHeap.rows 8 (zq38_2 l1 b1 b2)) :=
  pcall_does env_ok mixed (hs:= [.act 4 (.tuple []) (fun h=>h.upd [0] [.made l1 1 true])]) (rs:= []) (by kernel_rfl) (All.cons (CallT.mk hc_0) (All.nil))
end
end Go.Proofs.Ytgfkllnaeekjeaa
namespace Go.Proofs.Ytgfkllnaeekjeaa
open Go.Lift
set_option maxRecDepth 1000000
def Cell(less:Nat→Nat→Bool)(π ρ:Nat→Nat)(lo hi:Nat):Prop:=Srt less ρ lo hi∧ ∀ j,lo≤j→j<hi→ ∃ i,lo≤i∧i<hi∧ρ j=π i
theorem Cell.congr {less:Nat→Nat→Bool}{π ρ σ:Nat→Nat}{lo hi:Nat}(h:Cell less π ρ lo hi)(e: ∀ k,lo≤k→k<hi→σ k=ρ k):Cell less π σ lo hi :=
  ⟨fun i j h1 h2 h3=>by rw [e i h1 (by omega),e j (by omega) h3];exact h.1 i j h1 h2 h3,fun j h1 h2=>by rw [e j h1 h2];exact h.2 j h1 h2⟩
theorem Cell.parts {less:Nat→Nat→Bool}{π ρ:Nat→Nat}{a m b N:Nat}(h:Cell less π ρ a m)(k:Cell less π ρ m b)(hb:b≤N)(hinc: ∀ i j,i<j→j<N→π i<π j):Parts less ρ a m b :=
  ⟨h.1,k.1,fun i j h1 h2 h3 h4=>by
    obtain⟨x,x1,x2,x3⟩:=h.2 i h1 h2
    obtain⟨y,y1,y2,y3⟩:=k.2 j h3 h4
    rw [x3,y3];exact hinc x y (by omega) (by omega)⟩
theorem Cell.merge {less:Nat→Nat→Bool}{π ρ σ:Nat→Nat}{a m b:Nat}(h:Cell less π ρ a m)(k:Cell less π ρ m b)(ham:a≤m)(hmb:m≤b)(s:Same ρ σ a b)(t:Srt less σ a b):Cell less π σ a b :=
  ⟨t, fun j h1 h2=>by
    obtain⟨x,x1,x2,x3⟩:=s.from h1 h2
    by_cases c:x<m
    · obtain⟨y,y1,y2,y3⟩:=h.2 x x1 c
      exact⟨y,y1,by omega,by rw [x3,y3]⟩
    · obtain⟨y,y1,y2,y3⟩:=k.2 x (by omega) x2
      exact⟨y,by omega,y2,by rw [x3,y3]⟩⟩
section
variable {N:Nat}(hN:N<2^44){b1 b2:ABlk}(c1:CloB (fun i=>i<3) b1)(c2:CloB (fun i=>i<3) b2){g:FuncId}{cs:List AVal}(hcs:Clos (fun i=>i<3) cs){less:Nat→Nat→Bool}(hw:Weak less)(hcmp:CmpOk N g cs b1 b2 less)
  {π:Nat→Nat} (hπ:InN N π) (hinc: ∀ i j,i<j→j<N→π i<π j)
include hN c1 c2 hcs hw hcmp hπ hinc
theorem st0_loop: ∀ (f a:Nat) (ρ:Nat→Nat),N-a≤f→a≤N→20∣a→Same π ρ 0 a→(∀ lo,20∣lo→lo<a→Cell less π ρ lo (lo+20)) →
    ∃ k σ,k≤N∧N<k+20∧20∣k∧Same π σ 0 k∧(∀ lo,20∣lo→lo<k→Cell less π σ lo (lo+20)) ∧
    Loops Try.prog 3 63 (loopAt Try.prog 62 0) [(0,.slice (some ⟨0,0,0,0,1⟩) N N),(1,.int .i64 N),(2,.func (.func g) [] cs),(6,.int .i64 (20:Nat)),(7,.int .i64 a),(8,.int .i64 (a+20:Nat))] (SH 8 N ρ b1 b2)
      (.exit 0) [(0,.slice (some ⟨0,0,0,0,1⟩) N N),(1,.int .i64 N),(2,.func (.func g) [] cs),(6,.int .i64 (20:Nat)),(7,.int .i64 k)] (SH 11 N σ b1 b2)
  | f, a, ρ,hf,ha,h20,hs,hc=>by
    by_cases hb:a+20≤N
    · match f,hf with
      | 0,hf=>omega
      | f + 1,hf =>
        have hρ:InN N ρ:=hπ.same hs ha
        have hout: ∀ k,a≤k→ρ k=π k:=fun k hk=>hs.out k (.inr hk)
        obtain⟨σ,s1,s2,s3⟩:=ins_does hN c1 c2 hcs hw hcmp (a:=a) (b:=a+20) ρ hρ (by omega) hb (fun i j h1 h2 h3=>by rw [hout i h1,hout j (by omega)];exact hinc i j h2 (by omega)) rfl rfl
        have hs':Same π σ 0 (a+20):=(hs.wide (Nat.le_refl _) (by omega) (by omega)).trans (s1.wide (by omega) (Nat.le_refl _) (by omega))
        have hc': ∀ lo,20∣lo→lo<a+20→Cell less π σ lo (lo+20):=by
          intro lo hd hlt
          by_cases c:lo<a
          · exact(hc lo hd c).congr fun k h1 h2=>s1.out k (.inl (by omega))
          · obtain rfl:lo=a:=by omega
            refine⟨s2,fun j h1 h2=> ?_⟩
            obtain⟨x,x1,x2,x3⟩:=s1.from h1 h2
            exact⟨x,x1,x2,by rw [x3,hout x x1]⟩
        obtain⟨k,τ,k1,k2,k3,k4,k5,k6⟩:=st0_loop f (a+20) σ (by omega) hb (by omega) hs' hc'
        refine⟨k,τ,k1,k2,k3,k4,k5,?_⟩
        have s:=st0_step N g cs (ints N fun k=>(ρ k:Int)) b1 b2 N 20 a (a+20) (ints N fun k=>(σ k:Int)) (by omega) (s3 16 (by omega)) (by omega)
        rw [show((a+20:Nat):Int)+((20:Nat):Int)=((a+20+20:Nat):Int)by omega]at s
        exact Loops.round s (SDrop c1 c2 (by omega) (by kernel_rfl) (by simp [All_cons,All_nil,Clo,Clos,clos3 hcs];simp [Ids])) k6
    · exact⟨a,ρ,ha,by omega,h20,hs,hc,Loops.last (by simp) (st0_end N g cs _ b1 b2 N 20 a (a+20) (by omega))⟩
theorem st2_loop {s:Nat} (hs0:0<s) (hsN:s<N): ∀ (f a:Nat) (ρ:Nat→Nat),N-a≤f→a≤N→2*s∣a→Same π ρ 0 N→(∀ lo,2*s∣lo→lo<a→Cell less π ρ lo (lo+2*s))→(∀ lo,s∣lo→a≤lo→lo<N→Cell less π ρ lo (min (lo+s) N)) →
    ∃ k σ,k≤N∧N<k+2*s∧2*s∣k∧Same π σ 0 N∧(∀ lo,2*s∣lo→lo<k→Cell less π σ lo (lo+2*s))∧(∀ lo,s∣lo→k≤lo→lo<N→Cell less π σ lo (min (lo+s) N)) ∧
    Loops Try.prog 3 63 (loopAt Try.prog 62 2) [(0,.slice (some ⟨0,0,0,0,1⟩) N N),(1,.int .i64 N),(2,.func (.func g) [] cs),(6,.int .i64 s),(7,.int .i64 a),(8,.int .i64 (a+2*s:Nat))] (SH 12 N ρ b1 b2)
      (.exit 4) [(0,.slice (some ⟨0,0,0,0,1⟩) N N),(1,.int .i64 N),(2,.func (.func g) [] cs),(6,.int .i64 s),(7,.int .i64 k)] (SH 15 N σ b1 b2)
  | f, a, ρ,hf,ha,hd,hs,hc,hr=>by
    by_cases hb:a+2*s≤N
    · match f,hf with
      | 0,hf=>omega
      | f + 1,hf =>
        have hρ:InN N ρ:=hπ.same hs (Nat.le_refl _)
        have hsa:s∣a:=Nat.dvd_trans ⟨2,by omega⟩ hd
        have q1:=hr a hsa (Nat.le_refl _) (by omega)
        have q2:=hr (a+s) (Nat.dvd_add hsa (Nat.dvd_refl s)) (by omega) (by omega)
        rw [show min (a+s) N=a+s by omega]at q1
        rw [show min (a+s+s) N=a+2*s by omega]at q2
        obtain⟨σ,s1,s2,s3⟩:=sm_does hN c1 c2 hcs hw hcmp (a+2*s-a) a (a+s) (a+2*s) ρ (Nat.le_refl _) hρ (by omega) (by omega) hb (q1.parts q2 hb hinc)
        have hcell:=q1.merge q2 (by omega) (by omega) s1 s2
        have hs':Same π σ 0 N:=hs.trans (s1.wide (by omega) hb (by omega))
        have hc': ∀ lo,2*s∣lo→lo<a+2*s→Cell less π σ lo (lo+2*s):=by
          intro lo hdl hlt
          by_cases c:lo<a
          · have:2*s≤a-lo:=Nat.le_of_dvd (by omega) (Nat.dvd_sub hd hdl)
            exact(hc lo hdl c).congr fun k h1 h2=>s1.out k (.inl (by omega))
          · by_cases c2:lo=a
            · subst c2;exact hcell
            · have:2*s≤lo-a:=Nat.le_of_dvd (by omega) (Nat.dvd_sub hdl hd)
              omega
        have hr': ∀ lo,s∣lo→a+2*s≤lo→lo<N→Cell less π σ lo (min (lo+s) N):=fun lo h1 h2 h3=>(hr lo h1 (by omega) h3).congr fun k h4 h5=>s1.out k (.inr (by omega))
        obtain⟨k,τ,k1,k2,k3,k4,k5,k6,k7⟩:=st2_loop hs0 hsN f (a+2*s) σ (by omega) hb (Nat.dvd_add hd (Nat.dvd_refl _)) hs' hc' hr'
        refine⟨k,τ,k1,k2,k3,k4,k5,k6,?_⟩
        have st:=st2_step N g cs (ints N fun k=>(ρ k:Int)) b1 b2 N s a (a+2*s) (ints N fun k=>(σ k:Int)) (by omega) (by omega) (s3 23 _ _ _ (by omega) rfl (by omega) rfl) (by omega) (by omega)
        rw [show((a+2*s:Nat):Int)+2* (s:Int)=((a+2*s+2*s:Nat):Int)by omega]at st
        exact Loops.round st (SDrop c1 c2 (by omega) (by kernel_rfl) (by simp [All_cons,All_nil,Clo,Clos,clos3 hcs];simp [Ids])) k7
    · exact⟨a,ρ,ha,by omega,hd,hs,hc,hr,Loops.last (by simp) (st2_end N g cs _ b1 b2 N s a (a+2*s) (by omega))⟩
theorem st1_loop: ∀ (f s:Nat) (ρ:Nat→Nat),N-s≤f→0<s→s<2^46→Same π ρ 0 N→(∀ lo,s∣lo→lo<N→Cell less π ρ lo (min (lo+s) N)) →
    ∃ σ,Same π σ 0 N∧Srt less σ 0 N ∧
    Loops Try.prog 3 63 (loopAt Try.prog 62 1) [(0,.slice (some ⟨0,0,0,0,1⟩) N N),(1,.int .i64 N),(2,.func (.func g) [] cs),(6,.int .i64 s)] (SH 10 N ρ b1 b2) (.exit 2) [] (SH 13 N σ b1 b2)
  | f, s, ρ,hf,hs0,hsb,hs,hc=>by
    by_cases hsN:s<N
    · match f,hf with
      | 0,hf=>omega
      | f + 1,hf =>
        obtain⟨k,σ,k1,k2,k3,k4,k5,k6,k7⟩:=st2_loop hN c1 c2 hcs hw hcmp hπ hinc hs0 hsN N 0 ρ (by omega) (by omega) ⟨0,rfl⟩ hs (fun lo _ h=>by omega) (fun lo h1 _ h2=>hc lo h1 h2)
        have r:=Runs.of_loops (Tri.pre k7 (SDrop (K:=17) (K':=12) c1 c2 (by omega) (by kernel_rfl) (by simp [All_cons,All_nil,Clo,Clos,clos3 hcs];simp [Ids])))
        rw [show((0+2*s:Nat):Int)=2* (s:Int)by omega]at r
        have hsk:s∣k:=Nat.dvd_trans ⟨2,by omega⟩ k3
        have fin: ∀ τ,(∀ j,j<k→τ j=σ j)→(k<N→Cell less π τ k N)→ ∀ lo,s*2∣lo→lo<N→Cell less π τ lo (min (lo+s*2) N):=by
          intro τ e1 e2 lo hd hlt
          rw [Nat.mul_comm]at hd
          by_cases c:lo<k
          · have:2*s≤k-lo:=Nat.le_of_dvd (by omega) (Nat.dvd_sub k3 hd)
            rw [show min (lo+s*2) N=lo+2*s by omega]
            exact(k5 lo hd c).congr fun j h1 h2=>e1 j (by omega)
          · by_cases c2:lo=k
            · subst c2
              rw [show min (lo+s*2) N=N by omega]
              exact e2 hlt
            · have:2*s≤lo-k:=Nat.le_of_dvd (by omega) (Nat.dvd_sub hd k3)
              omega
        by_cases hk:k+s<N
        · have hσ:InN N σ:=hπ.same k4 (Nat.le_refl _)
          have q1:=k6 k hsk (Nat.le_refl _) (by omega)
          have q2:=k6 (k+s) (Nat.dvd_add hsk (Nat.dvd_refl s)) (by omega) (by omega)
          rw [show min (k+s) N=k+s by omega]at q1
          rw [show min (k+s+s) N=N by omega]at q2
          obtain⟨τ,t1,t2,t3⟩:=sm_does hN c1 c2 hcs hw hcmp (N-k) k (k+s) N σ (Nat.le_refl _) hσ (by omega) (by omega) (Nat.le_refl _) (q1.parts q2 (Nat.le_refl _) hinc)
          obtain⟨υ,u1,u2,u3⟩:=st1_loop f (s*2) τ (by omega) (by omega) (by omega) (k4.trans (t1.wide (by omega) (Nat.le_refl _) (by omega))) (fin τ (fun j hj=>t1.out j (.inl hj)) fun _=>q1.merge q2 (by omega) (by omega) t1 t2)
          refine⟨υ,u1,u2,?_⟩
          have st:=st1_T N g cs (ints N fun k=>(ρ k:Int)) b1 b2 N s k (ints N fun k=>(σ k:Int)) (ints N fun k=>(τ k:Int)) (by omega) (by omega) r (by omega) (by omega) (t3 28 _ _ _ (by omega) rfl (by omega) rfl) (by omega)
          rw [show(s:Int)*2=((s*2:Nat):Int)by omega]at st
          exact Loops.round st (SDrop c1 c2 (by omega) (by kernel_rfl) (by simp [All_cons,All_nil,Clo,Clos,clos3 hcs];simp [Ids])) u3
        · obtain⟨υ,u1,u2,u3⟩:=st1_loop f (s*2) σ (by omega) (by omega) (by omega) k4 (fin σ (fun j hj=>rfl) fun h=>by
            have q1:=k6 k hsk (Nat.le_refl _) h
            rwa [show min (k+s) N=N by omega]at q1)
          refine⟨υ,u1,u2,?_⟩
          have st:=st1_F N g cs (ints N fun k=>(ρ k:Int)) b1 b2 N s k (ints N fun k=>(σ k:Int)) (ints N fun k=>(σ k:Int)) (by omega) (by omega) r (by omega) (by omega) (by omega)
          rw [show(s:Int)*2=((s*2:Nat):Int)by omega]at st
          exact Loops.round st (SDrop c1 c2 (by omega) (by kernel_rfl) (by simp [All_cons,All_nil,Clo,Clos,clos3 hcs];simp [Ids])) u3
    · refine⟨ρ,hs,?_,Loops.last (by simp) (st1_end N g cs _ b1 b2 N s (by omega))⟩
      by_cases h0:N=0
      · intro i j h1 h2 h3;omega
      · have:=(hc 0 ⟨0,rfl⟩ (by omega)).1
        rwa [show min (0+s) N=N by omega]at this
end
end Go.Proofs.Ytgfkllnaeekjeaa
namespace Go.Proofs.Ytgfkllnaeekjeaa
open Go.Lift
set_option maxRecDepth 1000000
section
variable {N:Nat}(hN:N<2^44){b1 b2:ABlk}(c1:CloB (fun i=>i<3) b1)(c2:CloB (fun i=>i<3) b2){g:FuncId}{cs:List AVal}(hcs:Clos (fun i=>i<3) cs){less:Nat→Nat→Bool}(hw:Weak less)(hcmp:CmpOk N g cs b1 b2 less)
  {π:Nat→Nat} (hπ:InN N π) (hinc: ∀ i j,i<j→j<N→π i<π j)
include hN c1 c2 hcs hw hcmp hπ hinc
theorem st_does: ∃ σ,Same π σ 0 N∧Srt less σ 0 N∧ ∀ K,3≤K→FDoes Try.prog 62 [.slice (some ⟨0,0,0,0,1⟩) N N,.int .i64 N,.func (.func g) [] cs] (SH K N π b1 b2) (.tuple []) (SH K N σ b1 b2):=by
  obtain⟨k,ρ,k1,k2,k3,k4,k5,k6⟩:=st0_loop hN c1 c2 hcs hw hcmp hπ hinc N 0 π (by omega) (by omega) ⟨0,rfl⟩ (Same.refl _ _ _) (fun lo _ h=>by omega)
  have r0:=Runs.of_loops (Tri.pre k6 (SDrop (K:=7) (K':=8) c1 c2 (by omega) (by kernel_rfl) (by simp [All_cons,All_nil,Clo,Clos,clos3 hcs];simp [Ids])))
  have hρ:InN N ρ:=hπ.same k4 k1
  have hout: ∀ j,k≤j→ρ j=π j:=fun j hj=>k4.out j (.inr hj)
  obtain⟨σ,s1,s2,s3⟩:=ins_does hN c1 c2 hcs hw hcmp (a:=k) (b:=N) ρ hρ k1 (Nat.le_refl _) (fun i j h1 h2 h3=>by rw [hout i h1,hout j (by omega)];exact hinc i j h2 h3) rfl rfl
  have hs':Same π σ 0 N:=(k4.wide (Nat.le_refl _) k1 (by omega)).trans (s1.wide (by omega) (Nat.le_refl _) (by omega))
  have hc': ∀ lo,20∣lo→lo<N→Cell less π σ lo (min (lo+20) N):=by
    intro lo hd hlt
    by_cases c:lo<k
    · rw [show min (lo+20) N=lo+20 by omega]
      exact(k5 lo hd c).congr fun j h1 h2=>s1.out j (.inl (by omega))
    · obtain rfl:lo=k:=by omega
      rw [show min (lo+20) N=N by omega]
      refine⟨s2,fun j h1 h2=> ?_⟩
      obtain⟨x,x1,x2,x3⟩:=s1.from h1 h2
      exact⟨x,x1,x2,by rw [x3,hout x x1]⟩
  obtain⟨τ,t1,t2,t3⟩:=st1_loop hN c1 c2 hcs hw hcmp hπ hinc N 20 σ (by omega) (by omega) (by omega) hs' hc'
  have r1:=Runs.of_loops (Tri.pre t3 (SDrop (K:=16) (K':=10) c1 c2 (by omega) (by kernel_rfl) (by simp [All_cons,All_nil,Clo,Clos,clos3 hcs];simp [Ids])))
  refine⟨τ,t1,t2,fun K hK=> ?_⟩
  exact(st_call N g cs _ b1 b2 N k _ (ints N fun j=>(σ j:Int)) _ r0 (s3 16 (by omega)) r1).all3 (by kernel_rfl) ⟨fun _=>rfl,by simp [Clo,Clos]⟩ (srow_clo _ _ _) (srow_clo _ _ _) c1 c2 (by simp [Clos,Clo,hcs]) hK
theorem sort_does: ∃ σ,Same π σ 0 N∧Srt less σ 0 N∧FDoes Try.prog 60 [.slice (some ⟨0,0,0,0,1⟩) N N,.func (.func g) [] cs] (AHeap.of [SRow N π,b1,b2]) (.tuple []) (AHeap.of [SRow N σ,b1,b2]):=by
  obtain⟨τ,t1,t2,t3⟩:=st_does hN c1 c2 hcs hw hcmp hπ hinc
  refine⟨τ,t1,t2,?_⟩
  have k:=ss_call N g cs _ b1 b2 _ (t3 8 (by omega))
  exact k.closed (l':= [SRow N τ,b1,b2]) rfl (by kernel_rfl) ⟨fun _=>rfl,by simp [Clo,Clos]⟩ (by simp;exact⟨srow_clo _ _ _,c1,c2⟩)
end
end Go.Proofs.Ytgfkllnaeekjeaa
namespace Go.Proofs.Ytgfkllnaeekjeaa
open Go.Lift
set_option maxRecDepth 1000000
theorem topc_call(n p q:Nat)(x y:Int)(b0:ABlk)(r:List AVal)(hc_0:ABlk.elem? (.made [.slice (some ⟨2,0,0,0,1⟩) n n] 1 true) 0 0=some (.slice (some ⟨2,0,0,0,1⟩) n n))(hc_1:aindexAddr env.D 27 (.slice (some ⟨2,0,0,0,1⟩) n n) (zqI (q:Int))=some (.ptr (some ⟨2,0,q,0,1⟩)))(hc_2:ABlk.elem? (.made r 1 true) 0 q=some (zqI y))(hc_3:ABlk.elem? (.made [.slice (some ⟨2,0,0,0,1⟩) n n] 1 true) 0 0=some (.slice (some ⟨2,0,0,0,1⟩) n n))(hc_4:aindexAddr env.D 27 (.slice (some ⟨2,0,0,0,1⟩) n n) (zqI (p:Int))=some (.ptr (some ⟨2,0,p,0,1⟩)))(hc_5:ABlk.elem? (.made r 1 true) 0 p=some (zqI x))(hc_6:zqF (y-x)) :
    FDoes Try.prog 61 [zqI p,zqI q,.ptr (some ⟨1,0,0,0,1⟩)] (AHeap.of [b0,.made [.slice (some ⟨2,0,0,0,1⟩) n n] 1 true,.made r 1 true]) (zqI (y-x)) (AHeap.rows 14 [(0,b0),(1,.made [.slice (some ⟨2,0,0,0,1⟩) n n] 1 true),(2,.made r 1 true)]) :=
  pcall_does env_ok mixed (hs:= [.ld 1000 (.slice (some ⟨2,0,0,0,1⟩) n n),.val 1002 (.ptr (some ⟨2,0,q,0,1⟩)),.ld 1003 (zqI y),.ld 1004 (.slice (some ⟨2,0,0,0,1⟩) n n),.val 1006 (.ptr (some ⟨2,0,p,0,1⟩)),.ld 1007 (zqI x),.go 1008]) (rs:= []) (by kernel_rfl) (All.cons hc_0 (All.cons hc_1 (All.cons hc_2 (All.cons hc_3 (All.cons hc_4 (All.cons hc_5 (All.cons hc_6 (All.nil))))))))
noncomputable abbrev zq41_1(m:List AVal)(r:List AVal)(n:Nat)(l:List AVal):List (Nat×ABlk):= [(0,.made m 1 true),(1,.made r 1 true),(2,.made [.slice (some ⟨1,0,0,0,1⟩) n n] 1 true),(5,.made l 1 true)]
theorem top_l0(n k i:Nat)(m r l:List AVal)(old:Int)(hc_0:(i:Int)<(n:Int))(hc_1:aindexAddr env.D 27 (.slice (some ⟨5,0,0,0,1⟩) n n) (zqI (i:Int))=some (.ptr (some ⟨5,0,i,0,1⟩)))(hc_2:0=0∧l[i]? =some (zqI old))(hc_3:zqF ((i:Int)+1)) :
    Runs Try.prog 2 41 (loopAt Try.prog 56 0) [(0,.slice (some ⟨0,0,0,0,1⟩) n n),(2,zqI k),(4,.ptr (some ⟨2,0,0,0,1⟩)),(6,.slice (some ⟨5,0,0,0,1⟩) n n),(14,zqI n),(15,zqI i)] (AHeap.rows 10 (zq41_1 m r n l)) .normal [(0,.slice (some ⟨0,0,0,0,1⟩) n n),(2,zqI (k:Int)),(4,.ptr (some ⟨2,0,0,0,1⟩)),(6,.slice (some ⟨5,0,0,0,1⟩) n n),(14,zqI (n:Int)),(15,zqI ((i:Int)+1))] (AHeap.rows 20 [(0,.made m 1 true),(1,.made r 1 true),(2,(.made ([.slice (some ⟨1,0,0,0,1⟩) n n]) 1 true)),(5,(.made (List.set l i (zqI (i:Int))) 1 true))]) :=
  ppath_runs env_ok mixed (hs:= [.val 3000 (.bool true),.val 5003 (.ptr (some ⟨5,0,i,0,1⟩)),.st 5004 (zqI old),.go 6000]) (keep:= [0,2,4,6,14,15]) (by kernel_rfl) (All.cons (okT hc_0) (All.cons hc_1 (All.cons hc_2 (All.cons hc_3 (All.nil)))))
noncomputable abbrev zq41_2(m:List AVal)(r:List AVal)(n:Nat)(l:List AVal):List (Nat×ABlk):= [(0,.made m 1 true),(1,.made r 1 true),(2,(.made ([.slice (some ⟨1,0,0,0,1⟩) n n]) 1 true)),(5,.made l 1 true)]
theorem top_l0_end(n k i:Nat)(m r l:List AVal)(hc_0: ¬ ((i:Int)<(n:Int))) :
    Runs Try.prog 2 41 (loopAt Try.prog 56 0) [(0,.slice (some ⟨0,0,0,0,1⟩) n n),(2,zqI k),(4,.ptr (some ⟨2,0,0,0,1⟩)),(6,.slice (some ⟨5,0,0,0,1⟩) n n),(14,zqI n),(15,zqI i)] (AHeap.rows 10 (zq41_1 m r n l)) (.exit 0) [(0,.slice (some ⟨0,0,0,0,1⟩) n n),(2,zqI (k:Int)),(4,.ptr (some ⟨2,0,0,0,1⟩)),(6,.slice (some ⟨5,0,0,0,1⟩) n n)] (AHeap.rows 11 (zq41_2 m r n l)) :=
  ppath_runs env_ok mixed (hs:= [.val 3000 (.bool false)]) (keep:= [0,2,4,6]) (by kernel_rfl) (All.cons (okF hc_0) (All.nil))
theorem top_l1(n k i o:Nat)(m r l:List AVal)(x old:Int)(hc_0:(i:Int)<(k:Int))(hc_1:aindexAddr env.D 27 (.slice (some ⟨5,0,0,0,1⟩) k n) (zqI (i:Int))=some (.ptr (some ⟨5,0,i,0,1⟩)))(hc_2:ABlk.elem? (.made l 1 true) 0 i=some (zqI (o:Int)))(hc_3:aindexAddr env.D 27 (.slice (some ⟨0,0,0,0,1⟩) n n) (zqI (o:Int))=some (.ptr (some ⟨0,0,o,0,1⟩)))(hc_4:ABlk.elem? (.made m 1 true) 0 o=some (zqI x))(hc_5:zqF (x+1))(hc_6:aindexAddr env.D 27 (.slice (some ⟨0,0,0,0,1⟩) n n) (zqI (o:Int))=some (.ptr (some ⟨0,0,o,0,1⟩)))(hc_7:0=0∧m[o]? =some (zqI old))(hc_8:zqF ((i:Int)+1)) :
    Runs Try.prog 2 41 (loopAt Try.prog 56 1) [(0,.slice (some ⟨0,0,0,0,1⟩) n n),(28,.slice (some ⟨5,0,0,0,1⟩) k n),(29,zqI k),(30,zqI i)] (AHeap.rows 19 (zq41_1 m r n l)) .normal [(0,.slice (some ⟨0,0,0,0,1⟩) n n),(28,.slice (some ⟨5,0,0,0,1⟩) k n),(29,zqI (k:Int)),(30,zqI ((i:Int)+1))] (AHeap.rows 32 [(0,(.made (List.set m o (zqI (x+1))) 1 true)),(1,.made r 1 true),(2,(.made ([.slice (some ⟨1,0,0,0,1⟩) n n]) 1 true)),(5,.made l 1 true)]) :=
  ppath_runs env_ok mixed (hs:= [.val 9000 (.bool true),.val 10000 (.ptr (some ⟨5,0,i,0,1⟩)),.ld 10001 (zqI o),.val 11002 (.ptr (some ⟨0,0,o,0,1⟩)),.ld 11003 (zqI x),.go 11004,.val 11005 (.ptr (some ⟨0,0,o,0,1⟩)),.st 11006 (zqI old),.go 12000]) (keep:= [0,28,29,30]) (by kernel_rfl) (All.cons (okT hc_0) (All.cons hc_1 (All.cons hc_2 (All.cons hc_3 (All.cons hc_4 (All.cons hc_5 (All.cons hc_6 (All.cons hc_7 (All.cons hc_8 (All.nil))))))))))
theorem top_l1_end(n k i:Nat)(m r l:List AVal)(hc_0: ¬ ((i:Int)<(k:Int))) :
    Runs Try.prog 2 41 (loopAt Try.prog 56 1) [(0,.slice (some ⟨0,0,0,0,1⟩) n n),(28,.slice (some ⟨5,0,0,0,1⟩) k n),(29,zqI k),(30,zqI i)] (AHeap.rows 19 (zq41_1 m r n l)) (.exit 2) [] (AHeap.rows 20 (zq41_2 m r n l)) :=
  ppath_runs env_ok mixed (hs:= [.val 9000 (.bool false)]) (keep:= []) (by kernel_rfl) (All.cons (okF hc_0) (All.nil))
theorem top_call(n k:Nat)(m m2 r l l2:List AVal)(hc_0:0≤(n:Int)∧(n:Int)≤(n:Int)∧(n:Int)<4611686018427387904∧(8:Int)* (n:Int)≤281474976710656)(hc_1:Runs Try.prog 2 41 (.loop (loopAt Try.prog 56 0)) [(0,.slice (some ⟨0,0,0,0,1⟩) n n),(2,zqI (k:Int)),(4,.ptr (some ⟨2,0,0,0,1⟩)),(6,.slice (some ⟨5,0,0,0,1⟩) n n),(14,zqI (n:Int)),(15,zqI 0)] (AHeap.rows 10 [(0,.made m 1 true),(1,.made r 1 true),(2,.made [.slice (some ⟨1,0,0,0,1⟩) n n] 1 true),(5,.made (List.replicate n (zqI 0)) 1 true)]) (.exit 0) [(0,.slice (some ⟨0,0,0,0,1⟩) n n),(2,zqI (k:Int)),(4,.ptr (some ⟨2,0,0,0,1⟩)),(6,.slice (some ⟨5,0,0,0,1⟩) n n)] (AHeap.rows 11 (zq41_2 m r n l)))(hc_2:FDoes Try.prog 60 [.slice (some ⟨5,0,0,0,1⟩) n n,AVal.func (Fn.func 61) [] [.ptr (some ⟨2,0,0,0,1⟩)]] (AHeap.rows 14 (zq41_2 m r n l)) (.tuple []) (AHeap.rows 14 [(0,.made m 1 true),(1,.made r 1 true),(2,(.made ([.slice (some ⟨1,0,0,0,1⟩) n n]) 1 true)),(5,.made l2 1 true)]))(hc_3:aslice env.D 27 (.slice (some ⟨5,0,0,0,1⟩) n n) none (some (zqI (k:Int))) none=some (.slice (some ⟨5,0,0,0,1⟩) k n))(hc_4:Runs Try.prog 2 41 (.loop (loopAt Try.prog 56 1)) [(0,.slice (some ⟨0,0,0,0,1⟩) n n),(28,.slice (some ⟨5,0,0,0,1⟩) k n),(29,zqI (k:Int)),(30,zqI 0)] (AHeap.rows 19 [(0,.made m 1 true),(1,.made r 1 true),(2,(.made ([.slice (some ⟨1,0,0,0,1⟩) n n]) 1 true)),(5,.made l2 1 true)]) (.exit 2) [] (AHeap.rows 20 [(0,.made m2 1 true),(1,.made r 1 true),(2,(.made ([.slice (some ⟨1,0,0,0,1⟩) n n]) 1 true)),(5,.made l2 1 true)])) :
    FDoes Try.prog 56 [.slice (some ⟨0,0,0,0,1⟩) n n,.slice (some ⟨1,0,0,0,1⟩) n n,zqI k] (AHeap.of [.made m 1 true,.made r 1 true]) (.tuple []) (AHeap.rows 20 [(0,.made m2 1 true),(1,.made r 1 true),(2,(.made ([.slice (some ⟨1,0,0,0,1⟩) n n]) 1 true)),(5,.made l2 1 true)]) :=
  pcall_does env_ok mixed (hs:= [.go 1002,.keep [0,2,4,6,14,15],.loop [(0,.slice (some ⟨0,0,0,0,1⟩) n n),(2,zqI k),(4,.ptr (some ⟨2,0,0,0,1⟩)),(6,.slice (some ⟨5,0,0,0,1⟩) n n)] (AHeap.rows 11 (zq41_1 m r n l)) (.exit 0),.act 7002 (.tuple []) (fun h=>h.upd [5] [.made l2 1 true]),.val 8002 (.slice (some ⟨5,0,0,0,1⟩) k n),.keep [0,28,29,30],.loop [] (AHeap.rows 20 [(0,.made m2 1 true),(1,.made r 1 true),(2,.made [.slice (some ⟨1,0,0,0,1⟩) n n] 1 true),(5,.made l2 1 true)]) (.exit 2)]) (rs:= []) (by kernel_rfl) (All.cons hc_0 (All.cons hc_1 (All.cons (CallT.mk hc_2) (All.cons hc_3 (All.cons hc_4 (All.nil))))))
end Go.Proofs.Ytgfkllnaeekjeaa
namespace Go.Proofs.Ytgfkllnaeekjeaa
open Go.Lift
set_option maxRecDepth 1000000
def restLess(x:Nat→Int)(p q:Nat):Bool:=decide (x q<x p)
theorem restLess_weak(x:Nat→Int):Weak (restLess x):=by
  refine⟨fun p q h=> ?_,fun p q r h k=> ?_⟩<;>simp only [restLess,decide_eq_true_eq,decide_eq_false_iff_not]at* <;>omega
def topF(y:Nat→Int)(σ:Nat→Nat):Nat→Nat→Int
  | 0,j=>y j
  | i+1,j=>if j=σ i then topF y σ i j+1 else topF y σ i j
theorem topF_le(y:Nat→Int)(σ:Nat→Nat)(j:Nat): ∀ i,y j≤topF y σ i j∧topF y σ i j≤y j+i
  | 0=>by simp [topF]
  | i+1=>by
    have:=topF_le y σ j i
    simp only [topF]
    split<;>omega
noncomputable abbrev BoxR(id n:Nat):ABlk:= .made [.slice (some ⟨id,0,0,0,1⟩) n n] 1 true
noncomputable abbrev IRow(n:Nat)(x:Nat→Int):ABlk:= .made (ints n x) 1 true
theorem irow_bare(n:Nat)(x:Nat→Int):BareB (IRow n x):=fun e he=>ints_bare _ _ e he
theorem boxr_clo(id n:Nat){D:Nat→Prop}(h:D id):CloB D (BoxR id n):=by
  intro e he
  have:e∈ [AVal.slice (some ⟨id,0,0,0,1⟩) n n]:=he
  rw [List.mem_singleton.1 this]
  exact h
theorem cmp_ok {n:Nat}{x:Nat→Int}(hx: ∀ p q,p<n→q<n→ -9223372036854775808≤x q-x p∧x q-x p≤9223372036854775807) :
    CmpOk n 61 [.ptr (some ⟨1,0,0,0,1⟩)] (BoxR 2 n) (IRow n x) (restLess x):=by
  intro K π p q hK hp hq
  have ix: ∀ k,k<n→aindexAddr env.D 27 (.slice (some ⟨2,0,0,0,1⟩) n n) (.int .i64 (k:Int))=some (.ptr (some ⟨2,0,k,0,1⟩)):=by
    intro k hk
    have:=ix_intN (o:=some ⟨2,0,0,0,1⟩) (n:=n) (c:=n) (.inl rfl) (k:= .i64) hk
    rwa [Nat.zero_add]at this
  refine⟨x q-x p,?_,?_⟩
  · simp only [restLess,decide_eq_true_eq];omega
  · have c:=topc_call n p q (x p) (x q) (SRow n π) (ints n x) (elem_made rfl) (ix q hq) (ints_el hq) (elem_made rfl) (ix p hp) (ints_el hp) (hx p q hp hq)
    exact c.all3 (by kernel_rfl) (Bare.int _ _) (srow_clo _ _ _) (srow_clo _ _ _) (boxr_clo 2 n (by omega)) ((irow_bare n x).clo _) (by simp [Clos,Clo]) hK
section
variable {n:Nat}(hn:n<2^44){x y:Nat→Int}(hx: ∀ p q,p<n→q<n→ -9223372036854775808≤x q-x p∧x q-x p≤9223372036854775807)
include hn
theorem top_loop0 {k:Nat}(m r:List AVal)(hm:BareB (.made m 1 true))(hr:BareB (.made r 1 true)): ∀ (f i:Nat),i+f=n →
    Loops Try.prog 2 41 (loopAt Try.prog 56 0) [(0,.slice (some ⟨0,0,0,0,1⟩) n n),(2,.int .i64 k),(4,.ptr (some ⟨2,0,0,0,1⟩)),(6,.slice (some ⟨5,0,0,0,1⟩) n n),(14,.int .i64 n),(15,.int .i64 i)]
      (AHeap.rows 10 [(0,.made m 1 true),(1,.made r 1 true),(2,BoxR 1 n),(5,.made (ints n fun j=>if j<i then(j:Int)else 0) 1 true)])
      (.exit 0) [(0,.slice (some ⟨0,0,0,0,1⟩) n n),(2,.int .i64 k),(4,.ptr (some ⟨2,0,0,0,1⟩)),(6,.slice (some ⟨5,0,0,0,1⟩) n n)]
      (AHeap.rows 11 [(0,.made m 1 true),(1,.made r 1 true),(2,BoxR 1 n),(5,.made (ints n fun j=>if j<n then(j:Int)else 0) 1 true)])
  | 0,i,e=>by
    obtain rfl:i=n:=by omega
    exact Loops.last (by simp) (top_l0_end i k i m r _ (by omega))
  | f +1,i,e=>by
    have ix:=ix_intN (o:=some ⟨5,0,0,0,1⟩) (n:=n) (c:=n) (.inl rfl) (k:= .i64) (show i<n by omega)
    rw [Nat.zero_add]at ix
    have s:=top_l0 n k i m r (ints n fun j=>if j<i then(j:Int)else 0) _ (by omega) ix ⟨rfl,ints_get (by omega)⟩ (by omega)
    rw [ints_step (y:=fun j=>(j:Int)) (z:=fun _=>0)]at s
    refine Loops.round s ?_ (top_loop0 m r hm hr f (i+1) (by omega))
    exact Ent.drop (by kernel_rfl) (by kernel_rfl) (by kernel_rfl) (by kernel_rfl) (by simp [All_cons,All_nil,Clo];simp [Ids]) (by
      simp only [List.map,All_cons,All_nil,and_true]
      exact⟨hm.clo _,hr.clo _,boxr_clo 1 n (by simp [Ids]),(irow_bare _ _).clo _⟩)
theorem top_loop1 {k:Nat}(hk:k≤n)(r:List AVal)(hr:BareB (.made r 1 true))(σ:Nat→Nat)(hσ:InN n σ)(hy: ∀ j,j<n→ -2^62≤y j∧y j≤2^62): ∀ (f i:Nat),i+f=k →
    Loops Try.prog 2 41 (loopAt Try.prog 56 1) [(0,.slice (some ⟨0,0,0,0,1⟩) n n),(28,.slice (some ⟨5,0,0,0,1⟩) k n),(29,.int .i64 k),(30,.int .i64 i)]
      (AHeap.rows 19 [(0,.made (ints n (topF y σ i)) 1 true),(1,.made r 1 true),(2,BoxR 1 n),(5,SRow n σ)]) (.exit 2) []
      (AHeap.rows 20 [(0,.made (ints n (topF y σ k)) 1 true),(1,.made r 1 true),(2,BoxR 1 n),(5,SRow n σ)])
  | 0,i,e=>by
    obtain rfl:i=k:=by omega
    exact Loops.last (by simp) (top_l1_end n i i _ r _ (by omega))
  | f +1,i,e=>by
    have ix:=ix_intN (o:=some ⟨5,0,0,0,1⟩) (n:=k) (c:=n) (.inl rfl) (k:= .i64) (show i<k by omega)
    rw [Nat.zero_add]at ix
    have ho:=hσ i (by omega)
    have hb:=topF_le y σ (σ i) i
    have hyb:=hy (σ i) ho
    have s:=top_l1 n k i (σ i) (ints n (topF y σ i)) r (ints n fun j=>(σ j:Int)) (topF y σ i (σ i)) _ (by omega) ix (ints_el (by omega)) (ixS rfl ho) (ints_el ho) (by omega) (ixS rfl ho) ⟨rfl,ints_get ho⟩ (by omega)
    have e2:(ints n (topF y σ i)).set (σ i) (.int .i64 (topF y σ i (σ i)+1))=ints n (topF y σ (i+1)):=by
      rw [ints_set]
      refine ints_congr fun j hj=> ?_
      simp only [topF]
      by_cases c:j=σ i
      · rw [if_pos c,if_pos c,c]
      · rw [if_neg c,if_neg c]
    rw [e2]at s
    refine Loops.round s ?_ (top_loop1 hk r hr σ hσ hy f (i+1) (by omega))
    exact Ent.drop (by kernel_rfl) (by kernel_rfl) (by kernel_rfl) (by kernel_rfl) (by simp [All_cons,All_nil,Clo];simp [Ids]) (by
      simp only [List.map,All_cons,All_nil,and_true]
      exact⟨(irow_bare _ _).clo _,hr.clo _,boxr_clo 1 n (by simp [Ids]),(irow_bare _ _).clo _⟩)
include hx
theorem top_does {k:Nat}(hk:k≤n)(hy: ∀ j,j<n→ -2^62≤y j∧y j≤2^62): ∃ σ,Same (fun j=>j) σ 0 n∧Srt (restLess x) σ 0 n ∧
    FDoes Try.prog 56 [.slice (some ⟨0,0,0,0,1⟩) n n,.slice (some ⟨1,0,0,0,1⟩) n n,.int .i64 k] (AHeap.of [IRow n y,IRow n x]) (.tuple []) (AHeap.of [IRow n (topF y σ k),IRow n x]):=by
  obtain⟨σ,s1,s2,s3⟩:=sort_does (N:=n) hn (boxr_clo 2 n (by omega)) ((irow_bare n x).clo _) (cs:= [.ptr (some ⟨1,0,0,0,1⟩)]) (by simp [Clos,Clo]) (restLess_weak x) (cmp_ok hx) (π:=fun j=>j) (fun k h=>h) (fun i j h _=>h)
  have hid:InN n (fun j=>j):=fun k h=>h
  have hσ:InN n σ:=hid.same s1 (Nat.le_refl _)
  refine⟨σ,s1,s2,?_⟩
  have l0:=top_loop0 hn (k:=k) (ints n y) (ints n x) (irow_bare n y) (irow_bare n x) n 0 (by omega)
  rw [show(ints n fun j=>if j<0 then(j:Int)else 0)=List.replicate n (.int .i64 0)by rw [ints_zero];exact ints_congr fun j _=>by simp,
    show(ints n fun j=>if j<n then(j:Int)else 0)=ints n fun j=>(j:Int)from ints_congr fun j hj=>by simp [hj]]at l0
  have l1:=top_loop1 hn hk (ints n x) (irow_bare n x) σ hσ hy k 0 (by omega)
  have e0:topF y σ 0=y:=rfl
  rw [e0]at l1
  have u:=s3.upC rfl (by simp;exact⟨srow_clo _ _ _,boxr_clo 2 n (by omega),(irow_bare n x).clo _⟩) (by simp [Clos,Clo]) ⟨fun _=>rfl,by simp [Clo,Clos]⟩ (H:=AHeap.rows 14 [(0,IRow n y),(1,IRow n x),(2,BoxR 1 n),(5,SRow n fun j=>j)]) [5,2,1] (by simp) (by rw [AHeap.rows_next];simp) (by
    simp only [List.map]
    rw [(irow_bare n x).ren,show(SRow n fun j=>j).ren _=SRow n fun j=>j from(irow_bare n _).ren _]
    kernel_rfl)
  rw [AHeap.rows_next]at u
  simp only [List.map]at u
  rw [(irow_bare n x).ren,show(SRow n σ).ren (toBig [5,2,1] 14)=SRow n σ from(irow_bare n _).ren _]at u
  have c:=top_call n k (ints n y) (ints n (topF y σ k)) (ints n x) (ints n fun j=>(j:Int)) (ints n fun j=>(σ j:Int)) (by omega) (Runs.of_loops l0) (u.to (by kernel_rfl))
    (aslice_to (d:=⟨.slice 3,1,24,some (.slice none 0 0)⟩) (xd:=⟨.int .i64,1,8,some (.int .i64 0)⟩) (by kernel_rfl) rfl (by kernel_rfl) rfl (by omega)) (Runs.of_loops l1)
  exact c.fin [] [IRow n (topF y σ k),IRow n x] (.tuple []) (by simp;exact⟨irow_bare _ _,irow_bare _ _⟩) rfl (by kernel_rfl) rfl trivial rfl (by simp)
end
end Go.Proofs.Ytgfkllnaeekjeaa
namespace Go.Proofs.Ytgfkllnaeekjeaa
open Go.Lift
set_option maxRecDepth 1000000
noncomputable abbrev zq43_1(w:List AVal)(l1:List AVal)(l2:List AVal):List (Nat×ABlk):= [(0,.made w 1 true),(7,.made l1 1 true),(13,.made l2 1 true)]
theorem sh_step(n i:Nat)(w l1 l2:List AVal)(t all x o1 o2:Int)(hc_0:(i:Int)<(n:Int))(hc_1:aindexAddr env.D 27 (.slice (some ⟨0,0,0,0,1⟩) n n) (zqI (i:Int))=some (.ptr (some ⟨0,0,i,0,1⟩)))(hc_2:ABlk.elem? (.made w 1 true) 0 i=some (zqI x))(hc_3:zqF (t*x))(hc_4:all≠0∧zqF (Int.tdiv (t*x) all))(hc_5:aindexAddr env.D 27 (.slice (some ⟨7,0,0,0,1⟩) n n) (zqI (i:Int))=some (.ptr (some ⟨7,0,i,0,1⟩)))(hc_6:0=0∧l1[i]? =some (zqI o1))(hc_7:zqF (t*x))(hc_8:all≠0)(hc_9:aindexAddr env.D 27 (.slice (some ⟨13,0,0,0,1⟩) n n) (zqI (i:Int))=some (.ptr (some ⟨13,0,i,0,1⟩)))(hc_10:0=0∧l2[i]? =some (zqI o2))(hc_11:zqF ((i:Int)+1)) :
    Runs Try.prog 1 53 (loopAt Try.prog 41 0) [(0,zqI t),(5,zqI all),(6,.slice (some ⟨7,0,0,0,1⟩) n n),(7,.slice (some ⟨13,0,0,0,1⟩) n n),(21,.slice (some ⟨0,0,0,0,1⟩) n n),(22,zqI n),(23,zqI i)] (AHeap.rows 18 (zq43_1 w l1 l2)) .normal [(0,zqI t),(5,zqI all),(6,.slice (some ⟨7,0,0,0,1⟩) n n),(7,.slice (some ⟨13,0,0,0,1⟩) n n),(21,.slice (some ⟨0,0,0,0,1⟩) n n),(22,zqI (n:Int)),(23,zqI ((i:Int)+1))] (AHeap.rows 44 [(0,.made w 1 true),(7,(.made (List.set l1 i (zqI (Int.tdiv (t*x) all))) 1 true)),(13,(.made (List.set l2 i (zqI (Int.tmod (t*x) all))) 1 true))]) :=
  ppath_runs env_ok mixed (hs:= [.val 7000 (.bool true),.val 8001 (.ptr (some ⟨0,0,i,0,1⟩)),.ld 8002 (zqI x),.go 9004,.go 9006,.val 9007 (.ptr (some ⟨7,0,i,0,1⟩)),.st 9008 (zqI o1),.go 10004,.go 10006,.val 10007 (.ptr (some ⟨13,0,i,0,1⟩)),.st 10008 (zqI o2),.go 11000]) (keep:= [0,5,6,7,21,22,23]) (by kernel_rfl) (All.cons (okT hc_0) (All.cons hc_1 (All.cons hc_2 (All.cons hc_3 (All.cons hc_4 (All.cons hc_5 (All.cons hc_6 (All.cons hc_7 (All.cons hc_8 (All.cons hc_9 (All.cons hc_10 (All.cons hc_11 (All.nil)))))))))))))
noncomputable abbrev zq43_3(t:Int)(n:Nat):Facts:= [(0,zqI t),(6,.slice (some ⟨7,0,0,0,1⟩) n n),(7,.slice (some ⟨13,0,0,0,1⟩) n n)]
theorem sh_end(n i:Nat)(w l1 l2:List AVal)(t all:Int)(hc_0: ¬ ((i:Int)<(n:Int))) :
    Runs Try.prog 1 53 (loopAt Try.prog 41 0) [(0,zqI t),(5,zqI all),(6,.slice (some ⟨7,0,0,0,1⟩) n n),(7,.slice (some ⟨13,0,0,0,1⟩) n n),(21,.slice (some ⟨0,0,0,0,1⟩) n n),(22,zqI n),(23,zqI i)] (AHeap.rows 18 (zq43_1 w l1 l2)) (.exit 0) (zq43_3 t n) (AHeap.rows 19 (zq43_1 w l1 l2)) :=
  ppath_runs env_ok mixed (hs:= [.val 7000 (.bool false)]) (keep:= [0,6,7]) (by kernel_rfl) (All.cons (okF hc_0) (All.nil))
noncomputable abbrev zq43_2(n:Nat):Prop:=0≤(n:Int)∧(n:Int)≤(n:Int)∧(n:Int)<4611686018427387904∧(8:Int)* (n:Int)≤281474976710656
theorem sh_zero(n:Nat)(w:List AVal)(t all:Int)(hc_0:FDoes Try.prog 40 [.slice (some ⟨0,0,0,0,1⟩) n n] (AHeap.rows 5 [(0,.made w 1 true)]) (zqI all) (AHeap.rows 5 [(0,.made w 1 true)]))(hc_1:(zq43_2 n))(hc_2:all=0) :
    FDoes Try.prog 41 [zqI t,.slice (some ⟨0,0,0,0,1⟩) n n] (AHeap.of [.made w 1 true]) (.slice (some ⟨7,0,0,0,1⟩) n n) (AHeap.rows 13 [(0,.made w 1 true),(7,.made (List.replicate n (zqI 0)) 1 true)]) :=
  pcall_does env_ok mixed (hs:= [.val 1001 (zqI all),.go 2002,.val 3001 (.bool true)]) (rs:= []) (by kernel_rfl) (All.cons (CallT.mk hc_0) (All.cons hc_1 (All.cons (eqT hc_2) (All.nil))))
theorem sh_call(n:Nat)(w l1 l2 l3:List AVal)(t all s:Int)(hc_0:FDoes Try.prog 40 [.slice (some ⟨0,0,0,0,1⟩) n n] (AHeap.rows 5 [(0,.made w 1 true)]) (zqI all) (AHeap.rows 5 [(0,.made w 1 true)]))(hc_1:(zq43_2 n))(hc_2: ¬ (all=0))(hc_3:(zq43_2 n))(hc_4:Runs Try.prog 1 53 (.loop (loopAt Try.prog 41 0)) [(0,zqI t),(5,zqI all),(6,.slice (some ⟨7,0,0,0,1⟩) n n),(7,.slice (some ⟨13,0,0,0,1⟩) n n),(21,.slice (some ⟨0,0,0,0,1⟩) n n),(22,zqI (n:Int)),(23,zqI 0)] (AHeap.rows 18 [(0,.made w 1 true),(7,.made (List.replicate n (zqI 0)) 1 true),(13,.made (List.replicate n (zqI 0)) 1 true)]) (.exit 0) (zq43_3 t n) (AHeap.rows 19 (zq43_1 w l1 l2)))(hc_5:FDoes Try.prog 40 [.slice (some ⟨7,0,0,0,1⟩) n n] (AHeap.rows 26 (zq43_1 w l1 l2)) (zqI s) (AHeap.rows 26 (zq43_1 w l1 l2)))(hc_6:zqF (t-s))(hc_7:FDoes Try.prog 56 [.slice (some ⟨7,0,0,0,1⟩) n n,.slice (some ⟨13,0,0,0,1⟩) n n,zqI (t-s)] (AHeap.rows 26 (zq43_1 w l1 l2)) (.tuple []) (AHeap.rows 26 [(0,.made w 1 true),(7,.made l3 1 true),(13,.made l2 1 true)])) :
    FDoes Try.prog 41 [zqI t,.slice (some ⟨0,0,0,0,1⟩) n n] (AHeap.of [.made w 1 true]) (.slice (some ⟨7,0,0,0,1⟩) n n) (AHeap.rows 28 [(0,.made w 1 true),(7,.made l3 1 true),(13,.made l2 1 true)]) :=
  pcall_does env_ok mixed (hs:= [.val 1001 (zqI all),.go 2002,.val 3001 (.bool false),.go 5002,.keep [0,5,6,7,21,22,23],.loop (zq43_3 t n) (AHeap.rows 19 (zq43_1 w l1 l2)) (.exit 0),.val 12004 (zqI s),.go 12005,.act 12006 (.tuple []) (fun h=>h.upd [7] [.made l3 1 true])]) (rs:= []) (by kernel_rfl) (All.cons (CallT.mk hc_0) (All.cons hc_1 (All.cons (eqF hc_2) (All.cons hc_3 (All.cons hc_4 (All.cons (CallT.mk hc_5) (All.cons hc_6 (All.cons (CallT.mk hc_7) (All.nil)))))))))
end Go.Proofs.Ytgfkllnaeekjeaa
namespace Go.Proofs.Ytgfkllnaeekjeaa
open Go.Lift
set_option maxRecDepth 1000000
theorem sumTo_same {f g:Nat→Int} : ∀ {n:Nat},(∀ j,j<n→f j=g j)→sumTo f n=sumTo g n
  | 0,_=>rfl
  | n+1,h=>by simp only [sumTo];rw [sumTo_same fun j hj=>h j (by omega),h n (by omega)]
theorem sumTo_mulc(t:Int)(f:Nat→Int): ∀ n,sumTo (fun j=>t*f j) n=t*sumTo f n
  | 0=>by simp [sumTo]
  | n+1=>by simp only [sumTo];rw [sumTo_mulc t f n,Int.mul_add]
theorem sumTo_plus(f g:Nat→Int): ∀ n,sumTo (fun j=>f j+g j) n=sumTo f n+sumTo g n
  | 0=>by simp [sumTo]
  | n+1=>by simp only [sumTo];rw [sumTo_plus f g n];omega
theorem sumTo_ge0 {f:Nat→Int} : ∀ {n:Nat},(∀ j,j<n→0≤f j)→0≤sumTo f n
  | 0,_=>by simp [sumTo]
  | n+1,h=>by
    simp only [sumTo]
    have:=sumTo_ge0 (n:=n) fun j hj=>h j (show j<n+1 by omega)
    have:=h n (by omega)
    omega
theorem sumTo_up {f:Nat→Int}{c:Int} : ∀ {n:Nat},(∀ j,j<n→f j≤c)→sumTo f n≤n*c
  | 0,_=>by simp [sumTo]
  | n+1,h=>by
    simp only [sumTo]
    have h1:=sumTo_up (n:=n) fun j hj=>h j (show j<n+1 by omega)
    have h2:=h n (by omega)
    have h3:((n+1:Nat):Int)*c=(n:Int)*c+c:=by rw [Int.natCast_add,Int.add_mul];simp
    omega
def shareQ(t:Int)(w:Nat→Int)(n j:Nat):Int:=t*w j / sumTo w n
def shareR(t:Int)(w:Nat→Int)(n j:Nat):Int:=t*w j % sumTo w n
theorem share_left {n:Nat}{t:Int}{w:Nat→Int}(ha:0<sumTo w n):0≤t-sumTo (shareQ t w n) n∧t-sumTo (shareQ t w n) n≤n:=by
  have e1:t*sumTo w n=sumTo w n*sumTo (shareQ t w n) n+sumTo (shareR t w n) n:=by
    rw [← sumTo_mulc t w n,← sumTo_mulc (sumTo w n) (shareQ t w n) n,← sumTo_plus]
    refine sumTo_same fun j _=> ?_
    exact(Int.mul_ediv_add_emod (t*w j) (sumTo w n)).symm
  have e2:0≤sumTo (shareR t w n) n:=sumTo_ge0 fun j _=>Int.emod_nonneg _ (by omega)
  have e3:sumTo (shareR t w n) n≤n*sumTo w n:=sumTo_up fun j _=>Int.le_of_lt (Int.emod_lt_of_pos _ ha)
  have e4:sumTo w n* (t-sumTo (shareQ t w n) n)=sumTo (shareR t w n) n:=by rw [Int.mul_sub,Int.mul_comm _ t];omega
  refine⟨?_,?_⟩
  · rcases Int.lt_or_le (t-sumTo (shareQ t w n) n) 0 with c | c
    · have:=Int.mul_neg_of_pos_of_neg ha c;omega
    · exact c
  · refine Int.le_of_mul_le_mul_left (a:=sumTo w n) ?_ ha
    rw [e4,Int.mul_comm];exact e3
theorem ixR {id N k:Nat}(hk:k<N):aindexAddr env.D 27 (.slice (some ⟨id,0,0,0,1⟩) N N) (.int .i64 (k:Int))=some (.ptr (some ⟨id,0,k,0,1⟩)):=by
  have:=ix_intN (o:=some ⟨id,0,0,0,1⟩) (n:=N) (c:=N) (.inl rfl) (k:= .i64) hk
  rwa [Nat.zero_add]at this
section
variable {n:Nat}(hn:n≤2^14){t:Int}(ht:0≤t∧t≤2^36){w:Nat→Int}(hw: ∀ j,j<n→0≤w j∧w j≤2^25)
include hn ht hw
theorem sh_tw {j:Nat}(hj:j<n):0≤t*w j∧t*w j≤2^61:=by
  have:=hw j hj
  refine⟨Int.mul_nonneg ht.1 this.1,?_⟩
  have h1:t*w j≤2^36*w j:=Int.mul_le_mul_of_nonneg_right ht.2 this.1
  omega
theorem sh_loop(ha:0<sumTo w n): ∀ (f i:Nat),i+f=n →
    Loops Try.prog 1 53 (loopAt Try.prog 41 0) [(0,.int .i64 t),(5,.int .i64 (sumTo w n)),(6,.slice (some ⟨7,0,0,0,1⟩) n n),(7,.slice (some ⟨13,0,0,0,1⟩) n n),(21,.slice (some ⟨0,0,0,0,1⟩) n n),(22,.int .i64 n),(23,.int .i64 i)]
      (AHeap.rows 18 [(0,IRow n w),(7,IRow n fun j=>if j<i then shareQ t w n j else 0),(13,IRow n fun j=>if j<i then shareR t w n j else 0)])
      (.exit 0) [(0,.int .i64 t),(6,.slice (some ⟨7,0,0,0,1⟩) n n),(7,.slice (some ⟨13,0,0,0,1⟩) n n)]
      (AHeap.rows 19 [(0,IRow n w),(7,IRow n fun j=>if j<n then shareQ t w n j else 0),(13,IRow n fun j=>if j<n then shareR t w n j else 0)])
  | 0,i,e=>by
    obtain rfl:i=n:=by omega
    exact Loops.last (by simp) (sh_end i i _ _ _ t _ (by omega))
  | f +1,i,e=>by
    have h1:=sh_tw hn ht hw (show i<n by omega)
    have eq:Int.tdiv (t*w i) (sumTo w n)=shareQ t w n i:=Int.tdiv_eq_ediv_of_nonneg h1.1
    have er:Int.tmod (t*w i) (sumTo w n)=shareR t w n i:=Int.tmod_eq_emod_of_nonneg h1.1
    have q1:0≤shareQ t w n i:=Int.ediv_nonneg h1.1 (by omega)
    have q2:shareQ t w n i≤t*w i:=Int.ediv_le_self _ h1.1
    have s:=sh_step n i (ints n w) (ints n fun j=>if j<i then shareQ t w n j else 0) (ints n fun j=>if j<i then shareR t w n j else 0) t (sumTo w n) (w i) _ _ (by omega) (ixR (by omega)) (ints_el (by omega)) (by omega) ⟨by omega,by rw [eq];omega⟩ (ixR (by omega)) ⟨rfl,ints_get (by omega)⟩ (by omega) (by omega) (ixR (by omega)) ⟨rfl,ints_get (by omega)⟩ (by omega)
    rw [eq,er,ints_step (y:=shareQ t w n) (z:=fun _=>0),ints_step (y:=shareR t w n) (z:=fun _=>0)]at s
    refine Loops.round s ?_ (sh_loop ha f (i+1) (by omega))
    exact Ent.drop (by kernel_rfl) (by kernel_rfl) (by kernel_rfl) (by kernel_rfl) (by simp [All_cons,All_nil,Clo];simp [Ids]) (by
      simp only [List.map,All_cons,All_nil,and_true]
      exact⟨(irow_bare _ _).clo _,(irow_bare _ _).clo _,(irow_bare _ _).clo _⟩)
theorem sum_fit: ∀ j,j≤n→Fit64 (sumTo w j):=by
  intro j hj
  have h1:0≤sumTo w j:=sumTo_ge0 fun i hi=>(hw i (by omega)).1
  have h2:sumTo w j≤j*2^25:=sumTo_up fun i hi=>(hw i (by omega)).2
  unfold Fit64;omega
theorem share_does(ha:0<sumTo w n): ∃ σ,Same (fun j=>j) σ 0 n∧Srt (restLess (shareR t w n)) σ 0 n ∧
    FDoes Try.prog 41 [.int .i64 t,.slice (some ⟨0,0,0,0,1⟩) n n] (AHeap.of [IRow n w]) (.slice (some ⟨1,0,0,0,1⟩) n n) (AHeap.of [IRow n w,IRow n (topF (shareQ t w n) σ (t-sumTo (shareQ t w n) n).toNat)]):=by
  have hA:sumTo w n≤n*2^25:=sumTo_up fun i hi=>(hw i (by omega)).2
  obtain⟨k1,k2⟩:=share_left (t:=t) ha
  have hr: ∀ j,0≤shareR t w n j∧shareR t w n j<sumTo w n:=fun j=>⟨Int.emod_nonneg _ (by omega),Int.emod_lt_of_pos _ ha⟩
  have hq: ∀ j,j<n→0≤shareQ t w n j∧shareQ t w n j≤2^61:=fun j hj=>by
    have h1:=sh_tw hn ht hw hj
    exact⟨Int.ediv_nonneg h1.1 (by omega),Int.le_trans (Int.ediv_le_self _ h1.1) h1.2⟩
  obtain⟨σ,s1,s2,s3⟩:=top_does (n:=n) (by omega) (x:=shareR t w n) (y:=shareQ t w n) (fun p q _ _=>by have:=hr p;have:=hr q;omega) (k:=(t-sumTo (shareQ t w n) n).toNat) (by omega) (fun j hj=>by have:=hq j hj;omega)
  refine⟨σ,s1,s2,?_⟩
  have l:=sh_loop hn ht hw ha n 0 (by omega)
  rw [show(IRow n fun j=>if j<0 then shareQ t w n j else 0)= .made (List.replicate n (.int .i64 0)) 1 true by rw [ints_zero];rfl,
    show(IRow n fun j=>if j<0 then shareR t w n j else 0)= .made (List.replicate n (.int .i64 0)) 1 true by rw [ints_zero];rfl,
    show(IRow n fun j=>if j<n then shareQ t w n j else 0)=IRow n (shareQ t w n)by show ABlk.made _ _ _=_;rw [ints_congr fun j hj=>by rw [if_pos hj]],
    show(IRow n fun j=>if j<n then shareR t w n j else 0)=IRow n (shareR t w n)by show ABlk.made _ _ _=_;rw [ints_congr fun j hj=>by rw [if_pos hj]]]at l
  have hqs: ∀ j,j≤n→Fit64 (sumTo (shareQ t w n) j):=by
    intro j hj
    have h1:0≤sumTo (shareQ t w n) j:=sumTo_ge0 fun i hi=>(hq i (by omega)).1
    have h3: ∀ m,j+m≤n→sumTo (shareQ t w n) j≤sumTo (shareQ t w n) (j+m):=by
      intro m
      induction m with
      | zero=>intro _;exact Int.le_refl _
      | succ m ih=>intro hm;have:=ih (by omega);have:=(hq (j+m) (by omega)).1;show _≤sumTo (shareQ t w n) (j+m)+shareQ t w n (j+m);omega
    have h2:=h3 (n-j) (by omega)
    rw [show j+(n-j)=n by omega]at h2
    unfold Fit64;omega
  have sm1:=sum_does (o:=some ⟨0,0,0,0,1⟩) (n:=n) (c:=n) (.inl rfl) (irow_bare n w) (x:=w) (fun j hj=>by rw [Nat.zero_add];exact ints_el hj) (sum_fit hn ht hw) (by omega) (H:=AHeap.rows 5 [(0,IRow n w)]) (by kernel_rfl) (by rw [AHeap.rows_next];omega)
  have sm2:=sum_does (o:=some ⟨7,0,0,0,1⟩) (n:=n) (c:=n) (.inl rfl) (irow_bare n (shareQ t w n)) (x:=shareQ t w n) (fun j hj=>by rw [Nat.zero_add];exact ints_el hj) hqs (by omega) (H:=AHeap.rows 26 [(0,IRow n w),(7,IRow n (shareQ t w n)),(13,IRow n (shareR t w n))]) (by kernel_rfl) (by rw [AHeap.rows_next];omega)
  have tp:=s3.upW (by simp;exact⟨irow_bare _ _,irow_bare _ _⟩) (by simp;exact⟨irow_bare _ _,irow_bare _ _⟩) (by simp) (by simp [Clos,Clo]) (H:=AHeap.rows 26 [(0,IRow n w),(7,IRow n (shareQ t w n)),(13,IRow n (shareR t w n))]) [7,13] (by simp) (by rw [AHeap.rows_next];simp) (by kernel_rfl)
  have ek:((t-sumTo (shareQ t w n) n).toNat:Int)=t-sumTo (shareQ t w n) n:=by omega
  rw [ek]at tp
  have c:=sh_call n (ints n w) (ints n (shareQ t w n)) (ints n (shareR t w n)) (ints n (topF (shareQ t w n) σ (t-sumTo (shareQ t w n) n).toNat)) t (sumTo w n) (sumTo (shareQ t w n) n) sm1 (by omega) (by omega) (by omega) (Runs.of_loops l) sm2 (by omega) (tp.to (by kernel_rfl))
  exact c.fin [7] [IRow n w,IRow n _] (.slice (some ⟨1,0,0,0,1⟩) n n) (by simp;exact⟨irow_bare _ _,irow_bare _ _⟩) rfl (by kernel_rfl) (by kernel_rfl) (by simp [Clo]) rfl (by simp)
theorem share_zero(ha:sumTo w n=0):FDoes Try.prog 41 [.int .i64 t,.slice (some ⟨0,0,0,0,1⟩) n n] (AHeap.of [IRow n w]) (.slice (some ⟨1,0,0,0,1⟩) n n) (AHeap.of [IRow n w,IRow n fun _=>0]):=by
  have sm1:=sum_does (o:=some ⟨0,0,0,0,1⟩) (n:=n) (c:=n) (.inl rfl) (irow_bare n w) (x:=w) (fun j hj=>by rw [Nat.zero_add];exact ints_el hj) (sum_fit hn ht hw) (by omega) (H:=AHeap.rows 5 [(0,IRow n w)]) (by kernel_rfl) (by rw [AHeap.rows_next];omega)
  have c:=sh_zero n (ints n w) t (sumTo w n) sm1 (by omega) ha
  rw [ints_zero]at c
  exact c.fin [7] [IRow n w,IRow n fun _=>0] (.slice (some ⟨1,0,0,0,1⟩) n n) (by simp;exact⟨irow_bare _ _,irow_bare _ _⟩) rfl (by kernel_rfl) (by kernel_rfl) (by simp [Clo]) rfl (by simp)
end
end Go.Proofs.Ytgfkllnaeekjeaa
namespace Go.Lift
noncomputable section
open Go.RowKit Go.ChangeShapes Go.WideShapes Go.ChangeAt
structure ArgRow(w:World)(b:ABlk)(p:Place):Prop where
  ro:p.ro=true
  bro:b.ro=true
  ver:b.ver=0
  es:p.es=b.es
  pos:0<p.es
  exact:p.exact=b.exact
  row: ∀ (φ:Map) (S:Nat→Prop),Row φ S b 0 p w
  bare:BareB b
def rowsMap(ps:List Place):Map:=fun i v=>if v=0 then ps[i]? else none
theorem HRel.of_args {w:World} {S:Nat→Prop} (l:List (ABlk×Place)) (h: ∀ x∈l,ArgRow w x.1 x.2):HRel (rowsMap (l.map (·.2))) S (AHeap.of (l.map (·.1))) w where
  dom i v p hp:=by
    unfold rowsMap at hp
    split at hp
    · rename_i hv;subst hv
      rw [List.getElem?_map,Option.map_eq_some_iff]at hp
      obtain⟨x,hx,rfl⟩:=hp
      have k:=h x (List.mem_of_getElem? hx)
      have hi:=(List.getElem?_eq_some_iff.1 hx).1
      refine⟨by rw [AHeap.of_next];simpa using hi,x.1,?_,by omega,k.es,k.exact,by rw [k.ro,k.bro],k.pos,k.row _ _⟩
      rw [AHeap.of_get,List.getElem?_map,hx];rfl
    · cases hp
  apart i v p j u q hp hq _ _:=by
    have: ∀ {i v p},rowsMap (l.map (·.2)) i v=some p→p.ro=true:=by
      intro i v p hp
      unfold rowsMap at hp
      split at hp
      · rw [List.getElem?_map,Option.map_eq_some_iff]at hp
        obtain⟨x,hx,rfl⟩:=hp
        exact(h x (List.mem_of_getElem? hx)).ro
      · cases hp
    exact⟨this hp,this hq⟩
  same i v p u q hp hq _:=by
    unfold rowsMap at hp hq
    split at hp
    · split at hq
      · rw [hp]at hq;simp only [Option.some.injEq]at hq;subst hq;exact⟨rfl,rfl⟩
      · cases hq
    · cases hp
def noBlk(es:Nat):ABlk:= {elems:= [],es,exact:=true,ro:=true,ver:=0,minVer:=0,forkLen:=0}
def noPlace(es:Nat):Place:= {blk:=0,off:=0,lo:=0,es,tot:=0,exact:=true,ro:=true}
theorem noRow {w:World}(hw:0<w.heap.size){es:Nat}(he:0<es):ArgRow w (noBlk es) (noPlace es) where
  ro:=rfl
  bro:=rfl
  ver:=rfl
  es:=rfl
  pos:=he
  exact:=rfl
  row φ S:=⟨hw,(fun h=>by cases h),fun o ho=>by simp [noPlace]at ho,(fun h=>by cases h),fun i e h1 h2 h3=>by simp [noBlk]at h3⟩
  bare e he:=by simp [noBlk]at he
theorem wf_fit {n:Int}(h:(Lit.int .i64 n).wf=true):Fit64 n:=by
  simp [Lit.wf,IntKind.min,IntKind.max,IntKind.signed,IntKind.bits]at h
  unfold Fit64;omega
theorem wf_fit8 {n:Int}(h:(Lit.int .i8 n).wf=true): -128≤n∧n≤127:=by
  simp [Lit.wf,IntKind.min,IntKind.max,IntKind.signed,IntKind.bits]at h
  omega
theorem size_of_shape {P:Program}{W:World}(h:W.ShapedOpen P)(hk:Nat.blt P.globals.size (begin P (fun _ _=>0) default).world.heap.size=true):0<W.heap.size:=by
  obtain⟨o,_,h1,_⟩:=h.2 P.globals.size (Nat.le_refl _) (Nat.blt_eq.mp hk)
  have:=(Array.getElem?_eq_some_iff.1 h1).1
  omega
theorem FDoes.law {P:Program}{f:FuncId}{args:List AVal}{h':AHeap}{l:List (ABlk×Place)}(k:FDoes P f args (AHeap.of (l.map (·.1))) (.bool true) h'){w:World}(hl: ∀ x∈l,ArgRow w x.1 x.2){args':Array Value}(ha:VRels (rowsMap (l.map (·.2))) args args'.toList) :
    Calls P f args' w fun e w'=>e= .returned (.bool true)∧Below w.heap.size w w':=by
  have:=(k (fun k=>k<w.heap.size) w (fun _ h=>h) _ w args' (HRel.of_args l hl) (Safe.refl _ _) ha).2
  exact this.mono fun e w' ⟨v',φ',h1,_,h2,_,h3,_⟩=>by
    simp only [VRel]at h2
    subst h2;exact⟨h1,h3.below⟩
end
end Go.Lift
namespace Go.Lift
noncomputable section
open Go.RowKit Go.ChangeShapes Go.WideShapes Go.ChangeAt
def cellKind (P:Program):Nat→TypeId→Nat→Option TK
  | 0,_,_=>none
  | d+1,t,c =>
    match P.underlying t with
    | some (.int k)=>if c=0 then some (.int k)else none
    | some .bool=>if c=0 then some .bool else none
    | some .string=>if c=0 then some .string else none
    | some (.struct fs)=>fs.toList.findSome? fun f=>if f.offset≤c∧c<f.offset+P.cellsOf f.type then cellKind P d f.type (c-f.offset)else none
    | some (.array n e)=>if c / P.cellsOf e<n then cellKind P d e (c % P.cellsOf e)else none
    | _=>none
def CellIs:TK→Value→Prop
  | .int k,v=> ∃ n,v= .int k n∧(Lit.int k n).wf=true
  | .bool,v=> ∃ b,v= .bool b
  | .string,v=> ∃ s:ByteArray,v= .string s∧s.size≤maxLen
  | _,_=>False
section
variable {H:Type}{enc:TypeId×Value→H}{P:Program}{w:World}{base:Nat}{spare:Nat→Bool}{held:Bool}
theorem cell_flat: ∀ (d:Nat) {t:TypeId} {c:Nat} {k:TK} {fuel:Nat} {cs:List Value} {x:DataW H×List MemPlace},cellKind P d t c=some k→DataW.trod enc P w base spare held fuel t cs=some x→ ∃ v,cs[c]? =some v∧CellIs k v:=by
  intro d
  induction d with
  | zero=>intro t c k fuel cs x h;cases h
  | succ d ih =>
    intro t c k fuel cs x h hx
    simp only [cellKind]at h
    split at h
    · rename_i kk hu
      split at h
      · rename_i hc;subst hc
        simp only [Option.some.injEq]at h;subst h
        obtain⟨n,rfl,_,hw⟩:=DataW.trod_int hu hx
        exact⟨_,rfl,n,rfl,hw⟩
      · cases h
    · rename_i hu
      split at h
      · rename_i hc;subst hc
        simp only [Option.some.injEq]at h;subst h
        obtain⟨b,rfl,_⟩:=DataW.trod_bool hu hx
        exact⟨_,rfl,b,rfl⟩
      · cases h
    · rename_i hu
      split at h
      · rename_i hc;subst hc
        simp only [Option.some.injEq]at h;subst h
        obtain⟨s,rfl,_,hs⟩:=DataW.trod_string hu hx
        exact⟨_,rfl,s,rfl,hs⟩
      · cases h
    · rename_i fs hu
      obtain⟨f,hf,hk⟩:=List.exists_of_findSome?_eq_some h
      split at hk
      · rename_i hc
        obtain⟨xs,n,_,_,hl,hxl,hfs⟩:=DataW.trod_struct hu hx
        obtain⟨j,hj,hfj⟩:=List.mem_iff_getElem.1 hf
        have hj':fs[j]? =some f:=by rw [← Array.getElem?_toList,List.getElem?_eq_getElem hj,hfj]
        have h1:=hfs j f hj'
        rw [List.getElem?_eq_getElem (by rw [hxl];simpa using hj)]at h1
        obtain⟨v,hv,his⟩:=ih hk h1
        rw [List.getElem?_take]at hv
        split at hv
        · rw [List.getElem?_drop,show f.offset+(c-f.offset)=c by omega]at hv
          exact⟨v,hv,his⟩
        · cases hv
      · cases hk
    · rename_i n e hu
      split at h
      · rename_i hc
        obtain⟨xs,m,_,_,hl,hxl,hes⟩:=DataW.trod_array hu hx
        have h1:=hes _ hc
        rw [List.getElem?_eq_getElem (by omega)]at h1
        obtain⟨v,hv,his⟩:=ih h h1
        rw [List.getElem?_take]at hv
        split at hv
        · rw [List.getElem?_drop,Nat.mul_comm,Nat.div_add_mod]at hv
          exact⟨v,hv,his⟩
        · cases hv
      · cases h
    · cases h
theorem CellIs.bare {k:TK}{v:Value}(h:CellIs k v):Bare (ofScalar v)∧(ofScalar v).simple=true∧v.oneCell'=true:=by
  cases k with
  | int k=>obtain⟨n,rfl,_⟩:=h;exact⟨Bare.int _ _,rfl,by first | trivial | rfl⟩
  | bool=>obtain⟨b,rfl⟩:=h;exact⟨Bare.bool _,rfl,by first | trivial | rfl⟩
  | string=>obtain⟨s,rfl,_⟩:=h;exact⟨Bare.str _,rfl,by first | trivial | rfl⟩
  | _=>exact h.elim
def elemA(isA:Bool)(cs:List AVal):AVal:=if isA then .agg cs else cs.headD .undef
theorem elemA_cells {isA:Bool}{cs:List AVal}(h:isA=false→ ∃ a,cs= [a]∧a.simple=true):(elemA isA cs).cells=cs:=by
  unfold elemA
  cases isA with
  | true=>rfl
  | false =>
    obtain⟨a,rfl,ha⟩:=h rfl
    cases a<;>simp [AVal.cells]<;>cases ha
theorem Bare.agg {l:List AVal}(h: ∀ a∈l,Bare a):Bare (.agg l):=by
  refine⟨fun r=> ?_,?_⟩
  · simp only [AVal.ren,AVal.rens_map]
    have:l.map (AVal.ren r)=l:=by
      conv=>rhs;rw [← List.map_id l]
      exact List.map_congr_left fun e he=>(h e he).1 r
    rw [this]
  · simp only [Clo];exact Clos_iff.2 fun a ha=>(h a ha).2
def cellAt(w:World)(x:Addr)(j:Nat):Value:=(w.cell? (x.add j)).getD undef
def elemAt(w:World)(x:Addr)(isA:Bool)(sz i:Nat):AVal:=elemA isA ((List.range sz).map fun j=>ofScalar (cellAt w x (i*sz+j)))
theorem open_flat_arg {isA:Bool} {t e:TypeId} {d sz:Nat} {ks:List TK} (hw:0<w.heap.size) (ht:P.underlying t=some (.slice e)) (hc:P.cellsOf e=sz) (hsz:Nat.blt 0 sz=true) (hA:isA=false→sz=1)
    (hks:(List.range sz).map (cellKind P d e)=ks.map some) {a:Option Addr} {len cap:Nat} {dd:DataW H} {ps:List MemPlace} (h:DataW.Trod enc P w 0 (fun _=>true) true t (.slice a len cap) dd ps) (id:Nat) :
    ∃ (o:Option AAddr) (c:Nat) (b:ABlk) (p:Place) (x:Addr),SlArg o len c id 0 0 sz∧ArgRow w b p∧len≤maxLen∧(∀ φ:Map,φ id 0=some p→VRel φ (.slice o len c) (.slice a len cap)) ∧
      (∀ i,i<len→b.elem? 0 (0+i)=some (elemAt w x isA sz i))∧(∀ i j,i<len→j<sz→ ∃ k,ks[j]? =some k∧CellIs k (cellAt w x (i*sz+j))):=by
  have hsz:0<sz:=Nat.blt_eq.mp hsz
  have hkk: ∀ j,j<sz→ ∃ k,ks[j]? =some k∧cellKind P d e j=some k:=by
    intro j hj
    have h1:=congrArg (fun(l:List (Option TK))=>l[j]?) hks
    simp only [List.getElem?_map,List.getElem?_range hj,Option.map_some]at h1
    cases hk:ks[j]? with
    | none=>rw [hk]at h1;cases h1
    | some k=>rw [hk]at h1;simp at h1;exact⟨k,rfl,h1⟩
  obtain⟨fuel,hf⟩:=h
  have hf':DataW.trod enc P w 0 (fun _=>true) true fuel t [.slice a len cap]=some (dd,ps):=hf
  rcases DataW.trod_slice ht hf' with ⟨hcs,_⟩ | ⟨x,l,c,elems,rest,n,_,hcs,_,_,hl,hm,hlen,hel,hsp,_⟩
  · simp at hcs
    obtain⟨rfl,rfl,rfl⟩:=hcs
    exact⟨none,0,noBlk sz,noPlace sz,⟨0,0,none⟩,.inr ⟨rfl,rfl,rfl⟩,noRow hw hsz,by simp,fun φ _=>by simp [VRel],fun i hi=>by omega,fun i j hi=>by omega⟩
  · simp at hcs
    obtain⟨rfl,rfl,rfl⟩:=hcs
    obtain⟨hrl,hr⟩:=hsp rfl
    have each: ∀ i,i<cap→ ∃ cs y,w.cells? 0 (x.add (i*sz)) sz=some cs∧DataW.trod enc P w 0 (fun _=>true) true n e cs=some y:=by
      intro i hi
      have hb: ∃ y,(w.cells? 0 (x.add (i*P.cellsOf e)) (P.cellsOf e)).bind (DataW.trod enc P w 0 (fun _=>true) true n e)=some y:=by
        by_cases c1:i<len
        · exact⟨_,(hel i c1).trans (List.getElem?_eq_getElem (by omega))⟩
        · have:=hr (i-len) (by omega)
          rw [show len+(i-len)=i by omega]at this
          exact⟨_,this.trans (List.getElem?_eq_getElem (by omega))⟩
      obtain⟨y,hy⟩:=hb
      rw [hc,Option.bind_eq_some_iff]at hy
      obtain⟨cs,h1,h2⟩:=hy
      exact⟨cs,y,h1,h2⟩
    have cell: ∀ i j,i<cap→j<sz→ ∃ v k,w.cell? (x.add (i*sz+j))=some v∧ks[j]? =some k∧CellIs k v:=by
      intro i j hi hj
      obtain⟨cs,y,h1,h2⟩:=each i hi
      obtain⟨k,hk,hkd⟩:=hkk j hj
      obtain⟨v,hv,his⟩:=cell_flat d hkd h2
      refine⟨v,k,?_,hk,his⟩
      rw [← Go.Deep.add_add,(World.cells?_some h1).2.2 j hj,hv]
    have hcellAt: ∀ i j,i<cap→j<sz→w.cell? (x.add (i*sz+j))=some (cellAt w x (i*sz+j))∧ ∃ k,ks[j]? =some k∧CellIs k (cellAt w x (i*sz+j)):=by
      intro i j hi hj
      obtain⟨v,k,h1,h2,h3⟩:=cell i j hi hj
      have:cellAt w x (i*sz+j)=v:=by simp [cellAt,h1]
      rw [this];exact⟨h1,k,h2,h3⟩
    by_cases hcap:cap=0
    · subst hcap
      obtain rfl:len=0:=by omega
      refine⟨some ⟨id,0,0,0,sz⟩,0,noBlk sz,noPlace sz,x,.inl rfl,noRow hw hsz,by simp,fun φ hφ=> ?_,fun j hj=>by omega,fun i j hi=>by omega⟩
      simp only [VRel]
      exact⟨x,0,rfl,Nat.le_refl _,Nat.le_refl _,by first | trivial | rfl,_,hφ,rfl,.inl rfl,fun _=>rfl⟩
    have hspot:x.spot=none:=by
      have:=(hcellAt 0 0 (by omega) hsz).1
      simpa [Addr.add]using World.cell?_spot this
    have hadd: ∀ i,x.add i=⟨x.block,x.off+i,none⟩:=by
      intro i
      obtain⟨bl,of,sp⟩:=x
      simp only at hspot
      subst hspot
      unfold Addr.add
      split
      · rename_i h0;subst h0;rfl
      · rfl
    have hcells: ∀ i,i<cap→(elemAt w x isA sz i).cells=(List.range sz).map fun j=>ofScalar (cellAt w x (i*sz+j)):=by
      intro i hi
      refine elemA_cells fun hA'=> ?_
      have h1:=hA hA'
      subst h1
      refine⟨_,rfl,?_⟩
      obtain⟨_,k,_,his⟩:=hcellAt i 0 hi (by omega)
      exact his.bare.2.1
    have hblk:x.block<w.heap.size:=by
      have:=(hcellAt 0 0 (by omega) hsz).1
      rw [hadd]at this
      unfold World.cell? at this
      split at this
      · rename_i hb;exact(Array.getElem?_eq_some_iff.1 hb).1
      · cases this
    refine⟨some ⟨id,0,0,0,sz⟩,cap,{elems:=(List.range cap).map (elemAt w x isA sz),es:=sz,exact:=true,ro:=true,ver:=0,minVer:=0,forkLen:=0},{blk:=x.block,off:=x.off,lo:=0,es:=sz,tot:=cap,exact:=true,ro:=true},x,.inl rfl,?_,by omega,?_,?_,fun i j hi hj=>(hcellAt i j (by omega) hj).2⟩
    · refine⟨rfl,rfl,rfl,rfl,hsz,rfl,fun φ S=>⟨hblk,(fun h=>by cases h),?_,(fun h=>by cases h),?_⟩,?_⟩
      · intro o ho
        simp only at ho
        have h1:o / sz<cap:=Nat.div_lt_of_lt_mul (by rw [Nat.mul_comm];exact ho)
        have:=(hcellAt (o / sz) (o % sz) h1 (Nat.mod_lt _ hsz)).1
        rw [show o / sz*sz+o % sz=o by rw [Nat.mul_comm];exact Nat.div_add_mod o sz,hadd]at this
        simp only [this];rfl
      · intro i e0 _ _ he
        simp only [List.getElem?_map,Option.map_eq_some_iff]at he
        obtain⟨i',hi',rfl⟩:=he
        have hi:=(List.getElem?_eq_some_iff.1 hi').1
        simp only [List.length_range]at hi
        rw [List.getElem?_range hi]at hi'
        simp only [Option.some.injEq]at hi';subst hi'
        refine⟨by rw [hcells i hi];simp,by simp only;omega,fun j x' hx=> ?_⟩
        rw [hcells i hi,List.getElem?_map,Option.map_eq_some_iff]at hx
        obtain⟨j',hj',rfl⟩:=hx
        have hj:=(List.getElem?_eq_some_iff.1 hj').1
        simp only [List.length_range]at hj
        rw [List.getElem?_range hj]at hj'
        simp only [Option.some.injEq]at hj';subst hj'
        obtain⟨h1,k,_,his⟩:=hcellAt i j hi hj
        refine⟨_,?_,ofScalar_rel φ _,his.bare.2.2⟩
        rw [hadd]at h1
        simp only [Place.at,Nat.sub_zero,Nat.add_assoc]
        exact h1
      · intro e0 he
        obtain⟨i,hi,rfl⟩:=List.mem_map.1 he
        have hi:=List.mem_range.1 hi
        unfold elemAt elemA
        have hall: ∀ a∈(List.range sz).map (fun j=>ofScalar (cellAt w x (i*sz+j))),Bare a:=by
          intro a ha
          obtain⟨j,hj,rfl⟩:=List.mem_map.1 ha
          obtain⟨_,k,_,his⟩:=hcellAt i j hi (List.mem_range.1 hj)
          exact his.bare.1
        cases isA with
        | true=>exact Bare.agg hall
        | false =>
          have h1:=hA rfl
          subst h1
          exact hall _ (by simp)
    · intro φ hφ
      simp only [VRel]
      refine⟨x,cap,rfl,hl,Nat.le_refl _,by first | trivial | rfl,_,hφ,rfl,?_,fun _=>rfl⟩
      refine .inr ⟨Nat.le_refl _,?_,by simp⟩
      have:=hadd 0
      simp only [Addr.add,if_true]at this
      simpa [Place.at]using this
    · intro i hi
      have hi':i<cap:=by omega
      simp [ABlk.elem?,ABlk.lim,hi']
theorem weight_len {t e:TypeId}(ht:P.underlying t=some (.slice e)){a:Option Addr}{len cap:Nat}{dd:DataW H}{ps:List MemPlace}(h:DataW.Trod enc P w base spare held t (.slice a len cap) dd ps)
    (hw: ∀ y∈dd.weights P t,y≤reachBytes):len*P.bytesOf e≤reachBytes:=by
  obtain⟨fuel,hf⟩:=h
  have hf':DataW.trod enc P w base spare held fuel t [.slice a len cap]=some (dd,ps):=hf
  rcases DataW.trod_slice ht hf' with ⟨hcs,_⟩ | ⟨x,l,c,elems,rest,n,_,hcs,hx,_,hl,hm,hlen,_⟩
  · simp at hcs
    obtain⟨_,rfl,_⟩:=hcs
    simp
  · simp at hcs
    obtain⟨_,rfl,_⟩:=hcs
    simp only [Prod.mk.injEq]at hx
    obtain⟨rfl,_⟩:=hx
    have:=hw ((elems.length+rest.length)*P.bytesOf e) (by simp [DataW.weights,ht])
    rw [hlen]at this
    exact Nat.le_trans (Nat.mul_le_mul_right _ (by omega)) this
theorem weights_cons {t:TypeId}{ts:List TypeId}{d:DataW H}{ds:List (DataW H)}{R:Nat}(h: ∀ y∈DataW.weightsEach P (t::ts) (d::ds),y≤R):(∀ y∈d.weights P t,y≤R)∧ ∀ y∈DataW.weightsEach P ts ds,y≤R :=
  ⟨fun y hy=>h y (by simp [DataW.weightsEach,hy]),fun y hy=>h y (by simp [DataW.weightsEach,hy])⟩
def numA:AVal→Int
  | .int _ n=>n
  | _=>0
theorem CellIs.int {k:IntKind}{v:Value}(h:CellIs (.int k) v):ofScalar v= .int k (numA (ofScalar v))∧(Lit.int k (numA (ofScalar v))).wf=true:=by
  obtain⟨n,rfl,hw⟩:=h;exact⟨rfl,hw⟩
end
end
end Go.Lift
namespace Go.Proofs.Ytgfkllnaeekjeaa
open Go.Lift
set_option maxRecDepth 1000000
structure It where
  k:Int
  n:Int
  d:Int
  mn:Int
  mx:Int
def It.cells(t:It):List AVal:= [.int .i8 t.k,.int .i64 t.n,.int .i64 t.d,.int .i64 t.mn,.int .i64 t.mx]
def It.val(t:It):AVal:= .agg t.cells
structure It.Fits(t:It):Prop where
  k: -128≤t.k∧t.k≤127
  n:Fit64 t.n
  d:Fit64 t.d
  mn:Fit64 t.mn
  mx:Fit64 t.mx
def itKinds:List TK:= [.int .i8,.int .i64,.int .i64,.int .i64,.int .i64]
theorem It.bare(t:It):Bare t.val:=Bare.agg (by simp [It.cells,Bare.int])
theorem it_cells(v:Nat→Value)(h: ∀ j,j<5→ ∃ k,itKinds[j]? =some k∧CellIs k (v j)): ∃ t:It,(List.range 5).map (fun j=>ofScalar (v j))=t.cells∧t.Fits:=by
  have g: ∀ j k,j<5→itKinds[j]? =some k→CellIs k (v j):=by
    intro j k hj hk
    obtain⟨k',h1,h2⟩:=h j hj
    rw [hk]at h1;simp only [Option.some.injEq]at h1;subst h1;exact h2
  have h0:=(g 0 _ (by omega) rfl).int
  have h1:=(g 1 _ (by omega) rfl).int
  have h2:=(g 2 _ (by omega) rfl).int
  have h3:=(g 3 _ (by omega) rfl).int
  have h4:=(g 4 _ (by omega) rfl).int
  refine⟨⟨numA (ofScalar (v 0)),numA (ofScalar (v 1)),numA (ofScalar (v 2)),numA (ofScalar (v 3)),numA (ofScalar (v 4))⟩,?_,wf_fit8 h0.2,wf_fit h1.2,wf_fit h2.2,wf_fit h3.2,wf_fit h4.2⟩
  show [ofScalar (v 0),ofScalar (v 1),ofScalar (v 2),ofScalar (v 3),ofScalar (v 4)]=_
  simp only [It.cells]
  rw [← h0.1,← h1.1,← h2.1,← h3.1,← h4.1]
end Go.Proofs.Ytgfkllnaeekjeaa
namespace Go.Proofs.Ytgfkllnaeekjeaa
open Go.Lift
set_option maxRecDepth 1000000
theorem bound_T(k n d mn mx:Int)(hc_0:mx>0) :
    FDoes Try.prog 57 [zqA k n d mn mx] (⟨0,.nil⟩) (zqI mx) (AHeap.rows 8 [(0,.made [zqA k n d mn mx] 5 true)]) :=
  pcall_does env_ok mixed (hs:= [.val 1002 (.bool true)]) (rs:= []) (by kernel_rfl) (All.cons (okT hc_0) (All.nil))
theorem bound_F(k n d mn mx:Int)(hc_0: ¬ (mx>0)) :
    FDoes Try.prog 57 [zqA k n d mn mx] (⟨0,.nil⟩) (zqI 8192) (AHeap.rows 6 [(0,.made [zqA k n d mn mx] 5 true)]) :=
  pcall_does env_ok mixed (hs:= [.val 1002 (.bool false)]) (rs:= []) (by kernel_rfl) (All.cons (okF hc_0) (All.nil))
theorem into_T(x k n d mn mx:Int)(hc_0:mx>0) :
    FDoes Try.prog 39 [zqI x,zqA k n d mn mx] (⟨0,.nil⟩) (zqI (if mx<if mn>x then mn else x then mx else if mn>x then mn else x)) (AHeap.rows 17 [(0,.made [zqA k n d mn mx] 5 true)]) :=
  pcall_does env_ok mixed (hs:= [.val 2002 (.bool true)]) (rs:= []) (by kernel_rfl) (All.cons (okT hc_0) (All.nil))
theorem into_F(x k n d mn mx:Int)(hc_0: ¬ (mx>0)) :
    FDoes Try.prog 39 [zqI x,zqA k n d mn mx] (⟨0,.nil⟩) (zqI (if mn>x then mn else x)) (AHeap.rows 12 [(0,.made [zqA k n d mn mx] 5 true)]) :=
  pcall_does env_ok mixed (hs:= [.val 2002 (.bool false)]) (rs:= []) (by kernel_rfl) (All.cons (okF hc_0) (All.nil))
def boundZ(mx:Int):Int:=if 0<mx then mx else 8192
def intoZ(mn mx x:Int):Int:=if 0<mx then min (max x mn) mx else max x mn
theorem bound_does(k n d mn mx:Int)(H:AHeap):FDoes Try.prog 57 [.agg [.int .i8 k,.int .i64 n,.int .i64 d,.int .i64 mn,.int .i64 mx]] H (.int .i64 (boundZ mx)) H:=by
  have ha: ∀ a∈ [AVal.agg [.int .i8 k,.int .i64 n,.int .i64 d,.int .i64 mn,.int .i64 mx]],Bare a:=by
    intro a h
    rw [List.mem_singleton.1 h]
    exact Bare.agg (by simp [Bare.int])
  unfold boundZ
  by_cases c:0<mx
  · rw [if_pos c];exact(bound_T k n d mn mx c).bare ha (Bare.int _ _) H
  · rw [if_neg c];exact(bound_F k n d mn mx c).bare ha (Bare.int _ _) H
theorem into_does(x k n d mn mx:Int)(H:AHeap):FDoes Try.prog 39 [.int .i64 x,.agg [.int .i8 k,.int .i64 n,.int .i64 d,.int .i64 mn,.int .i64 mx]] H (.int .i64 (intoZ mn mx x)) H:=by
  have ha: ∀ a∈ [AVal.int .i64 x,AVal.agg [.int .i8 k,.int .i64 n,.int .i64 d,.int .i64 mn,.int .i64 mx]],Bare a:=by
    intro a h
    rcases List.mem_cons.1 h with h | h
    · rw [h];exact Bare.int _ _
    · rw [List.mem_singleton.1 h]
      exact Bare.agg (by simp [Bare.int])
  unfold intoZ
  by_cases c:0<mx
  · have h:=(into_T x k n d mn mx c).bare ha (Bare.int _ _) H
    rw [if_pos c]
    rwa [show(if mx<if mn>x then mn else x then mx else if mn>x then mn else x)=min (max x mn) mx by split<;>split<;>omega]at h
  · have h:=(into_F x k n d mn mx c).bare ha (Bare.int _ _) H
    rw [if_neg c]
    rwa [show(if mn>x then mn else x)=max x mn by split<;>omega]at h
end Go.Proofs.Ytgfkllnaeekjeaa
namespace Go.Proofs.Ytgfkllnaeekjeaa
open Go.Lift
set_option maxRecDepth 1000000
noncomputable abbrev zq49_2(N:Nat)(j:Nat):Prop:=aindexAddr env.D 26 (.slice (some ⟨0,0,0,0,5⟩) N N) (zqI (j:Int))=some (.ptr (some ⟨0,0,j,0,5⟩))
noncomputable abbrev zq49_3(its:List AVal)(sz:List AVal)(b:ABlk):List (Nat×ABlk):= [(0,.made its 5 true),(1,.made sz 1 true),(9,b)]
noncomputable abbrev zq49_9(N:Nat)(j:Nat):Prop:=aindexAddr env.D 27 (.slice (some ⟨1,0,0,0,1⟩) N N) (zqI (j:Int))=some (.ptr (some ⟨1,0,j,0,1⟩))
noncomputable abbrev zq49_10(its:List AVal)(j:Nat)(k:Int)(n:Int)(d:Int)(mn:Int)(mx:Int):Prop:=ABlk.elem? (.made its 5 true) 0 j=some (zqA k n d mn mx)
noncomputable abbrev zq49_15(o:Option AAddr)(m:Nat)(c:Nat)(i:Nat)(ver:Nat)(off:Nat):Prop:=aindexAddr env.D 27 (.slice o m c) (zqI (i:Int))=some (.ptr (some ⟨9,ver,off+i,0,1⟩))
theorem fill_max(N m c ver off i j:Nat)(o:Option AAddr)(b:ABlk)(its sz:List AVal)(k n d mn mx old:Int)(hc_0:(i:Int)<(m:Int))(hc_1:(zq49_15 o m c i ver off))(hc_2:ABlk.elem? b ver (off+i)=some (zqI (j:Int)))(hc_3:(zq49_2 N j))(hc_4:(zq49_10 its j k n d mn mx))(hc_5:(zq49_9 N j))(hc_6:0=0∧sz[j]? =some (zqI old))(hc_7:zqF ((i:Int)+1)) :
    Runs Try.prog 2 279 (loopAt Try.prog 42 1) [(0,.slice (some ⟨0,0,0,0,5⟩) N N),(1,.slice (some ⟨1,0,0,0,1⟩) N N),(74,.slice o m c),(75,zqI m),(76,zqI i)] (AHeap.rows 40 (zq49_3 its sz b)) .normal [(0,.slice (some ⟨0,0,0,0,5⟩) N N),(1,.slice (some ⟨1,0,0,0,1⟩) N N),(74,.slice o m c),(75,zqI (m:Int)),(76,zqI ((i:Int)+1))] (AHeap.rows 55 [(0,.made its 5 true),(1,(.made (List.set sz j (zqI mx)) 1 true)),(9,b)]) :=
  ppath_runs env_ok mixed (hs:= [.val 15000 (.bool true),.val 16000 (.ptr (some ⟨9,ver,off+i,0,1⟩)),.ld 16001 (zqI j),.val 17004 (.ptr (some ⟨0,0,j,0,5⟩)),.ld 17006 (zqA k n d mn mx),.val 17007 (.ptr (some ⟨1,0,j,0,1⟩)),.st 17008 (zqI old),.go 18000]) (keep:= [0,1,74,75,76]) (by kernel_rfl) (All.cons (okT hc_0) (All.cons hc_1 (All.cons hc_2 (All.cons hc_3 (All.cons hc_4 (All.cons hc_5 (All.cons hc_6 (All.cons hc_7 (All.nil)))))))))
theorem fill_max_end(N m c i:Nat)(o:Option AAddr)(b:ABlk)(its sz:List AVal)(hc_0: ¬ ((i:Int)<(m:Int))) :
    Runs Try.prog 2 279 (loopAt Try.prog 42 1) [(0,.slice (some ⟨0,0,0,0,5⟩) N N),(1,.slice (some ⟨1,0,0,0,1⟩) N N),(74,.slice o m c),(75,zqI m),(76,zqI i)] (AHeap.rows 40 (zq49_3 its sz b)) (.exit 2) [] (AHeap.rows 41 (zq49_3 its sz b)) :=
  ppath_runs env_ok mixed (hs:= [.val 15000 (.bool false)]) (keep:= []) (by kernel_rfl) (All.cons (okF hc_0) (All.nil))
theorem fill_sp(N i:Nat)(r0:ABlk)(its sz:List AVal)(rest weight most:Int)(ov:AVal)(bounded:Bool)(k n d mn mx x:Int)(hc_0:(i:Int)<(N:Int))(hc_1:aindexAddr env.D 26 (.slice (some ⟨0,0,0,0,5⟩) N N) (zqI (i:Int))=some (.ptr (some ⟨0,0,i,0,5⟩)))(hc_2:ABlk.elem? (.made its 5 true) 0 i=some (zqA k n d mn mx))(hc_3: ¬ (k=3))(hc_4:aindexAddr env.D 27 (.slice (some ⟨1,0,0,0,1⟩) N N) (zqI (i:Int))=some (.ptr (some ⟨1,0,i,0,1⟩)))(hc_5:ABlk.elem? (.made sz 1 true) 0 i=some (zqI x))(hc_6:zqF (rest-x))(hc_7:zqF ((i:Int)+1)) :
    Runs Try.prog 2 279 (loopAt Try.prog 42 0) [(0,.slice (some ⟨0,0,0,0,5⟩) N N),(1,.slice (some ⟨1,0,0,0,1⟩) N N),(6,zqI rest),(7,zqI weight),(8,zqI most),(9,ov),(10,.bool bounded),(33,.slice (some ⟨0,0,0,0,5⟩) N N),(34,zqI N),(35,zqI i)] (AHeap.rows 61 [(0,.made its 5 true),(1,.made sz 1 true),(60,r0)]) .normal [(0,.slice (some ⟨0,0,0,0,5⟩) N N),(1,.slice (some ⟨1,0,0,0,1⟩) N N),(6,zqI (rest-x)),(7,zqI weight),(8,zqI most),(9,ov),(10,AVal.bool bounded),(33,.slice (some ⟨0,0,0,0,5⟩) N N),(34,zqI (N:Int)),(35,zqI ((i:Int)+1))] (AHeap.rows 80 [(0,.made its 5 true),(1,.made sz 1 true),(60,r0),(65,(.made ([zqA k n d mn mx]) 5 true))]) :=
  ppath_runs env_ok mixed (hs:= [.val 4000 (.bool true),.val 5001 (.ptr (some ⟨0,0,i,0,5⟩)),.ld 5002 (zqA k n d mn mx),.val 6002 (.bool true),.val 7003 (.ptr (some ⟨1,0,i,0,1⟩)),.ld 7004 (zqI x),.go 7005,.go 12000]) (keep:= [0,1,6,7,8,9,10,33,34,35]) (by kernel_rfl) (All.cons (okT hc_0) (All.cons hc_1 (All.cons hc_2 (All.cons (neT hc_3) (All.cons hc_4 (All.cons hc_5 (All.cons hc_6 (All.cons hc_7 (All.nil)))))))))
theorem fill_ab(N m c ver off i j:Nat)(o:Option AAddr)(b:ABlk)(its sz:List AVal)(k n d mn mx:Int)(rest weight above below:Int)(hc_0:(i:Int)<(m:Int))(hc_1:(zq49_15 o m c i ver off))(hc_2:ABlk.elem? b ver (off+i)=some (zqI (j:Int)))(hc_3:(zq49_2 N j))(hc_4:(zq49_10 its j k n d mn mx))(hc_5:zqF (rest*n))(hc_6:(zq49_2 N j))(hc_7:(zq49_10 its j k n d mn mx))(hc_8:FDoes Try.prog 57 [zqA k n d mn mx] (AHeap.rows 85 (zq49_3 its sz b)) (zqI (boundZ mx)) (AHeap.rows 85 (zq49_3 its sz b)))(hc_9:zqF (weight*boundZ mx))(hc_10:zqF (rest*n-weight*boundZ mx))(hc_11:(-9223372036854775808≤above+if rest*n-weight*boundZ mx>0 then rest*n-weight*boundZ mx else 0)∧(above+if rest*n-weight*boundZ mx>0 then rest*n-weight*boundZ mx else 0)≤9223372036854775807)(hc_12:(zq49_2 N j))(hc_13:(zq49_10 its j k n d mn mx))(hc_14:zqF (weight*mn))(hc_15:zqF (weight*mn-rest*n))(hc_16:(-9223372036854775808≤below+if weight*mn-rest*n>0 then weight*mn-rest*n else 0)∧(below+if weight*mn-rest*n>0 then weight*mn-rest*n else 0)≤9223372036854775807)(hc_17:zqF ((i:Int)+1)) :
    Runs Try.prog 2 279 (loopAt Try.prog 42 3) [(0,.slice (some ⟨0,0,0,0,5⟩) N N),(1,.slice (some ⟨1,0,0,0,1⟩) N N),(6,zqI rest),(7,zqI weight),(9,.slice o m c),(15,zqI above),(16,zqI below),(92,.slice o m c),(93,zqI m),(94,zqI i)] (AHeap.rows 60 (zq49_3 its sz b)) .normal [(0,.slice (some ⟨0,0,0,0,5⟩) N N),(1,.slice (some ⟨1,0,0,0,1⟩) N N),(6,zqI rest),(7,zqI weight),(9,.slice o m c),(15,zqI (above+if rest*n-weight*boundZ mx>0 then rest*n-weight*boundZ mx else 0)),(16,zqI (below+if weight*mn-rest*n>0 then weight*mn-rest*n else 0)),(92,.slice o m c),(93,zqI (m:Int)),(94,zqI ((i:Int)+1))] (AHeap.rows 100 (zq49_3 its sz b)) :=
  ppath_runs env_ok mixed (hs:= [.val 22000 (.bool true),.val 23000 (.ptr (some ⟨9,ver,off+i,0,1⟩)),.ld 23001 (zqI j),.val 24003 (.ptr (some ⟨0,0,j,0,5⟩)),.ld 24005 (zqA k n d mn mx),.go 24006,.val 25005 (.ptr (some ⟨0,0,j,0,5⟩)),.ld 25006 (zqA k n d mn mx),.val 25007 (zqI (boundZ mx)),.go 25008,.go 25009,.go 25011,.val 26004 (.ptr (some ⟨0,0,j,0,5⟩)),.ld 26006 (zqA k n d mn mx),.go 26007,.go 26009,.go 26011,.go 27000]) (keep:= [0,1,6,7,9,15,16,92,93,94]) (by kernel_rfl) (All.cons (okT hc_0) (All.cons hc_1 (All.cons hc_2 (All.cons hc_3 (All.cons hc_4 (All.cons hc_5 (All.cons hc_6 (All.cons hc_7 (All.cons (CallT.mk hc_8) (All.cons hc_9 (All.cons hc_10 (All.cons hc_11 (All.cons hc_12 (All.cons hc_13 (All.cons hc_14 (All.cons hc_15 (All.cons hc_16 (All.cons hc_17 (All.nil)))))))))))))))))))
noncomputable abbrev zq49_21(N:Nat)(rest:Int)(weight:Int)(o:Option AAddr)(m:Nat)(c:Nat)(above:Int)(below:Int):Facts:= [(0,.slice (some ⟨0,0,0,0,5⟩) N N),(1,.slice (some ⟨1,0,0,0,1⟩) N N),(6,zqI rest),(7,zqI weight),(9,.slice o m c),(15,zqI above),(16,zqI below)]
theorem fill_ab_end(N m c i:Nat)(o:Option AAddr)(b:ABlk)(its sz:List AVal)(rest weight above below:Int)(hc_0: ¬ ((i:Int)<(m:Int))) :
    Runs Try.prog 2 279 (loopAt Try.prog 42 3) [(0,.slice (some ⟨0,0,0,0,5⟩) N N),(1,.slice (some ⟨1,0,0,0,1⟩) N N),(6,zqI rest),(7,zqI weight),(9,.slice o m c),(15,zqI above),(16,zqI below),(92,.slice o m c),(93,zqI m),(94,zqI i)] (AHeap.rows 60 (zq49_3 its sz b)) (.exit 6) (zq49_21 N rest weight o m c above below) (AHeap.rows 61 (zq49_3 its sz b)) :=
  ppath_runs env_ok mixed (hs:= [.val 22000 (.bool false)]) (keep:= [0,1,6,7,9,15,16]) (by kernel_rfl) (All.cons (okF hc_0) (All.nil))
noncomputable abbrev zq49_17(its:List AVal)(sz:List AVal)(b:ABlk)(q:List AVal)(r:List AVal):List (Nat×ABlk):= [(0,.made its 5 true),(1,.made sz 1 true),(9,b),(20,.made q 1 true),(23,.made r 1 true)]
section
variable(N m c ver off i j:Nat)(o:Option AAddr)(b:ABlk)
include N m c ver off i j o b
theorem fill_q(its sz:List AVal)(k n d mn mx:Int)(q r:List AVal)(rest weight o1 o2:Int)(hc_0:(i:Int)<(m:Int))(hc_1:(zq49_15 o m c i ver off))(hc_2:ABlk.elem? b ver (off+i)=some (zqI (j:Int)))(hc_3:(zq49_2 N j))(hc_4:(zq49_10 its j k n d mn mx))(hc_5:zqF (rest*n))(hc_6:weight≠0∧zqF (Int.tdiv (rest*n) weight))(hc_7:aindexAddr env.D 27 (.slice (some ⟨20,0,0,0,1⟩) m m) (zqI (i:Int))=some (.ptr (some ⟨20,0,i,0,1⟩)))(hc_8:0=0∧q[i]? =some (zqI o1))(hc_9:(zq49_2 N j))(hc_10:(zq49_10 its j k n d mn mx))(hc_11:zqF (rest*n))(hc_12:weight≠0)(hc_13:aindexAddr env.D 27 (.slice (some ⟨23,0,0,0,1⟩) m m) (zqI (i:Int))=some (.ptr (some ⟨23,0,i,0,1⟩)))(hc_14:0=0∧r[i]? =some (zqI o2))(hc_15:zqF ((i:Int)+1)) :
    Runs Try.prog 2 279 (loopAt Try.prog 42 5) [(0,.slice (some ⟨0,0,0,0,5⟩) N N),(1,.slice (some ⟨1,0,0,0,1⟩) N N),(6,zqI rest),(7,zqI weight),(9,.slice o m c),(26,.slice (some ⟨20,0,0,0,1⟩) m m),(27,.slice (some ⟨23,0,0,0,1⟩) m m),(222,.slice o m c),(223,zqI m),(224,zqI i)] (AHeap.rows 60 (zq49_17 its sz b q r)) .normal [(0,.slice (some ⟨0,0,0,0,5⟩) N N),(1,.slice (some ⟨1,0,0,0,1⟩) N N),(6,zqI rest),(7,zqI weight),(9,.slice o m c),(26,.slice (some ⟨20,0,0,0,1⟩) m m),(27,.slice (some ⟨23,0,0,0,1⟩) m m),(222,.slice o m c),(223,zqI (m:Int)),(224,zqI ((i:Int)+1))] (AHeap.rows 94 [(0,.made its 5 true),(1,.made sz 1 true),(9,b),(20,(.made (List.set q i (zqI (Int.tdiv (rest*n) weight))) 1 true)),(23,(.made (List.set r i (zqI (Int.tmod (rest*n) weight))) 1 true))]) :=
  ppath_runs env_ok mixed (hs:= [.val 46000 (.bool true),.val 47001 (.ptr (some ⟨9,ver,off+i,0,1⟩)),.ld 47002 (zqI j),.val 48005 (.ptr (some ⟨0,0,j,0,5⟩)),.ld 48007 (zqA k n d mn mx),.go 48008,.go 48010,.val 48011 (.ptr (some ⟨20,0,i,0,1⟩)),.st 48012 (zqI o1),.val 49005 (.ptr (some ⟨0,0,j,0,5⟩)),.ld 49007 (zqA k n d mn mx),.go 49008,.go 49010,.val 49011 (.ptr (some ⟨23,0,i,0,1⟩)),.st 49012 (zqI o2),.go 50000]) (keep:= [0,1,6,7,9,26,27,222,223,224]) (by kernel_rfl) (All.cons (okT hc_0) (All.cons hc_1 (All.cons hc_2 (All.cons hc_3 (All.cons hc_4 (All.cons hc_5 (All.cons hc_6 (All.cons hc_7 (All.cons hc_8 (All.cons hc_9 (All.cons hc_10 (All.cons hc_11 (All.cons hc_12 (All.cons hc_13 (All.cons hc_14 (All.cons hc_15 (All.nil)))))))))))))))))
theorem fill_w(its sz q r:List AVal)(x old:Int)(hc_0:(i:Int)<(m:Int))(hc_1:(zq49_15 o m c i ver off))(hc_2:ABlk.elem? b ver (off+i)=some (zqI (j:Int)))(hc_3:aindexAddr env.D 27 (.slice (some ⟨20,0,0,0,1⟩) m m) (zqI (i:Int))=some (.ptr (some ⟨20,0,i,0,1⟩)))(hc_4:ABlk.elem? (.made q 1 true) 0 i=some (zqI x))(hc_5:(zq49_9 N j))(hc_6:0=0∧sz[j]? =some (zqI old))(hc_7:zqF ((i:Int)+1)) :
    Runs Try.prog 2 279 (loopAt Try.prog 42 6) [(1,.slice (some ⟨1,0,0,0,1⟩) N N),(26,.slice (some ⟨20,0,0,0,1⟩) m m),(264,.slice o m c),(265,zqI m),(266,zqI i)] (AHeap.rows 60 (zq49_17 its sz b q r)) .normal [(1,.slice (some ⟨1,0,0,0,1⟩) N N),(26,.slice (some ⟨20,0,0,0,1⟩) m m),(264,.slice o m c),(265,zqI (m:Int)),(266,zqI ((i:Int)+1))] (AHeap.rows 76 [(0,.made its 5 true),(1,(.made (List.set sz j (zqI x)) 1 true)),(9,b),(20,.made q 1 true),(23,.made r 1 true)]) :=
  ppath_runs env_ok mixed (hs:= [.val 54000 (.bool true),.val 55001 (.ptr (some ⟨9,ver,off+i,0,1⟩)),.ld 55002 (zqI j),.val 56004 (.ptr (some ⟨20,0,i,0,1⟩)),.ld 56005 (zqI x),.val 56006 (.ptr (some ⟨1,0,j,0,1⟩)),.st 56007 (zqI old),.go 57000]) (keep:= [1,26,264,265,266]) (by kernel_rfl) (All.cons (okT hc_0) (All.cons hc_1 (All.cons hc_2 (All.cons hc_3 (All.cons hc_4 (All.cons hc_5 (All.cons hc_6 (All.cons hc_7 (All.nil)))))))))
end
noncomputable abbrev zq49_13(N:Nat)(rest:Int)(weight:Int)(above:Int)(below:Int)(sv:AVal)(left:Int)(heavy:Int)(o:Option AAddr)(m:Nat)(c:Nat)(i:Nat):Facts:= [(0,.slice (some ⟨0,0,0,0,5⟩) N N),(1,.slice (some ⟨1,0,0,0,1⟩) N N),(6,zqI rest),(7,zqI weight),(15,zqI above),(16,zqI below),(20,sv),(21,zqI left),(22,zqI heavy),(138,.slice o m c),(139,zqI m),(140,zqI i)]
noncomputable abbrev zq49_20(its:List AVal)(sz:List AVal)(b:ABlk)(r0:ABlk):List (Nat×ABlk):= [(0,.made its 5 true),(1,.made sz 1 true),(9,b),(100,r0)]
section
variable(N m c ver off i j:Nat)(o:Option AAddr)(b r0:ABlk)(its sz:List AVal)(k n d mn mx:Int)(rest weight above below left heavy old:Int)(sv:AVal)(hc_0:(i:Int)<(m:Int))(hc_1:(zq49_15 o m c i ver off))(hc_2:ABlk.elem? b ver (off+i)=some (zqI (j:Int)))(hc_3:(zq49_2 N j))(hc_4:(zq49_10 its j k n d mn mx))(hc_5:zqF (rest*n))
include N m c ver off i j o b r0 its sz k n d mn mx rest weight above below left heavy old sv hc_0 hc_1 hc_2 hc_3 hc_4 hc_5
section
variable(hc_6:above≥below)(hc_7:(zq49_2 N j))(hc_8:(zq49_10 its j k n d mn mx))(hc_9:FDoes Try.prog 57 [zqA k n d mn mx] (AHeap.rows 127 (zq49_20 its sz b r0)) (zqI (boundZ mx)) (AHeap.rows 127 (zq49_20 its sz b r0)))(hc_10:zqF (weight*boundZ mx))
include hc_6 hc_7 hc_8 hc_9 hc_10
theorem fill_mx(hc_11:rest*n≥weight*boundZ mx)(hc_12:(zq49_2 N j))(hc_13:(zq49_10 its j k n d mn mx))(hc_14:(zq49_9 N j))(hc_15:0=0∧sz[j]? =some (zqI old))(hc_16:(zq49_9 N j))(hc_17:ABlk.elem? (.made (List.set sz j (zqI mx)) 1 true) 0 j=some (zqI mx))(hc_18:zqF (left-mx))(hc_19:(zq49_2 N j))(hc_20:(zq49_10 its j k n d mn mx))(hc_21:zqF (heavy-n))(hc_22:zqF ((i:Int)+1)) :
    Runs Try.prog 2 279 (loopAt Try.prog 42 4) (zq49_13 N rest weight above below sv left heavy o m c i) (AHeap.rows 101 (zq49_20 its sz b r0)) .normal [(0,.slice (some ⟨0,0,0,0,5⟩) N N),(1,.slice (some ⟨1,0,0,0,1⟩) N N),(6,zqI rest),(7,zqI weight),(15,zqI above),(16,zqI below),(20,sv),(21,zqI (left-mx)),(22,zqI (heavy-n)),(138,.slice o m c),(139,zqI (m:Int)),(140,zqI ((i:Int)+1))] (AHeap.rows 153 [(0,.made its 5 true),(1,(.made (List.set sz j (zqI mx)) 1 true)),(9,b),(100,r0)]) :=
  ppath_runs env_ok mixed (hs:= [.val 32000 (.bool true),.val 33000 (.ptr (some ⟨9,ver,off+i,0,1⟩)),.ld 33001 (zqI j),.val 34003 (.ptr (some ⟨0,0,j,0,5⟩)),.ld 34005 (zqA k n d mn mx),.go 34006,.val 35002 (.bool true),.val 35008 (.ptr (some ⟨0,0,j,0,5⟩)),.ld 35009 (zqA k n d mn mx),.val 35010 (zqI (boundZ mx)),.go 35011,.val 35012 (.bool true),.val 36004 (.ptr (some ⟨0,0,j,0,5⟩)),.ld 36006 (zqA k n d mn mx),.val 36007 (.ptr (some ⟨1,0,j,0,1⟩)),.st 36008 (zqI old),.val 40003 (.ptr (some ⟨1,0,j,0,1⟩)),.ld 40004 (zqI (mx)),.go 40005,.val 41003 (.ptr (some ⟨0,0,j,0,5⟩)),.ld 41005 (zqA k n d mn mx),.go 41006,.go 42000]) (keep:= [0,1,6,7,15,16,20,21,22,138,139,140]) (by kernel_rfl) (All.cons (okT hc_0) (All.cons hc_1 (All.cons hc_2 (All.cons hc_3 (All.cons hc_4 (All.cons hc_5 (All.cons (okT hc_6) (All.cons hc_7 (All.cons hc_8 (All.cons (CallT.mk hc_9) (All.cons hc_10 (All.cons (okT hc_11) (All.cons hc_12 (All.cons hc_13 (All.cons hc_14 (All.cons hc_15 (All.cons hc_16 (All.cons hc_17 (All.cons hc_18 (All.cons hc_19 (All.cons hc_20 (All.cons hc_21 (All.cons hc_22 (All.nil))))))))))))))))))))))))
theorem fill_mn_a(hc_11: ¬ (rest*n≥weight*boundZ mx))(hc_12:below≥above)(hc_13:(zq49_2 N j))(hc_14:(zq49_10 its j k n d mn mx))(hc_15:zqF (weight*mn))(hc_16:rest*n≤weight*mn)(hc_17:(zq49_2 N j))(hc_18:(zq49_10 its j k n d mn mx))(hc_19:(zq49_9 N j))(hc_20:0=0∧sz[j]? =some (zqI old))(hc_21:(zq49_9 N j))(hc_22:ABlk.elem? (.made (List.set sz j (zqI mn)) 1 true) 0 j=some (zqI mn))(hc_23:zqF (left-mn))(hc_24:(zq49_2 N j))(hc_25:(zq49_10 its j k n d mn mx))(hc_26:zqF (heavy-n))(hc_27:zqF ((i:Int)+1)) :
    Runs Try.prog 2 279 (loopAt Try.prog 42 4) (zq49_13 N rest weight above below sv left heavy o m c i) (AHeap.rows 101 (zq49_20 its sz b r0)) .normal [(0,.slice (some ⟨0,0,0,0,5⟩) N N),(1,.slice (some ⟨1,0,0,0,1⟩) N N),(6,zqI rest),(7,zqI weight),(15,zqI above),(16,zqI below),(20,sv),(21,zqI (left-mn)),(22,zqI (heavy-n)),(138,.slice o m c),(139,zqI (m:Int)),(140,zqI ((i:Int)+1))] (AHeap.rows 167 [(0,.made its 5 true),(1,(.made (List.set sz j (zqI mn)) 1 true)),(9,b),(100,r0)]) :=
  ppath_runs env_ok mixed (hs:= [.val 32000 (.bool true),.val 33000 (.ptr (some ⟨9,ver,off+i,0,1⟩)),.ld 33001 (zqI j),.val 34003 (.ptr (some ⟨0,0,j,0,5⟩)),.ld 34005 (zqA k n d mn mx),.go 34006,.val 35002 (.bool true),.val 35008 (.ptr (some ⟨0,0,j,0,5⟩)),.ld 35009 (zqA k n d mn mx),.val 35010 (zqI (boundZ mx)),.go 35011,.val 35012 (.bool false),.val 37002 (.bool true),.val 37008 (.ptr (some ⟨0,0,j,0,5⟩)),.ld 37010 (zqA k n d mn mx),.go 37011,.val 37012 (.bool true),.val 38004 (.ptr (some ⟨0,0,j,0,5⟩)),.ld 38006 (zqA k n d mn mx),.val 38007 (.ptr (some ⟨1,0,j,0,1⟩)),.st 38008 (zqI old),.val 40003 (.ptr (some ⟨1,0,j,0,1⟩)),.ld 40004 (zqI (mn)),.go 40005,.val 41003 (.ptr (some ⟨0,0,j,0,5⟩)),.ld 41005 (zqA k n d mn mx),.go 41006,.go 42000]) (keep:= [0,1,6,7,15,16,20,21,22,138,139,140]) (by kernel_rfl) (All.cons (okT hc_0) (All.cons hc_1 (All.cons hc_2 (All.cons hc_3 (All.cons hc_4 (All.cons hc_5 (All.cons (okT hc_6) (All.cons hc_7 (All.cons hc_8 (All.cons (CallT.mk hc_9) (All.cons hc_10 (All.cons (okF hc_11) (All.cons (okT hc_12) (All.cons hc_13 (All.cons hc_14 (All.cons hc_15 (All.cons (okT hc_16) (All.cons hc_17 (All.cons hc_18 (All.cons hc_19 (All.cons hc_20 (All.cons hc_21 (All.cons hc_22 (All.cons hc_23 (All.cons hc_24 (All.cons hc_25 (All.cons hc_26 (All.cons hc_27 (All.nil)))))))))))))))))))))))))))))
end
theorem fill_mn_b(hc_6: ¬ (above≥below))(hc_7:below≥above)(hc_8:(zq49_2 N j))(hc_9:(zq49_10 its j k n d mn mx))(hc_10:zqF (weight*mn))(hc_11:rest*n≤weight*mn)(hc_12:(zq49_2 N j))(hc_13:(zq49_10 its j k n d mn mx))(hc_14:(zq49_9 N j))(hc_15:0=0∧sz[j]? =some (zqI old))(hc_16:(zq49_9 N j))(hc_17:ABlk.elem? (.made (List.set sz j (zqI mn)) 1 true) 0 j=some (zqI mn))(hc_18:zqF (left-mn))(hc_19:(zq49_2 N j))(hc_20:(zq49_10 its j k n d mn mx))(hc_21:zqF (heavy-n))(hc_22:zqF ((i:Int)+1)) :
    Runs Try.prog 2 279 (loopAt Try.prog 42 4) (zq49_13 N rest weight above below sv left heavy o m c i) (AHeap.rows 101 (zq49_20 its sz b r0)) .normal [(0,.slice (some ⟨0,0,0,0,5⟩) N N),(1,.slice (some ⟨1,0,0,0,1⟩) N N),(6,zqI rest),(7,zqI weight),(15,zqI above),(16,zqI below),(20,sv),(21,zqI (left-mn)),(22,zqI (heavy-n)),(138,.slice o m c),(139,zqI (m:Int)),(140,zqI ((i:Int)+1))] (AHeap.rows 167 [(0,.made its 5 true),(1,(.made (List.set sz j (zqI mn)) 1 true)),(9,b),(100,r0)]) :=
  ppath_runs env_ok mixed (hs:= [.val 32000 (.bool true),.val 33000 (.ptr (some ⟨9,ver,off+i,0,1⟩)),.ld 33001 (zqI j),.val 34003 (.ptr (some ⟨0,0,j,0,5⟩)),.ld 34005 (zqA k n d mn mx),.go 34006,.val 35002 (.bool false),.val 37002 (.bool true),.val 37008 (.ptr (some ⟨0,0,j,0,5⟩)),.ld 37010 (zqA k n d mn mx),.go 37011,.val 37012 (.bool true),.val 38004 (.ptr (some ⟨0,0,j,0,5⟩)),.ld 38006 (zqA k n d mn mx),.val 38007 (.ptr (some ⟨1,0,j,0,1⟩)),.st 38008 (zqI old),.val 40003 (.ptr (some ⟨1,0,j,0,1⟩)),.ld 40004 (zqI (mn)),.go 40005,.val 41003 (.ptr (some ⟨0,0,j,0,5⟩)),.ld 41005 (zqA k n d mn mx),.go 41006,.go 42000]) (keep:= [0,1,6,7,15,16,20,21,22,138,139,140]) (by kernel_rfl) (All.cons (okT hc_0) (All.cons hc_1 (All.cons hc_2 (All.cons hc_3 (All.cons hc_4 (All.cons hc_5 (All.cons (okF hc_6) (All.cons (okT hc_7) (All.cons hc_8 (All.cons hc_9 (All.cons hc_10 (All.cons (okT hc_11) (All.cons hc_12 (All.cons hc_13 (All.cons hc_14 (All.cons hc_15 (All.cons hc_16 (All.cons hc_17 (All.cons hc_18 (All.cons hc_19 (All.cons hc_20 (All.cons hc_21 (All.cons hc_22 (All.nil))))))))))))))))))))))))
end
theorem fill_w_end(N m c i:Nat)(o:Option AAddr)(b:ABlk)(its sz q r:List AVal)(hc_0: ¬ ((i:Int)<(m:Int))) :
    Runs Try.prog 2 279 (loopAt Try.prog 42 6) [(1,.slice (some ⟨1,0,0,0,1⟩) N N),(26,.slice (some ⟨20,0,0,0,1⟩) m m),(264,.slice o m c),(265,zqI m),(266,zqI i)] (AHeap.rows 60 (zq49_17 its sz b q r)) (.exit 12) [] (AHeap.rows 61 (zq49_17 its sz b q r)) :=
  ppath_runs env_ok mixed (hs:= [.val 54000 (.bool false)]) (keep:= []) (by kernel_rfl) (All.cons (okF hc_0) (All.nil))
theorem fill_q_end(N m c ver off i j:Nat)(o:Option AAddr)(b:ABlk)(its sz:List AVal)(k n d mn mx:Int)(q r:List AVal)(rest weight o1 o2:Int)(hc_0: ¬ ((i:Int)<(m:Int))) :
    Runs Try.prog 2 279 (loopAt Try.prog 42 5) [(0,.slice (some ⟨0,0,0,0,5⟩) N N),(1,.slice (some ⟨1,0,0,0,1⟩) N N),(6,zqI rest),(7,zqI weight),(9,.slice o m c),(26,.slice (some ⟨20,0,0,0,1⟩) m m),(27,.slice (some ⟨23,0,0,0,1⟩) m m),(222,.slice o m c),(223,zqI m),(224,zqI i)] (AHeap.rows 60 (zq49_17 its sz b q r)) (.exit 10) [(1,.slice (some ⟨1,0,0,0,1⟩) N N),(6,zqI rest),(9,.slice o m c),(26,.slice (some ⟨20,0,0,0,1⟩) m m),(27,.slice (some ⟨23,0,0,0,1⟩) m m)] (AHeap.rows 61 (zq49_17 its sz b q r)) :=
  ppath_runs env_ok mixed (hs:= [.val 46000 (.bool false)]) (keep:= [1,6,9,26,27]) (by kernel_rfl) (All.cons (okF hc_0) (All.nil))
theorem fill_st_end(N m c i:Nat)(o:Option AAddr)(b r0:ABlk)(its sz:List AVal)(rest weight above below left heavy:Int)(sv:AVal)(hc_0: ¬ ((i:Int)<(m:Int))) :
    Runs Try.prog 2 279 (loopAt Try.prog 42 4) (zq49_13 N rest weight above below sv left heavy o m c i) (AHeap.rows 101 (zq49_20 its sz b r0)) (.exit 8) [(0,.slice (some ⟨0,0,0,0,5⟩) N N),(1,.slice (some ⟨1,0,0,0,1⟩) N N),(20,sv),(21,zqI left),(22,zqI heavy)] (AHeap.rows 102 (zq49_20 its sz b r0)) :=
  ppath_runs env_ok mixed (hs:= [.val 32000 (.bool false)]) (keep:= [0,1,20,21,22]) (by kernel_rfl) (All.cons (okF hc_0) (All.nil))
theorem fill_sf_end(N i:Nat)(r0:ABlk)(its sz:List AVal)(rest weight most:Int)(ov:AVal)(bounded:Bool)(hc_0: ¬ ((i:Int)<(N:Int))) :
    Runs Try.prog 2 279 (loopAt Try.prog 42 0) [(0,.slice (some ⟨0,0,0,0,5⟩) N N),(1,.slice (some ⟨1,0,0,0,1⟩) N N),(6,zqI rest),(7,zqI weight),(8,zqI most),(9,ov),(10,.bool bounded),(33,.slice (some ⟨0,0,0,0,5⟩) N N),(34,zqI N),(35,zqI i)] (AHeap.rows 61 [(0,.made its 5 true),(1,.made sz 1 true),(60,r0)]) (.exit 0) [(0,.slice (some ⟨0,0,0,0,5⟩) N N),(1,.slice (some ⟨1,0,0,0,1⟩) N N),(6,zqI rest),(7,zqI weight),(8,zqI most),(9,ov),(10,AVal.bool bounded)] (AHeap.rows 62 [(0,.made its 5 true),(1,.made sz 1 true),(60,r0)]) :=
  ppath_runs env_ok mixed (hs:= [.val 4000 (.bool false)]) (keep:= [0,1,6,7,8,9,10]) (by kernel_rfl) (All.cons (okF hc_0) (All.nil))
noncomputable abbrev zq49_8(N:Nat)(rest:Int)(weight:Int)(o:Option AAddr)(m:Nat)(c:Nat)(its:List AVal)(sz:List AVal)(b:ABlk)(above:Int)(below:Int):Prop:=Runs Try.prog 2 279 (.loop (loopAt Try.prog 42 3)) [(0,.slice (some ⟨0,0,0,0,5⟩) N N),(1,.slice (some ⟨1,0,0,0,1⟩) N N),(6,zqI rest),(7,zqI weight),(9,.slice o m c),(15,zqI 0),(16,zqI 0),(92,.slice o m c),(93,zqI (m:Int)),(94,zqI 0)] (AHeap.rows 28 (zq49_3 its sz b)) (.exit 6) [(0,.slice (some ⟨0,0,0,0,5⟩) N N),(1,.slice (some ⟨1,0,0,0,1⟩) N N),(6,zqI rest),(7,zqI weight),(9,.slice o m c),(15,zqI above),(16,zqI below)] (AHeap.rows 61 (zq49_3 its sz b))
noncomputable abbrev zq49_11(N:Nat)(rest:Int)(weight:Int)(o:Option AAddr)(m:Nat)(c:Nat):Facts:= [(0,.slice (some ⟨0,0,0,0,5⟩) N N),(1,.slice (some ⟨1,0,0,0,1⟩) N N),(6,zqI rest),(7,zqI weight),(9,.slice o m c)]
noncomputable abbrev zq49_22(N:Nat)(o2:Option AAddr)(m2:Nat)(c2:Nat)(left:Int)(heavy:Int):Facts:= [(0,.slice (some ⟨0,0,0,0,5⟩) N N),(1,.slice (some ⟨1,0,0,0,1⟩) N N),(20,.slice o2 m2 c2),(21,zqI left),(22,zqI heavy)]
noncomputable abbrev zq49_25(its:List AVal)(sz2:List AVal)(b:ABlk)(b2:ABlk):List (Nat×ABlk):= [(0,.made its 5 true),(1,.made sz2 1 true),(9,b),(100,b2)]
section
variable(N m c m2 c2:Nat)(o o2:Option AAddr)(b b2:ABlk)(its sz sz2:List AVal)(rest weight above below left heavy:Int)(hc_0:(m:Int)>0)(hc_1:(zq49_8 N rest weight o m c its sz b above below))
include N m c m2 c2 o o2 b b2 its sz sz2 rest weight above below left heavy hc_0 hc_1
theorem fill_round_a(hc_2: ¬ (above=0))(hc_3:Runs Try.prog 2 279 (.loop (loopAt Try.prog 42 4)) [(0,.slice (some ⟨0,0,0,0,5⟩) N N),(1,.slice (some ⟨1,0,0,0,1⟩) N N),(6,zqI rest),(7,zqI weight),(15,zqI above),(16,zqI below),(20,.slice none 0 0),(21,zqI rest),(22,zqI weight),(138,.slice o m c),(139,zqI (m:Int)),(140,zqI 0)] (AHeap.rows 75 (zq49_3 its sz b)) (.exit 8) (zq49_22 N o2 m2 c2 left heavy) (AHeap.rows 102 (zq49_25 its sz2 b b2))) :
    Runs Try.prog 2 279 (loopAt Try.prog 42 2) (zq49_11 N rest weight o m c) (AHeap.rows 20 (zq49_3 its sz b)) .normal [(0,.slice (some ⟨0,0,0,0,5⟩) N N),(1,.slice (some ⟨1,0,0,0,1⟩) N N),(6,zqI left),(7,zqI heavy),(9,.slice o2 m2 c2)] (AHeap.rows 108 (zq49_25 its sz2 b b2)) :=
  ppath_runs env_ok mixed (hs:= [.val 19002 (.bool true),.keep [0,1,6,7,9,15,16,92,93,94],.loop (zq49_21 N rest weight o m c above below) (AHeap.rows 61 (zq49_3 its sz b)) (.exit 6),.val 28001 (.bool false),.keep [0,1,6,7,15,16,20,21,22,138,139,140],.loop (zq49_22 N o2 m2 c2 left heavy) (AHeap.rows 102 (zq49_25 its sz2 b b2)) (.exit 8)]) (keep:= [0,1,6,7,9]) (by kernel_rfl) (All.cons (okT hc_0) (All.cons hc_1 (All.cons (eqF hc_2) (All.cons hc_3 (All.nil)))))
theorem fill_round_b(hc_2:above=0)(hc_3: ¬ (below=0))(hc_4:Runs Try.prog 2 279 (.loop (loopAt Try.prog 42 4)) [(0,.slice (some ⟨0,0,0,0,5⟩) N N),(1,.slice (some ⟨1,0,0,0,1⟩) N N),(6,zqI rest),(7,zqI weight),(15,zqI above),(16,zqI below),(20,.slice none 0 0),(21,zqI rest),(22,zqI weight),(138,.slice o m c),(139,zqI (m:Int)),(140,zqI 0)] (AHeap.rows 75 (zq49_3 its sz b)) (.exit 8) (zq49_22 N o2 m2 c2 left heavy) (AHeap.rows 102 (zq49_25 its sz2 b b2))) :
    Runs Try.prog 2 279 (loopAt Try.prog 42 2) (zq49_11 N rest weight o m c) (AHeap.rows 20 (zq49_3 its sz b)) .normal [(0,.slice (some ⟨0,0,0,0,5⟩) N N),(1,.slice (some ⟨1,0,0,0,1⟩) N N),(6,zqI left),(7,zqI heavy),(9,.slice o2 m2 c2)] (AHeap.rows 108 (zq49_25 its sz2 b b2)) :=
  ppath_runs env_ok mixed (hs:= [.val 19002 (.bool true),.keep [0,1,6,7,9,15,16,92,93,94],.loop (zq49_21 N rest weight o m c above below) (AHeap.rows 61 (zq49_3 its sz b)) (.exit 6),.val 28001 (.bool true),.val 28004 (.bool false),.keep [0,1,6,7,15,16,20,21,22,138,139,140],.loop (zq49_22 N o2 m2 c2 left heavy) (AHeap.rows 102 (zq49_25 its sz2 b b2)) (.exit 8)]) (keep:= [0,1,6,7,9]) (by kernel_rfl) (All.cons (okT hc_0) (All.cons hc_1 (All.cons (eqT hc_2) (All.cons (eqF hc_3) (All.cons hc_4 (All.nil))))))
end
section
variable(N m c:Nat)(o:Option AAddr)(b:ABlk)(its sz:List AVal)
include N m c o b its sz
theorem fill_break(rest weight above below:Int)(hc_0:(m:Int)>0)(hc_1:(zq49_8 N rest weight o m c its sz b above below))(hc_2:above=0)(hc_3:below=0) :
    Runs Try.prog 2 279 (loopAt Try.prog 42 2) (zq49_11 N rest weight o m c) (AHeap.rows 20 (zq49_3 its sz b)) (.exit 4) (zq49_11 N rest weight o m c) (AHeap.rows 67 (zq49_3 its sz b)) :=
  ppath_runs env_ok mixed (hs:= [.val 19002 (.bool true),.keep [0,1,6,7,9,15,16,92,93,94],.loop (zq49_21 N rest weight o m c above below) (AHeap.rows 61 (zq49_3 its sz b)) (.exit 6),.val 28001 (.bool true),.val 28004 (.bool true)]) (keep:= [0,1,6,7,9]) (by kernel_rfl) (All.cons (okT hc_0) (All.cons hc_1 (All.cons (eqT hc_2) (All.cons (eqT hc_3) (All.nil)))))
theorem fill_none(rest weight:Int)(hc_0: ¬ ((m:Int)>0)) :
    Runs Try.prog 2 279 (loopAt Try.prog 42 2) (zq49_11 N rest weight o m c) (AHeap.rows 20 (zq49_3 its sz b)) (.exit 4) (zq49_11 N rest weight o m c) (AHeap.rows 23 (zq49_3 its sz b)) :=
  ppath_runs env_ok mixed (hs:= [.val 19002 (.bool false)]) (keep:= [0,1,6,7,9]) (by kernel_rfl) (All.cons (okF hc_0) (All.nil))
end
noncomputable abbrev zq49_4(N:Nat)(room:Int):Facts:= [(0,.slice (some ⟨0,0,0,0,5⟩) N N),(1,.slice (some ⟨1,0,0,0,1⟩) N N),(6,zqI room),(7,zqI 0),(8,zqI 0),(9,.slice none 0 0),(10,AVal.bool true),(33,.slice (some ⟨0,0,0,0,5⟩) N N),(34,zqI (N:Int)),(35,zqI 0)]
noncomputable abbrev zq49_12(N:Nat)(room:Int)(its:List AVal)(sz:List AVal)(rest:Int)(weight:Int)(most:Int)(o:Option AAddr)(m:Nat)(c:Nat)(b:ABlk):Prop:=Runs Try.prog 2 279 (.loop (loopAt Try.prog 42 0)) (zq49_4 N room) (AHeap.rows 11 [(0,.made its 5 true),(1,.made sz 1 true)]) (.exit 0) [(0,.slice (some ⟨0,0,0,0,5⟩) N N),(1,.slice (some ⟨1,0,0,0,1⟩) N N),(6,zqI rest),(7,zqI weight),(8,zqI most),(9,.slice o m c),(10,AVal.bool true)] (AHeap.rows 12 (zq49_3 its sz b))
noncomputable abbrev zq49_24(N:Nat)(rest:Int)(weight:Int)(most:Int)(o:Option AAddr)(m:Nat)(c:Nat):Facts:= [(0,.slice (some ⟨0,0,0,0,5⟩) N N),(1,.slice (some ⟨1,0,0,0,1⟩) N N),(6,zqI rest),(7,zqI weight),(8,zqI most),(9,.slice o m c),(10,.bool true)]
theorem fill_call_max(N m c m2 c2:Nat)(o o2:Option AAddr)(b b2:ABlk)(its sz sz2 sz3 q q2 r:List AVal)(room rest weight most rest2 weight2 s:Int)(hc_0:(zq49_12 N room its sz rest weight most o m c b))(hc_1:most≤rest)(hc_2:Runs Try.prog 2 279 (.loop (loopAt Try.prog 42 1)) [(0,.slice (some ⟨0,0,0,0,5⟩) N N),(1,.slice (some ⟨1,0,0,0,1⟩) N N),(74,.slice o m c),(75,zqI (m:Int)),(76,zqI 0)] (AHeap.rows 21 (zq49_3 its sz b)) (.exit 2) [] (AHeap.rows 41 [(0,.made its 5 true),(1,.made sz2 1 true),(9,b)])) :
    FDoes Try.prog 42 [.slice (some ⟨0,0,0,0,5⟩) N N,.slice (some ⟨1,0,0,0,1⟩) N N,zqI room] (AHeap.of [.made its 5 true,.made sz 1 true]) (.tuple []) (AHeap.rows 41 [(0,.made its 5 true),(1,.made sz2 1 true),(9,b)]) :=
  pcall_does env_ok mixed (hs:= [.keep [0,1,6,7,8,9,10,33,34,35],.loop (zq49_24 N rest weight most o m c) (AHeap.rows 12 (zq49_3 its sz b)) (.exit 0),.val 13004 (.bool true),.keep [0,1,74,75,76],.loop [] (AHeap.rows 41 [(0,.made its 5 true),(1,.made sz2 1 true),(9,b)]) (.exit 2)]) (rs:= []) (by kernel_rfl) (All.cons hc_0 (All.cons (okT hc_1) (All.cons hc_2 (All.nil))))
noncomputable abbrev zq49_1(N:Nat)(rest2:Int)(weight2:Int)(o2:Option AAddr)(m2:Nat)(c2:Nat)(its:List AVal)(sz2:List AVal)(b2:ABlk)(q:List AVal)(r:List AVal):Prop:=Runs Try.prog 2 279 (.loop (loopAt Try.prog 42 5)) [(0,.slice (some ⟨0,0,0,0,5⟩) N N),(1,.slice (some ⟨1,0,0,0,1⟩) N N),(6,zqI rest2),(7,zqI weight2),(9,.slice o2 m2 c2),(26,.slice (some ⟨20,0,0,0,1⟩) m2 m2),(27,.slice (some ⟨23,0,0,0,1⟩) m2 m2),(222,.slice o2 m2 c2),(223,zqI (m2:Int)),(224,zqI 0)] (AHeap.rows 29 [(0,.made its 5 true),(1,.made sz2 1 true),(9,b2),(20,.made (List.replicate m2 (zqI 0)) 1 true),(23,.made (List.replicate m2 (zqI 0)) 1 true)]) (.exit 10) [(1,.slice (some ⟨1,0,0,0,1⟩) N N),(6,zqI rest2),(9,.slice o2 m2 c2),(26,.slice (some ⟨20,0,0,0,1⟩) m2 m2),(27,.slice (some ⟨23,0,0,0,1⟩) m2 m2)] (AHeap.rows 61 [(0,.made its 5 true),(1,.made sz2 1 true),(9,b2),(20,.made q 1 true),(23,.made r 1 true)])
noncomputable abbrev zq49_5(N:Nat)(rest:Int)(weight:Int)(o:Option AAddr)(m:Nat)(c:Nat)(its:List AVal)(sz:List AVal)(b:ABlk)(rest2:Int)(weight2:Int)(o2:Option AAddr)(m2:Nat)(c2:Nat)(sz2:List AVal)(b2:ABlk):Prop:=Runs Try.prog 2 279 (.loop (loopAt Try.prog 42 2)) [(0,.slice (some ⟨0,0,0,0,5⟩) N N),(1,.slice (some ⟨1,0,0,0,1⟩) N N),(6,zqI rest),(7,zqI weight),(9,.slice o m c)] (AHeap.rows 18 (zq49_3 its sz b)) (.exit 4) [(0,.slice (some ⟨0,0,0,0,5⟩) N N),(1,.slice (some ⟨1,0,0,0,1⟩) N N),(6,zqI rest2),(7,zqI weight2),(9,.slice o2 m2 c2)] (AHeap.rows 18 [(0,.made its 5 true),(1,.made sz2 1 true),(9,b2)])
noncomputable abbrev zq49_6(m2:Nat):Prop:=0≤(m2:Int)∧(m2:Int)≤(m2:Int)∧(m2:Int)<4611686018427387904∧(8:Int)* (m2:Int)≤281474976710656
noncomputable abbrev zq49_7(its:List AVal)(sz2:List AVal)(b2:ABlk)(q:List AVal)(r:List AVal):List (Nat×ABlk):= [(0,.made its 5 true),(1,.made sz2 1 true),(9,b2),(20,.made q 1 true),(23,.made r 1 true)]
noncomputable abbrev zq49_14(N:Nat)(rest2:Int)(o2:Option AAddr)(m2:Nat)(c2:Nat):Facts:= [(1,.slice (some ⟨1,0,0,0,1⟩) N N),(6,zqI rest2),(9,.slice o2 m2 c2),(26,.slice (some ⟨20,0,0,0,1⟩) m2 m2),(27,.slice (some ⟨23,0,0,0,1⟩) m2 m2)]
noncomputable abbrev zq49_16(N:Nat)(m2:Nat)(o2:Option AAddr)(c2:Nat):Facts:= [(1,.slice (some ⟨1,0,0,0,1⟩) N N),(26,.slice (some ⟨20,0,0,0,1⟩) m2 m2),(264,.slice o2 m2 c2),(265,zqI (m2:Int)),(266,zqI 0)]
noncomputable abbrev zq49_19(its:List AVal)(sz3:List AVal)(b2:ABlk)(q2:List AVal)(r:List AVal):List (Nat×ABlk):= [(0,.made its 5 true),(1,.made sz3 1 true),(9,b2),(20,.made q2 1 true),(23,.made r 1 true)]
noncomputable abbrev zq49_23(N:Nat)(rest2:Int)(weight2:Int)(o2:Option AAddr)(m2:Nat)(c2:Nat):Facts:= [(0,.slice (some ⟨0,0,0,0,5⟩) N N),(1,.slice (some ⟨1,0,0,0,1⟩) N N),(6,zqI rest2),(7,zqI weight2),(9,.slice o2 m2 c2)]
theorem fill_call_T(N m c m2 c2:Nat)(o o2:Option AAddr)(b b2:ABlk)(its sz sz2 sz3 q q2 r:List AVal)(room rest weight most rest2 weight2 s:Int)(hc_0:(zq49_12 N room its sz rest weight most o m c b))(hc_1: ¬ (most≤rest))(hc_2:(zq49_5 N rest weight o m c its sz b rest2 weight2 o2 m2 c2 sz2 b2))(hc_3:(zq49_6 m2))(hc_4:(zq49_6 m2))(hc_5:(zq49_1 N rest2 weight2 o2 m2 c2 its sz2 b2 q r))(hc_6:(m2:Int)>0)(hc_7:FDoes Try.prog 40 [.slice (some ⟨20,0,0,0,1⟩) m2 m2] (AHeap.rows 71 (zq49_7 its sz2 b2 q r)) (zqI s) (AHeap.rows 71 (zq49_7 its sz2 b2 q r)))(hc_8:zqF (rest2-s))(hc_9:FDoes Try.prog 56 [.slice (some ⟨20,0,0,0,1⟩) m2 m2,.slice (some ⟨23,0,0,0,1⟩) m2 m2,zqI (rest2-s)] (AHeap.rows 71 (zq49_7 its sz2 b2 q r)) (.tuple []) (AHeap.rows 71 [(0,.made its 5 true),(1,.made sz2 1 true),(9,b2),(20,.made q2 1 true),(23,.made r 1 true)]))(hc_10:Runs Try.prog 2 279 (.loop (loopAt Try.prog 42 6)) (zq49_16 N m2 o2 c2) (AHeap.rows 74 [(0,.made its 5 true),(1,.made sz2 1 true),(9,b2),(20,.made q2 1 true),(23,.made r 1 true)]) (.exit 12) [] (AHeap.rows 61 (zq49_19 its sz3 b2 q2 r))) :
    FDoes Try.prog 42 [.slice (some ⟨0,0,0,0,5⟩) N N,.slice (some ⟨1,0,0,0,1⟩) N N,zqI room] (AHeap.of [.made its 5 true,.made sz 1 true]) (.tuple []) (AHeap.rows 61 (zq49_19 its sz3 b2 q2 r)) :=
  pcall_does env_ok mixed (hs:= [.keep [0,1,6,7,8,9,10,33,34,35],.loop (zq49_24 N rest weight most o m c) (AHeap.rows 12 (zq49_3 its sz b)) (.exit 0),.val 13004 (.bool false),.keep [0,1,6,7,9],.loop (zq49_23 N rest2 weight2 o2 m2 c2) (AHeap.rows 18 [(0,.made its 5 true),(1,.made sz2 1 true),(9,b2)]) (.exit 4),.go 44002,.go 44005,.keep [0,1,6,7,9,26,27,222,223,224],.loop (zq49_14 N rest2 o2 m2 c2) (AHeap.rows 61 (zq49_7 its sz2 b2 q r)) (.exit 10),.val 51002 (.bool true),.val 52004 (zqI s),.go 52005,.act 52006 (.tuple []) (fun h=>h.upd [20,23] [.made q2 1 true,.made r 1 true]),.keep [1,26,264,265,266],.loop [] (AHeap.rows 61 (zq49_19 its sz3 b2 q2 r)) (.exit 12)]) (rs:= []) (by kernel_rfl) (All.cons hc_0 (All.cons (okF hc_1) (All.cons hc_2 (All.cons hc_3 (All.cons hc_4 (All.cons hc_5 (All.cons (okT hc_6) (All.cons (CallT.mk hc_7) (All.cons hc_8 (All.cons (CallT.mk hc_9) (All.cons hc_10 (All.nil))))))))))))
noncomputable abbrev zq49_18(its:List AVal)(sz3:List AVal)(b2:ABlk)(q:List AVal)(r:List AVal):List (Nat×ABlk):= [(0,.made its 5 true),(1,.made sz3 1 true),(9,b2),(20,.made q 1 true),(23,.made r 1 true)]
section
variable(N m c m2 c2:Nat)(o o2:Option AAddr)(b b2:ABlk)(its sz sz2 sz3 q q2 r:List AVal)(room rest weight most rest2 weight2 s:Int)
include N m c m2 c2 o o2 b b2 its sz sz2 sz3 q q2 r room rest weight most rest2 weight2 s
theorem fill_call_T0(hc_0:(zq49_12 N room its sz rest weight most o m c b))(hc_1: ¬ (most≤rest))(hc_2:(zq49_5 N rest weight o m c its sz b rest2 weight2 o2 m2 c2 sz2 b2))(hc_3:(zq49_6 m2))(hc_4:(zq49_6 m2))(hc_5:(zq49_1 N rest2 weight2 o2 m2 c2 its sz2 b2 q r))(hc_6: ¬ ((m2:Int)>0))(hc_7:Runs Try.prog 2 279 (.loop (loopAt Try.prog 42 6)) (zq49_16 N m2 o2 c2) (AHeap.rows 67 (zq49_7 its sz2 b2 q r)) (.exit 12) [] (AHeap.rows 61 (zq49_18 its sz3 b2 q r))) :
    FDoes Try.prog 42 [.slice (some ⟨0,0,0,0,5⟩) N N,.slice (some ⟨1,0,0,0,1⟩) N N,zqI room] (AHeap.of [.made its 5 true,.made sz 1 true]) (.tuple []) (AHeap.rows 61 (zq49_18 its sz3 b2 q r)) :=
  pcall_does env_ok mixed (hs:= [.keep [0,1,6,7,8,9,10,33,34,35],.loop (zq49_24 N rest weight most o m c) (AHeap.rows 12 (zq49_3 its sz b)) (.exit 0),.val 13004 (.bool false),.keep [0,1,6,7,9],.loop (zq49_23 N rest2 weight2 o2 m2 c2) (AHeap.rows 18 [(0,.made its 5 true),(1,.made sz2 1 true),(9,b2)]) (.exit 4),.go 44002,.go 44005,.keep [0,1,6,7,9,26,27,222,223,224],.loop (zq49_14 N rest2 o2 m2 c2) (AHeap.rows 61 (zq49_7 its sz2 b2 q r)) (.exit 10),.val 51002 (.bool false),.keep [1,26,264,265,266],.loop [] (AHeap.rows 61 (zq49_18 its sz3 b2 q r)) (.exit 12)]) (rs:= []) (by kernel_rfl) (All.cons hc_0 (All.cons (okF hc_1) (All.cons hc_2 (All.cons hc_3 (All.cons hc_4 (All.cons hc_5 (All.cons (okF hc_6) (All.cons hc_7 (All.nil)))))))))
section
variable(hc_0:Runs Try.prog 2 279 (.loop (loopAt Try.prog 42 0)) (zq49_4 N room) (AHeap.rows 11 [(0,.made its 5 true),(1,.made sz 1 true)]) (.exit 0) [(0,.slice (some ⟨0,0,0,0,5⟩) N N),(1,.slice (some ⟨1,0,0,0,1⟩) N N),(6,zqI rest),(7,zqI weight),(8,zqI most),(9,.slice o m c),(10,AVal.bool false)] (AHeap.rows 12 (zq49_3 its sz b)))(hc_1:(zq49_5 N rest weight o m c its sz b rest2 weight2 o2 m2 c2 sz2 b2))(hc_2:(zq49_6 m2))(hc_3:(zq49_6 m2))(hc_4:(zq49_1 N rest2 weight2 o2 m2 c2 its sz2 b2 q r))
include hc_0 hc_1 hc_2 hc_3 hc_4
theorem fill_call_N(hc_5:(m2:Int)>0)(hc_6:FDoes Try.prog 40 [.slice (some ⟨20,0,0,0,1⟩) m2 m2] (AHeap.rows 71 (zq49_7 its sz2 b2 q r)) (zqI s) (AHeap.rows 71 (zq49_7 its sz2 b2 q r)))(hc_7:zqF (rest2-s))(hc_8:FDoes Try.prog 56 [.slice (some ⟨20,0,0,0,1⟩) m2 m2,.slice (some ⟨23,0,0,0,1⟩) m2 m2,zqI (rest2-s)] (AHeap.rows 71 (zq49_7 its sz2 b2 q r)) (.tuple []) (AHeap.rows 71 [(0,.made its 5 true),(1,.made sz2 1 true),(9,b2),(20,.made q2 1 true),(23,.made r 1 true)]))(hc_9:Runs Try.prog 2 279 (.loop (loopAt Try.prog 42 6)) (zq49_16 N m2 o2 c2) (AHeap.rows 74 [(0,.made its 5 true),(1,.made sz2 1 true),(9,b2),(20,.made q2 1 true),(23,.made r 1 true)]) (.exit 12) [] (AHeap.rows 61 (zq49_19 its sz3 b2 q2 r))) :
    FDoes Try.prog 42 [.slice (some ⟨0,0,0,0,5⟩) N N,.slice (some ⟨1,0,0,0,1⟩) N N,zqI room] (AHeap.of [.made its 5 true,.made sz 1 true]) (.tuple []) (AHeap.rows 61 (zq49_19 its sz3 b2 q2 r)) :=
  pcall_does env_ok mixed (hs:= [.keep [0,1,6,7,8,9,10,33,34,35],.loop [(0,.slice (some ⟨0,0,0,0,5⟩) N N),(1,.slice (some ⟨1,0,0,0,1⟩) N N),(6,zqI rest),(7,zqI weight),(8,zqI most),(9,.slice o m c),(10,.bool false)] (AHeap.rows 12 (zq49_3 its sz b)) (.exit 0),.keep [0,1,6,7,9],.loop (zq49_23 N rest2 weight2 o2 m2 c2) (AHeap.rows 18 [(0,.made its 5 true),(1,.made sz2 1 true),(9,b2)]) (.exit 4),.go 44002,.go 44005,.keep [0,1,6,7,9,26,27,222,223,224],.loop (zq49_14 N rest2 o2 m2 c2) (AHeap.rows 61 (zq49_7 its sz2 b2 q r)) (.exit 10),.val 51002 (.bool true),.val 52004 (zqI s),.go 52005,.act 52006 (.tuple []) (fun h=>h.upd [20,23] [.made q2 1 true,.made r 1 true]),.keep [1,26,264,265,266],.loop [] (AHeap.rows 61 (zq49_19 its sz3 b2 q2 r)) (.exit 12)]) (rs:= []) (by kernel_rfl) (All.cons hc_0 (All.cons hc_1 (All.cons hc_2 (All.cons hc_3 (All.cons hc_4 (All.cons (okT hc_5) (All.cons (CallT.mk hc_6) (All.cons hc_7 (All.cons (CallT.mk hc_8) (All.cons hc_9 (All.nil)))))))))))
theorem fill_call_N0(hc_5: ¬ ((m2:Int)>0))(hc_6:Runs Try.prog 2 279 (.loop (loopAt Try.prog 42 6)) (zq49_16 N m2 o2 c2) (AHeap.rows 67 (zq49_7 its sz2 b2 q r)) (.exit 12) [] (AHeap.rows 61 (zq49_18 its sz3 b2 q r))) :
    FDoes Try.prog 42 [.slice (some ⟨0,0,0,0,5⟩) N N,.slice (some ⟨1,0,0,0,1⟩) N N,zqI room] (AHeap.of [.made its 5 true,.made sz 1 true]) (.tuple []) (AHeap.rows 61 (zq49_18 its sz3 b2 q r)) :=
  pcall_does env_ok mixed (hs:= [.keep [0,1,6,7,8,9,10,33,34,35],.loop [(0,.slice (some ⟨0,0,0,0,5⟩) N N),(1,.slice (some ⟨1,0,0,0,1⟩) N N),(6,zqI rest),(7,zqI weight),(8,zqI most),(9,.slice o m c),(10,.bool false)] (AHeap.rows 12 (zq49_3 its sz b)) (.exit 0),.keep [0,1,6,7,9],.loop (zq49_23 N rest2 weight2 o2 m2 c2) (AHeap.rows 18 [(0,.made its 5 true),(1,.made sz2 1 true),(9,b2)]) (.exit 4),.go 44002,.go 44005,.keep [0,1,6,7,9,26,27,222,223,224],.loop (zq49_14 N rest2 o2 m2 c2) (AHeap.rows 61 (zq49_7 its sz2 b2 q r)) (.exit 10),.val 51002 (.bool false),.keep [1,26,264,265,266],.loop [] (AHeap.rows 61 (zq49_18 its sz3 b2 q r)) (.exit 12)]) (rs:= []) (by kernel_rfl) (All.cons hc_0 (All.cons hc_1 (All.cons hc_2 (All.cons hc_3 (All.cons hc_4 (All.cons (okF hc_5) (All.cons hc_6 (All.nil))))))))
end
end
end Go.Proofs.Ytgfkllnaeekjeaa
namespace Go.Proofs.Ytgfkllnaeekjeaa
open Go.Lift
set_option maxRecDepth 1000000
noncomputable abbrev zq50_1(N:Nat)(j:Nat):Prop:=aindexAddr env.D 26 (.slice (some ⟨0,0,0,0,5⟩) N N) (zqI (j:Int))=some (.ptr (some ⟨0,0,j,0,5⟩))
noncomputable abbrev zq50_5(its:List AVal)(sz:List AVal)(b:ABlk)(j:Nat)(r:ABlk):Prop:=abuiltin env Builtin.append {toList:= [27,27]} [.slice none 0 0,.slice (some ⟨99,0,0,0,1⟩) 1 1] 100 (AHeap.set (AHeap.rows 102 [(0,.made its 5 true),(1,.made sz 1 true),(9,b)]) 99 (.made [zqI (j:Int)] 1 true))=some (.slice (some ⟨100,0,0,0,1⟩) 1 1,(AHeap.rows 102 [(0,.made its 5 true),(1,.made sz 1 true),(9,b),(99,.made [zqI (j:Int)] 1 true),(100,r)]))
noncomputable abbrev zq50_7(its:List AVal)(j:Nat)(k:Int)(n:Int)(d:Int)(mn:Int)(mx:Int):Prop:=ABlk.elem? (.made its 5 true) 0 j=some (zqA k n d mn mx)
noncomputable abbrev zq50_8(N:Nat)(rest:Int)(weight:Int)(above:Int)(below:Int)(left:Int)(heavy:Int)(o:Option AAddr)(m:Nat)(c:Nat)(i:Nat):Facts:= [(0,.slice (some ⟨0,0,0,0,5⟩) N N),(1,.slice (some ⟨1,0,0,0,1⟩) N N),(6,zqI rest),(7,zqI weight),(15,zqI above),(16,zqI below),(20,.slice (some ⟨100,0,0,0,1⟩) 1 1),(21,zqI left),(22,zqI heavy),(138,.slice o m c),(139,zqI (m:Int)),(140,zqI ((i:Int)+1))]
noncomputable abbrev zq50_9(o:Option AAddr)(m:Nat)(c:Nat)(i:Nat)(ver:Nat)(off:Nat):Prop:=aindexAddr env.D 27 (.slice o m c) (zqI (i:Int))=some (.ptr (some ⟨9,ver,off+i,0,1⟩))
noncomputable abbrev zq50_10(N:Nat)(rest:Int)(weight:Int)(above:Int)(below:Int)(left:Int)(heavy:Int)(o:Option AAddr)(m:Nat)(c:Nat)(i:Nat):Facts:= [(0,.slice (some ⟨0,0,0,0,5⟩) N N),(1,.slice (some ⟨1,0,0,0,1⟩) N N),(6,zqI rest),(7,zqI weight),(15,zqI above),(16,zqI below),(20,.slice none 0 0),(21,zqI left),(22,zqI heavy),(138,.slice o m c),(139,zqI m),(140,zqI i)]
noncomputable abbrev zq50_11(its:List AVal)(sz:List AVal)(b:ABlk):List (Nat×ABlk):= [(0,.made its 5 true),(1,.made sz 1 true),(9,b)]
theorem fill_st_a_new(N m c ver off i j v q:Nat)(o:Option AAddr)(b r0 r:ABlk)(its sz:List AVal)(k n d mn mx:Int)(rest weight above below left heavy:Int)(hc_0:(i:Int)<(m:Int))(hc_1:(zq50_9 o m c i ver off))(hc_2:ABlk.elem? b ver (off+i)=some (zqI (j:Int)))(hc_3:(zq50_1 N j))(hc_4:(zq50_7 its j k n d mn mx))(hc_5:zqF (rest*n))(hc_6:above≥below)(hc_7:(zq50_1 N j))(hc_8:(zq50_7 its j k n d mn mx))(hc_9:FDoes Try.prog 57 [zqA k n d mn mx] (AHeap.rows 83 (zq50_11 its sz b)) (zqI (boundZ mx)) (AHeap.rows 83 (zq50_11 its sz b)))(hc_10:zqF (weight*boundZ mx))(hc_11: ¬ (rest*n≥weight*boundZ mx))(hc_12:below≥above)(hc_13:(zq50_1 N j))(hc_14:(zq50_7 its j k n d mn mx))(hc_15:zqF (weight*mn))(hc_16: ¬ (rest*n≤weight*mn))(hc_17:(zq50_5 its sz b j r))(hc_18:zqF ((i:Int)+1)) :
    Runs Try.prog 2 279 (loopAt Try.prog 42 4) (zq50_10 N rest weight above below left heavy o m c i) (AHeap.rows 57 (zq50_11 its sz b)) .normal (zq50_8 N rest weight above below left heavy o m c i) (AHeap.rows 104 [(0,.made its 5 true),(1,.made sz 1 true),(9,b),(99,.made [zqI (j:Int)] 1 true),(100,r)]) :=
  ppath_runs env_ok mixed (hs:= [.val 32000 (.bool true),.val 33000 (.ptr (some ⟨9,ver,off+i,0,1⟩)),.ld 33001 (zqI j),.val 34003 (.ptr (some ⟨0,0,j,0,5⟩)),.ld 34005 (zqA k n d mn mx),.go 34006,.val 35002 (.bool true),.val 35008 (.ptr (some ⟨0,0,j,0,5⟩)),.ld 35009 (zqA k n d mn mx),.val 35010 (zqI (boundZ mx)),.go 35011,.val 35012 (.bool false),.val 37002 (.bool true),.val 37008 (.ptr (some ⟨0,0,j,0,5⟩)),.ld 37010 (zqA k n d mn mx),.go 37011,.val 37012 (.bool false),.act 39003 (.slice (some ⟨100,0,0,0,1⟩) 1 1) (fun h=>h.set 100 r),.go 42000]) (keep:= [0,1,6,7,15,16,20,21,22,138,139,140]) (by kernel_rfl) (All.cons (okT hc_0) (All.cons hc_1 (All.cons hc_2 (All.cons hc_3 (All.cons hc_4 (All.cons hc_5 (All.cons (okT hc_6) (All.cons hc_7 (All.cons hc_8 (All.cons (CallT.mk hc_9) (All.cons hc_10 (All.cons (okF hc_11) (All.cons (okT hc_12) (All.cons hc_13 (All.cons hc_14 (All.cons hc_15 (All.cons (okF hc_16) (All.cons hc_17 (All.cons hc_18 (All.nil))))))))))))))))))))
noncomputable abbrev zq50_4(v:Nat)(q:Nat)(its:List AVal)(sz:List AVal)(b:ABlk)(r0:ABlk)(j:Nat)(r:ABlk):Prop:=abuiltin env Builtin.append {toList:= [27,27]} [.slice (some ⟨100,v,0,0,1⟩) q q,.slice (some ⟨143,0,0,0,1⟩) 1 1] 144 (AHeap.set (AHeap.rows 146 [(0,.made its 5 true),(1,.made sz 1 true),(9,b),(100,r0)]) 143 (.made [zqI (j:Int)] 1 true))=some (.slice (some ⟨100,v+1,0,0,1⟩) (q+1) (q+1),(AHeap.rows 146 [(0,.made its 5 true),(1,.made sz 1 true),(9,b),(100,r),(143,.made [zqI (j:Int)] 1 true)]))
section
variable(N m c ver off i j v q:Nat)(o:Option AAddr)(b r0 r:ABlk)(its sz:List AVal)(k n d mn mx:Int)(rest weight above below left heavy:Int)(hc_0:(i:Int)<(m:Int))(hc_1:(zq50_9 o m c i ver off))(hc_2:ABlk.elem? b ver (off+i)=some (zqI (j:Int)))(hc_3:(zq50_1 N j))(hc_4:(zq50_7 its j k n d mn mx))(hc_5:zqF (rest*n))
include N m c ver off i j v q o b r0 r its sz k n d mn mx rest weight above below left heavy hc_0 hc_1 hc_2 hc_3 hc_4 hc_5
section
variable(hc_6:above≥below)(hc_7:(zq50_1 N j))(hc_8:(zq50_7 its j k n d mn mx))
include hc_6 hc_7 hc_8
theorem fill_st_a_grow(hc_9:FDoes Try.prog 57 [zqA k n d mn mx] (AHeap.rows 127 [(0,.made its 5 true),(1,.made sz 1 true),(9,b),(100,r0)]) (zqI (boundZ mx)) (AHeap.rows 127 [(0,.made its 5 true),(1,.made sz 1 true),(9,b),(100,r0)]))(hc_10:zqF (weight*boundZ mx))(hc_11: ¬ (rest*n≥weight*boundZ mx))(hc_12:below≥above)(hc_13:(zq50_1 N j))(hc_14:(zq50_7 its j k n d mn mx))(hc_15:zqF (weight*mn))(hc_16: ¬ (rest*n≤weight*mn))(hc_17:(zq50_4 v q its sz b r0 j r))(hc_18:zqF ((i:Int)+1)) :
    Runs Try.prog 2 279 (loopAt Try.prog 42 4) [(0,.slice (some ⟨0,0,0,0,5⟩) N N),(1,.slice (some ⟨1,0,0,0,1⟩) N N),(6,zqI rest),(7,zqI weight),(15,zqI above),(16,zqI below),(20,.slice (some ⟨100,v,0,0,1⟩) q q),(21,zqI left),(22,zqI heavy),(138,.slice o m c),(139,zqI m),(140,zqI i)] (AHeap.rows 101 [(0,.made its 5 true),(1,.made sz 1 true),(9,b),(100,r0)]) .normal [(0,.slice (some ⟨0,0,0,0,5⟩) N N),(1,.slice (some ⟨1,0,0,0,1⟩) N N),(6,zqI rest),(7,zqI weight),(15,zqI above),(16,zqI below),(20,.slice (some ⟨100,v+1,0,0,1⟩) (q+1) (q+1)),(21,zqI left),(22,zqI heavy),(138,.slice o m c),(139,zqI (m:Int)),(140,zqI ((i:Int)+1))] (AHeap.rows 148 [(0,.made its 5 true),(1,.made sz 1 true),(9,b),(100,r),(143,.made [zqI (j:Int)] 1 true)]) :=
  ppath_runs env_ok mixed (hs:= [.val 32000 (.bool true),.val 33000 (.ptr (some ⟨9,ver,off+i,0,1⟩)),.ld 33001 (zqI j),.val 34003 (.ptr (some ⟨0,0,j,0,5⟩)),.ld 34005 (zqA k n d mn mx),.go 34006,.val 35002 (.bool true),.val 35008 (.ptr (some ⟨0,0,j,0,5⟩)),.ld 35009 (zqA k n d mn mx),.val 35010 (zqI (boundZ mx)),.go 35011,.val 35012 (.bool false),.val 37002 (.bool true),.val 37008 (.ptr (some ⟨0,0,j,0,5⟩)),.ld 37010 (zqA k n d mn mx),.go 37011,.val 37012 (.bool false),.act 39003 (.slice (some ⟨100,v+1,0,0,1⟩) (q+1) (q+1)) (fun h=>h.set 100 r),.go 42000]) (keep:= [0,1,6,7,15,16,20,21,22,138,139,140]) (by kernel_rfl) (All.cons (okT hc_0) (All.cons hc_1 (All.cons hc_2 (All.cons hc_3 (All.cons hc_4 (All.cons hc_5 (All.cons (okT hc_6) (All.cons hc_7 (All.cons hc_8 (All.cons (CallT.mk hc_9) (All.cons hc_10 (All.cons (okF hc_11) (All.cons (okT hc_12) (All.cons hc_13 (All.cons hc_14 (All.cons hc_15 (All.cons (okF hc_16) (All.cons hc_17 (All.cons hc_18 (All.nil))))))))))))))))))))
theorem fill_st_b_new(hc_9:FDoes Try.prog 57 [zqA k n d mn mx] (AHeap.rows 83 (zq50_11 its sz b)) (zqI (boundZ mx)) (AHeap.rows 83 (zq50_11 its sz b)))(hc_10:zqF (weight*boundZ mx))(hc_11: ¬ (rest*n≥weight*boundZ mx))(hc_12: ¬ (below≥above))(hc_13:(zq50_5 its sz b j r))(hc_14:zqF ((i:Int)+1)) :
    Runs Try.prog 2 279 (loopAt Try.prog 42 4) (zq50_10 N rest weight above below left heavy o m c i) (AHeap.rows 57 (zq50_11 its sz b)) .normal (zq50_8 N rest weight above below left heavy o m c i) (AHeap.rows 104 [(0,.made its 5 true),(1,.made sz 1 true),(9,b),(99,.made [zqI (j:Int)] 1 true),(100,r)]) :=
  ppath_runs env_ok mixed (hs:= [.val 32000 (.bool true),.val 33000 (.ptr (some ⟨9,ver,off+i,0,1⟩)),.ld 33001 (zqI j),.val 34003 (.ptr (some ⟨0,0,j,0,5⟩)),.ld 34005 (zqA k n d mn mx),.go 34006,.val 35002 (.bool true),.val 35008 (.ptr (some ⟨0,0,j,0,5⟩)),.ld 35009 (zqA k n d mn mx),.val 35010 (zqI (boundZ mx)),.go 35011,.val 35012 (.bool false),.val 37002 (.bool false),.act 39003 (.slice (some ⟨100,0,0,0,1⟩) 1 1) (fun h=>h.set 100 r),.go 42000]) (keep:= [0,1,6,7,15,16,20,21,22,138,139,140]) (by kernel_rfl) (All.cons (okT hc_0) (All.cons hc_1 (All.cons hc_2 (All.cons hc_3 (All.cons hc_4 (All.cons hc_5 (All.cons (okT hc_6) (All.cons hc_7 (All.cons hc_8 (All.cons (CallT.mk hc_9) (All.cons hc_10 (All.cons (okF hc_11) (All.cons (okF hc_12) (All.cons hc_13 (All.cons hc_14 (All.nil))))))))))))))))
theorem fill_st_b_grow(hc_9:FDoes Try.prog 57 [zqA k n d mn mx] (AHeap.rows 127 [(0,.made its 5 true),(1,.made sz 1 true),(9,b),(100,r0)]) (zqI (boundZ mx)) (AHeap.rows 127 [(0,.made its 5 true),(1,.made sz 1 true),(9,b),(100,r0)]))(hc_10:zqF (weight*boundZ mx))(hc_11: ¬ (rest*n≥weight*boundZ mx))(hc_12: ¬ (below≥above))(hc_13:(zq50_4 v q its sz b r0 j r))(hc_14:zqF ((i:Int)+1)) :
    Runs Try.prog 2 279 (loopAt Try.prog 42 4) [(0,.slice (some ⟨0,0,0,0,5⟩) N N),(1,.slice (some ⟨1,0,0,0,1⟩) N N),(6,zqI rest),(7,zqI weight),(15,zqI above),(16,zqI below),(20,.slice (some ⟨100,v,0,0,1⟩) q q),(21,zqI left),(22,zqI heavy),(138,.slice o m c),(139,zqI m),(140,zqI i)] (AHeap.rows 101 [(0,.made its 5 true),(1,.made sz 1 true),(9,b),(100,r0)]) .normal [(0,.slice (some ⟨0,0,0,0,5⟩) N N),(1,.slice (some ⟨1,0,0,0,1⟩) N N),(6,zqI rest),(7,zqI weight),(15,zqI above),(16,zqI below),(20,.slice (some ⟨100,v+1,0,0,1⟩) (q+1) (q+1)),(21,zqI left),(22,zqI heavy),(138,.slice o m c),(139,zqI (m:Int)),(140,zqI ((i:Int)+1))] (AHeap.rows 148 [(0,.made its 5 true),(1,.made sz 1 true),(9,b),(100,r),(143,.made [zqI (j:Int)] 1 true)]) :=
  ppath_runs env_ok mixed (hs:= [.val 32000 (.bool true),.val 33000 (.ptr (some ⟨9,ver,off+i,0,1⟩)),.ld 33001 (zqI j),.val 34003 (.ptr (some ⟨0,0,j,0,5⟩)),.ld 34005 (zqA k n d mn mx),.go 34006,.val 35002 (.bool true),.val 35008 (.ptr (some ⟨0,0,j,0,5⟩)),.ld 35009 (zqA k n d mn mx),.val 35010 (zqI (boundZ mx)),.go 35011,.val 35012 (.bool false),.val 37002 (.bool false),.act 39003 (.slice (some ⟨100,v+1,0,0,1⟩) (q+1) (q+1)) (fun h=>h.set 100 r),.go 42000]) (keep:= [0,1,6,7,15,16,20,21,22,138,139,140]) (by kernel_rfl) (All.cons (okT hc_0) (All.cons hc_1 (All.cons hc_2 (All.cons hc_3 (All.cons hc_4 (All.cons hc_5 (All.cons (okT hc_6) (All.cons hc_7 (All.cons hc_8 (All.cons (CallT.mk hc_9) (All.cons hc_10 (All.cons (okF hc_11) (All.cons (okF hc_12) (All.cons hc_13 (All.cons hc_14 (All.nil))))))))))))))))
end
section
variable(hc_6: ¬ (above≥below))(hc_7:below≥above)(hc_8:(zq50_1 N j))(hc_9:(zq50_7 its j k n d mn mx))(hc_10:zqF (weight*mn))(hc_11: ¬ (rest*n≤weight*mn))
include hc_6 hc_7 hc_8 hc_9 hc_10 hc_11
theorem fill_st_c_new(hc_12:(zq50_5 its sz b j r))(hc_13:zqF ((i:Int)+1)) :
    Runs Try.prog 2 279 (loopAt Try.prog 42 4) (zq50_10 N rest weight above below left heavy o m c i) (AHeap.rows 57 (zq50_11 its sz b)) .normal (zq50_8 N rest weight above below left heavy o m c i) (AHeap.rows 104 [(0,.made its 5 true),(1,.made sz 1 true),(9,b),(99,.made [zqI (j:Int)] 1 true),(100,r)]) :=
  ppath_runs env_ok mixed (hs:= [.val 32000 (.bool true),.val 33000 (.ptr (some ⟨9,ver,off+i,0,1⟩)),.ld 33001 (zqI j),.val 34003 (.ptr (some ⟨0,0,j,0,5⟩)),.ld 34005 (zqA k n d mn mx),.go 34006,.val 35002 (.bool false),.val 37002 (.bool true),.val 37008 (.ptr (some ⟨0,0,j,0,5⟩)),.ld 37010 (zqA k n d mn mx),.go 37011,.val 37012 (.bool false),.act 39003 (.slice (some ⟨100,0,0,0,1⟩) 1 1) (fun h=>h.set 100 r),.go 42000]) (keep:= [0,1,6,7,15,16,20,21,22,138,139,140]) (by kernel_rfl) (All.cons (okT hc_0) (All.cons hc_1 (All.cons hc_2 (All.cons hc_3 (All.cons hc_4 (All.cons hc_5 (All.cons (okF hc_6) (All.cons (okT hc_7) (All.cons hc_8 (All.cons hc_9 (All.cons hc_10 (All.cons (okF hc_11) (All.cons hc_12 (All.cons hc_13 (All.nil)))))))))))))))
theorem fill_st_c_grow(hc_12:(zq50_4 v q its sz b r0 j r))(hc_13:zqF ((i:Int)+1)) :
    Runs Try.prog 2 279 (loopAt Try.prog 42 4) [(0,.slice (some ⟨0,0,0,0,5⟩) N N),(1,.slice (some ⟨1,0,0,0,1⟩) N N),(6,zqI rest),(7,zqI weight),(15,zqI above),(16,zqI below),(20,.slice (some ⟨100,v,0,0,1⟩) q q),(21,zqI left),(22,zqI heavy),(138,.slice o m c),(139,zqI m),(140,zqI i)] (AHeap.rows 101 [(0,.made its 5 true),(1,.made sz 1 true),(9,b),(100,r0)]) .normal [(0,.slice (some ⟨0,0,0,0,5⟩) N N),(1,.slice (some ⟨1,0,0,0,1⟩) N N),(6,zqI rest),(7,zqI weight),(15,zqI above),(16,zqI below),(20,.slice (some ⟨100,v+1,0,0,1⟩) (q+1) (q+1)),(21,zqI left),(22,zqI heavy),(138,.slice o m c),(139,zqI (m:Int)),(140,zqI ((i:Int)+1))] (AHeap.rows 148 [(0,.made its 5 true),(1,.made sz 1 true),(9,b),(100,r),(143,.made [zqI (j:Int)] 1 true)]) :=
  ppath_runs env_ok mixed (hs:= [.val 32000 (.bool true),.val 33000 (.ptr (some ⟨9,ver,off+i,0,1⟩)),.ld 33001 (zqI j),.val 34003 (.ptr (some ⟨0,0,j,0,5⟩)),.ld 34005 (zqA k n d mn mx),.go 34006,.val 35002 (.bool false),.val 37002 (.bool true),.val 37008 (.ptr (some ⟨0,0,j,0,5⟩)),.ld 37010 (zqA k n d mn mx),.go 37011,.val 37012 (.bool false),.act 39003 (.slice (some ⟨100,v+1,0,0,1⟩) (q+1) (q+1)) (fun h=>h.set 100 r),.go 42000]) (keep:= [0,1,6,7,15,16,20,21,22,138,139,140]) (by kernel_rfl) (All.cons (okT hc_0) (All.cons hc_1 (All.cons hc_2 (All.cons hc_3 (All.cons hc_4 (All.cons hc_5 (All.cons (okF hc_6) (All.cons (okT hc_7) (All.cons hc_8 (All.cons hc_9 (All.cons hc_10 (All.cons (okF hc_11) (All.cons hc_12 (All.cons hc_13 (All.nil)))))))))))))))
end
end
noncomputable abbrev zq50_3(its:List AVal)(sz:List AVal)(k:Int)(n:Int)(d:Int)(mn:Int)(mx:Int)(i:Nat)(r:ABlk):Prop:=abuiltin env Builtin.append {toList:= [27,27]} [.slice none 0 0,.slice (some ⟨59,0,0,0,1⟩) 1 1] 60 (AHeap.set (AHeap.rows 62 [(0,.made its 5 true),(1,.made sz 1 true),(51,(.made ([zqA k n d mn mx]) 5 true))]) 59 (.made [zqI (i:Int)] 1 true))=some (.slice (some ⟨60,0,0,0,1⟩) 1 1,(AHeap.rows 62 [(0,.made its 5 true),(1,.made sz 1 true),(51,(.made ([zqA k n d mn mx]) 5 true)),(59,.made [zqI (i:Int)] 1 true),(60,r)]))
noncomputable abbrev zq50_6(N:Nat)(i:Nat):Prop:=aindexAddr env.D 26 (.slice (some ⟨0,0,0,0,5⟩) N N) (zqI (i:Int))=some (.ptr (some ⟨0,0,i,0,5⟩))
theorem fill_sf_T_new(N i v q:Nat)(r0 r:ABlk)(its sz:List AVal)(k n d mn mx:Int)(rest weight most:Int)(hc_0:(i:Int)<(N:Int))(hc_1:(zq50_6 N i))(hc_2:ABlk.elem? (.made its 5 true) 0 i=some (zqA k n d mn mx))(hc_3:k=3)(hc_4:(zq50_3 its sz k n d mn mx i r))(hc_5:zqF (weight+n))(hc_6:zqF (most+mx))(hc_7:mx>0)(hc_8:zqF ((i:Int)+1)) :
    Runs Try.prog 2 279 (loopAt Try.prog 42 0) [(0,.slice (some ⟨0,0,0,0,5⟩) N N),(1,.slice (some ⟨1,0,0,0,1⟩) N N),(6,zqI rest),(7,zqI weight),(8,zqI most),(9,.slice none 0 0),(10,.bool true),(33,.slice (some ⟨0,0,0,0,5⟩) N N),(34,zqI N),(35,zqI i)] (AHeap.rows 47 [(0,.made its 5 true),(1,.made sz 1 true)]) .normal [(0,.slice (some ⟨0,0,0,0,5⟩) N N),(1,.slice (some ⟨1,0,0,0,1⟩) N N),(6,zqI rest),(7,zqI (weight+n)),(8,zqI (most+mx)),(9,.slice (some ⟨60,0,0,0,1⟩) 1 1),(10,AVal.bool true),(33,.slice (some ⟨0,0,0,0,5⟩) N N),(34,zqI (N:Int)),(35,zqI ((i:Int)+1))] (AHeap.rows 81 [(0,.made its 5 true),(1,.made sz 1 true),(51,(.made ([zqA k n d mn mx]) 5 true)),(59,.made [zqI (i:Int)] 1 true),(60,r)]) :=
  ppath_runs env_ok mixed (hs:= [.val 4000 (.bool true),.val 5001 (.ptr (some ⟨0,0,i,0,5⟩)),.ld 5002 (zqA k n d mn mx),.val 6002 (.bool false),.act 8003 (.slice (some ⟨60,0,0,0,1⟩) 1 1) (fun h=>h.set 60 r),.go 9003,.go 10003,.val 11004 (.bool true),.go 12000]) (keep:= [0,1,6,7,8,9,10,33,34,35]) (by kernel_rfl) (All.cons (okT hc_0) (All.cons hc_1 (All.cons hc_2 (All.cons (neF hc_3) (All.cons hc_4 (All.cons hc_5 (All.cons hc_6 (All.cons (okT hc_7) (All.cons hc_8 (All.nil))))))))))
noncomputable abbrev zq50_2(v:Nat)(q:Nat)(its:List AVal)(sz:List AVal)(r0:ABlk)(k:Int)(n:Int)(d:Int)(mn:Int)(mx:Int)(i:Nat)(r:ABlk):Prop:=abuiltin env Builtin.append {toList:= [27,27]} [.slice (some ⟨60,v,0,0,1⟩) q q,.slice (some ⟨73,0,0,0,1⟩) 1 1] 74 (AHeap.set (AHeap.rows 76 [(0,.made its 5 true),(1,.made sz 1 true),(60,r0),(65,(.made ([zqA k n d mn mx]) 5 true))]) 73 (.made [zqI (i:Int)] 1 true))=some (.slice (some ⟨60,v+1,0,0,1⟩) (q+1) (q+1),(AHeap.rows 76 [(0,.made its 5 true),(1,.made sz 1 true),(60,r),(65,(.made ([zqA k n d mn mx]) 5 true)),(73,.made [zqI (i:Int)] 1 true)]))
theorem fill_sf_T_grow(N i v q:Nat)(r0 r:ABlk)(its sz:List AVal)(k n d mn mx:Int)(rest weight most:Int)(hc_0:(i:Int)<(N:Int))(hc_1:(zq50_6 N i))(hc_2:ABlk.elem? (.made its 5 true) 0 i=some (zqA k n d mn mx))(hc_3:k=3)(hc_4:(zq50_2 v q its sz r0 k n d mn mx i r))(hc_5:zqF (weight+n))(hc_6:zqF (most+mx))(hc_7:mx>0)(hc_8:zqF ((i:Int)+1)) :
    Runs Try.prog 2 279 (loopAt Try.prog 42 0) [(0,.slice (some ⟨0,0,0,0,5⟩) N N),(1,.slice (some ⟨1,0,0,0,1⟩) N N),(6,zqI rest),(7,zqI weight),(8,zqI most),(9,.slice (some ⟨60,v,0,0,1⟩) q q),(10,.bool true),(33,.slice (some ⟨0,0,0,0,5⟩) N N),(34,zqI N),(35,zqI i)] (AHeap.rows 61 [(0,.made its 5 true),(1,.made sz 1 true),(60,r0)]) .normal [(0,.slice (some ⟨0,0,0,0,5⟩) N N),(1,.slice (some ⟨1,0,0,0,1⟩) N N),(6,zqI rest),(7,zqI (weight+n)),(8,zqI (most+mx)),(9,.slice (some ⟨60,v+1,0,0,1⟩) (q+1) (q+1)),(10,AVal.bool true),(33,.slice (some ⟨0,0,0,0,5⟩) N N),(34,zqI (N:Int)),(35,zqI ((i:Int)+1))] (AHeap.rows 95 [(0,.made its 5 true),(1,.made sz 1 true),(60,r),(65,(.made ([zqA k n d mn mx]) 5 true)),(73,.made [zqI (i:Int)] 1 true)]) :=
  ppath_runs env_ok mixed (hs:= [.val 4000 (.bool true),.val 5001 (.ptr (some ⟨0,0,i,0,5⟩)),.ld 5002 (zqA k n d mn mx),.val 6002 (.bool false),.act 8003 (.slice (some ⟨60,v+1,0,0,1⟩) (q+1) (q+1)) (fun h=>h.set 60 r),.go 9003,.go 10003,.val 11004 (.bool true),.go 12000]) (keep:= [0,1,6,7,8,9,10,33,34,35]) (by kernel_rfl) (All.cons (okT hc_0) (All.cons hc_1 (All.cons hc_2 (All.cons (neF hc_3) (All.cons hc_4 (All.cons hc_5 (All.cons hc_6 (All.cons (okT hc_7) (All.cons hc_8 (All.nil))))))))))
noncomputable abbrev zq50_12(N:Nat)(rest:Int)(weight:Int)(n:Int)(most:Int)(mx:Int)(i:Nat):Facts:= [(0,.slice (some ⟨0,0,0,0,5⟩) N N),(1,.slice (some ⟨1,0,0,0,1⟩) N N),(6,zqI rest),(7,zqI (weight+n)),(8,zqI (most+mx)),(9,.slice (some ⟨60,0,0,0,1⟩) 1 1),(10,AVal.bool false),(33,.slice (some ⟨0,0,0,0,5⟩) N N),(34,zqI (N:Int)),(35,zqI ((i:Int)+1))]
section
variable(N i v q:Nat)(r0 r:ABlk)(its sz:List AVal)(k n d mn mx:Int)(rest weight most:Int)(hc_0:(i:Int)<(N:Int))(hc_1:(zq50_6 N i))(hc_2:ABlk.elem? (.made its 5 true) 0 i=some (zqA k n d mn mx))(hc_3:k=3)
include N i v q r0 r its sz k n d mn mx rest weight most hc_0 hc_1 hc_2 hc_3
theorem fill_sf_F_new(hc_4:(zq50_3 its sz k n d mn mx i r))(hc_5:zqF (weight+n))(hc_6:zqF (most+mx))(hc_7: ¬ (mx>0))(hc_8:zqF ((i:Int)+1)) :
    Runs Try.prog 2 279 (loopAt Try.prog 42 0) [(0,.slice (some ⟨0,0,0,0,5⟩) N N),(1,.slice (some ⟨1,0,0,0,1⟩) N N),(6,zqI rest),(7,zqI weight),(8,zqI most),(9,.slice none 0 0),(10,.bool true),(33,.slice (some ⟨0,0,0,0,5⟩) N N),(34,zqI N),(35,zqI i)] (AHeap.rows 47 [(0,.made its 5 true),(1,.made sz 1 true)]) .normal (zq50_12 N rest weight n most mx i) (AHeap.rows 81 [(0,.made its 5 true),(1,.made sz 1 true),(51,(.made ([zqA k n d mn mx]) 5 true)),(59,.made [zqI (i:Int)] 1 true),(60,r)]) :=
  ppath_runs env_ok mixed (hs:= [.val 4000 (.bool true),.val 5001 (.ptr (some ⟨0,0,i,0,5⟩)),.ld 5002 (zqA k n d mn mx),.val 6002 (.bool false),.act 8003 (.slice (some ⟨60,0,0,0,1⟩) 1 1) (fun h=>h.set 60 r),.go 9003,.go 10003,.val 11004 (.bool false),.go 12000]) (keep:= [0,1,6,7,8,9,10,33,34,35]) (by kernel_rfl) (All.cons (okT hc_0) (All.cons hc_1 (All.cons hc_2 (All.cons (neF hc_3) (All.cons hc_4 (All.cons hc_5 (All.cons hc_6 (All.cons (okF hc_7) (All.cons hc_8 (All.nil))))))))))
theorem fill_sf_F_grow(hc_4:(zq50_2 v q its sz r0 k n d mn mx i r))(hc_5:zqF (weight+n))(hc_6:zqF (most+mx))(hc_7: ¬ (mx>0))(hc_8:zqF ((i:Int)+1)) :
    Runs Try.prog 2 279 (loopAt Try.prog 42 0) [(0,.slice (some ⟨0,0,0,0,5⟩) N N),(1,.slice (some ⟨1,0,0,0,1⟩) N N),(6,zqI rest),(7,zqI weight),(8,zqI most),(9,.slice (some ⟨60,v,0,0,1⟩) q q),(10,.bool true),(33,.slice (some ⟨0,0,0,0,5⟩) N N),(34,zqI N),(35,zqI i)] (AHeap.rows 61 [(0,.made its 5 true),(1,.made sz 1 true),(60,r0)]) .normal [(0,.slice (some ⟨0,0,0,0,5⟩) N N),(1,.slice (some ⟨1,0,0,0,1⟩) N N),(6,zqI rest),(7,zqI (weight+n)),(8,zqI (most+mx)),(9,.slice (some ⟨60,v+1,0,0,1⟩) (q+1) (q+1)),(10,AVal.bool false),(33,.slice (some ⟨0,0,0,0,5⟩) N N),(34,zqI (N:Int)),(35,zqI ((i:Int)+1))] (AHeap.rows 95 [(0,.made its 5 true),(1,.made sz 1 true),(60,r),(65,(.made ([zqA k n d mn mx]) 5 true)),(73,.made [zqI (i:Int)] 1 true)]) :=
  ppath_runs env_ok mixed (hs:= [.val 4000 (.bool true),.val 5001 (.ptr (some ⟨0,0,i,0,5⟩)),.ld 5002 (zqA k n d mn mx),.val 6002 (.bool false),.act 8003 (.slice (some ⟨60,v+1,0,0,1⟩) (q+1) (q+1)) (fun h=>h.set 60 r),.go 9003,.go 10003,.val 11004 (.bool false),.go 12000]) (keep:= [0,1,6,7,8,9,10,33,34,35]) (by kernel_rfl) (All.cons (okT hc_0) (All.cons hc_1 (All.cons hc_2 (All.cons (neF hc_3) (All.cons hc_4 (All.cons hc_5 (All.cons hc_6 (All.cons (okF hc_7) (All.cons hc_8 (All.nil))))))))))
theorem fill_sf_N_new(hc_4:(zq50_3 its sz k n d mn mx i r))(hc_5:zqF (weight+n))(hc_6:zqF (most+mx))(hc_7:zqF ((i:Int)+1)) :
    Runs Try.prog 2 279 (loopAt Try.prog 42 0) [(0,.slice (some ⟨0,0,0,0,5⟩) N N),(1,.slice (some ⟨1,0,0,0,1⟩) N N),(6,zqI rest),(7,zqI weight),(8,zqI most),(9,.slice none 0 0),(10,.bool false),(33,.slice (some ⟨0,0,0,0,5⟩) N N),(34,zqI N),(35,zqI i)] (AHeap.rows 47 [(0,.made its 5 true),(1,.made sz 1 true)]) .normal (zq50_12 N rest weight n most mx i) (AHeap.rows 81 [(0,.made its 5 true),(1,.made sz 1 true),(51,(.made ([zqA k n d mn mx]) 5 true)),(59,.made [zqI (i:Int)] 1 true),(60,r)]) :=
  ppath_runs env_ok mixed (hs:= [.val 4000 (.bool true),.val 5001 (.ptr (some ⟨0,0,i,0,5⟩)),.ld 5002 (zqA k n d mn mx),.val 6002 (.bool false),.act 8003 (.slice (some ⟨60,0,0,0,1⟩) 1 1) (fun h=>h.set 60 r),.go 9003,.go 10003,.go 12000]) (keep:= [0,1,6,7,8,9,10,33,34,35]) (by kernel_rfl) (All.cons (okT hc_0) (All.cons hc_1 (All.cons hc_2 (All.cons (neF hc_3) (All.cons hc_4 (All.cons hc_5 (All.cons hc_6 (All.cons hc_7 (All.nil)))))))))
theorem fill_sf_N_grow(hc_4:(zq50_2 v q its sz r0 k n d mn mx i r))(hc_5:zqF (weight+n))(hc_6:zqF (most+mx))(hc_7:zqF ((i:Int)+1)) :
    Runs Try.prog 2 279 (loopAt Try.prog 42 0) [(0,.slice (some ⟨0,0,0,0,5⟩) N N),(1,.slice (some ⟨1,0,0,0,1⟩) N N),(6,zqI rest),(7,zqI weight),(8,zqI most),(9,.slice (some ⟨60,v,0,0,1⟩) q q),(10,.bool false),(33,.slice (some ⟨0,0,0,0,5⟩) N N),(34,zqI N),(35,zqI i)] (AHeap.rows 61 [(0,.made its 5 true),(1,.made sz 1 true),(60,r0)]) .normal [(0,.slice (some ⟨0,0,0,0,5⟩) N N),(1,.slice (some ⟨1,0,0,0,1⟩) N N),(6,zqI rest),(7,zqI (weight+n)),(8,zqI (most+mx)),(9,.slice (some ⟨60,v+1,0,0,1⟩) (q+1) (q+1)),(10,AVal.bool false),(33,.slice (some ⟨0,0,0,0,5⟩) N N),(34,zqI (N:Int)),(35,zqI ((i:Int)+1))] (AHeap.rows 95 [(0,.made its 5 true),(1,.made sz 1 true),(60,r),(65,(.made ([zqA k n d mn mx]) 5 true)),(73,.made [zqI (i:Int)] 1 true)]) :=
  ppath_runs env_ok mixed (hs:= [.val 4000 (.bool true),.val 5001 (.ptr (some ⟨0,0,i,0,5⟩)),.ld 5002 (zqA k n d mn mx),.val 6002 (.bool false),.act 8003 (.slice (some ⟨60,v+1,0,0,1⟩) (q+1) (q+1)) (fun h=>h.set 60 r),.go 9003,.go 10003,.go 12000]) (keep:= [0,1,6,7,8,9,10,33,34,35]) (by kernel_rfl) (All.cons (okT hc_0) (All.cons hc_1 (All.cons hc_2 (All.cons (neF hc_3) (All.cons hc_4 (All.cons hc_5 (All.cons hc_6 (All.cons hc_7 (All.nil)))))))))
end
end Go.Proofs.Ytgfkllnaeekjeaa
