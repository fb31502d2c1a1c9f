/-
  Parts of the proof, one behind the other:
  frescoref08.Sizes: the loop that brings the lists.
  frescoref08.Sizes: what it answers.
  frescoref08.Sizes: what it answers, in every memory.
  SHARING ROOM AMONG FILLS, plain: the rounds find a level.
  Levels, plain: one level for another, and who is first.
  frescoref08.Sizes and solve.Sizes answer alike.
  What solve.Sizes answers is what frescoref08.Sizes answers.
  LISTS OF ITEMS that the statements lend.
  LISTS OF ITEMS that the statements lend: what lent, kept and turn answer.
  'frescolaw08.SolveSizes' answers true: the walk.
  'frescolaw08.SolveSizes' answers true, for every two lists of items, extent and gap: the parts put together.
-/
import Derived.Test.YtgfkllnaeekjeaaKSolveSizesI
set_option linter.unusedVariables false
set_option linter.unusedSimpArgs false
set_option linter.unusedSectionVars false
namespace Go.Proofs.Ytgfkllnaeekjeaa
open Go.Lift
set_option maxRecDepth 1000000
theorem app_rowI {f:Nat→It}{v id:Nat}(hv:v≤2^40)(x:It)(hx1:f (1+v)=x)(t K:Nat)(hp:AHeap)(hg:hp.get id=some (gRowI f 1 v))(hx:elemsOf 5 (.slice (some ⟨t,0,0,0,5⟩) 1 1) hp=some [x.val]) :
    abuiltin env .append #[26,26] [.slice (some ⟨id,v,0,0,5⟩) (1+v) (1+v),.slice (some ⟨t,0,0,0,5⟩) 1 1] K hp=some (.slice (some ⟨id,v+1,0,0,5⟩) (1+v+1) (1+v+1),hp.set id (gRowI f 1 (v+1))):=by
  refine(app_grow slItem hx (by simp) (b:=gRowI f 1 v) (by simp;omega) (by simp;omega) hg rfl (by simp) rfl rfl rfl (by simp [gRowI,irows_length])).trans ?_
  rw [← hx1,gRowI_grow];rfl
theorem app_rowI1 {f:Nat→It}{id:Nat}(x:It)(hx1:f 0=x)(t:Nat)(hp:AHeap)(hx:elemsOf 5 (.slice (some ⟨t,0,0,0,5⟩) 1 1) hp=some [x.val]) :
    abuiltin env .append #[26,26] [.slice none 0 0,.slice (some ⟨t,0,0,0,5⟩) 1 1] id hp=some (.slice (some ⟨id,0,0,0,5⟩) 1 1,hp.set id (gRowI f 1 0)):=by
  refine(app_new slItem hx (by simp) (by simp) (by simp)).trans ?_
  have:gRowI f 1 0= .made [x.val] 5 false:=by rw [← hx1];rfl
  rw [this];rfl
def mnOf(eff:Nat→It)(j:Nat):Int:=(eff j).mn
def wtOf(eff:Nat→It)(room:Int)(j:Nat):Int:=wantZ room (eff j)
def abOf(eff:Nat→It)(room:Int)(j:Nat):Int:=wantZ room (eff j)- (eff j).mn
noncomputable abbrev RH(K:Nat)(b:ABlk)(eff:Nat→It)(room:Int)(v:Nat):AHeap:=AHeap.rows K [(0,b),(25,gRowI eff 1 v),(31,gRow (mnOf eff) 1 v),(36,gRow (wtOf eff room) 1 v),(44,gRow (abOf eff room) 1 v)]
abbrev RL(v m:Nat):Facts:= [(9,.slice (some ⟨25,v,0,0,5⟩) m m),(10,.slice (some ⟨31,v,0,0,1⟩) m m),(11,.slice (some ⟨36,v,0,0,1⟩) m m),(12,.slice (some ⟨44,v,0,0,1⟩) m m)]
section
variable {N:Nat}(hN:N≤4096){o:Option AAddr}{c ver off:Nat}{b:ABlk}(hs:SlArg o N c 0 ver off 5)(hb:BareB b){src:Nat→It}(hel: ∀ j,j<N→b.elem? ver (off+j)=some (src j).val){room:Int}(hr:0≤room∧room≤4096)
include hN hs hb hel hr
theorem rz_loop: ∀ (f v:Nat),1+v+f=N →
    Loops Try.prog 1 109 (loopAt Try.prog 14 0) ([(0,.slice o N c),(7,.int .i64 N),(8,.int .i64 room)]++RL v (1+v)++ [(13,.int .i64 (1+v:Nat))]) (RH 45 b (fun j=>effI (src j)) room v) (.exit 0)
      ([(7,.int .i64 N),(8,.int .i64 room)]++RL (N-1) N) (RH 61 b (fun j=>effI (src j)) room (N-1))
  | 0,v,e=>by
    have hv:v=N-1:=by omega
    rw [hv,show 1+(N-1)=N by omega]
    refine(Loops.last (by simp) (rz_end o N c ver off N 0 b (gRowI (fun j=>effI (src j)) 1 (N-1)) (gRow (mnOf fun j=>effI (src j)) 1 (N-1)) (gRow (wtOf (fun j=>effI (src j)) room) 1 (N-1)) (gRow (abOf (fun j=>effI (src j)) room) 1 (N-1)) room _ _ _ _ (by omega))).post ?_
    exact Ent.drop (by kernel_rfl) (by kernel_rfl) (by kernel_rfl) (by kernel_rfl) (by simp only [List.map,All_cons,All_nil,and_true];exact⟨by simp [Clo],by simp [Clo],by simp [Clo,Ids],by simp [Clo,Ids],by simp [Clo,Ids],by simp [Clo,Ids]⟩) (by simp only [List.map,All_cons,All_nil,and_true];exact⟨hb.clo _,(gRowI_bare _ _ _).clo _,(gRow_bare _ _ _).clo _,(gRow_bare _ _ _).clo _,(gRow_bare _ _ _).clo _⟩)
  | f + 1,v,e=>by
    have hi:1+v<N:=by omega
    have hc:Clo (Ids [0,25,31,36,44]) (.slice o N c):=hs.clo (by simp [Ids])
    have ih:=rz_loop f (v+1) (by omega)
    rw [show 1+(v+1)=1+v+1 by omega]at ih
    have ixi:aindexAddr env.D 26 (.slice o N c) (.int .i64 (1+v:Nat))=some (.ptr (some ⟨0,ver,off+(1+v),0,5⟩)):=ix_itS hs hi
    have rt:=refRight_does (src (1+v)).k (src (1+v)).n (src (1+v)).d (src (1+v)).mn (src (1+v)).mx
    have er:=effI_right (src (1+v))
    have wr:=wantZ_range er hr
    have mr:=er.mn
    have wd:=rwants_does er hr
    have fin: ∀ (K i1 i2 i3 i4 i5:Nat) (x1 x2 x3 x4 x5:ABlk) (hk: [(0,b),(25,gRowI (fun j=>effI (src j)) 1 (v+1)),(31,gRow (mnOf fun j=>effI (src j)) 1 (v+1)),(36,gRow (wtOf (fun j=>effI (src j)) room) 1 (v+1)),(44,gRow (abOf (fun j=>effI (src j)) room) 1 (v+1))].map (fun p=>(AHeap.rows K [(0,b),(25,gRowI (fun j=>effI (src j)) 1 (v+1)),(31,gRow (mnOf fun j=>effI (src j)) 1 (v+1)),(36,gRow (wtOf (fun j=>effI (src j)) room) 1 (v+1)),(44,gRow (abOf (fun j=>effI (src j)) room) 1 (v+1)),(i1,x1),(i2,x2),(i3,x3),(i4,x4),(i5,x5)]).get p.1)
          = [(0,b),(25,gRowI (fun j=>effI (src j)) 1 (v+1)),(31,gRow (mnOf fun j=>effI (src j)) 1 (v+1)),(36,gRow (wtOf (fun j=>effI (src j)) room) 1 (v+1)),(44,gRow (abOf (fun j=>effI (src j)) room) 1 (v+1))].map (fun p=>some p.2)),
        Ent 1 109 ([(0,.slice o N c),(7,.int .i64 N),(8,.int .i64 room)]++RL (v+1) (1+v+1)++ [(13,.int .i64 (1+v+1:Nat))]) (AHeap.rows K [(0,b),(25,gRowI (fun j=>effI (src j)) 1 (v+1)),(31,gRow (mnOf fun j=>effI (src j)) 1 (v+1)),(36,gRow (wtOf (fun j=>effI (src j)) room) 1 (v+1)),(44,gRow (abOf (fun j=>effI (src j)) room) 1 (v+1)),(i1,x1),(i2,x2),(i3,x3),(i4,x4),(i5,x5)])
          ([(0,.slice o N c),(7,.int .i64 N),(8,.int .i64 room)]++RL (v+1) (1+v+1)++ [(13,.int .i64 (1+v+1:Nat))]) (RH 45 b (fun j=>effI (src j)) room (v+1)):=by
      intro K i1 i2 i3 i4 i5 x1 x2 x3 x4 x5 hk
      exact Ent.drop hk (by kernel_rfl) (by kernel_rfl) (by kernel_rfl) (by simp only [List.map,List.cons_append,List.nil_append,All_cons,All_nil,and_true];exact⟨hc,by simp [Clo],by simp [Clo],by simp [Clo,Ids],by simp [Clo,Ids],by simp [Clo,Ids],by simp [Clo,Ids],by simp [Clo]⟩) (by simp only [List.map,All_cons,All_nil,and_true];exact⟨hb.clo _,(gRowI_bare _ _ _).clo _,(gRow_bare _ _ _).clo _,(gRow_bare _ _ _).clo _,(gRow_bare _ _ _).clo _⟩)
    by_cases cr:(src (1+v)).right=true
    · rw [show rightB (src (1+v)).k (src (1+v)).n (src (1+v)).d (src (1+v)).mn (src (1+v)).mx=true from cr]at rt
      have e1:effI (src (1+v))=src (1+v):=by unfold effI;rw [if_pos cr]
      rw [e1]at wd wr mr
      have a2:mnOf (fun j=>effI (src j)) (1+v)=(src (1+v)).mn:=by show(effI (src (1+v))).mn=_;rw [e1]
      have a3:wtOf (fun j=>effI (src j)) room (1+v)=wantZ room (src (1+v)):=by show wantZ room (effI (src (1+v)))=_;rw [e1]
      have a4:abOf (fun j=>effI (src j)) room (1+v)=wantZ room (src (1+v))- (src (1+v)).mn:=by show wantZ room (effI (src (1+v)))- (effI (src (1+v))).mn=_;rw [e1]
      exact Loops.step ((rz_gT o N c ver off (1+v) v (1+v) b _ _ _ _ (gRowI (fun j=>effI (src j)) 1 (v+1)) (gRow (mnOf fun j=>effI (src j)) 1 (v+1)) (gRow (wtOf (fun j=>effI (src j)) room) 1 (v+1)) (gRow (abOf (fun j=>effI (src j)) room) 1 (v+1)) (src (1+v)).k (src (1+v)).n (src (1+v)).d (src (1+v)).mn (src (1+v)).mx room (wantZ room (src (1+v))) (by omega) ixi (hel _ hi) (rt _) (wd _)
        ((app_rowI (f:=fun j=>effI (src j)) (by omega) (src (1+v)) e1 _ _ _ (by kernel_rfl) (by kernel_rfl)).trans (by kernel_rfl))
        ((app_row (f:=mnOf fun j=>effI (src j)) (by omega) _ a2 _ _ _ (by kernel_rfl) (by kernel_rfl)).trans (by kernel_rfl))
        ((app_row (f:=wtOf (fun j=>effI (src j)) room) (by omega) _ a3 _ _ _ (by kernel_rfl) (by kernel_rfl)).trans (by kernel_rfl)) (by omega)
        ((app_row (f:=abOf (fun j=>effI (src j)) room) (by omega) _ a4 _ _ _ (by kernel_rfl) (by kernel_rfl)).trans (by kernel_rfl)) (by omega)).post (fin _ _ _ _ _ _ _ _ _ _ _ (by kernel_rfl))) ih
    · rw [show rightB (src (1+v)).k (src (1+v)).n (src (1+v)).d (src (1+v)).mn (src (1+v)).mx=false by simpa [It.right]using cr]at rt
      have e1:effI (src (1+v))=It1:=by unfold effI;rw [if_neg cr]
      rw [e1]at wd wr mr
      have a2:mnOf (fun j=>effI (src j)) (1+v)=0:=by show(effI (src (1+v))).mn=_;rw [e1];rfl
      have a3:wtOf (fun j=>effI (src j)) room (1+v)=wantZ room It1:=by show wantZ room (effI (src (1+v)))=_;rw [e1]
      have a4:abOf (fun j=>effI (src j)) room (1+v)=wantZ room It1-0:=by show wantZ room (effI (src (1+v)))- (effI (src (1+v))).mn=_;rw [e1];rfl
      have m0:It1.mn=0:=rfl
      exact Loops.step ((rz_gF o N c ver off (1+v) v (1+v) b _ _ _ _ (gRowI (fun j=>effI (src j)) 1 (v+1)) (gRow (mnOf fun j=>effI (src j)) 1 (v+1)) (gRow (wtOf (fun j=>effI (src j)) room) 1 (v+1)) (gRow (abOf (fun j=>effI (src j)) room) 1 (v+1)) (src (1+v)).k (src (1+v)).n (src (1+v)).d (src (1+v)).mn (src (1+v)).mx room (wantZ room It1) (by omega) ixi (hel _ hi) (rt _) (wd _)
        ((app_rowI (f:=fun j=>effI (src j)) (by omega) It1 e1 _ _ _ (by kernel_rfl) (by kernel_rfl)).trans (by kernel_rfl))
        ((app_row (f:=mnOf fun j=>effI (src j)) (by omega) _ a2 _ _ _ (by kernel_rfl) (by kernel_rfl)).trans (by kernel_rfl))
        ((app_row (f:=wtOf (fun j=>effI (src j)) room) (by omega) _ a3 _ _ _ (by kernel_rfl) (by kernel_rfl)).trans (by kernel_rfl)) (by omega)
        ((app_row (f:=abOf (fun j=>effI (src j)) room) (by omega) _ a4 _ _ _ (by kernel_rfl) (by kernel_rfl)).trans (by kernel_rfl)) (by omega)).post (fin _ _ _ _ _ _ _ _ _ _ _ (by kernel_rfl))) ih
end
end Go.Proofs.Ytgfkllnaeekjeaa
namespace Go.Proofs.Ytgfkllnaeekjeaa
open Go.Lift
set_option maxRecDepth 1000000
def RSizesZ (eff:Nat→It) (N:Nat) (room:Int) (z:Nat→Int):Prop :=
  (room<sumTo (mnOf eff) N∧ShareZ N room (mnOf eff) z) ∨
    (sumTo (mnOf eff) N≤room∧room<sumTo (wtOf eff room) N∧ ∃ s,ShareZ N (sumTo (wtOf eff room) N-room) (abOf eff room) s∧ ∀ j,j<N→z j=wtOf eff room j-s j) ∨
    (sumTo (mnOf eff) N≤room∧sumTo (wtOf eff room) N≤room∧FilledZ eff N room (wtOf eff room) z)
section
variable {N:Nat}(hN:N≤4096){o:Option AAddr}{c ver off:Nat}{b:ABlk}(hs:SlArg o N c 0 ver off 5)(hb:BareB b){src:Nat→It}(hel: ∀ j,j<N→b.elem? ver (off+j)=some (src j).val){room:Int}(hr:0≤room∧room≤4096)
include hN hs hb hel hr
theorem rz_all (h1:1≤N) (K0:Nat) (hk0: [(0,b)].map (fun p=>(AHeap.rows K0 [(0,b)]).get p.1)= [(0,b)].map (fun p=>some p.2)) :
    Loops Try.prog 1 109 (loopAt Try.prog 14 0) [(0,.slice o N c),(7,.int .i64 N),(8,.int .i64 room),(9,.slice none 0 0),(10,.slice none 0 0),(11,.slice none 0 0),(12,.slice none 0 0),(13,.int .i64 (0:Nat))] (AHeap.rows K0 [(0,b)]) (.exit 0)
      ([(7,.int .i64 N),(8,.int .i64 room)]++RL (N-1) N) (RH 61 b (fun j=>effI (src j)) room (N-1)):=by
  have hi:0<N:=h1
  have hc:Clo (Ids [0,25,31,36,44]) (.slice o N c):=hs.clo (by simp [Ids])
  have hc0:Clo (Ids [0]) (.slice o N c):=hs.clo (by simp [Ids])
  have ih:=rz_loop hN hs hb hel hr (N-1) 0 (by omega)
  have ixi:aindexAddr env.D 26 (.slice o N c) (.int .i64 (0:Nat))=some (.ptr (some ⟨0,ver,off+0,0,5⟩)):=ix_itS hs hi
  have rt:=refRight_does (src 0).k (src 0).n (src 0).d (src 0).mn (src 0).mx
  have er:=effI_right (src 0)
  have wr:=wantZ_range er hr
  have mr:=er.mn
  have wd:=rwants_does er hr
  have pre: ∀ K (hK:Nat.blt 0 K=true),Ent 1 109 [(0,.slice o N c),(7,.int .i64 N),(8,.int .i64 room),(9,.slice none 0 0),(10,.slice none 0 0),(11,.slice none 0 0),(12,.slice none 0 0),(13,.int .i64 (0:Nat))] (AHeap.rows K0 [(0,b)])
      [(0,.slice o N c),(7,.int .i64 N),(8,.int .i64 room),(9,.slice none 0 0),(10,.slice none 0 0),(11,.slice none 0 0),(12,.slice none 0 0),(13,.int .i64 (0:Nat))] (AHeap.rows K [(0,b)]):=fun K hK =>
    Ent.drop hk0 (by simp only [List.all,hK,Bool.and_true]) (by kernel_rfl) (by kernel_rfl) (by simp only [List.map,All_cons,All_nil,and_true];exact⟨hc0,by simp [Clo],by simp [Clo],by simp [Clo],by simp [Clo],by simp [Clo],by simp [Clo],by simp [Clo]⟩) (by simp only [List.map,All_cons,All_nil,and_true];exact hb.clo _)
  have fin: ∀ (K i1:Nat) (x1 x2 x3 x4 x5:ABlk) (hk: [(0,b),(25,gRowI (fun j=>effI (src j)) 1 0),(31,gRow (mnOf fun j=>effI (src j)) 1 0),(36,gRow (wtOf (fun j=>effI (src j)) room) 1 0),(44,gRow (abOf (fun j=>effI (src j)) room) 1 0)].map (fun p=>(AHeap.rows K [(0,b),(i1,x1),(24,x2),(25,gRowI (fun j=>effI (src j)) 1 0),(30,x3),(31,gRow (mnOf fun j=>effI (src j)) 1 0),(35,x4),(36,gRow (wtOf (fun j=>effI (src j)) room) 1 0),(43,x5),(44,gRow (abOf (fun j=>effI (src j)) room) 1 0)]).get p.1)
          = [(0,b),(25,gRowI (fun j=>effI (src j)) 1 0),(31,gRow (mnOf fun j=>effI (src j)) 1 0),(36,gRow (wtOf (fun j=>effI (src j)) room) 1 0),(44,gRow (abOf (fun j=>effI (src j)) room) 1 0)].map (fun p=>some p.2)),
        Ent 1 109 ([(0,.slice o N c),(7,.int .i64 N),(8,.int .i64 room)]++RL 0 1++ [(13,.int .i64 (((0:Nat):Int)+1))]) (AHeap.rows K [(0,b),(i1,x1),(24,x2),(25,gRowI (fun j=>effI (src j)) 1 0),(30,x3),(31,gRow (mnOf fun j=>effI (src j)) 1 0),(35,x4),(36,gRow (wtOf (fun j=>effI (src j)) room) 1 0),(43,x5),(44,gRow (abOf (fun j=>effI (src j)) room) 1 0)])
          ([(0,.slice o N c),(7,.int .i64 N),(8,.int .i64 room)]++RL 0 (1+0)++ [(13,.int .i64 (1+0:Nat))]) (RH 45 b (fun j=>effI (src j)) room 0):=by
      intro K i1 x1 x2 x3 x4 x5 hk
      exact Ent.drop hk (by kernel_rfl) (by kernel_rfl) (by kernel_rfl) (by simp only [List.map,List.cons_append,List.nil_append,All_cons,All_nil,and_true];exact⟨hc,by simp [Clo],by simp [Clo],by simp [Clo,Ids],by simp [Clo,Ids],by simp [Clo,Ids],by simp [Clo,Ids],by simp [Clo]⟩) (by simp only [List.map,All_cons,All_nil,and_true];exact⟨hb.clo _,(gRowI_bare _ _ _).clo _,(gRow_bare _ _ _).clo _,(gRow_bare _ _ _).clo _,(gRow_bare _ _ _).clo _⟩)
  by_cases cr:(src 0).right=true
  · rw [show rightB (src 0).k (src 0).n (src 0).d (src 0).mn (src 0).mx=true from cr]at rt
    have e1:effI (src 0)=src 0:=by unfold effI;rw [if_pos cr]
    rw [e1]at wd wr mr
    have a2:mnOf (fun j=>effI (src j)) 0=(src 0).mn:=by show(effI (src 0)).mn=_;rw [e1]
    have a3:wtOf (fun j=>effI (src j)) room 0=wantZ room (src 0):=by show wantZ room (effI (src 0))=_;rw [e1]
    have a4:abOf (fun j=>effI (src j)) room 0=wantZ room (src 0)- (src 0).mn:=by show wantZ room (effI (src 0))- (effI (src 0)).mn=_;rw [e1]
    exact Tri.pre (Loops.step ((rz_nT o N c ver off 0 0 0 b noRow0 noRow0 noRow0 noRow0 (gRowI (fun j=>effI (src j)) 1 0) (gRow (mnOf fun j=>effI (src j)) 1 0) (gRow (wtOf (fun j=>effI (src j)) room) 1 0) (gRow (abOf (fun j=>effI (src j)) room) 1 0) (src 0).k (src 0).n (src 0).d (src 0).mn (src 0).mx room (wantZ room (src 0)) (by omega) ixi (hel _ hi) (rt _) (wd _)
      ((app_rowI1 (f:=fun j=>effI (src j)) (src 0) e1 _ _ (by kernel_rfl)).trans (by kernel_rfl))
      ((app_row1 (f:=mnOf fun j=>effI (src j)) _ a2 _ _ (by kernel_rfl)).trans (by kernel_rfl))
      ((app_row1 (f:=wtOf (fun j=>effI (src j)) room) _ a3 _ _ (by kernel_rfl)).trans (by kernel_rfl)) (by omega)
      ((app_row1 (f:=abOf (fun j=>effI (src j)) room) _ a4 _ _ (by kernel_rfl)).trans (by kernel_rfl)) (by omega)).post (fin _ _ _ _ _ _ _ (by kernel_rfl))) ih) (pre _ (by kernel_rfl))
  · rw [show rightB (src 0).k (src 0).n (src 0).d (src 0).mn (src 0).mx=false by simpa [It.right]using cr]at rt
    have e1:effI (src 0)=It1:=by unfold effI;rw [if_neg cr]
    rw [e1]at wd wr mr
    have a2:mnOf (fun j=>effI (src j)) 0=0:=by show(effI (src 0)).mn=_;rw [e1];rfl
    have a3:wtOf (fun j=>effI (src j)) room 0=wantZ room It1:=by show wantZ room (effI (src 0))=_;rw [e1]
    have a4:abOf (fun j=>effI (src j)) room 0=wantZ room It1-0:=by show wantZ room (effI (src 0))- (effI (src 0)).mn=_;rw [e1];rfl
    have m0:It1.mn=0:=rfl
    exact Tri.pre (Loops.step ((rz_nF o N c ver off 0 0 0 b noRow0 noRow0 noRow0 noRow0 (gRowI (fun j=>effI (src j)) 1 0) (gRow (mnOf fun j=>effI (src j)) 1 0) (gRow (wtOf (fun j=>effI (src j)) room) 1 0) (gRow (abOf (fun j=>effI (src j)) room) 1 0) (src 0).k (src 0).n (src 0).d (src 0).mn (src 0).mx room (wantZ room It1) (by omega) ixi (hel _ hi) (rt _) (wd _)
      ((app_rowI1 (f:=fun j=>effI (src j)) It1 e1 _ _ (by kernel_rfl)).trans (by kernel_rfl))
      ((app_row1 (f:=mnOf fun j=>effI (src j)) _ a2 _ _ (by kernel_rfl)).trans (by kernel_rfl))
      ((app_row1 (f:=wtOf (fun j=>effI (src j)) room) _ a3 _ _ (by kernel_rfl)).trans (by kernel_rfl)) (by omega)
      ((app_row1 (f:=abOf (fun j=>effI (src j)) room) _ a4 _ _ (by kernel_rfl)).trans (by kernel_rfl)) (by omega)).post (fin _ _ _ _ _ _ _ (by kernel_rfl))) ih) (pre _ (by kernel_rfl))
omit hN hs hel hr in
theorem rsub_loop {v gv f0:Nat}{g:ABlk}(hg:BareB g)(w s:Nat→Int)(hgs: ∀ j,j<N→g.elem? gv (0+j)=some (.int .i64 (s j)))(hw: ∀ j,j<N→0≤w j∧w j≤2^40)(hs2: ∀ j,j<N→0≤s j∧s j≤2^40)(hN2:N≤4096): ∀ (f i m:Nat),i+f=N→ ∃ m2,
    Loops Try.prog 1 109 (loopAt Try.prog 14 1) [(7,.int .i64 N),(11,.slice (some ⟨36,v,0,0,1⟩) N N),(17,.slice (some ⟨76,gv,0,0,1⟩) N N),(18,.int .i64 i)] (AHeap.rows 80 [(0,b),(36,vRow N (fun j=>if j<i then w j-s j else w j) v m f0),(76,g)]) (.exit 2)
      [(11,.slice (some ⟨36,v,0,0,1⟩) N N)] (AHeap.rows 81 [(0,b),(36,vRow N (fun j=>w j-s j) v m2 f0),(76,g)])
  | 0,i,m,e=>by
    obtain rfl:i=N:=by omega
    refine⟨m,?_⟩
    have ev:vRow i (fun j=>if j<i then w j-s j else w j) v m f0=vRow i (fun j=>w j-s j) v m f0:=vRow_congr fun j hj=>if_pos hj
    rw [ev]
    refine(Loops.last (by simp) (rz_sub_end i gv v m f0 i b g _ 0 0 (by omega))).post ?_
    exact Ent.drop (by kernel_rfl) (by kernel_rfl) (by kernel_rfl) (by kernel_rfl) (by simp [All_cons,All_nil,Clo,Ids]) (by simp only [List.map,All_cons,All_nil,and_true];exact⟨hb.clo _,fun e he=>(ints_bare _ _ e he).clo _,hg.clo _⟩)
  | f +1,i,m,e=>by
    have hi:i<N:=by omega
    obtain⟨m2,ih⟩:=rsub_loop hg w s hgs hw hs2 hN2 f (i+1) v (by omega)
    have wi:=hw i hi
    have si:=hs2 i hi
    have ixs:aindexAddr env.D 27 (.slice (some ⟨36,v,0,0,1⟩) N N) (.int .i64 (i:Int))=some (.ptr (some ⟨36,v,i,0,1⟩)):=by
      have:=ix_intN (o:=some ⟨36,v,0,0,1⟩) (n:=N) (c:=N) (.inl rfl) (k:= .i64) hi
      rwa [Nat.zero_add]at this
    have ixg:aindexAddr env.D 27 (.slice (some ⟨76,gv,0,0,1⟩) N N) (.int .i64 (i:Int))=some (.ptr (some ⟨76,gv,0+i,0,1⟩)):=ix_intN (o:=some ⟨76,gv,0,0,1⟩) (n:=N) (c:=N) (.inl rfl) (k:= .i64) hi
    have el:(vRow N (fun j=>if j<i then w j-s j else w j) v m f0).elem? v i=some (.int .i64 (w i)):=by
      have:=vRow_el (n:=N) (y:=fun j=>if j<i then w j-s j else w j) (v:=v) (m:=m) (f:=f0) hi
      rwa [if_neg (Nat.lt_irrefl i)]at this
    have el2:(ints N fun j=>if j<i then w j-s j else w j)[i]? =some (.int .i64 (w i)):=by rw [ints_get hi,if_neg (Nat.lt_irrefl i)]
    have st:=rz_sub N gv v m f0 i b g (ints N fun j=>if j<i then w j-s j else w j) (w i) (s i) (by omega) ixs el ixg (hgs i hi) (by omega) ixs ⟨rfl,el2⟩ (by omega)
    rw [ints_step (y:=fun j=>w j-s j) (z:=w)]at st
    refine⟨m2,Loops.step (st.post ?_) ih⟩
    exact Ent.drop (by kernel_rfl) (by kernel_rfl) (by kernel_rfl) (by kernel_rfl) (by simp [All_cons,All_nil,Clo];simp [Ids]) (by simp only [List.map,All_cons,All_nil,and_true];exact⟨hb.clo _,fun e he=>(ints_bare _ _ e he).clo _,hg.clo _⟩)
end
end Go.Proofs.Ytgfkllnaeekjeaa
namespace Go.Proofs.Ytgfkllnaeekjeaa
open Go.Lift
set_option maxRecDepth 1000000
def broughtZ(n a b:Int):Int:=if n<a then a else if n>b then b else n
theorem brought_does_0(n a b:Int)(hc_0:n<a) :
    FDoes Try.prog 33 [zqI n,zqI a,zqI b] (⟨0,.nil⟩) (zqI a) (AHeap.rows 6 []) :=
  pcall_does env_ok mixed (hs:= [.val 1002 (.bool true)]) (rs:= []) (by kernel_rfl) (All.cons (okT hc_0) (All.nil))
theorem brought_does_1(n a b:Int)(hc_0: ¬ (n<a))(hc_1:n>b) :
    FDoes Try.prog 33 [zqI n,zqI a,zqI b] (⟨0,.nil⟩) (zqI b) (AHeap.rows 9 []) :=
  pcall_does env_ok mixed (hs:= [.val 1002 (.bool false),.val 3002 (.bool true)]) (rs:= []) (by kernel_rfl) (All.cons (okF hc_0) (All.cons (okT hc_1) (All.nil)))
theorem brought_does_2(n a b:Int)(hc_0: ¬ (n<a))(hc_1: ¬ (n>b)) :
    FDoes Try.prog 33 [zqI n,zqI a,zqI b] (⟨0,.nil⟩) (zqI n) (AHeap.rows 9 []) :=
  pcall_does env_ok mixed (hs:= [.val 1002 (.bool false),.val 3002 (.bool false)]) (rs:= []) (by kernel_rfl) (All.cons (okF hc_0) (All.cons (okF hc_1) (All.nil)))
theorem brought_does(n a b:Int)(H:AHeap):FDoes Try.prog 33 [.int .i64 n,.int .i64 a,.int .i64 b] H (.int .i64 (broughtZ n a b)) H:=by
  have ha: ∀ z9∈([.int .i64 n,.int .i64 a,.int .i64 b]:List AVal),Bare z9:=by simp [Bare,AVal.ren,AVal.rens,Clo,Clos]
  by_cases c0:n<a
  · skip
    have hp:=brought_does_0 n a b c0
    have e:=hp.bare ha (Bare.int _ _) H
    unfold broughtZ
    first | (rw [if_pos (by assumption)];exact e) | (rw [if_neg (by assumption),if_pos (by assumption)];exact e) | (rw [if_neg (by assumption),if_neg (by assumption)];exact e)
  · skip
    by_cases c1:n>b
    · skip
      have hp:=brought_does_1 n a b c0 c1
      have e:=hp.bare ha (Bare.int _ _) H
      unfold broughtZ
      first | (rw [if_pos (by assumption)];exact e) | (rw [if_neg (by assumption),if_pos (by assumption)];exact e) | (rw [if_neg (by assumption),if_neg (by assumption)];exact e)
    · skip
      have hp:=brought_does_2 n a b c0 c1
      have e:=hp.bare ha (Bare.int _ _) H
      unfold broughtZ
      first | (rw [if_pos (by assumption)];exact e) | (rw [if_neg (by assumption),if_pos (by assumption)];exact e) | (rw [if_neg (by assumption),if_neg (by assumption)];exact e)
theorem brought_side(n:Int)(H:AHeap):FDoes Try.prog 33 [.int .i64 n,.int .i64 0,.int .i64 4096] H (.int .i64 (sideZ n)) H:=by
  have h:=brought_does n 0 4096 H
  have e:broughtZ n 0 4096=sideZ n:=by unfold broughtZ sideZ;split<;>(try split)<;>omega
  rwa [e]at h
section
variable {N:Nat}(hN:N≤4096)(h1:1≤N){o:Option AAddr}{c ver off:Nat}{b:ABlk}(hs:SlArg o N c 0 ver off 5)(hb:BareB b){src:Nat→It}(hel: ∀ j,j<N→b.elem? ver (off+j)=some (src j).val)
include hN h1 hs hb hel
theorem rsizes_small(extent gap:Int){z:Nat→Int}(hz:RSizesZ (fun j=>effI (src j)) N (roomZ N extent gap) z): ∃ (j m f:Nat) (h':AHeap),1≤j∧h'.get 0=some b∧h'.get j=some (vRow N z (N-1) m f) ∧
    FDoes Try.prog 14 [.slice o N c,.int .i64 extent,.int .i64 gap] (AHeap.of [b]) (.slice (some ⟨j,N-1,0,0,1⟩) N N) h':=by
  have se:=sideZ_range extent
  have sg:=sideZ_range gap
  have pg:=mul_range (b:=(N:Int)-1) (B:=4096) sg.1 sg.2 (by omega) (by omega)
  have hr:=roomZ_range h1 extent gap
  have hrm:(sideZ extent-sideZ gap* ((N:Int)-1)<0∧roomZ N extent gap=0)∨(¬ sideZ extent-sideZ gap* ((N:Int)-1)<0∧roomZ N extent gap=sideZ extent-sideZ gap* ((N:Int)-1)):=by
    unfold roomZ;omega
  have l:=fun K0 hk0=>Runs.of_loops (rz_all hN hs hb hel hr h1 K0 hk0)
  generalize roomZ N extent gap=room at *
  generalize hE:(fun j=>effI (src j))=eff at *
  have heff: ∀ j,RightIt (eff j):=fun j=>by rw [← hE];exact effI_right _
  have hmn: ∀ j,j<N→0≤mnOf eff j∧mnOf eff j≤2^25:=fun j _=>by have:=(heff j).mn;unfold mnOf;omega
  have hwt: ∀ j,mnOf eff j≤wtOf eff room j∧wtOf eff room j≤2^22:=fun j=>wantZ_range (heff j) hr
  have sfit: ∀ f:Nat→Int,(∀ j,j<N→0≤f j∧f j≤2^25)→ ∀ j,j≤N→Fit64 (sumTo f j):=by
    intro f hf j hj
    have h1:0≤sumTo f j:=sumTo_ge0 fun i hi=>(hf i (by omega)).1
    have h2:sumTo f j≤j*2^25:=sumTo_up fun i hi=>(hf i (by omega)).2
    unfold Fit64;omega
  have hw25: ∀ j,j<N→0≤wtOf eff room j∧wtOf eff room j≤2^25:=fun j hj=>by have:=hmn j hj;have:=hwt j;omega
  have ho25: ∀ j,j<N→0≤abOf eff room j∧abOf eff room j≤2^25:=fun j hj=>by
    have:=hmn j hj;have:=hwt j
    show 0≤wtOf eff room j-mnOf eff j∧wtOf eff room j-mnOf eff j≤2^25
    omega
  have sw:sumTo (wtOf eff room) N≤N*2^22:=sumTo_up fun j hj=>(hwt j).2
  have eg: ∀ (f:Nat→Int) (j:Nat),j<N→(gRow f 1 (N-1)).elem? (N-1) (0+j)=some (.int .i64 (f j)):=fun f j hj=>gRow_el (by omega)
  have at31: ∀ K (hK:31<K),(RH K b eff room (N-1)).get 31=some (gRow (mnOf eff) 1 (N-1))→IntsAt (RH K b eff room (N-1)) (some ⟨31,N-1,0,0,1⟩) N N 31 (N-1) 0 (gRow (mnOf eff) 1 (N-1)) (mnOf eff):=fun K hK h=>⟨.inl rfl,h,by rw [AHeap.rows_next];omega,gRow_bare _ _ _,eg _⟩
  have at36: ∀ K (hK:36<K),(RH K b eff room (N-1)).get 36=some (gRow (wtOf eff room) 1 (N-1))→IntsAt (RH K b eff room (N-1)) (some ⟨36,N-1,0,0,1⟩) N N 36 (N-1) 0 (gRow (wtOf eff room) 1 (N-1)) (wtOf eff room):=fun K hK h=>⟨.inl rfl,h,by rw [AHeap.rows_next];omega,gRow_bare _ _ _,eg _⟩
  have at44: ∀ K (hK:44<K),(RH K b eff room (N-1)).get 44=some (gRow (abOf eff room) 1 (N-1))→IntsAt (RH K b eff room (N-1)) (some ⟨44,N-1,0,0,1⟩) N N 44 (N-1) 0 (gRow (abOf eff room) 1 (N-1)) (abOf eff room):=fun K hK h=>⟨.inl rfl,h,by rw [AHeap.rows_next];omega,gRow_bare _ _ _,eg _⟩
  have t31:=rtot_does (at31 65 (by omega) (by kernel_rfl)) (sfit _ hmn) (by omega)
  have t36:=rtot_does (at36 69 (by omega) (by kernel_rfl)) (sfit _ hw25) (by omega)
  rcases hz with ⟨c1,sh⟩ | ⟨c1,c2,s,sh,hz⟩ | ⟨c1,c2,fz⟩
  · obtain⟨m,f,k⟩:=shared_does (at31 69 (by omega) (by kernel_rfl)) h1 hN (t:=room) (by omega) hmn sh
    rw [AHeap.rows_next]at k
    rcases hrm with ⟨cc,e⟩ | ⟨cc,e⟩
    · subst e
      exact⟨69,m,f,_,by omega,by kernel_rfl,by kernel_rfl,rz_leastT o N c (N-1) 0 (if N-1=0 then 0 else 1) 0 0 (N-1) b _ _ noRow0 _ (vRow N z (N-1) m f) (ints (1+(N-1)) (wtOf eff 0)) [] extent gap 0 (sumTo (mnOf eff) N) 0 (by omega) (brought_side _ _) (brought_side _ _) (by omega) (by omega) (by omega) cc (l 24 (by kernel_rfl)) t31 (by omega) (k.to (by kernel_rfl))⟩
    · subst e
      exact⟨69,m,f,_,by omega,by kernel_rfl,by kernel_rfl,rz_leastF o N c (N-1) 0 (if N-1=0 then 0 else 1) 0 0 (N-1) b _ _ noRow0 _ (vRow N z (N-1) m f) (ints (1+(N-1)) (wtOf eff _)) [] extent gap 0 (sumTo (mnOf eff) N) 0 (by omega) (brought_side _ _) (brought_side _ _) (by omega) (by omega) (by omega) cc (l 23 (by kernel_rfl)) t31 (by omega) (k.to (by kernel_rfl))⟩
  · obtain⟨m,f,k⟩:=shared_does (at44 76 (by omega) (by kernel_rfl)) h1 hN (t:=sumTo (wtOf eff room) N-room) (by omega) ho25 sh
    rw [AHeap.rows_next]at k
    have t36b:=rtot_does (at36 76 (by omega) (by kernel_rfl)) (sfit _ hw25) (by omega)
    have hsr: ∀ j,j<N→0≤s j∧s j≤2^40:=by
      intro j hj
      rcases sh with ⟨_,h⟩ | ⟨ha,k,hk,hkn,tops⟩
      · rw [h j];omega
      · have hq:0≤shareQ (sumTo (wtOf eff room) N-room) (abOf eff room) N j:=Int.ediv_nonneg (Int.mul_nonneg (by omega) (ho25 j hj).1) (by omega)
        have hq2:shareQ (sumTo (wtOf eff room) N-room) (abOf eff room) N j≤sumTo (wtOf eff room) N-room:=by
          have h3:abOf eff room j≤sumTo (abOf eff room) N:=sumTo_le_one (f:=abOf eff room) (fun i hi=>(ho25 i hi).1) j hj
          have h4:(sumTo (wtOf eff room) N-room)*abOf eff room j≤(sumTo (wtOf eff room) N-room)*sumTo (abOf eff room) N:=Int.mul_le_mul_of_nonneg_left h3 (by omega)
          have h5:=Int.ediv_le_ediv ha h4
          rwa [Int.mul_ediv_cancel _ (by omega)]at h5
        rcases tops.one j hj with e | ⟨e,_⟩<;>omega
    obtain⟨m2,sl⟩:=rsub_loop (N:=N) (b:=b) hb (v:=N-1) (gv:=N-1) (f0:=if N-1=0 then 0 else 1) (vRow_bare N s (N-1) m f) (wtOf eff room) s (fun j hj=>by rw [Nat.zero_add];exact vRow_el hj) (fun j hj=>by have:=hw25 j hj;omega) hsr hN N 0 0 (by omega)
    have ev0:vRow N (fun j=>if j<0 then wtOf eff room j-s j else wtOf eff room j) (N-1) 0 (if N-1=0 then 0 else 1)=gRow (wtOf eff room) 1 (N-1):=by
      rw [gRow_vRow _ h1];exact vRow_congr fun j _=>if_neg (by omega)
    have ev1:vRow N (fun j=>wtOf eff room j-s j) (N-1) m2 (if N-1=0 then 0 else 1)=vRow N z (N-1) m2 (if N-1=0 then 0 else 1):=vRow_congr fun j hj=>(hz j hj).symm
    rw [ev0,ev1]at sl
    have pre2:Ent 1 109 [(7,.int .i64 N),(11,.slice (some ⟨36,N-1,0,0,1⟩) N N),(17,.slice (some ⟨76,N-1,0,0,1⟩) N N),(18,.int .i64 (0:Nat))] (AHeap.rows 78 [(0,b),(25,gRowI eff 1 (N-1)),(31,gRow (mnOf eff) 1 (N-1)),(36,gRow (wtOf eff room) 1 (N-1)),(44,gRow (abOf eff room) 1 (N-1)),(76,vRow N s (N-1) m f)])
        [(7,.int .i64 N),(11,.slice (some ⟨36,N-1,0,0,1⟩) N N),(17,.slice (some ⟨76,N-1,0,0,1⟩) N N),(18,.int .i64 (0:Nat))] (AHeap.rows 80 [(0,b),(36,gRow (wtOf eff room) 1 (N-1)),(76,vRow N s (N-1) m f)]) :=
      Ent.drop (by kernel_rfl) (by kernel_rfl) (by kernel_rfl) (by kernel_rfl) (by simp [All_cons,All_nil,Clo];simp [Ids]) (by simp only [List.map,All_cons,All_nil,and_true];exact⟨hb.clo _,(gRow_bare _ _ _).clo _,fun e he=>(ints_bare _ _ e he).clo _⟩)
    have sl:=Runs.of_loops (Tri.pre sl pre2)
    rcases hrm with ⟨cc,e⟩ | ⟨cc,e⟩
    · subst e
      exact⟨36,m2,if N-1=0 then 0 else 1,_,by omega,by kernel_rfl,by kernel_rfl,rz_cutT o N c (N-1) 0 (if N-1=0 then 0 else 1) m2 (if N-1=0 then 0 else 1) (N-1) b _ _ noRow0 _ (vRow N s (N-1) m f) (ints (1+(N-1)) (wtOf eff 0)) (ints N z) extent gap 0 (sumTo (mnOf eff) N) (sumTo (wtOf eff 0) N) (by omega) (brought_side _ _) (brought_side _ _) (by omega) (by omega) (by omega) cc (l 24 (by kernel_rfl)) t31 (by omega) t36 (by omega) t36b (by omega) (k.to (by kernel_rfl)) sl⟩
    · subst e
      exact⟨36,m2,if N-1=0 then 0 else 1,_,by omega,by kernel_rfl,by kernel_rfl,rz_cutF o N c (N-1) 0 (if N-1=0 then 0 else 1) m2 (if N-1=0 then 0 else 1) (N-1) b _ _ noRow0 _ (vRow N s (N-1) m f) (ints (1+(N-1)) (wtOf eff _)) (ints N z) extent gap 0 (sumTo (mnOf eff) N) (sumTo (wtOf eff _) N) (by omega) (brought_side _ _) (brought_side _ _) (by omega) (by omega) (by omega) cc (l 23 (by kernel_rfl)) t31 (by omega) t36 (by omega) t36b (by omega) (k.to (by kernel_rfl)) sl⟩
  · have hy: ∀ j,j<N→0≤wtOf eff room j∧wtOf eff room j≤4096:=fun j hj=>by
      have:=sumTo_le_one (f:=wtOf eff room) (fun i hi=>(hw25 i hi).1) j hj
      have:=hw25 j hj
      omega
    have eI: ∀ j,j<N→(gRowI eff 1 (N-1)).elem? (N-1) (0+j)=some (eff j).val:=fun j hj=>gRowI_el (by omega)
    obtain⟨m2,h',g0,g1,k⟩:=filled_small hN (o:=some ⟨0,N-1,0,0,5⟩) (c:=N) (.inl rfl) (gRowI_bare eff 1 (N-1)) eI heff (v:=N-1) (f0:=if N-1=0 then 0 else 1) hy hr h1 fz 0
    rw [← gRow_vRow _ h1]at k
    have u:=k.fin [] [gRowI eff 1 (N-1),vRow N z (N-1) m2 (if N-1=0 then 0 else 1)] (.slice (some ⟨1,N-1,0,0,1⟩) N N) (by simp;exact⟨gRowI_bare _ _ _,vRow_bare _ _ _ _ _⟩) rfl (by simp [List.range_succ,finR,g0,g1]) rfl (by simp [Clo]) rfl (by simp)
    have u2:=u.upW (by simp;exact⟨gRowI_bare _ _ _,gRow_bare _ _ _⟩) (by simp;exact⟨gRowI_bare _ _ _,vRow_bare _ _ _ _ _⟩) (by simp) (by simp [Clos,Clo]) (H:=RH 74 b eff room (N-1)) [25,36] (by simp) (by rw [AHeap.rows_next];simp) (by kernel_rfl)
    rcases hrm with ⟨cc,e⟩ | ⟨cc,e⟩
    · subst e
      exact⟨36,m2,if N-1=0 then 0 else 1,_,by omega,by kernel_rfl,by kernel_rfl,rz_fillT o N c (N-1) 0 (if N-1=0 then 0 else 1) m2 (if N-1=0 then 0 else 1) (N-1) b _ _ noRow0 _ noRow0 (ints (1+(N-1)) (wtOf eff 0)) (ints N z) extent gap 0 (sumTo (mnOf eff) N) (sumTo (wtOf eff 0) N) (by omega) (brought_side _ _) (brought_side _ _) (by omega) (by omega) (by omega) cc (l 24 (by kernel_rfl)) t31 (by omega) t36 (by omega) (u2.to (by kernel_rfl))⟩
    · subst e
      exact⟨36,m2,if N-1=0 then 0 else 1,_,by omega,by kernel_rfl,by kernel_rfl,rz_fillF o N c (N-1) 0 (if N-1=0 then 0 else 1) m2 (if N-1=0 then 0 else 1) (N-1) b _ _ noRow0 _ noRow0 (ints (1+(N-1)) (wtOf eff _)) (ints N z) extent gap 0 (sumTo (mnOf eff) N) (sumTo (wtOf eff _) N) (by omega) (brought_side _ _) (brought_side _ _) (by omega) (by omega) (by omega) cc (l 23 (by kernel_rfl)) t31 (by omega) t36 (by omega) (u2.to (by kernel_rfl))⟩
end
theorem rsizes_does {H:AHeap}{o:Option AAddr}{n c id ver off:Nat}{b:ABlk}{src:Nat→It}(hi:ItemsAt H o n c id ver off b src)(h1:1≤n)(hn:n≤4096)(extent gap:Int){z:Nat→Int}(hz:RSizesZ (fun j=>effI (src j)) n (roomZ n extent gap) z) :
    ∃ m f,FDoes Try.prog 14 [.slice o n c,.int .i64 extent,.int .i64 gap] H (.slice (some ⟨H.next,n-1,0,0,1⟩) n n) (H.upd [] [vRow n z (n-1) m f]):=by
  have s0:=hi.sl.at 0
  obtain⟨j,m,f,h',hj,g0,gj,k⟩:=rsizes_small hn h1 s0 hi.bare hi.el extent gap hz
  refine⟨m,f,?_⟩
  have:=k.new1 (bn:=vRow n z (n-1) m f) (by simp [hi.bare]) (vRow_bare _ _ _ _ _) (by simp [List.range_succ,g0]) gj (by simpa using hj) (by simp [Clos,Clo,s0.clo]) (H:=H) [id] (by simp) (by simp [hi.lt]) (by simp [hi.get])
  simpa [hi.sl.back (id':=0) (r:=toBig [id] H.next) rfl,AVal.ren]using this
theorem filled_nil_does {room:Int}(h:0≤room)(H:AHeap):FDoes Try.prog 37 [.slice none 0 0,.slice none 0 0,.int .i64 room] H (.slice none 0 0) H:=by
  have bn:Bare (.slice none 0 0):=⟨fun _=>rfl,by simp [Clo]⟩
  have l1:=Loops.last (e:= .exit 0) (by simp) (rfl_end0 room)
  have l2:=Loops.last (e:= .exit 2) (by simp) (rfm_end0 room)
  have e1:Ent 0 88 [(0,.slice none 0 0),(1,.slice none 0 0),(7,.int .i64 room),(8,.int .i64 0),(9,.bool true)] (AHeap.rows 10 []) [(0,.slice none 0 0),(1,.slice none 0 0),(7,.int .i64 room),(8,.int .i64 0),(9,.bool true)] (AHeap.rows 21 []) :=
    Ent.drop (by kernel_rfl) (by kernel_rfl) (by kernel_rfl) (by kernel_rfl) (by simp [All_cons,All_nil,Clo]) (by simp [All_nil])
  have e2:Ent 0 88 [(0,.slice none 0 0),(1,.slice none 0 0),(11,.int .i64 0)] (AHeap.rows 28 []) [(0,.slice none 0 0),(1,.slice none 0 0),(11,.int .i64 0)] (AHeap.rows 26 []) :=
    Ent.drop (by kernel_rfl) (by kernel_rfl) (by kernel_rfl) (by kernel_rfl) (by simp [All_cons,All_nil,Clo]) (by simp [All_nil])
  have e3:Ent 0 88 [(1,.slice none 0 0)] (AHeap.rows 30 []) [(1,.slice none 0 0)] (AHeap.rows 41 []) :=
    Ent.drop (by kernel_rfl) (by kernel_rfl) (by kernel_rfl) (by kernel_rfl) (by simp [All_cons,All_nil,Clo]) (by simp [All_nil])
  exact(filled_nil room (Runs.of_loops (l1.post e1)) h (Runs.of_loops (Tri.pre (l2.post e3) e2))).bare (by
    intro a ha
    simp only [List.mem_cons,List.not_mem_nil,or_false]at ha
    rcases ha with rfl | rfl | rfl
    · exact bn
    · exact bn
    · exact Bare.int _ _) bn H
theorem rsizes_nil {H:AHeap}{o:Option AAddr}{n c id ver off:Nat}{b:ABlk}{src:Nat→It}(hi:ItemsAt H o n c id ver off b src)(hn:n=0∨4096<n)(extent gap:Int) :
    FDoes Try.prog 14 [.slice o n c,.int .i64 extent,.int .i64 gap] H (.slice none 0 0) H:=by
  have s0:=hi.sl.at 0
  have fin: ∀ (h':AHeap),FDoes Try.prog 14 [.slice (o.map fun a=> {a with id:=0}) n c,.int .i64 extent,.int .i64 gap] (AHeap.of [b]) (.slice none 0 0) h'→h'.get 0=some b→FDoes Try.prog 14 [.slice o n c,.int .i64 extent,.int .i64 gap] H (.slice none 0 0) H:=by
    intro h' k g0
    have:=k.pure (by simp [hi.bare]) (by simp [List.range_succ,g0]) ⟨fun _=>rfl,by simp [Clo]⟩ (by simp [Clos,Clo,s0.clo]) (H:=H) [id] (by simp) (by simp [hi.lt]) (by simp [hi.get])
    simpa [hi.sl.back (id':=0) (r:=toBig [id] H.next) rfl,AVal.ren]using this
  by_cases c0:4096<n
  · exact fin _ (rz_big (o.map fun a=> {a with id:=0}) n c b extent gap (by omega)) (by kernel_rfl)
  · obtain rfl:n=0:=by omega
    have sg:=sideZ_range gap
    have se:=sideZ_range extent
    have hm:sideZ gap* (((0:Nat):Int)-1)= - sideZ gap:=by simp
    have hm2:sideZ gap* (-1)= - sideZ gap:=by omega
    have l:=Loops.last (e:= .exit 0) (by simp) (rz_end0 (o.map fun a=> {a with id:=0}) b c (sideZ extent-sideZ gap* (-1)))
    have pre:Ent 1 109 [(0,.slice (o.map fun a=> {a with id:=0}) 0 c),(7,.int .i64 0),(8,.int .i64 (sideZ extent-sideZ gap* (-1))),(9,.slice none 0 0),(10,.slice none 0 0),(11,.slice none 0 0),(12,.slice none 0 0),(13,.int .i64 0)] (AHeap.rows 23 [(0,b)])
        [(0,.slice (o.map fun a=> {a with id:=0}) 0 c),(7,.int .i64 0),(8,.int .i64 (sideZ extent-sideZ gap* (-1))),(9,.slice none 0 0),(10,.slice none 0 0),(11,.slice none 0 0),(12,.slice none 0 0),(13,.int .i64 0)] (AHeap.rows 10 [(0,b)]) :=
      Ent.drop (by kernel_rfl) (by kernel_rfl) (by kernel_rfl) (by kernel_rfl) (by simp only [List.map,All_cons,All_nil,and_true];exact⟨s0.clo (by simp [Ids]),by simp [Clo],by simp [Clo],by simp [Clo],by simp [Clo],by simp [Clo],by simp [Clo],by simp [Clo]⟩) (by simp only [List.map,All_cons,All_nil,and_true];exact hi.bare.clo _)
    have post:Ent 1 109 [(7,.int .i64 0),(8,.int .i64 (sideZ extent-sideZ gap* (-1))),(9,.slice none 0 0),(10,.slice none 0 0),(11,.slice none 0 0),(12,.slice none 0 0)] (AHeap.rows 13 [(0,b)])
        [(7,.int .i64 0),(8,.int .i64 (sideZ extent-sideZ gap* (-1))),(9,.slice none 0 0),(10,.slice none 0 0),(11,.slice none 0 0),(12,.slice none 0 0)] (AHeap.rows 41 [(0,b)]) :=
      Ent.drop (by kernel_rfl) (by kernel_rfl) (by kernel_rfl) (by kernel_rfl) (by simp only [List.map,All_cons,All_nil,and_true];exact⟨by simp [Clo],by simp [Clo],by simp [Clo],by simp [Clo],by simp [Clo],by simp [Clo]⟩) (by simp only [List.map,All_cons,All_nil,and_true];exact hi.bare.clo _)
    have tn: ∀ K (hK:0<K) (hg:(AHeap.rows K [(0,b)]).get 0=some b),FDoes Try.prog 35 [.slice none 0 0] (AHeap.rows K [(0,b)]) (.int .i64 0) (AHeap.rows K [(0,b)]):=fun K hK hg =>
      rtot_does (H:=AHeap.rows K [(0,b)]) (o:=none) (n:=0) (c:=0) (id:=0) (ver:=0) (off:=0) (b:=b) (x:=fun _=>0) ⟨.inr ⟨rfl,rfl,rfl⟩,hg,by rw [AHeap.rows_next];omega,hi.bare,fun j hj=>by omega⟩ (fun j hj=>by have e:j=0:=(by omega);subst e;simp [sumTo,Fit64]) (by omega)
    exact fin _ (rz_zero (o.map fun a=> {a with id:=0}) c b extent gap (brought_side _ _) (brought_side _ _) (by omega) (by omega) (by omega) (by omega) (Runs.of_loops (Tri.pre (l.post post) pre)) (tn 45 (by omega) (by kernel_rfl)) (by omega) (tn 49 (by omega) (by kernel_rfl)) (by omega) (filled_nil_does (by omega) _)) (by kernel_rfl)
end Go.Proofs.Ytgfkllnaeekjeaa
namespace Go.Lift
def cl3(x m b:Int):Int:=x-max 0 (x-b)+max 0 (m-x)
theorem mulr_le {a b c:Int}(h:a≤b)(hc:0≤c):a*c≤b*c:=Int.mul_le_mul_of_nonneg_right h hc
theorem cl3_scale {x m b c:Int}(hc:0≤c):cl3 x m b*c=cl3 (x*c) (m*c) (b*c):=by
  unfold cl3
  rcases Int.le_total x b with h | h<;>rcases Int.le_total m x with g | g
  · have a1:=mulr_le h hc
    have a2:=mulr_le g hc
    rw [show max 0 (x-b)=0 by omega,show max 0 (m-x)=0 by omega,Int.add_mul,Int.sub_mul,Int.zero_mul];omega
  · have a1:=mulr_le h hc
    have a2:=mulr_le g hc
    rw [show max 0 (x-b)=0 by omega,show max 0 (m-x)=m-x by omega,Int.add_mul,Int.sub_mul,Int.zero_mul,Int.sub_mul];omega
  · have a1:=mulr_le h hc
    have a2:=mulr_le g hc
    rw [show max 0 (x-b)=x-b by omega,show max 0 (m-x)=0 by omega,Int.add_mul,Int.sub_mul,Int.zero_mul,Int.sub_mul];omega
  · have a1:=mulr_le h hc
    have a2:=mulr_le g hc
    rw [show max 0 (x-b)=x-b by omega,show max 0 (m-x)=m-x by omega,Int.add_mul,Int.sub_mul,Int.sub_mul,Int.sub_mul];omega
theorem cl_cl3(p:FP)(P Q:Int)(i:Nat):p.cl P Q i=cl3 (P*p.n i) (Q*p.mn i) (Q*p.bd i):=rfl
theorem cl_common(p:FP){P Q P2 Q2:Int}(hQ:0≤Q)(hQ2:0≤Q2)(i:Nat):p.cl P Q i*Q2=cl3 (P*Q2*p.n i) (Q*Q2*p.mn i) (Q*Q2*p.bd i)∧p.cl P2 Q2 i*Q=cl3 (P2*Q*p.n i) (Q*Q2*p.mn i) (Q*Q2*p.bd i):=by
  rw [cl_cl3,cl_cl3,cl3_scale hQ2,cl3_scale hQ]
  constructor
  · congr 1<;>simp only [Int.mul_assoc,Int.mul_comm,Int.mul_left_comm]
  · congr 1<;>simp only [Int.mul_assoc,Int.mul_comm,Int.mul_left_comm]
theorem cl_mono(p:FP){P Q P2 Q2:Int}(hQ:0≤Q)(hQ2:0≤Q2)(h:P*Q2≤P2*Q){i:Nat}(hn:0≤p.n i)(hle:p.mn i≤p.bd i):p.cl P Q i*Q2≤p.cl P2 Q2 i*Q:=by
  obtain⟨e1,e2⟩:=cl_common p (P:=P) (P2:=P2) hQ hQ2 i
  rw [e1,e2]
  have h1:=mulr_le h hn
  have h2:=wmul_le (Int.mul_nonneg hQ hQ2) hle
  unfold cl3;omega
theorem sumL_lt {f g:Nat→Int} : ∀ {l:List Nat},l≠ []→(∀ i∈l,f i<g i)→sumL f l<sumL g l
  | [],h,_=>absurd rfl h
  | a::l,_,h=>by
    have h1:=sumL_le (f:=f) (g:=g) (l:=l) fun i hi=>by have:=h i (by simp [hi]);omega
    have h2:=h a (by simp)
    simp only [sumL];omega
theorem sumL_mulr(f:Nat→Int)(c:Int)(l:List Nat):sumL (fun i=>f i*c) l=sumL f l*c:=by
  rw [Int.mul_comm,← sumL_mul];exact sumL_congr fun i _=>Int.mul_comm _ _
structure Lev(p:FP)(l:List Nat)(R:Int)(z:Nat→Int)(P Q:Int):Prop where
  q:0<Q
  p0:0≤P
  sum:sumL (p.cl P Q) l=R*Q
  one: ∀ i∈l,z i=p.cl P Q i / Q∨(z i=p.cl P Q i / Q+1∧0<p.cl P Q i % Q)
  ord: ∀ i∈l,∀ j∈l,z i=p.cl P Q i / Q+1→z j=p.cl P Q j / Q→p.cl P Q j % Q<p.cl P Q i % Q∨(p.cl P Q j % Q=p.cl P Q i % Q∧i<j)
theorem pair_getD {l:List Nat}(h:l.Pairwise (· < ·)){a b:Nat}(hab:a<b)(hb:b<l.length):l.getD a 0<l.getD b 0:=by
  have:=List.pairwise_iff_getElem.1 h a b (by omega) hb hab
  simpa [List.getD_eq_getElem?_getD,hb,show a<l.length by omega]using this
theorem lev_stop {p:FP} {l:List Nat} {rest weight:Int} {z:Nat→Int} (hi:FInv p l rest weight) (hl:l≠ []) (hp:l.Pairwise (· < ·)) (ha:p.above rest weight l=0) (hb:p.below rest weight l=0) {out:Nat→Int} {k:Nat}
    (ht:Tops l.length (fun k=>rest*p.n (l.getD k 0) / weight) (fun k=>rest*p.n (l.getD k 0) % weight) k out) (hin: ∀ k,k<l.length→z (l.getD k 0)=out k):Lev p l rest z rest weight:=by
  have hw:=hi.wpos hl
  have hc: ∀ i∈l,p.cl rest weight i=rest*p.n i:=fun i h=>by
    have h1:=FP.above0 ha h
    have h2:=FP.below0 hb h
    unfold FP.cl;omega
  refine⟨hw,hi.rest0,?_,?_,?_⟩
  · rw [cl_sum hi,ha,hb];omega
  · intro i h
    rw [hc i h]
    exact stop_one hi ht hin h
  · intro i h1 j h2
    rw [hc i h1,hc j h2]
    intro e1 e2
    obtain⟨s,hs,es⟩:=mem_getD h1
    obtain⟨t,ht',et⟩:=mem_getD h2
    obtain⟨σ,g1,g2,g3⟩:=ht.ord
    obtain⟨u,hu,eu⟩:=same_onto g1 hs
    obtain⟨v,hv,ev⟩:=same_onto g1 ht'
    have o1:=hin s hs
    have o2:=hin t ht'
    rw [es]at o1;rw [et]at o2
    have uk :u<k:=by
      rcases Nat.lt_or_ge u k with c | c
      · exact c
      · exfalso
        have:topP (fun k=>rest*p.n (l.getD k 0) / weight) σ k s=rest*p.n (l.getD s 0) / weight:=topP_out (y:=fun k=>rest*p.n (l.getD k 0) / weight) fun i hi e=>by
          have:i=u:=by
            rcases Nat.lt_trichotomy i u with c1 | c1 | c1
            · exact absurd (e.trans eu.symm) (same_inj g1 i u c1 hu)
            · exact c1
            · omega
          omega
        rw [g3,this,es]at o1;omega
    have vk :k≤v:=by
      rcases Nat.lt_or_ge v k with c | c
      · exfalso
        have hkn:k≤l.length∨l.length<k:=by omega
        have:topP (fun k=>rest*p.n (l.getD k 0) / weight) σ k t=rest*p.n (l.getD t 0) / weight+1∨l.length<k:=by
          rcases hkn with h | h
          · left;exact topP_in (y:=fun k=>rest*p.n (l.getD k 0) / weight) (fun a b h1 h2=>same_inj g1 a b h1 (by omega)) ⟨v,c,ev⟩
          · exact .inr h
        rcases this with h | h
        · rw [g3,h,et]at o2;omega
        · have h3:=ht.sum
          have h4:sumL out (List.range l.length)≤sumL (fun k=>rest*p.n (l.getD k 0) / weight+1) (List.range l.length):=sumL_le fun i hi=>by
            rcases ht.one i (List.mem_range.1 hi)with e | ⟨e,_⟩<;>omega
          rw [sumL_add,sumL_const,List.length_range]at h4
          omega
      · exact c
    have:=g2 u v (by omega) (by omega) hv
    unfold Lt at this
    simp only [restP,decide_eq_true_eq,decide_eq_false_iff_not,eu,ev,es,et]at this
    rcases this with c | ⟨c1,c2⟩
    · exact .inl c
    · rcases Int.lt_or_le (rest*p.n j % weight) (rest*p.n i % weight)with c3 | c3
      · exact .inl c3
      · right
        refine⟨by omega,?_⟩
        have:=pair_getD hp c2 ht'
        rwa [es,et]at this
theorem mx_up {P Q P2 Q2 n b:Int}(hQ:0<Q)(hQ2:0≤Q2)(hn:0≤n)(h:P*Q2≤P2*Q)(hb:Q*b≤P*n):Q2*b≤P2*n:=by
  have a1:=mulr_le hb hQ2
  have a2:=mulr_le h hn
  have e1:Q*b*Q2=Q2*b*Q:=by simp only [Int.mul_assoc,Int.mul_comm,Int.mul_left_comm]
  have e2:P*n*Q2=P*Q2*n:=by simp only [Int.mul_assoc,Int.mul_comm,Int.mul_left_comm]
  have e3:P2*Q*n=P2*n*Q:=by simp only [Int.mul_assoc,Int.mul_comm,Int.mul_left_comm]
  exact Int.le_of_mul_le_mul_right (show Q2*b*Q≤P2*n*Q by omega) hQ
theorem mn_down {P Q P2 Q2 n b:Int}(hQ:0<Q)(hQ2:0≤Q2)(hn:0≤n)(h:P2*Q≤P*Q2)(hb:P*n≤Q*b):P2*n≤Q2*b:=by
  have a1:=mulr_le hb hQ2
  have a2:=mulr_le h hn
  have e1:Q*b*Q2=Q2*b*Q:=by simp only [Int.mul_assoc,Int.mul_comm,Int.mul_left_comm]
  have e2:P*n*Q2=P*Q2*n:=by simp only [Int.mul_assoc,Int.mul_comm,Int.mul_left_comm]
  have e3:P2*Q*n=P2*n*Q:=by simp only [Int.mul_assoc,Int.mul_comm,Int.mul_left_comm]
  exact Int.le_of_mul_le_mul_right (show P2*n*Q≤Q2*b*Q by omega) hQ
theorem fdiv_mul {a q:Int}(hq:0<q):(q*a) / q=a∧(q*a) % q=0:=⟨Int.mul_ediv_cancel_left _ (by omega),Int.mul_emod_right _ _⟩
theorem lev_round {p:FP} {l:List Nat} {rest weight a b:Int} {y z:Nat→Int} (hi:FInv p l rest weight) (hl:l≠ []) (ha:a=p.above rest weight l) (hb:b=p.below rest weight l)
    (next:Fills p (l.filter fun i=> !p.froz rest weight a b i) (rest-sumL (p.fz rest weight a b) (l.filter (p.froz rest weight a b))) (weight-sumL p.n (l.filter (p.froz rest weight a b))) (fun j=>if j∈l∧p.froz rest weight a b j=true then p.fz rest weight a b j else y j) z)
    (ih:(l.filter fun i=> !p.froz rest weight a b i)≠ []→ ∃ P Q,Lev p (l.filter fun i=> !p.froz rest weight a b i) (rest-sumL (p.fz rest weight a b) (l.filter (p.froz rest weight a b))) z P Q): ∃ P Q,Lev p l rest z P Q:=by
  have hw:=hi.wpos hl
  have hcl:=cl_sum hi
  rw [← ha,← hb]at hcl
  have hi2:=hi.round ha hb hl
  have hsub: ∀ {q:Nat→Bool} {i},i∈l.filter q→i∈l:=fun h=>(List.mem_filter.1 h).1
  have fr: ∀ j,j∈l→p.froz rest weight a b j=true→z j=p.fz rest weight a b j:=by
    intro j hj hf
    rw [next.out j fun k=>by have:=(List.mem_filter.1 k).2;simp [hf]at this]
    exact if_pos ⟨hj,hf⟩
  have how: ∀ i,i∈l→p.froz rest weight a b i=true→(b≤a∧weight*p.bd i≤rest*p.n i∧p.fz rest weight a b i=p.bd i)∨(a≤b∧rest*p.n i≤weight*p.mn i∧p.fz rest weight a b i=p.mn i):=by
    intro i h hf
    by_cases c:p.isMx rest weight a b i=true
    · left
      have c2:=c
      simp only [FP.isMx,Bool.and_eq_true,decide_eq_true_eq]at c2
      exact⟨c2.1,c2.2,by unfold FP.fz;rw [if_pos c]⟩
    · right
      simp only [FP.froz,Bool.or_eq_true,c,Bool.false_eq_true,false_or,FP.isMn,Bool.and_eq_true,decide_eq_true_eq]at hf
      exact⟨hf.2.1,hf.2.2,by unfold FP.fz;rw [if_neg c]⟩
  have hcf: ∀ i∈l.filter (p.froz rest weight a b),weight*p.fz rest weight a b i=p.cl rest weight i:=by
    intro i h
    have hle:=wmul_le (Int.le_of_lt hw) (hi.ok.le i (hsub h))
    rcases how i (hsub h) (List.mem_filter.1 h).2 with ⟨_,h2,e⟩ | ⟨_,h2,e⟩
    · rw [e];unfold FP.cl;omega
    · rw [e];unfold FP.cl;omega
  have s3:weight*sumL (p.fz rest weight a b) (l.filter (p.froz rest weight a b))=sumL (p.cl rest weight) (l.filter (p.froz rest weight a b)):=by
    rw [← sumL_mul];exact sumL_congr hcf
  by_cases c0:(l.filter fun i=> !p.froz rest weight a b i)= []
  ·
    have allf: ∀ i∈l,p.froz rest weight a b i=true:=fun i h=>by
      cases hh:p.froz rest weight a b i with
      | true=>rfl
      | false=>exact absurd (show i∈l.filter (fun i=> !p.froz rest weight a b i)from List.mem_filter.2 ⟨h,by simp [hh]⟩) (by rw [c0];simp)
    have hs:=sumL_filter (p.cl rest weight) (p.froz rest weight a b) l
    rw [c0]at hs
    have lo:=hi2.lo
    have hi':=hi2.hi
    rw [c0]at lo hi'
    simp only [sumL]at hs lo hi'
    have e0:rest=sumL (p.fz rest weight a b) (l.filter (p.froz rest weight a b)):=by omega
    have e1:sumL (p.cl rest weight) l=rest*weight:=by rw [hs,← s3,← e0,Int.mul_comm];omega
    have hz: ∀ i∈l,p.cl rest weight i=weight*p.fz rest weight a b i∧z i=p.fz rest weight a b i:=fun i h=>⟨(hcf i (List.mem_filter.2 ⟨h,allf i h⟩)).symm,fr i h (allf i h)⟩
    refine⟨rest,weight,hw,hi.rest0,e1,?_,?_⟩
    · intro i h
      left
      rw [(hz i h).1,(hz i h).2,(fdiv_mul hw).1]
    · intro i h1 j h2 e3
      rw [(hz i h1).1,(hz i h1).2,(fdiv_mul hw).1]at e3
      omega
  · obtain ⟨P,Q,lv⟩:=ih c0
    have hQ:=lv.q
    have hs:=sumL_filter (p.cl rest weight) (p.froz rest weight a b) l
    have rem:sumL (p.cl rest weight) (l.filter fun i=> !p.froz rest weight a b i)=weight* (rest-sumL (p.fz rest weight a b) (l.filter (p.froz rest weight a b)))-a+b:=by
      rw [Int.mul_sub,s3,Int.mul_comm weight rest];omega
    generalize hL:(l.filter fun i=> !p.froz rest weight a b i)=l' at *
    generalize hR:rest-sumL (p.fz rest weight a b) (l.filter (p.froz rest weight a b))=R' at *
    have inl: ∀ i∈l',i∈l∧p.froz rest weight a b i=false:=fun i h=>by
      rw [← hL]at h
      have:=List.mem_filter.1 h
      exact⟨this.1,by simpa using this.2⟩
    have strict:a=b→ ∀ i∈l',weight*p.mn i<rest*p.n i∧rest*p.n i<weight*p.bd i:=by
      intro e i h
      have hf:=(inl i h).2
      have n1:p.isMx rest weight a b i=false:=by simp only [FP.froz,Bool.or_eq_false_iff]at hf;exact hf.1
      have n2:p.isMn rest weight a b i=false:=by simp only [FP.froz,Bool.or_eq_false_iff]at hf;exact hf.2
      simp only [FP.isMn,n1,Bool.not_false,Bool.true_and,Bool.and_eq_false_iff,decide_eq_false_iff_not]at n2
      simp only [FP.isMx,Bool.and_eq_false_iff,decide_eq_false_iff_not]at n1
      omega
    have sumq:sumL (fun i=>p.cl P Q i*weight) l'=R'*Q*weight:=by rw [sumL_mulr,lv.sum]
    have sumw:sumL (fun i=>p.cl rest weight i*Q) l'=(weight*R'-a+b)*Q:=by rw [sumL_mulr,rem]
    have ew:R'*Q*weight=weight*R'*Q:=by simp only [Int.mul_assoc,Int.mul_comm,Int.mul_left_comm]
    have up :b≤a→rest*Q≤P*weight:=by
      intro hab
      rcases Int.lt_or_le (P*weight) (rest*Q)with c | c
      · exfalso
        by_cases e:a=b
        · have lt:sumL (fun i=>p.cl P Q i*weight) l'<sumL (fun i=>p.cl rest weight i*Q) l':=sumL_lt c0 fun i h=>by
            obtain⟨q1,q2⟩:=cl_common p (P:=P) (Q:=Q) (P2:=rest) (Q2:=weight) (by omega) (by omega) i
            obtain⟨t1,t2⟩:=strict e i h
            have hn:=hi.ok.n i (inl i h).1
            have u1:P*weight*p.n i<rest*Q*p.n i:=Int.mul_lt_mul_of_pos_right c (by omega)
            have u2:weight*p.mn i*Q<rest*p.n i*Q:=Int.mul_lt_mul_of_pos_right t1 hQ
            have u3:rest*p.n i*Q<weight*p.bd i*Q:=Int.mul_lt_mul_of_pos_right t2 hQ
            have v1:weight*p.mn i*Q=Q*weight*p.mn i:=by simp only [Int.mul_assoc,Int.mul_comm,Int.mul_left_comm]
            have v2:rest*p.n i*Q=rest*Q*p.n i:=by simp only [Int.mul_assoc,Int.mul_comm,Int.mul_left_comm]
            have v3:weight*p.bd i*Q=Q*weight*p.bd i:=by simp only [Int.mul_assoc,Int.mul_comm,Int.mul_left_comm]
            rw [q1,q2];unfold cl3;omega
          rw [sumq,sumw,e]at lt
          rw [show weight*R'-b+b=weight*R' by omega,ew]at lt
          omega
        · have le:sumL (fun i=>p.cl P Q i*weight) l'≤sumL (fun i=>p.cl rest weight i*Q) l':=sumL_le fun i h=>cl_mono p (by omega) (by omega) (by omega) (by have:=hi.ok.n i (inl i h).1;omega) (hi.ok.le i (inl i h).1)
          rw [sumq,sumw,ew]at le
          have:(weight*R'-a+b)*Q<weight*R'*Q:=Int.mul_lt_mul_of_pos_right (by omega) hQ
          omega
      · exact c
    have dn :a≤b→P*weight≤rest*Q:=by
      intro hab
      rcases Int.lt_or_le (rest*Q) (P*weight)with c | c
      · exfalso
        by_cases e:a=b
        · have lt:sumL (fun i=>p.cl rest weight i*Q) l'<sumL (fun i=>p.cl P Q i*weight) l':=sumL_lt c0 fun i h=>by
            obtain⟨q1,q2⟩:=cl_common p (P:=P) (Q:=Q) (P2:=rest) (Q2:=weight) (by omega) (by omega) i
            obtain⟨t1,t2⟩:=strict e i h
            have hn:=hi.ok.n i (inl i h).1
            have u1:rest*Q*p.n i<P*weight*p.n i:=Int.mul_lt_mul_of_pos_right c (by omega)
            have u2:weight*p.mn i*Q<rest*p.n i*Q:=Int.mul_lt_mul_of_pos_right t1 hQ
            have u3:rest*p.n i*Q<weight*p.bd i*Q:=Int.mul_lt_mul_of_pos_right t2 hQ
            have v1:weight*p.mn i*Q=Q*weight*p.mn i:=by simp only [Int.mul_assoc,Int.mul_comm,Int.mul_left_comm]
            have v2:rest*p.n i*Q=rest*Q*p.n i:=by simp only [Int.mul_assoc,Int.mul_comm,Int.mul_left_comm]
            have v3:weight*p.bd i*Q=Q*weight*p.bd i:=by simp only [Int.mul_assoc,Int.mul_comm,Int.mul_left_comm]
            rw [q1,q2];unfold cl3;omega
          rw [sumq,sumw,e]at lt
          rw [show weight*R'-b+b=weight*R' by omega,ew]at lt
          omega
        · have le:sumL (fun i=>p.cl rest weight i*Q) l'≤sumL (fun i=>p.cl P Q i*weight) l':=sumL_le fun i h=>cl_mono p (by omega) (by omega) (by omega) (by have:=hi.ok.n i (inl i h).1;omega) (hi.ok.le i (inl i h).1)
          rw [sumq,sumw,ew]at le
          have:weight*R'*Q<(weight*R'-a+b)*Q:=Int.mul_lt_mul_of_pos_right (by omega) hQ
          omega
      · exact c
    have hcq: ∀ i,i∈l→p.froz rest weight a b i=true→p.cl P Q i=Q*p.fz rest weight a b i:=by
      intro i h hf
      have hn:=hi.ok.n i h
      have hle:=wmul_le (Int.le_of_lt hQ) (hi.ok.le i h)
      rcases how i h hf with ⟨h1,h2,e⟩ | ⟨h1,h2,e⟩
      · have:=mx_up hw (by omega) (by omega) (up h1) h2
        rw [e];unfold FP.cl;omega
      · have:=mn_down hw (by omega) (by omega) (dn h1) h2
        rw [e];unfold FP.cl;omega
    have hz: ∀ i,i∈l→p.froz rest weight a b i=true→z i=p.cl P Q i / Q∧p.cl P Q i % Q=0:=fun i h hf=>by
      rw [hcq i h hf,fr i h hf,(fdiv_mul hQ).1,(fdiv_mul hQ).2];exact⟨rfl,rfl⟩
    have stay: ∀ i,i∈l→p.froz rest weight a b i=false→i∈l':=fun i h hf=>by rw [← hL];exact List.mem_filter.2 ⟨h,by simp [hf]⟩
    refine⟨P,Q,hQ,lv.p0,?_,?_,?_⟩
    · rw [sumL_filter (p.cl P Q) (p.froz rest weight a b) l,hL,lv.sum]
      have e3:sumL (p.cl P Q) (l.filter (p.froz rest weight a b))=Q*sumL (p.fz rest weight a b) (l.filter (p.froz rest weight a b)):=by
        rw [← sumL_mul];exact sumL_congr fun i h=>hcq i (hsub h) (List.mem_filter.1 h).2
      rw [e3,← hR,Int.sub_mul,Int.mul_comm Q];omega
    · intro i h
      cases hf:p.froz rest weight a b i with
      | true=>exact .inl (hz i h hf).1
      | false=>exact lv.one i (stay i h hf)
    · intro i h1 j h2 e1 e2
      cases hf:p.froz rest weight a b i with
      | true=>have:=(hz i h1 hf).1;omega
      | false =>
        have i1:=stay i h1 hf
        cases hg:p.froz rest weight a b j with
        | true =>
          left
          rw [(hz j h2 hg).2]
          rcases lv.one i i1 with c | c
          · omega
          · exact c.2
        | false=>exact lv.ord i i1 j (stay j h2 hg) e1 e2
theorem Fills.lev {p:FP}{l:List Nat}{rest weight:Int}{y z:Nat→Int}(h:Fills p l rest weight y z)(hi:FInv p l rest weight)(hp:l.Pairwise (· < ·))(hl:l≠ []): ∃ P Q,Lev p l rest z P Q:=by
  induction h with
  | @stop l rest weight y z ha hb out ht hin hout =>
    obtain⟨k,hk,ht⟩:=ht hl
    exact⟨rest,weight,lev_stop hi hl hp ha hb ht hin⟩
  | @round l rest weight a b y z ha hb h0 next ih =>
    exact lev_round hi hl ha hb next fun c0=>ih (hi.round ha hb hl) (hp.filter _) c0
end Go.Lift
namespace Go.Lift
theorem scale_div {x Q x2 Q2:Int}(hQ:0<Q)(hQ2:0<Q2)(h:x2*Q=x*Q2):x2 / Q2=x / Q∧x2 % Q2*Q=x % Q*Q2:=by
  have e:=Int.mul_ediv_add_emod x Q
  have r0:=Int.emod_nonneg x (show Q≠0 by omega)
  have r1:=Int.emod_lt_of_pos x hQ
  generalize x / Q=d at *
  generalize x % Q=r at *
  have key:(x2-d*Q2)*Q=r*Q2:=by
    rw [Int.sub_mul,h,← e,Int.add_mul]
    have:Q*d*Q2=d*Q2*Q:=by simp only [Int.mul_assoc,Int.mul_comm,Int.mul_left_comm]
    omega
  have a0:0≤x2-d*Q2:=by
    rcases Int.lt_or_le (x2-d*Q2) 0 with c | c
    · have:=Int.mul_neg_of_neg_of_pos c hQ
      have:=Int.mul_nonneg r0 (Int.le_of_lt hQ2)
      omega
    · exact c
  have a1:x2-d*Q2<Q2:=by
    have h1:r*Q2<Q*Q2:=Int.mul_lt_mul_of_pos_right r1 hQ2
    rw [← key,Int.mul_comm Q Q2]at h1
    exact Int.lt_of_mul_lt_mul_right h1 (Int.le_of_lt hQ)
  have ed:x2 / Q2=d:=by
    have:x2=(x2-d*Q2)+Q2*d:=by rw [Int.mul_comm Q2];omega
    rw [this,Int.add_mul_ediv_left _ _ (by omega),Int.ediv_eq_zero_of_lt a0 a1];omega
  refine⟨ed,?_⟩
  have e2:=Int.mul_ediv_add_emod x2 Q2
  rw [ed]at e2
  have:x2 % Q2=x2-d*Q2:=by rw [Int.mul_comm d];omega
  rw [this,key]
theorem sumL_eq_of_le {f g:Nat→Int} : ∀ {l:List Nat},(∀ i∈l,f i≤g i)→sumL g l≤sumL f l→ ∀ i∈l,f i=g i
  | [],_,_,i,hi=>by cases hi
  | a::l,h,hs,i,hi=>by
    have h1:=sumL_le (f:=f) (g:=g) (l:=l) fun i hi=>h i (by simp [hi])
    have h2:=h a (by simp)
    simp only [sumL]at hs
    rcases List.mem_cons.1 hi with e | hi
    · subst e;omega
    · exact sumL_eq_of_le (fun i hi=>h i (by simp [hi])) (by omega) i hi
theorem Lev.same {p:FP} {l:List Nat} {R:Int} {z:Nat→Int} {P Q P2 Q2:Int} (h:Lev p l R z P Q) (hQ2:0<Q2) (hP2:0≤P2) (e: ∀ i∈l,p.cl P2 Q2 i*Q=p.cl P Q i*Q2):Lev p l R z P2 Q2:=by
  have sc:=fun i hi=>scale_div h.q hQ2 (e i hi)
  have hQ:=h.q
  refine⟨hQ2,hP2,?_,?_,?_⟩
  · have h1:sumL (fun i=>p.cl P2 Q2 i*Q) l=sumL (fun i=>p.cl P Q i*Q2) l:=sumL_congr e
    rw [sumL_mulr,sumL_mulr,h.sum]at h1
    have:R*Q*Q2=R*Q2*Q:=by simp only [Int.mul_assoc,Int.mul_comm,Int.mul_left_comm]
    rw [this]at h1
    exact Int.eq_of_mul_eq_mul_right (by omega) h1
  · intro i hi
    rw [(sc i hi).1]
    rcases h.one i hi with c | ⟨c1,c2⟩
    · exact .inl c
    · right
      refine⟨c1,?_⟩
      have h1:=Int.mul_pos c2 hQ2
      rw [← (sc i hi).2]at h1
      rcases Int.lt_or_le 0 (p.cl P2 Q2 i % Q2)with c | c
      · exact c
      · have h3:=mulr_le c (Int.le_of_lt hQ)
        rw [Int.zero_mul]at h3;omega
  · intro i hi j hj e1 e2
    rw [(sc i hi).1]at e1
    rw [(sc j hj).1]at e2
    rcases h.ord i hi j hj e1 e2 with c | ⟨c1,c2⟩
    · left
      have h1:=Int.mul_lt_mul_of_pos_right c hQ2
      rw [← (sc i hi).2,← (sc j hj).2]at h1
      exact Int.lt_of_mul_lt_mul_right h1 (Int.le_of_lt hQ)
    · right
      refine⟨?_,c2⟩
      have h1:p.cl P Q j % Q*Q2=p.cl P Q i % Q*Q2:=by rw [c1]
      rw [← (sc i hi).2,← (sc j hj).2]at h1
      exact Int.eq_of_mul_eq_mul_right (by omega) h1
theorem Lev.raise {p:FP}{l:List Nat}{R:Int}{z:Nat→Int}{P Q p2 q2:Int}(h:Lev p l R z P Q)(ok:p.Ok l)(hq2:0<q2)(hp2:0≤p2)(hle:P*q2≤p2*Q)(hs:sumL (p.cl p2 q2) l≤R*q2):Lev p l R z p2 q2:=by
  have hQ:=h.q
  refine h.same hq2 hp2 ?_
  have mono: ∀ i∈l,p.cl P Q i*q2≤p.cl p2 q2 i*Q:=fun i hi=>cl_mono p (by omega) (by omega) hle (by have:=ok.n i hi;omega) (ok.le i hi)
  have:=sumL_eq_of_le mono (by
    rw [sumL_mulr,sumL_mulr,h.sum]
    have h1:=mulr_le hs (Int.le_of_lt hQ)
    have:R*Q*q2=R*q2*Q:=by simp only [Int.mul_assoc,Int.mul_comm,Int.mul_left_comm]
    omega)
  exact fun i hi=>(this i hi).symm
theorem Lev.below {p:FP}{l:List Nat}{R:Int}{z:Nat→Int}{P Q e n:Int}(h:Lev p l R z P Q)(ok:p.Ok l)(hn:0≤n)(hle:e*Q≤P*n):sumL (p.cl e n) l≤R*n:=by
  have hQ:=h.q
  have h1:sumL (fun i=>p.cl e n i*Q) l≤sumL (fun i=>p.cl P Q i*n) l:=sumL_le fun i hi=>cl_mono p hn (by omega) hle (by have:=ok.n i hi;omega) (ok.le i hi)
  rw [sumL_mulr,sumL_mulr,h.sum]at h1
  have:R*Q*n=R*n*Q:=by simp only [Int.mul_assoc,Int.mul_comm,Int.mul_left_comm]
  rw [this]at h1
  exact Int.le_of_mul_le_mul_right h1 hQ
theorem first_are {f:Nat→Bool} : ∀ {n K:Nat},(∀ s t,s<t→t<n→f t=true→f s=true)→sumL (fun t=>if f t=true then 1 else 0) (List.range n)=(K:Int)→ ∀ t,t<n→(f t=true↔t<K)
  | 0,K,_,_,t,ht=>by omega
  | n + 1,K,hd,hs,t,ht=>by
    rw [List.range_succ,sumL_append]at hs
    simp only [sumL]at hs
    cases hf:f n with
    | true =>
      have all: ∀ s,s<n+1→f s=true:=fun s h=>by
        by_cases c:s=n
        · rw [c];exact hf
        · exact hd s n (by omega) (by omega) hf
      have e:sumL (fun t=>if f t=true then(1:Int)else 0) (List.range n)=sumL (fun _=>1) (List.range n):=sumL_congr fun i hi=>by rw [if_pos (all i (by have:=List.mem_range.1 hi;omega))]
      rw [e,sumL_const,hf,if_pos rfl,List.length_range]at hs
      exact⟨fun _=>by omega,fun _=>all t ht⟩
    | false =>
      rw [hf,if_neg (by simp)]at hs
      have ih:=first_are (f:=f) (n:=n) (K:=K) (fun s t h1 h2=>hd s t h1 (by omega)) (by omega)
      by_cases c:t=n
      · subst c
        have b:sumL (fun t=>if f t=true then(1:Int)else 0) (List.range t)≤sumL (fun _=>1) (List.range t):=sumL_le fun i _=>by split<;>omega
        rw [sumL_const,List.length_range]at b
        rw [hf]
        exact⟨fun h=>by simp at h,fun h=>by omega⟩
      · exact ih t (by omega)
theorem top_choice {n K:Nat}{σ:Nat→Nat}(h:Same (fun j=>j) σ 0 n){r:Nat→Int}(hs:Srt (restP r) σ 0 n){y z:Nat→Int}(hone: ∀ j,j<n→z j=y j∨z j=y j+1)
    (hord: ∀ i j,i<n→j<n→z i=y i+1→z j=y j→r j<r i∨(r j=r i∧i<j)) (hK:sumL z (List.range n)=sumL y (List.range n)+K) (hKn:K≤n): ∀ j,j<n→z j=topP y σ K j:=by
  have perm:=h.perm
  rw [List.map_id',Nat.sub_zero,← List.range_eq_range']at perm
  have s1: ∀ f:Nat→Int,sumL (fun t=>f (σ t)) (List.range n)=sumL f (List.range n):=fun f=>by
    rw [← sumL_map f σ];exact sumL_perm perm
  have lt: ∀ t,t<n→σ t<n:=fun t ht=>same_lt h ht
  have cnt:sumL (fun t=>if decide (z (σ t)=y (σ t)+1)=true then(1:Int)else 0) (List.range n)=K:=by
    have e:sumL (fun t=>z (σ t)) (List.range n)=sumL (fun t=>y (σ t)) (List.range n)+K:=by rw [s1 z,s1 y,hK]
    have e2:sumL (fun t=>z (σ t)) (List.range n)=sumL (fun t=>y (σ t)+(if decide (z (σ t)=y (σ t)+1)=true then(1:Int)else 0)) (List.range n):=sumL_congr fun t ht=>by
      rcases hone (σ t) (lt t (List.mem_range.1 ht))with c | c
      · rw [if_neg (by simp;omega)];omega
      · rw [if_pos (by simp [c])];exact c
    rw [sumL_add]at e2
    omega
  have fst:=first_are (f:=fun t=>decide (z (σ t)=y (σ t)+1)) (n:=n) (K:=K) (fun s t h1 h2 h3=>by
    simp only [decide_eq_true_eq]at h3 ⊢
    rcases hone (σ s) (lt s (by omega))with c | c
    · exfalso
      have h4:=hord (σ t) (σ s) (lt t h2) (lt s (by omega)) h3 c
      have h5:=hs s t (by omega) h1 h2
      unfold Lt at h5
      simp only [restP,decide_eq_true_eq,decide_eq_false_iff_not]at h5
      omega
    · exact c) cnt
  intro j hj
  obtain⟨t,ht,e⟩:=same_onto h hj
  have f1:=fst t ht
  simp only [decide_eq_true_eq]at f1
  rw [e]at f1
  by_cases c:t<K
  · rw [topP_in (fun a b h1 h2=>same_inj h a b h1 (by omega)) ⟨t,c,e⟩]
    exact f1.2 c
  · rw [topP_out fun i hi e2=>by
      have:i≠t:=by omega
      rcases Nat.lt_or_ge i t with c1 | c1
      · exact same_inj h i t c1 ht (e2.trans e.symm)
      · omega]
    rcases hone j hj with c1 | c1
    · exact c1
    · exact absurd (f1.1 c1) c
end Go.Lift
namespace Go.Proofs.Ytgfkllnaeekjeaa
open Go.Lift
set_option maxRecDepth 1000000
def fpB(it:Nat→It):FP:=⟨fun i=>(it i).n,fun i=>(it i).mn,fun i=>if 0<(it i).mx then(it i).mx else 2^24⟩
theorem at_cl {it:Nat→It}{i:Nat}(h:FillIt (it i)){P Q:Int}(hQ:0≤Q)(hb:(it i).mx=0→P* (it i).n≤Q*2^24):atZ (it i) P Q=(fpB it).cl P Q i:=by
  have hm:=h.mn
  have hx:=h.mx
  have c1:(it i).mn*Q=Q* (it i).mn:=Int.mul_comm _ _
  have c2:(it i).mx*Q=Q* (it i).mx:=Int.mul_comm _ _
  show _=P* (it i).n-max 0 (P* (it i).n-Q* (if 0<(it i).mx then(it i).mx else 2^24))+max 0 (Q* (it i).mn-P* (it i).n)
  unfold atZ
  rw [c1,c2]
  by_cases h0:0<(it i).mx
  · rw [if_pos h0]
    have h2:=wmul_le hQ (show(it i).mn≤(it i).mx by omega)
    split
    · omega
    · split<;>omega
  · rw [if_neg h0]
    have h2:=wmul_le hQ (show(it i).mn≤2^24 by omega)
    have h3:=hb (by omega)
    split
    · omega
    · rw [if_neg fun c=>h0 c.1];omega
theorem Lev.congr {p p2:FP}{l:List Nat}{R:Int}{z:Nat→Int}{P Q:Int}(h:Lev p l R z P Q)(e: ∀ i∈l,p2.cl P Q i=p.cl P Q i):Lev p2 l R z P Q:=by
  refine⟨h.q,h.p0,(sumL_congr e).trans h.sum,fun i hi=>by rw [e i hi];exact h.one i hi,fun i hi j hj=>by rw [e i hi,e j hj];exact h.ord i hi j hj⟩
theorem sumTo_opn {it:Nat→It}{f:Nat→Int}(h: ∀ j,¬ (it j).k=3→f j=0)(N:Nat):sumTo f N=sumL f (opn it N):=by
  rw [sumTo_sumL,sumL_filter f (isF it)]
  have:sumL f ((List.range N).filter fun i=> !isF it i)=sumL (fun _=>0) ((List.range N).filter fun i=> !isF it i):=sumL_congr fun j hj=>h j (by
    have:=(List.mem_filter.1 hj).2
    simpa [isF]using this)
  rw [this,sumL_const]
  show sumL f (opn it N)+_=_
  omega
section
variable {eff:Nat→It}(heff: ∀ j,RightIt (eff j)){N:Nat}(hN:N≤4096){R:Int}(hR:0≤R∧R≤4096)
include heff hN hR
theorem okB:(fpB eff).Ok (opn eff N):=by
  have hf: ∀ i∈opn eff N,FillIt (eff i):=fun i h=>(heff i).fill (opn_mem.1 h).2
  refine⟨fun i h=>(hf i h).n.1,fun i h=>(hf i h).mn.1,fun i h=> ?_⟩
  have h1:=(hf i h).mn
  have h2:=(hf i h).mx
  show(eff i).mn≤if 0<(eff i).mx then(eff i).mx else 2^24
  split<;>omega
theorem all_cl {e n:Int}(he:0≤e∧e≤4096)(hn:1≤n):sumTo (allZ eff e n) N=sumL ((fpB eff).cl e n) (opn eff N):=by
  rw [sumTo_opn (it:=eff) (fun j h=>by unfold allZ;rw [if_neg h])]
  refine sumL_congr fun i h=> ?_
  have hk:=(opn_mem.1 h).2
  have hf:=(heff i).fill hk
  unfold allZ
  rw [if_pos hk]
  refine at_cl hf (by omega) fun _=> ?_
  have:=mul_range he.1 he.2 (show 0≤(eff i).n by have:=hf.n;omega) hf.n.2
  have:(1:Int)*2^24≤n*2^24:=mulr_le hn (by omega)
  omega
theorem lev_start {y z:Nat→Int}(inv:FInv (fpOf eff) (opn eff N) R (weightAt eff N))(fl:Fills (fpOf eff) (opn eff N) R (weightAt eff N) y z){p q:Int}(st:StartZ eff N R p q)(hl:opn eff N≠ []) :
    ∃ P Q,Lev (fpB eff) (opn eff N) R z P Q∧p*Q≤P*q∧ ∀ i∈opn eff N,(eff i).mx=0→P* (eff i).n≤Q*2^24:=by
  have hf: ∀ i∈opn eff N,FillIt (eff i):=fun i h=>(heff i).fill (opn_mem.1 h).2
  have hpw:(opn eff N).Pairwise (· < ·):=List.pairwise_lt_range.filter _
  obtain⟨P,Q,lv0⟩:=fl.lev inv hpw hl
  have hQ:=lv0.q
  have ge: ∀ i∈opn eff N,0≤(fpOf eff).cl P Q i:=fun i h=>by
    have h1:=wmul_le (Int.le_of_lt hQ) (inv.ok.le i h)
    have h2:=Int.mul_nonneg (Int.le_of_lt hQ) (inv.ok.mn i h)
    unfold FP.cl;omega
  have le: ∀ i∈opn eff N,(fpOf eff).cl P Q i≤4096*Q:=fun i h=>by
    have h1:=sumL_mem_le ge i h
    rw [lv0.sum]at h1
    have h2:=mulr_le hR.2 (Int.le_of_lt hQ)
    omega
  have small: ∀ i∈opn eff N,(eff i).mx=0→P* (eff i).n≤Q*8192:=fun i h h0=>by
    have h1:=le i h
    have h2:=(hf i h).mn
    have e:(fpOf eff).cl P Q i=P* (eff i).n-max 0 (P* (eff i).n-Q*boundZ (eff i).mx)+max 0 (Q* (eff i).mn-P* (eff i).n):=rfl
    rw [e,show boundZ (eff i).mx=8192 by unfold boundZ;rw [if_neg (by omega)]]at h1
    omega
  have lv:Lev (fpB eff) (opn eff N) R z P Q:=Lev.congr lv0 fun i h=>by
    show P* (eff i).n-max 0 (P* (eff i).n-Q* (if 0<(eff i).mx then(eff i).mx else 2^24))+max 0 (Q* (eff i).mn-P* (eff i).n)=P* (eff i).n-max 0 (P* (eff i).n-Q*boundZ (eff i).mx)+max 0 (Q* (eff i).mn-P* (eff i).n)
    unfold boundZ
    by_cases c:0<(eff i).mx
    · rw [if_pos c,if_pos c]
    · rw [if_neg c,if_neg c]
      have:=small i h (by have:=(hf i h).mx;omega)
      omega
  by_cases c:P*q<p*Q
  · have hs:=st.pq.le
    rw [all_cl heff hN hR st.pq.hp st.pq.hq.1]at hs
    refine⟨p,q,lv.raise (okB heff hN hR) (by have:=st.pq.hq;omega) st.pq.hp.1 (by omega) hs,Int.le_refl _,fun i h _=> ?_⟩
    have h1:=(hf i h).n
    have:=mul_range st.pq.hp.1 st.pq.hp.2 (show 0≤(eff i).n by omega) h1.2
    have:(1:Int)*2^24≤q*2^24:=mulr_le st.pq.hq.1 (by omega)
    omega
  · exact⟨P,Q,lv,by omega,fun i h h0=>by have:=small i h h0;omega⟩
theorem lev_class {z:Nat→Int} {p q P Q:Int} (st:StartZ eff N R p q) (lv:Lev (fpB eff) (opn eff N) R z P Q) (hle:p*Q≤P*q) (hb: ∀ i∈opn eff N,(eff i).mx=0→P* (eff i).n≤Q*2^24) {i:Nat} (hi:i∈opn eff N) :
    (grZ eff p q i=true∧(fpB eff).cl P Q i=P* (eff i).n)∨(grZ eff p q i=false∧(fpB eff).cl P Q i=Q* (atZ (eff i) p q / q)):=by
  have hk:=(opn_mem.1 hi).2
  have hlt:=(opn_mem.1 hi).1
  have hf:=(heff i).fill hk
  have hn:=hf.n
  have hm:=hf.mn
  have hx:=hf.mx
  have hQ:=lv.q
  have hq:=st.pq.hq
  have hp:=st.pq.hp
  have ends: ∀ e,0≤e∧e≤4096→EndOk eff N R p q e (eff i).n→e*Q≤P* (eff i).n→e*q≤p* (eff i).n:=fun e he ok h=>ok (by
    rw [all_cl heff hN hR he hn.1]
    exact lv.below (okB heff hN hR) (by omega) h)
  obtain⟨o1,o2⟩:=st.ends i hlt hk
  have em:=ends _ hm o1
  have ex:=ends (eff i).mx (by omega) o2
  have c1:(eff i).mn*q=q* (eff i).mn:=Int.mul_comm _ _
  have c2:(eff i).mx*q=q* (eff i).mx:=Int.mul_comm _ _
  have c3:(eff i).mn*Q=Q* (eff i).mn:=Int.mul_comm _ _
  have c4:(eff i).mx*Q=Q* (eff i).mx:=Int.mul_comm _ _
  have ecl:(fpB eff).cl P Q i=P* (eff i).n-max 0 (P* (eff i).n-Q* (if 0<(eff i).mx then(eff i).mx else 2^24))+max 0 (Q* (eff i).mn-P* (eff i).n):=rfl
  rw [ecl]
  have up: ∀ b:Int,q*b≤p* (eff i).n→Q*b≤P* (eff i).n:=fun b h=>mx_up (by omega) (by omega) (by omega) hle h
  by_cases h1:p* (eff i).n≥(eff i).mn*q
  · have u1:=up (eff i).mn (by omega)
    by_cases h2:(eff i).mx=0
    · left
      refine⟨by unfold grZ;simp [hk,h1,h2],?_⟩
      rw [if_neg (by omega)]
      have:=hb i hi h2
      omega
    · have h0:0<(eff i).mx:=by omega
      rw [if_pos h0]
      by_cases h3:p* (eff i).n<(eff i).mx*q
      · left
        refine⟨by unfold grZ;simp [hk,h3];omega,?_⟩
        have:P* (eff i).n<(eff i).mx*Q:=by
          rcases Int.lt_or_le (P* (eff i).n) ((eff i).mx*Q)with c | c
          · exact c
          · have:=ex c;omega
        omega
      · right
        refine⟨by unfold grZ;simp only [decide_eq_false_iff_not];rintro ⟨_,_,c | c⟩<;>omega,?_⟩
        have u2:=up (eff i).mx (by omega)
        have u3:=wmul_le (Int.le_of_lt hQ) (show(eff i).mn≤(eff i).mx by omega)
        have ea:atZ (eff i) p q=q* (eff i).mx:=by
          unfold atZ
          rw [if_neg (by omega)]
          split<;>omega
        rw [ea,(fdiv_mul (show 0<q by omega)).1]
        omega
  · right
    refine⟨by unfold grZ;simp only [decide_eq_false_iff_not];rintro ⟨_,c,_⟩;exact h1 c,?_⟩
    have ea:atZ (eff i) p q=q* (eff i).mn:=by
      unfold atZ
      rw [if_pos (by omega)];omega
    have:P* (eff i).n<(eff i).mn*Q:=by
      rcases Int.lt_or_le (P* (eff i).n) ((eff i).mn*Q)with c | c
      · exact c
      · have:=em c;omega
    rw [ea,(fdiv_mul (show 0<q by omega)).1]
    have u3:=wmul_le (Int.le_of_lt hQ) (okB heff hN hR |>.le i hi)
    have u4:Q* (eff i).mn≤Q* (if 0<(eff i).mx then(eff i).mx else 2^24):=u3
    omega
end
end Go.Proofs.Ytgfkllnaeekjeaa
namespace Go.Proofs.Ytgfkllnaeekjeaa
open Go.Lift
set_option maxRecDepth 1000000
theorem gr_not {it:Nat→It}{p q:Int}{j:Nat}(h: ¬ (it j).k=3):grZ it p q j=false:=by
  unfold grZ;simp [h]
theorem some_order {n:Nat}(hn:n<2^44){r:Nat→Int}(hr: ∀ j,j<n→ -(2^60)≤r j∧r j≤2^60): ∃ σ,Same (fun j=>j) σ 0 n∧Srt (restP r) σ 0 n:=by
  obtain⟨σ,h1,h2,_⟩:=top_does hn (x:=r) (y:=fun _=>0) (fun p q hp hq=>by have:=hr p hp;have:=hr q hq;omega) (k:=0) (Nat.zero_le n) (fun j _=>by simp)
  exact⟨σ,h1,h2⟩
section
variable {eff:Nat→It}(heff: ∀ j,RightIt (eff j)){N:Nat}(hN:N≤4096){R:Int}(hR:0≤R∧R≤4096)
include heff hN hR
theorem rnd_of_fills {y z:Nat→Int} (inv:FInv (fpOf eff) (opn eff N) R (weightAt eff N)) (fl:Fills (fpOf eff) (opn eff N) R (weightAt eff N) y z) {p q:Int} (st:StartZ eff N R p q):RndZ eff N R p q y z:=by
  have hf: ∀ i∈opn eff N,FillIt (eff i):=fun i h=>(heff i).fill (opn_mem.1 h).2
  have out:=fl.out
  have nS: ∀ j,¬ (eff j).k=3→j ∉ opn eff N:=fun j h c=>h (opn_mem.1 c).2
  have st0: ∀ j,¬ (eff j).k=3→stZ eff p q j=0:=fun j h=>by unfold stZ;rw [if_neg fun c=>h c.1]
  have gr0: ∀ j,¬ (eff j).k=3→grN eff p q j=0:=fun j h=>by unfold grN;rw [gr_not h];simp
  have rd0: ∀ j,¬ (eff j).k=3→rdY eff p q y j=y j:=fun j h=>by unfold rdY;rw [if_neg fun c=>h c.1]
  have stS:=sumTo_opn (it:=eff) st0 N
  have grS:=sumTo_opn (it:=eff) gr0 N
  by_cases hl:opn eff N= []
  · have k3: ∀ j,j<N→ ¬ (eff j).k=3:=fun j hj c=>by
      have:j∈opn eff N:=opn_mem.2 ⟨hj,c⟩
      rw [hl]at this;cases this
    rw [hl]at stS grS
    simp only [sumL]at stS grS
    refine⟨by unfold leftZ;rw [stS];omega,.inl ⟨grS,fun j hj=> ?_⟩⟩
    rw [rd0 j (k3 j hj),out j (nS j (k3 j hj))]
  · obtain ⟨P,Q,lv,hle,hb⟩:=lev_start heff hN hR inv fl st hl
    have hQ:=lv.q
    have cls:=fun i (hi:i∈opn eff N)=>lev_class heff hN hR st lv hle hb hi
    have k3: ∀ i,i∈opn eff N→(eff i).k=3:=fun i hi=>(opn_mem.1 hi).2
    have stT: ∀ i,i∈opn eff N→grZ eff p q i=true→stZ eff p q i=0∧grN eff p q i=(eff i).n:=fun i hi g=>by
      unfold stZ grN;rw [g];simp
    have stF: ∀ i,i∈opn eff N→grZ eff p q i=false→stZ eff p q i=atZ (eff i) p q / q∧grN eff p q i=0∧rdY eff p q y i=atZ (eff i) p q / q:=fun i hi g=>by
      unfold stZ grN rdY;rw [g];simp [k3 i hi]
    have key:R*Q=Q*sumTo (stZ eff p q) N+P*sumTo (grN eff p q) N:=by
      rw [stS,grS,← sumL_mul,← sumL_mul,← sumL_add,← lv.sum]
      refine sumL_congr fun i hi=> ?_
      rcases cls i hi with ⟨g,e⟩ | ⟨g,e⟩
      · rw [e,(stT i hi g).1,(stT i hi g).2];simp
      · rw [e,(stF i hi g).1,(stF i hi g).2.1];simp
    have gn: ∀ j,0≤grN eff p q j∧grN eff p q j≤4096:=fun j=>by
      have:=(heff j).nn
      unfold grN;split<;>omega
    have w0:0≤grW eff p q N:=sumTo_ge0 fun j _=>(gn j).1
    have wU:grW eff p q N≤N*4096:=sumTo_up fun j _=>(gn j).2
    have LQ:leftZ eff R p q N*Q=P*grW eff p q N:=by
      unfold leftZ grW
      rw [Int.sub_mul,key,Int.mul_comm (sumTo (stZ eff p q) N)];omega
    have L0:0≤leftZ eff R p q N:=by
      rcases Int.lt_or_le (leftZ eff R p q N) 0 with c | c
      · have h1:=Int.mul_neg_of_neg_of_pos c hQ
        have h2:=Int.mul_nonneg lv.p0 w0
        omega
      · exact c
    have stay: ∀ i,i∈opn eff N→grZ eff p q i=false→z i=atZ (eff i) p q / q:=fun i hi g=>by
      have e:(fpB eff).cl P Q i=Q* (atZ (eff i) p q / q):=by
        rcases cls i hi with ⟨g2,e⟩ | ⟨_,e⟩
        · rw [g]at g2;cases g2
        · exact e
      rcases lv.one i hi with c | ⟨_,c⟩
      · rw [c,e,(fdiv_mul hQ).1]
      · rw [e,(fdiv_mul hQ).2]at c;omega
    refine⟨L0,?_⟩
    by_cases hW:grW eff p q N=0
    · left
      refine⟨hW,fun j hj=> ?_⟩
      by_cases hk:(eff j).k=3
      · have hi:j∈opn eff N:=opn_mem.2 ⟨hj,hk⟩
        have g:grZ eff p q j=false:=by
          cases hg:grZ eff p q j with
          | false=>rfl
          | true =>
            have h1:=sumTo_le_one (f:=grN eff p q) (fun i _=>(gn i).1) j hj
            rw [(stT j hi hg).2]at h1
            have:=(hf j hi).n
            unfold grW at hW;omega
        rw [stay j hi g,(stF j hi g).2.2]
      · rw [rd0 j hk,out j (nS j hk)]
    · right
      have W1:0<grW eff p q N:=by omega
      generalize hWg:grW eff p q N=W at *
      generalize hLg:leftZ eff R p q N=L at *
      have sc: ∀ i,i∈opn eff N→grZ eff p q i=true→L* (eff i).n / W=(fpB eff).cl P Q i / Q∧L* (eff i).n % W*Q=(fpB eff).cl P Q i % Q*W:=fun i hi g=>by
        have e:(fpB eff).cl P Q i=P* (eff i).n:=by
          rcases cls i hi with ⟨_,e⟩ | ⟨g2,_⟩
          · exact e
          · rw [g]at g2;cases g2
        refine scale_div hQ W1 ?_
        rw [e]
        have a1:L* (eff i).n*Q=L*Q* (eff i).n:=by simp only [Int.mul_assoc,Int.mul_comm,Int.mul_left_comm]
        rw [a1,LQ]
        simp only [Int.mul_assoc,Int.mul_comm,Int.mul_left_comm]
      have uT: ∀ i,grZ eff p q i=true→reY eff p q L W (rdY eff p q y) i=L* (eff i).n / W∧reR eff p q L W i=L* (eff i).n % W∧reQ eff p q L W i=L* (eff i).n / W:=fun i g=>by
        unfold reY reR reQ;rw [if_pos g,if_pos g,if_pos g];exact⟨rfl,rfl,rfl⟩
      have uF: ∀ i,grZ eff p q i=false→reY eff p q L W (rdY eff p q y) i=rdY eff p q y i∧reR eff p q L W i= -1∧reQ eff p q L W i=0:=fun i g=>by
        unfold reY reR reQ;rw [g];simp
      have notgr: ∀ j,grZ eff p q j=false→j<N→z j=reY eff p q L W (rdY eff p q y) j:=fun j g hj=>by
        rw [(uF j g).1]
        by_cases hk:(eff j).k=3
        · have hi:j∈opn eff N:=opn_mem.2 ⟨hj,hk⟩
          rw [stay j hi g,(stF j hi g).2.2]
        · rw [rd0 j hk,out j (nS j hk)]
      have inS: ∀ j,grZ eff p q j=true→j<N→j∈opn eff N:=fun j g hj=>opn_mem.2 ⟨hj,by
        unfold grZ at g;exact(of_decide_eq_true g).1⟩
      have one: ∀ j,j<N→z j=reY eff p q L W (rdY eff p q y) j∨z j=reY eff p q L W (rdY eff p q y) j+1:=fun j hj=>by
        cases g:grZ eff p q j with
        | false=>exact .inl (notgr j g hj)
        | true =>
          have hi:=inS j g hj
          rw [(uT j g).1,(sc j hi g).1]
          rcases lv.one j hi with c | ⟨c,_⟩
          · exact .inl c
          · exact .inr c
      have rlo: ∀ j,grZ eff p q j=true→0≤reR eff p q L W j∧reR eff p q L W j<W:=fun j g=>by
        rw [(uT j g).2.1];exact⟨Int.emod_nonneg _ (by omega),Int.emod_lt_of_pos _ W1⟩
      have ord: ∀ i j,i<N→j<N→z i=reY eff p q L W (rdY eff p q y) i+1→z j=reY eff p q L W (rdY eff p q y) j→reR eff p q L W j<reR eff p q L W i∨(reR eff p q L W j=reR eff p q L W i∧i<j):=fun i j hi hj e1 e2=>by
        have gi:grZ eff p q i=true:=by
          cases g:grZ eff p q i with
          | true=>rfl
          | false=>have:=notgr i g hi;omega
        have si:=inS i gi hi
        cases gj:grZ eff p q j with
        | false =>
          left
          rw [(uF j gj).2.1]
          have:=rlo i gi;omega
        | true =>
          have sj:=inS j gj hj
          rw [(uT i gi).1,(sc i si gi).1]at e1
          rw [(uT j gj).1,(sc j sj gj).1]at e2
          rw [(uT i gi).2.1,(uT j gj).2.1]
          rcases lv.ord i si j sj e1 e2 with c | ⟨c1,c2⟩
          · left
            have h1:=Int.mul_lt_mul_of_pos_right c W1
            rw [← (sc i si gi).2,← (sc j sj gj).2]at h1
            exact Int.lt_of_mul_lt_mul_right h1 (Int.le_of_lt hQ)
          · right
            refine⟨?_,c2⟩
            have h1:(fpB eff).cl P Q j % Q*W=(fpB eff).cl P Q i % Q*W:=by rw [c1]
            rw [← (sc i si gi).2,← (sc j sj gj).2]at h1
            exact Int.eq_of_mul_eq_mul_right (by omega) h1
      have zS:=(fl.law inv).1
      have reS:=sumTo_opn (it:=eff) (f:=reQ eff p q L W) (fun j h=>(uF j (gr_not h)).2.2) N
      have dS:=sumTo_opn (it:=eff) (f:=fun j=>z j-reY eff p q L W (rdY eff p q y) j) (fun j h=>by
        show z j-reY eff p q L W (rdY eff p q y) j=0
        rw [(uF j (gr_not h)).1,rd0 j h,out j (nS j h)];omega) N
      have sumz:sumL z (opn eff N)=sumL (stZ eff p q) (opn eff N)+sumL (reQ eff p q L W) (opn eff N)+sumL (fun j=>z j-reY eff p q L W (rdY eff p q y) j) (opn eff N):=by
        rw [← sumL_add,← sumL_add]
        refine sumL_congr fun i hi=> ?_
        cases g:grZ eff p q i with
        | true=>rw [(stT i hi g).1,(uT i g).1,(uT i g).2.2];omega
        | false=>rw [(stF i hi g).1,(uF i g).1,(uF i g).2.2,(stF i hi g).2.2];omega
      have hover:overZ eff R p q N=sumTo (fun j=>z j-reY eff p q L W (rdY eff p q y) j) N:=by
        unfold overZ
        rw [hWg,hLg,dS,reS]
        have:L=R-sumTo (stZ eff p q) N:=hLg.symm
        rw [stS]at this
        omega
      have d0:0≤sumTo (fun j=>z j-reY eff p q L W (rdY eff p q y) j) N:=sumTo_ge0 fun j hj=>by
        rcases one j hj with c | c<;>omega
      have d1:sumTo (fun j=>z j-reY eff p q L W (rdY eff p q y) j) N≤N*1:=sumTo_up fun j hj=>by
        rcases one j hj with c | c<;>omega
      obtain⟨σ,g1,g2⟩:=some_order (n:=N) (r:=reR eff p q L W) (by omega) (fun j hj=>by
        cases g:grZ eff p q j with
        | true=>have:=rlo j g;omega
        | false=>rw [(uF j g).2.1];omega)
      have dd:sumTo (fun j=>z j-reY eff p q L W (rdY eff p q y) j) N=sumTo z N-sumTo (reY eff p q L W (rdY eff p q y)) N:=sumTo_sub _ _ N
      refine⟨hW,(overZ eff R p q N).toNat,by rw [hover];omega,by rw [hover];omega,σ,g1,g2,?_⟩
      refine top_choice g1 g2 one ord ?_ (by rw [hover];omega)
      rw [← sumTo_sumL,← sumTo_sumL,hover]
      omega
theorem rsizes_of {z:Nat→Int}(h:SizesZ eff N R z):RSizesZ eff N R z:=by
  rcases h.cases with ⟨c,sh⟩ | ⟨c1,c2,s,sh,hz⟩ | ⟨c1,c2,⟨b1,b2,hz⟩ | ⟨b1,inv,fl⟩⟩
  · exact .inl ⟨c,sh⟩
  · exact .inr (.inl ⟨c1,c2,s,sh,hz⟩)
  · refine .inr (.inr ⟨c1,c2,.inl ⟨b1,b2,fun j hj=> ?_⟩⟩)
    rw [hz j hj]
    by_cases hk:(eff j).k=3
    · rw [if_pos hk,if_pos (opn_mem.2 ⟨hj,hk⟩)]
    · rw [if_neg hk,if_neg fun c=>hk (opn_mem.1 c).2];rfl
  · have r0:=inv.rest0
    have hw0: ∀ j,0≤wantZ R (eff j):=fun j=>by have:=wantZ_range (heff j) hR;have:=(heff j).mn;omega
    have r1:restAt eff (fun j=>wantZ R (eff j)) R N≤4096:=by
      have:0≤sumL (fun j=>wantZ R (eff j)) ((List.range N).filter fun j=> !isF eff j):=sumL_ge0 fun j _=>hw0 j
      unfold restAt;omega
    refine .inr (.inr ⟨c1,c2,.inr ⟨b1,r0,?_,fun p q st=>rnd_of_fills heff hN ⟨r0,r1⟩ inv fl st⟩⟩)
    have e:sumTo (allZ eff 0 1) N=sumL (fun j=>(eff j).mn) (opn eff N):=by
      rw [sumTo_opn (it:=eff) (fun j h=>by unfold allZ;rw [if_neg h])]
      refine sumL_congr fun i hi=> ?_
      have hk:=(opn_mem.1 hi).2
      have hf:=(heff i).fill hk
      have hm:=hf.mn
      have hx:=hf.mx
      unfold allZ atZ
      rw [if_pos hk]
      simp only [Int.zero_mul,Int.mul_one]
      split
      · rfl
      · split<;>omega
    rw [e]
    exact inv.lo
end
end Go.Proofs.Ytgfkllnaeekjeaa
namespace Go.Proofs.Ytgfkllnaeekjeaa
open Go.Lift
set_option maxRecDepth 1000000
theorem lentI_call(o:Option AAddr)(n c:Nat)(b:ABlk)(r r2:ABlk)(hc_0:zqF ((n:Int)+70))(hc_1:(0:Int)≤0∧0≤(n:Int)+70∧(n:Int)+(70:Int)<4611686018427387904∧(40:Int)* ((n:Int)+70)≤281474976710656)(hc_2:abuiltin env Builtin.append {toList:= [26,26]} [.slice (some ⟨5,0,0,0,5⟩) 0 (n+70),.slice o n c] 9 (AHeap.rows 11 [(0,b),(5,.made (List.replicate (n+70) (.agg [.int .i8 (0),zqI 0,zqI 0,zqI 0,zqI 0])) 5 true)])=some (.slice (some ⟨5,0,0,0,5⟩) n (n+70),(AHeap.rows 11 [(0,b),(5,r)])))(hc_3:Runs Try.prog 1 22 (.loop (loopAt Try.prog 15 0)) [(0,.slice o n c),(3,.slice (some ⟨5,0,0,0,5⟩) n (n+70)),(11,zqI 0)] (AHeap.rows 12 [(0,b),(5,r)]) (.exit 0) [(0,.slice o n c),(3,.slice (some ⟨5,0,0,0,5⟩) (n+70) (n+70))] (AHeap.rows 13 [(0,b),(5,r2)]))(hc_4:aslice env.D 26 (.slice (some ⟨5,0,0,0,5⟩) (n+70) (n+70)) none (some (zqI (n:Int))) none=some (.slice (some ⟨5,0,0,0,5⟩) n (n+70))) :
    FDoes Try.prog 15 [.slice o n c] (AHeap.of [b]) (.slice (some ⟨5,0,0,0,5⟩) n (n+70)) (AHeap.rows 18 [(0,b),(5,r2)]) :=
  pcall_does env_ok mixed (hs:= [.go 1002,.go 1003,.act 2002 (.slice (some ⟨5,0,0,0,5⟩) n (n+70)) (fun h=>h.set 5 r),.keep [0,3,11],.loop [(0,.slice o n c),(3,.slice (some ⟨5,0,0,0,5⟩) (n+70) (n+70))] (AHeap.rows 13 [(0,b),(5,r2)]) (.exit 0),.val 7003 (.slice (some ⟨5,0,0,0,5⟩) n (n+70))]) (rs:= []) (by kernel_rfl) (All.cons hc_0 (All.cons hc_1 (All.cons hc_2 (All.cons hc_3 (All.cons hc_4 (All.nil))))))
theorem lentI_step(o:Option AAddr)(n c w:Nat)(b r r2:ABlk)(i:Nat)(hc_0:(i:Int)<70)(hc_1:abuiltin env Builtin.append {toList:= [26,26]} [.slice (some ⟨5,0,0,0,5⟩) w (n+70),.slice (some ⟨15,0,0,0,5⟩) 1 1] 16 (AHeap.set (AHeap.rows 18 [(0,b),(5,r)]) 15 (.made [.agg [.int .i8 (77),zqI 0,zqI 0,zqI 0,zqI 0]] 5 true))=some (.slice (some ⟨5,0,0,0,5⟩) (w+1) (n+70),(AHeap.rows 18 [(0,b),(5,r2),(15,.made [.agg [.int .i8 (77),zqI 0,zqI 0,zqI 0,zqI 0]] 5 true)])))(hc_2:zqF ((i:Int)+1)) :
    Runs Try.prog 1 22 (loopAt Try.prog 15 0) [(0,.slice o n c),(3,.slice (some ⟨5,0,0,0,5⟩) w (n+70)),(11,zqI i)] (AHeap.rows 12 [(0,b),(5,r)]) .normal [(0,.slice o n c),(3,.slice (some ⟨5,0,0,0,5⟩) (w+1) (n+70)),(11,zqI ((i:Int)+1))] (AHeap.rows 20 [(0,b),(5,r2),(15,.made [.agg [.int .i8 (77),zqI 0,zqI 0,zqI 0,zqI 0]] 5 true)]) :=
  ppath_runs env_ok mixed (hs:= [.val 4000 (.bool true),.act 5003 (.slice (some ⟨5,0,0,0,5⟩) (w+1) (n+70)) (fun h=>h.set 5 r2),.go 6000]) (keep:= [0,3,11]) (by kernel_rfl) (All.cons (okT hc_0) (All.cons hc_1 (All.cons hc_2 (All.nil))))
theorem lentI_end(o:Option AAddr)(n c w:Nat)(b r:ABlk) :
    Runs Try.prog 1 22 (loopAt Try.prog 15 0) [(0,.slice o n c),(3,.slice (some ⟨5,0,0,0,5⟩) w (n+70)),(11,.int .i64 70)] (AHeap.rows 12 [(0,b),(5,r)]) (.exit 0) [(0,.slice o n c),(3,.slice (some ⟨5,0,0,0,5⟩) w (n+70))] (AHeap.rows 13 [(0,b),(5,r)]) :=
  ppath_runs env_ok mixed (hs:= []) (keep:= [0,3]) (by kernel_rfl) (All.nil)
noncomputable abbrev zq90_1(o:Option AAddr)(n:Nat)(c:Nat)(i:Nat):Facts:= [(1,.slice o n c),(5,.slice (some ⟨1,0,0,0,5⟩) (n+70) (n+70)),(13,zqI (n+70:Nat)),(14,zqI i)]
section
variable(o:Option AAddr)
include o
theorem keptI_in(n c ver off:Nat)(b:ABlk)(l:List AVal)(i:Nat)(k nn d mn mx:Int)(hc_0:(i:Int)<((n+70):Int))(hc_1:(i:Int)<(n:Int))(hc_2:0≤(i:Int)∧(i:Int)<((n+70):Int)∧5=5)(hc_3:ABlk.elem? (.made l 5 true) 0 (0+Int.toNat (i:Int))=some (.agg [.int .i8 k,zqI nn,zqI d,zqI mn,zqI mx]))(hc_4:aindexAddr env.D 26 (.slice o n c) (zqI (i:Int))=some (.ptr (some ⟨0,ver,off+i,0,5⟩)))(hc_5:ABlk.elem? b ver (off+i)=some (.agg [.int .i8 k,zqI nn,zqI d,zqI mn,zqI mx]))(hc_6:(!(k == k && (nn == nn && (d == d && (mn == mn && (mx == mx && true))))))=false)(hc_7: ¬ ((i:Int)≥(n:Int)))(hc_8:zqF ((i:Int)+1)) :
    Runs Try.prog 2 47 (loopAt Try.prog 18 0) (zq90_1 o n c i) (AHeap.rows 12 [(0,b),(1,.made l 5 true)]) .normal [(1,.slice o n c),(5,.slice (some ⟨1,0,0,0,5⟩) (n+70) (n+70)),(13,zqI ((n+70):Int)),(14,zqI ((i:Int)+1))] (AHeap.rows 46 [(0,b),(1,.made l 5 true)]) :=
  ppath_runs env_ok mixed (hs:= [.val 3000 (.bool true),.val 5003 (.bool true),.go 5007,.ld 5008 (.agg [.int .i8 k,zqI nn,zqI d,zqI mn,zqI mx]),.val 5011 (.ptr (some ⟨0,ver,off+i,0,5⟩)),.ld 5012 (.agg [.int .i8 k,zqI nn,zqI d,zqI mn,zqI mx]),.val 5013 (.bool false),.val 5019 (.bool false),.go 7000]) (keep:= [1,5,13,14]) (by kernel_rfl) (All.cons (okT hc_0) (All.cons (okT hc_1) (All.cons hc_2 (All.cons hc_3 (All.cons hc_4 (All.cons hc_5 (All.cons (congrArg (fun q=>some (AVal.bool q)) hc_6) (All.cons (okF hc_7) (All.cons hc_8 (All.nil))))))))))
section
variable(n c:Nat)(b:ABlk)(l:List AVal)
include n c b l
theorem keptI_out(i:Nat)(hc_0:(i:Int)<((n+70):Int))(hc_1: ¬ ((i:Int)<(n:Int)))(hc_2:(i:Int)≥(n:Int))(hc_3:0≤(i:Int)∧(i:Int)<((n+70):Int)∧5=5)(hc_4:ABlk.elem? (.made l 5 true) 0 (0+Int.toNat (i:Int))=some (.agg [.int .i8 (77),zqI 0,zqI 0,zqI 0,zqI 0]))(hc_6:zqF ((i:Int)+1)) :
    Runs Try.prog 2 47 (loopAt Try.prog 18 0) (zq90_1 o n c i) (AHeap.rows 12 [(0,b),(1,.made l 5 true)]) .normal [(1,.slice o n c),(5,.slice (some ⟨1,0,0,0,5⟩) (n+70) (n+70)),(13,zqI ((n+70):Int)),(14,zqI ((i:Int)+1))] (AHeap.rows 46 [(0,b),(1,.made l 5 true)]) :=
  ppath_runs env_ok mixed (hs:= [.val 3000 (.bool true),.val 5003 (.bool false),.val 5019 (.bool true),.go 5023,.ld 5024 (.agg [.int .i8 77,zqI 0,zqI 0,zqI 0,zqI 0]),.val 5026 (.bool false),.go 7000]) (keep:= [1,5,13,14]) (by kernel_rfl) (All.cons (okT hc_0) (All.cons (okF hc_1) (All.cons (okT hc_2) (All.cons hc_3 (All.cons hc_4 (All.cons (show some (AVal.bool false)=some (AVal.bool false)from congrArg (fun q=>some (AVal.bool q)) (rfl)) (All.cons hc_6 (All.nil))))))))
theorem keptI_end(i:Nat)(hc_0: ¬ ((i:Int)<((n+70):Int))) :
    Runs Try.prog 2 47 (loopAt Try.prog 18 0) (zq90_1 o n c i) (AHeap.rows 12 [(0,b),(1,.made l 5 true)]) (.exit 0) [] (AHeap.rows 13 [(0,b),(1,.made l 5 true)]) :=
  ppath_runs env_ok mixed (hs:= [.val 3000 (.bool false)]) (keep:= []) (by kernel_rfl) (All.cons (okF hc_0) (All.nil))
theorem keptI_call(hc_0:zqF ((n:Int)+70))(hc_1:aslice env.D 26 (.slice (some ⟨1,0,0,0,5⟩) n (n+70)) none (some (zqI ((n:Int)+70))) none=some (.slice (some ⟨1,0,0,0,5⟩) (n+70) (n+70)))(hc_2:Runs Try.prog 2 47 (.loop (loopAt Try.prog 18 0)) [(1,.slice o n c),(5,.slice (some ⟨1,0,0,0,5⟩) (n+70) (n+70)),(13,zqI ((n+70):Int)),(14,zqI 0)] (AHeap.rows 12 [(0,b),(1,.made l 5 true)]) (.exit 0) [] (AHeap.rows 13 [(0,b),(1,.made l 5 true)])) :
    FDoes Try.prog 18 [.slice (some ⟨1,0,0,0,5⟩) n (n+70),.slice o n c] (AHeap.of [b,.made l 5 true]) (AVal.bool true) (AHeap.rows 14 [(0,b),(1,.made l 5 true)]) :=
  pcall_does env_ok mixed (hs:= [.go 1003,.val 1004 (.slice (some ⟨1,0,0,0,5⟩) (n+70) (n+70)),.keep [1,5,13,14],.loop [] (AHeap.rows 13 [(0,b),(1,.made l 5 true)]) (.exit 0)]) (rs:= []) (by kernel_rfl) (All.cons hc_0 (All.cons hc_1 (All.cons hc_2 (All.nil))))
end
section
variable(N c ver off gv gq:Nat)(b r0 r:ABlk)(k n d mn mx t:Int)(hc_0:t≥0)(hc_1:aindexAddr env.D 26 (.slice o N c) (zqI t)=some (.ptr (some ⟨0,ver,off+Int.toNat t,0,5⟩)))(hc_2:ABlk.elem? b ver (off+Int.toNat t)=some (zqA k n d mn mx))
include N c ver off gv gq b r0 r k n d mn mx t hc_0 hc_1 hc_2
theorem turnI_new(hc_3:abuiltin env Builtin.append {toList:= [26,26]} [.slice none 0 0,.slice (some ⟨15,0,0,0,5⟩) 1 1] 16 (AHeap.set (AHeap.rows 18 [(0,b)]) 15 (.made [zqA k n d mn mx] 5 true))=some (.slice (some ⟨16,0,0,0,5⟩) 1 1,(AHeap.rows 18 [(0,b),(15,.made [zqA k n d mn mx] 5 true),(16,r)])))(hc_4:zqF (t-1)) :
    Runs Try.prog 1 20 (loopAt Try.prog 20 0) [(0,.slice o N c),(3,.slice none 0 0),(4,zqI t)] (AHeap.rows 8 [(0,b)]) .normal [(0,.slice o N c),(3,.slice (some ⟨16,0,0,0,5⟩) 1 1),(4,zqI (t-1))] (AHeap.rows 21 [(0,b),(15,.made [zqA k n d mn mx] 5 true),(16,r)]) :=
  ppath_runs env_ok mixed (hs:= [.val 3001 (.bool true),.val 5003 (.ptr (some ⟨0,ver,off+t.toNat,0,5⟩)),.ld 5004 (zqA k n d mn mx),.act 5006 (.slice (some ⟨16,0,0,0,5⟩) 1 1) (fun h=>h.set 16 r),.go 4001]) (keep:= [0,3,4]) (by kernel_rfl) (All.cons (okT hc_0) (All.cons hc_1 (All.cons hc_2 (All.cons hc_3 (All.cons hc_4 (All.nil))))))
theorem turnI_grow(hc_3:abuiltin env Builtin.append {toList:= [26,26]} [.slice (some ⟨16,gv,0,0,5⟩) gq gq,.slice (some ⟨27,0,0,0,5⟩) 1 1] 28 (AHeap.set (AHeap.rows 30 [(0,b),(16,r0)]) 27 (.made [zqA k n d mn mx] 5 true))=some (.slice (some ⟨16,gv+1,0,0,5⟩) (gq+1) (gq+1),(AHeap.rows 30 [(0,b),(16,r),(27,.made [zqA k n d mn mx] 5 true)])))(hc_4:zqF (t-1)) :
    Runs Try.prog 1 20 (loopAt Try.prog 20 0) [(0,.slice o N c),(3,.slice (some ⟨16,gv,0,0,5⟩) gq gq),(4,zqI t)] (AHeap.rows 20 [(0,b),(16,r0)]) .normal [(0,.slice o N c),(3,.slice (some ⟨16,gv+1,0,0,5⟩) (gq+1) (gq+1)),(4,zqI (t-1))] (AHeap.rows 33 [(0,b),(16,r),(27,.made [zqA k n d mn mx] 5 true)]) :=
  ppath_runs env_ok mixed (hs:= [.val 3001 (.bool true),.val 5003 (.ptr (some ⟨0,ver,off+t.toNat,0,5⟩)),.ld 5004 (zqA k n d mn mx),.act 5006 (.slice (some ⟨16,gv+1,0,0,5⟩) (gq+1) (gq+1)) (fun h=>h.set 16 r),.go 4001]) (keep:= [0,3,4]) (by kernel_rfl) (All.cons (okT hc_0) (All.cons hc_1 (All.cons hc_2 (All.cons hc_3 (All.cons hc_4 (All.nil))))))
end
theorem turnI_end(N c gv gq:Nat)(b r0:ABlk)(t:Int)(hc_0: ¬ (t≥0)) :
    Runs Try.prog 1 20 (loopAt Try.prog 20 0) [(0,.slice o N c),(3,.slice (some ⟨16,gv,0,0,5⟩) gq gq),(4,zqI t)] (AHeap.rows 20 [(0,b),(16,r0)]) (.exit 0) [(3,.slice (some ⟨16,gv,0,0,5⟩) gq gq)] (AHeap.rows 22 [(0,b),(16,r0)]) :=
  ppath_runs env_ok mixed (hs:= [.val 3001 (.bool false)]) (keep:= [3]) (by kernel_rfl) (All.cons (okF hc_0) (All.nil))
theorem turnI_end0(N c:Nat)(b:ABlk)(t:Int)(hc_0: ¬ (t≥0)) :
    Runs Try.prog 1 20 (loopAt Try.prog 20 0) [(0,.slice o N c),(3,.slice none 0 0),(4,zqI t)] (AHeap.rows 8 [(0,b)]) (.exit 0) [(3,.slice none 0 0)] (AHeap.rows 10 [(0,b)]) :=
  ppath_runs env_ok mixed (hs:= [.val 3001 (.bool false)]) (keep:= [3]) (by kernel_rfl) (All.cons (okF hc_0) (All.nil))
theorem turnI_call(N c gv:Nat)(b r:ABlk)(hc_0:zqF ((N:Int)-1))(hc_1:Runs Try.prog 1 20 (.loop (loopAt Try.prog 20 0)) [(0,.slice o N c),(3,.slice none 0 0),(4,zqI ((N:Int)-1))] (AHeap.rows 7 [(0,b)]) (.exit 0) [(3,.slice (some ⟨16,gv,0,0,5⟩) N N)] (AHeap.rows 21 [(0,b),(16,r)])) :
    FDoes Try.prog 20 [.slice o N c] (AHeap.of [b]) (.slice (some ⟨16,gv,0,0,5⟩) N N) (AHeap.rows 23 [(0,b),(16,r)]) :=
  pcall_does env_ok mixed (hs:= [.go 2002,.keep [0,3,4],.loop [(3,.slice (some ⟨16,gv,0,0,5⟩) N N)] (AHeap.rows 21 [(0,b),(16,r)]) (.exit 0)]) (rs:= []) (by kernel_rfl) (All.cons hc_0 (All.cons hc_1 (All.nil)))
theorem turnI_call0(c:Nat)(b:ABlk)(hc_0: -9223372036854775808≤ -1∧(-1:Int)≤9223372036854775807)(hc_1:Runs Try.prog 1 20 (.loop (loopAt Try.prog 20 0)) [(0,.slice o 0 c),(3,.slice none 0 0),(4,zqI (-1))] (AHeap.rows 7 [(0,b)]) (.exit 0) [(3,.slice none 0 0)] (AHeap.rows 21 [(0,b)])) :
    FDoes Try.prog 20 [.slice o 0 c] (AHeap.of [b]) (.slice none 0 0) (AHeap.rows 23 [(0,b)]) :=
  pcall_does env_ok mixed (hs:= [.go 2002,.keep [0,3,4],.loop [(3,.slice none 0 0)] (AHeap.rows 21 [(0,b)]) (.exit 0)]) (rs:= []) (by kernel_rfl) (All.cons hc_0 (All.cons hc_1 (All.nil)))
end
end Go.Proofs.Ytgfkllnaeekjeaa
namespace Go.Proofs.Ytgfkllnaeekjeaa
open Go.Lift
set_option maxRecDepth 1000000
def It77:It:=⟨77,0,0,0,0⟩
theorem irows_cut {N i m:Nat}{f g:Nat→It}(h:i+m≤N):putAll (irows N f) i (irows m g)=irows N (fun j=>if i≤j∧j<i+m then g (j-i)else f j):=by
  apply List.ext_getElem?
  intro j
  rw [putAll_get,irows_length,irows_length]
  by_cases hj:j<N
  · rw [show(irows N fun j=>if i≤j∧j<i+m then g (j-i)else f j)[j]? =_ from irows_get hj]
    by_cases c:i≤j∧j<i+m
    · rw [if_pos ⟨c.1,c.2,hj⟩,irows_get (by omega),if_pos c]
    · rw [if_neg (by omega),irows_get hj,if_neg c]
  · rw [if_neg (by omega),List.getElem?_eq_none (by rw [irows_length];omega),List.getElem?_eq_none (by rw [irows_length];omega)]
def lentI(n:Nat)(x:Nat→It)(j:Nat):It:=if j<n then x j else It77
theorem lentI_loop {o:Option AAddr}{n c ver off:Nat}(hs:SlArg o n c 0 ver off 5){b:ABlk}(hb:BareB b)(hn:n≤2^42){x:Nat→It} :
    ∀ (k i:Nat),i+k=70→Loops Try.prog 1 22 (loopAt Try.prog 15 0) [(0,.slice o n c),(3,.slice (some ⟨5,0,0,0,5⟩) (n+i) (n+70)),(11,.int .i64 i)]
      (AHeap.rows 12 [(0,b),(5,.made (irows (n+70) fun j=>if j<n then x j else if j<n+i then It77 else It0) 5 true)])
      (.exit 0) [(0,.slice o n c),(3,.slice (some ⟨5,0,0,0,5⟩) (n+70) (n+70))] (AHeap.rows 13 [(0,b),(5,.made (irows (n+70) (lentI n x)) 5 true)])
  | 0,i,e=>by
    obtain rfl:i=70:=by omega
    rw [show(irows (n+70) fun j=>if j<n then x j else if j<n+70 then It77 else It0)=(irows (n+70) (lentI n x))from irows_congr fun j hj=>by unfold lentI;rw [if_pos hj]]
    exact Loops.last (by simp) (lentI_end o n c (n+70) b _)
  | k +1,i,e=>by
    have hc:Clo (Ids [0,5]) (.slice o n c):=hs.clo (by simp [Ids])
    have hp:(ABlk.made (irows (n+70) fun j=>if j<n then x j else if j<n+i then It77 else It0) 5 true).put (0+(n+i)) [It77.val]= .made (irows (n+70) fun j=>if j<n then x j else if j<n+(i+1)then It77 else It0) 5 true:=by
      rw [put_made,show [It77.val]=irows 1 (fun _=>It77)by simp [irows],irows_cut (by omega)]
      congr 1
      refine irows_congr fun j hj=> ?_
      split<;>split<;>(try split)<;>(try split)<;>first | rfl | omega
    refine Loops.step ((lentI_step o n c (n+i) b _ (.made (irows (n+70) fun j=>if j<n then x j else if j<n+(i+1)then It77 else It0) 5 true) i (by omega) ?_ (by omega)).post ?_) (lentI_loop hs hb hn k (i+1) (by omega))
    · refine(app_put slItem (new:= [It77.val]) (by kernel_rfl) (by simp) (b:= .made (irows (n+70) fun j=>if j<n then x j else if j<n+i then It77 else It0) 5 true) (by simp;omega) (by simp;omega) (by kernel_rfl) rfl (by simp;omega) rfl rfl (by simp [ABlk.made,irows_length];omega)).trans ?_
      rw [hp]
      show some _=some _
      kernel_rfl
    · exact Ent.drop (by kernel_rfl) (by kernel_rfl) (by kernel_rfl) (by kernel_rfl) (by simp [All_cons,All_nil,Clo,hc];simp [Ids]) (by simp only [List.map,All_cons,All_nil,and_true];exact⟨hb.clo _,(irows_bare _ _).clo _⟩)
theorem lentI_does {H:AHeap}{o:Option AAddr}{n c id ver off:Nat}{b:ABlk}{x:Nat→It}(h1:ItemsAt H o n c id ver off b x)(hn:n≤2^42) :
    FDoes Try.prog 15 [.slice o n c] H (.slice (some ⟨H.next,0,0,0,5⟩) n (n+70)) (H.upd [] [.made (irows (n+70) (lentI n x)) 5 true]):=by
  have s1:=h1.sl.at 0
  have l:=lentI_loop s1 h1.bare hn (x:=x) 70 0 (by omega)
  rw [show(irows (n+70) fun j=>if j<n then x j else if j<n+0 then It77 else It0)=(irows (n+70) fun j=>if j<n then x j else It0)from irows_congr fun j hj=>by by_cases h:j<n<;>simp [h]]at l
  have hx:elemsOf 5 (.slice (o.map fun a=> {a with id:=0}) n c) (AHeap.rows 11 [(0,b),(5,ABlk.made (List.replicate (n+70) It0.val) 5 true)])=some (irows n x):=elemsOf_slice s1 (by kernel_rfl) h1.el
  have hp:(ABlk.made (List.replicate (n+70) It0.val) 5 true).put (0+0) (irows n x)= .made (irows (n+70) fun j=>if j<n then x j else It0) 5 true:=by
    rw [put_made,irows_zero,irows_cut (by omega)]
    congr 1
    refine irows_congr fun j hj=> ?_
    simp
  obtain⟨d,xd,t1,t2,t3,t4,t5,t6,t7⟩:=slItem.ty
  have k:=(lentI_call _ n c b (.made (irows (n+70) fun j=>if j<n then x j else It0) 5 true) (.made (irows (n+70) (lentI n x)) 5 true) (by omega) (by omega) (by
      by_cases h0:n=0
      · subst h0
        refine(app_none slItem (hx.trans (by simp [irows])) (by simp) (by simp) (b:=ABlk.made (List.replicate (0+70) It0.val) 5 true) (fun a ha=>by simp at ha;subst ha;exact⟨by kernel_rfl,rfl⟩) (by simp) (by simp)).trans ?_
        rw [show(irows (0+70) fun j=>if j<0 then x j else It0)=List.replicate (0+70) It0.val by rw [irows_zero];exact irows_congr fun j _=>by simp]
      · refine(app_put slItem hx (by intro h;have:=congrArg List.length h;simp [irows_length]at this;omega) (b:=ABlk.made (List.replicate (n+70) It0.val) 5 true) (by simp [irows_length];omega) (by simp [irows_length];omega) (by kernel_rfl) rfl (by simp [irows_length]) rfl rfl (by simp [ABlk.made,irows_length])).trans ?_
        rw [hp,irows_length,Nat.zero_add]
        show some _=some _
        kernel_rfl) (Runs.of_loops l) (aslice_to t1 t2 t3 t4.symm (by omega))).new1 (bn:= .made (irows (n+70) (lentI n x)) 5 true) (by simp [h1.bare]) (irows_bare _ _) (by kernel_rfl) (by kernel_rfl) (by simp) (by simp [Clos,Clo,s1.clo]) (H:=H) [id] (by simp) (by simp [h1.lt]) (by simp [h1.get])
  simpa [h1.sl.back (id':=0) (r:=toBig [id] H.next) rfl,AVal.ren]using k
theorem keptI_loop {o:Option AAddr} {n c ver off:Nat} {b:ABlk} (hs:SlArg o n c 0 ver off 5) (hb:BareB b) {x:Nat→It} (hx: ∀ j,j<n→b.elem? ver (off+j)=some (x j).val) (hn:n≤2^42) :
    ∀ (k i:Nat),i+k=n+70→Loops Try.prog 2 47 (loopAt Try.prog 18 0) [(1,.slice o n c),(5,.slice (some ⟨1,0,0,0,5⟩) (n+70) (n+70)),(13,.int .i64 (n+70:Nat)),(14,.int .i64 i)]
      (AHeap.rows 12 [(0,b),(1,.made (irows (n+70) (lentI n x)) 5 true)]) (.exit 0) [] (AHeap.rows 13 [(0,b),(1,.made (irows (n+70) (lentI n x)) 5 true)])
  | 0,i,e=>by
    obtain rfl:i=n+70:=by omega
    exact Loops.last (by simp) (keptI_end o n c b _ (n+70) (by omega))
  | k + 1,i,e=>by
    have hc:Clo (Ids [0,1]) (.slice o n c):=hs.clo (by simp [Ids])
    have hel:(ABlk.made (irows (n+70) (lentI n x)) 5 true).elem? 0 (0+Int.toNat (i:Int))=some (lentI n x i).val:=by
      rw [show 0+Int.toNat (i:Int)=i by simp];exact elem_made (irows_get (by omega))
    have dr: ∀ K,Ent 2 47 [(1,.slice o n c),(5,.slice (some ⟨1,0,0,0,5⟩) (n+70) (n+70)),(13,.int .i64 (n+70:Nat)),(14,.int .i64 (i+1:Nat))] (AHeap.rows K [(0,b),(1,.made (irows (n+70) (lentI n x)) 5 true)])
        [(1,.slice o n c),(5,.slice (some ⟨1,0,0,0,5⟩) (n+70) (n+70)),(13,.int .i64 (n+70:Nat)),(14,.int .i64 (i+1:Nat))] (AHeap.rows 12 [(0,b),(1,.made (irows (n+70) (lentI n x)) 5 true)]):=fun K =>
      Ent.drop (by kernel_rfl) (by kernel_rfl) (by kernel_rfl) (by kernel_rfl) (by simp [All_cons,All_nil,Clo,hc];simp [Ids]) (by simp only [List.map,All_cons,All_nil,and_true];exact⟨hb.clo _,(irows_bare _ _).clo _⟩)
    by_cases h:i<n
    · rw [show lentI n x i=x i by unfold lentI;rw [if_pos h]]at hel
      exact Loops.round (keptI_in o n c ver off b _ i (x i).k (x i).n (x i).d (x i).mn (x i).mx (by omega) (by omega) ⟨by omega,by omega,rfl⟩ hel (ix_itS hs h) (hx i h) (by simp) (by omega) (by omega)) (dr _) (keptI_loop hs hb hx hn k (i+1) (by omega))
    · rw [show lentI n x i=It77 by unfold lentI;rw [if_neg h]]at hel
      exact Loops.round (keptI_out o n c b _ i (by omega) (by omega) (by omega) ⟨by omega,by omega,rfl⟩ hel (by omega)) (dr _) (keptI_loop hs hb hx hn k (i+1) (by omega))
theorem keptI_does {H:AHeap}{o:Option AAddr}{n c id id2 ver off:Nat}{b:ABlk}{x:Nat→It}(h1:ItemsAt H o n c id ver off b x)(hg:H.get id2=some (.made (irows (n+70) (lentI n x)) 5 true))(hlt:id2<H.next)(hne:id≠id2)(hn:n≤2^42) :
    FDoes Try.prog 18 [.slice (some ⟨id2,0,0,0,5⟩) n (n+70),.slice o n c] H (.bool true) H:=by
  have s1:=h1.sl.at 0
  obtain⟨d,xd,t1,t2,t3,t4,t5,t6,t7⟩:=slItem.ty
  have k:=(keptI_call _ n c b _ (by omega) (aslice_to (m:=n+70) t1 t2 t3 t4.symm (by omega)) (Runs.of_loops (keptI_loop s1 h1.bare h1.el hn (n+70) 0 (by omega)))).pure
    (by simp [h1.bare];exact irows_bare _ _) (by kernel_rfl) (Bare.bool _) (by simp [Clos,Clo,s1.clo]) (H:=H) [id,id2] (by simp [hne]) (by simp [h1.lt,hlt]) (by simp [h1.get,hg])
  simpa [h1.sl.back (id':=0) (r:=toBig [id,id2] H.next) rfl,AVal.ren,AAddr.ren,toBig]using k
theorem app_rowJ {f:Nat→It}{v id:Nat}(hv:v≤2^42)(x:It)(hx1:f (1+v)=x)(t K:Nat)(hp:AHeap)(hg:hp.get id=some (gRowI f 1 v))(hx:elemsOf 5 (.slice (some ⟨t,0,0,0,5⟩) 1 1) hp=some [x.val]) :
    abuiltin env .append #[26,26] [.slice (some ⟨id,v,0,0,5⟩) (1+v) (1+v),.slice (some ⟨t,0,0,0,5⟩) 1 1] K hp=some (.slice (some ⟨id,v+1,0,0,5⟩) (1+v+1) (1+v+1),hp.set id (gRowI f 1 (v+1))):=by
  refine(app_grow slItem hx (by simp) (b:=gRowI f 1 v) (by simp;omega) (by simp;omega) hg rfl (by simp) rfl rfl rfl (by simp [gRowI,irows_length])).trans ?_
  rw [← hx1,gRowI_grow];rfl
theorem app_rowJ1 {f:Nat→It}{id:Nat}(x:It)(hx1:f 0=x)(t:Nat)(hp:AHeap)(hx:elemsOf 5 (.slice (some ⟨t,0,0,0,5⟩) 1 1) hp=some [x.val]) :
    abuiltin env .append #[26,26] [.slice none 0 0,.slice (some ⟨t,0,0,0,5⟩) 1 1] id hp=some (.slice (some ⟨id,0,0,0,5⟩) 1 1,hp.set id (gRowI f 1 0)):=by
  refine(app_new slItem hx (by simp) (by simp) (by simp)).trans ?_
  have:gRowI f 1 0= .made [x.val] 5 false:=by rw [← hx1];rfl
  rw [this];rfl
def turnF(n:Nat)(x:Nat→It)(j:Nat):It:=x (n-1-j)
theorem ix_itI {o:Option AAddr}{n c id ver off:Nat}(h:SlArg o n c id ver off 5){t:Int}{i:Nat}(ht:t=(i:Int))(hi:i<n):aindexAddr env.D 26 (.slice o n c) (.int .i64 t)=some (.ptr (some ⟨id,ver,off+Int.toNat t,0,5⟩)):=by
  subst ht
  rw [show Int.toNat (i:Int)=i by simp]
  exact ix_itS h hi
section
variable {n:Nat}(hn:n≤2^42){o:Option AAddr}{c ver off:Nat}{b:ABlk}(hs:SlArg o n c 0 ver off 5)(hb:BareB b){x:Nat→It}(hx: ∀ j,j<n→b.elem? ver (off+j)=some (x j).val)
include hn hs hb hx
theorem turnI_loop: ∀ (k v:Nat),1+v+k=n →
    Loops Try.prog 1 20 (loopAt Try.prog 20 0) [(0,.slice o n c),(3,.slice (some ⟨16,v,0,0,5⟩) (1+v) (1+v)),(4,.int .i64 ((k:Int)-1))] (AHeap.rows 20 [(0,b),(16,gRowI (turnF n x) 1 v)]) (.exit 0)
      [(3,.slice (some ⟨16,n-1,0,0,5⟩) n n)] (AHeap.rows 21 [(0,b),(16,gRowI (turnF n x) 1 (n-1))])
  | 0,v,e=>by
    have hv:v=n-1:=by omega
    rw [hv,show 1+(n-1)=n by omega]
    refine(Loops.last (by simp) (turnI_end o n c (n-1) n b _ _ (by omega))).post ?_
    exact Ent.drop (by kernel_rfl) (by kernel_rfl) (by kernel_rfl) (by kernel_rfl) (by simp [All_cons,All_nil,Clo,Ids]) (by simp only [List.map,All_cons,All_nil,and_true];exact⟨hb.clo _,(gRowI_bare _ _ _).clo _⟩)
  | k+1,v,e=>by
    have hc:Clo (Ids [0,16]) (.slice o n c):=hs.clo (by simp [Ids])
    have ih:=turnI_loop k (v+1) (by omega)
    rw [show 1+(v+1)=1+v+1 by omega,show(k:Int)-1=((k+1:Nat):Int)-1-1 by omega]at ih
    have et:((k+1:Nat):Int)-1=(k:Int):=by omega
    have hk:Int.toNat (((k+1:Nat):Int)-1)=k:=by omega
    have ev:turnF n x (1+v)=x k:=by unfold turnF;congr 1;omega
    refine Loops.step ((turnI_grow o n c ver off v (1+v) b _ (gRowI (turnF n x) 1 (v+1)) (x k).k (x k).n (x k).d (x k).mn (x k).mx (((k+1:Nat):Int)-1) (by omega) (ix_itI hs et (by omega)) (by rw [hk];exact hx k (by omega)) ((app_rowJ (f:=turnF n x) (by omega) (x k) ev _ _ _ (by kernel_rfl) (by kernel_rfl)).trans (by kernel_rfl)) (by omega)).post ?_) ih
    exact Ent.drop (by kernel_rfl) (by kernel_rfl) (by kernel_rfl) (by kernel_rfl) (by simp only [List.map,All_cons,All_nil,and_true];exact⟨hc,by simp [Clo,Ids],by simp [Clo]⟩) (by simp only [List.map,All_cons,All_nil,and_true];exact⟨hb.clo _,(gRowI_bare _ _ _).clo _⟩)
theorem turnI_loop0(h1:1≤n):Loops Try.prog 1 20 (loopAt Try.prog 20 0) [(0,.slice o n c),(3,.slice none 0 0),(4,.int .i64 ((n:Int)-1))] (AHeap.rows 7 [(0,b)]) (.exit 0)
      [(3,.slice (some ⟨16,n-1,0,0,5⟩) n n)] (AHeap.rows 21 [(0,b),(16,gRowI (turnF n x) 1 (n-1))]):=by
  have hc:Clo (Ids [0,16]) (.slice o n c):=hs.clo (by simp [Ids])
  have hc0:Clo (Ids [0]) (.slice o n c):=hs.clo (by simp [Ids])
  have ih:=turnI_loop hn hs hb hx (n-1) 0 (by omega)
  have et:((n:Nat):Int)-1=((n-1:Nat):Int):=by omega
  have hk:Int.toNat ((n:Int)-1)=n-1:=by omega
  rw [show((n-1:Nat):Int)-1=(n:Int)-1-1 by omega]at ih
  have pre:Ent 1 20 [(0,.slice o n c),(3,.slice none 0 0),(4,.int .i64 ((n:Int)-1))] (AHeap.rows 7 [(0,b)]) [(0,.slice o n c),(3,.slice none 0 0),(4,.int .i64 ((n:Int)-1))] (AHeap.rows 8 [(0,b)]) :=
    Ent.drop (by kernel_rfl) (by kernel_rfl) (by kernel_rfl) (by kernel_rfl) (by simp only [List.map,All_cons,All_nil,and_true];exact⟨hc0,by simp [Clo],by simp [Clo]⟩) (by simp only [List.map,All_cons,All_nil,and_true];exact hb.clo _)
  have e0:turnF n x 0=x (n-1):=by unfold turnF;congr 1
  refine Tri.pre (Loops.step ((turnI_new o n c ver off 0 0 b b (gRowI (turnF n x) 1 0) (x (n-1)).k (x (n-1)).n (x (n-1)).d (x (n-1)).mn (x (n-1)).mx ((n:Int)-1) (by omega) (ix_itI hs et (by omega)) (by rw [hk];exact hx _ (by omega)) ((app_rowJ1 (f:=turnF n x) (x (n-1)) e0 _ _ (by kernel_rfl)).trans (by kernel_rfl)) (by omega)).post ?_) ih) pre
  exact Ent.drop (by kernel_rfl) (by kernel_rfl) (by kernel_rfl) (by kernel_rfl) (by simp only [List.map,All_cons,All_nil,and_true];exact⟨hc,by simp [Clo,Ids],by simp [Clo]⟩) (by simp only [List.map,All_cons,All_nil,and_true];exact⟨hb.clo _,(gRowI_bare _ _ _).clo _⟩)
end
theorem turnI_does {H:AHeap}{o:Option AAddr}{n c id ver off:Nat}{b:ABlk}{x:Nat→It}(h1:ItemsAt H o n c id ver off b x)(hn:n≤2^42) :
    ∃ (o':Option AAddr) (c':Nat),SlArg o' n c' H.next (n-1) 0 5∧FDoes Try.prog 20 [.slice o n c] H (.slice o' n c') (H.upd [] [gRowI (turnF n x) 1 (n-1)]):=by
  have s1:=h1.sl.at 0
  by_cases h0:n=0
  · subst h0
    refine⟨none,0,.inr ⟨rfl,rfl,rfl⟩,?_⟩
    have l:=Loops.last (e:= .exit 0) (by simp) (turnI_end0 (o.map fun a=> {a with id:=0}) 0 c b (-1) (by omega))
    have pre:Ent 1 20 [(0,.slice (o.map fun a=> {a with id:=0}) 0 c),(3,.slice none 0 0),(4,.int .i64 (-1))] (AHeap.rows 7 [(0,b)]) [(0,.slice (o.map fun a=> {a with id:=0}) 0 c),(3,.slice none 0 0),(4,.int .i64 (-1))] (AHeap.rows 8 [(0,b)]) :=
      Ent.drop (by kernel_rfl) (by kernel_rfl) (by kernel_rfl) (by kernel_rfl) (by simp only [List.map,All_cons,All_nil,and_true];exact⟨s1.clo (by simp [Ids]),by simp [Clo],by simp [Clo]⟩) (by simp only [List.map,All_cons,All_nil,and_true];exact h1.bare.clo _)
    have post: ∀ K (hK: [(0,b)].map (fun p=>(AHeap.rows K [(0,b)]).get p.1)= [(0,b)].map (fun p=>some p.2)),Ent 1 20 [(3,.slice none 0 0)] (AHeap.rows K [(0,b)]) [(3,.slice none 0 0)] (AHeap.rows 21 [(0,b)]):=fun K hK =>
      Ent.drop hK (by kernel_rfl) (by kernel_rfl) (by kernel_rfl) (by simp [All_cons,All_nil,Clo]) (by simp only [List.map,All_cons,All_nil,and_true];exact h1.bare.clo _)
    have k:=(turnI_call0 (o.map fun a=> {a with id:=0}) c b (by omega) (Runs.of_loops (Tri.pre (l.post (post _ (by kernel_rfl))) pre))).pure (by simp [h1.bare]) (by kernel_rfl) ⟨fun _=>rfl,by simp [Clo]⟩ (by simp [Clos,Clo,s1.clo]) (H:=H) [id] (by simp) (by simp [h1.lt]) (by simp [h1.get])
    have k2:FDoes Try.prog 20 [.slice o 0 c] H (.slice none 0 0) H:=by simpa [h1.sl.back (id':=0) (r:=toBig [id] H.next) rfl,AVal.ren]using k
    exact k2.pad1 _
  · refine⟨some ⟨H.next,n-1,0,0,5⟩,n,.inl rfl,?_⟩
    have l:=turnI_loop0 hn s1 h1.bare h1.el (by omega)
    have k:=(turnI_call (o.map fun a=> {a with id:=0}) n c (n-1) b (gRowI (turnF n x) 1 (n-1)) (by omega) (Runs.of_loops l)).new1 (bn:=gRowI (turnF n x) 1 (n-1)) (by simp [h1.bare]) (gRowI_bare _ _ _) (by kernel_rfl) (by kernel_rfl) (by simp) (by simp [Clos,Clo,s1.clo]) (H:=H) [id] (by simp) (by simp [h1.lt]) (by simp [h1.get])
    simpa [h1.sl.back (id':=0) (r:=toBig [id] H.next) rfl,AVal.ren]using k
end Go.Proofs.Ytgfkllnaeekjeaa
namespace Go.Proofs.Ytgfkllnaeekjeaa
open Go.Lift
set_option maxRecDepth 1000000
noncomputable abbrev zq92_1(b:ABlk)(b2:ABlk)(rw:ABlk)(rm:ABlk)(rl:ABlk)(rk:ABlk)(ra:ABlk)(rb:ABlk)(rc:ABlk)(rd:ABlk):List (Nat×ABlk):= [(0,b),(1,b2),(8,rw),(14,rm),(18,rl),(22,rk),(28,ra),(34,rb),(40,rc),(46,rd)]
noncomputable abbrev zq92_2(b:ABlk)(b2:ABlk)(rw:ABlk)(rm:ABlk)(rl:ABlk)(rk:ABlk)(ra2:ABlk)(rb:ABlk)(rc2:ABlk)(rd:ABlk):List (Nat×ABlk):= [(0,b),(1,b2),(8,rw),(14,rm),(18,rl),(22,rk),(28,ra2),(34,rb),(40,rc2),(46,rd)]
noncomputable abbrev zq92_3(b:ABlk)(b2:ABlk)(rw:ABlk)(rl2:ABlk)(rb:ABlk)(rt:ABlk)(re:ABlk)(rf:ABlk):List (Nat×ABlk):= [(0,b),(1,b2),(8,rw),(18,rl2),(34,rb),(112,rt),(157,re),(158,rf)]
theorem sz8_call(o o2 ow om oa ob oc od oe og ot:Option AAddr)(n c n2 c2 mw cw mm cm ma ca mb cb mc cc md cd me ce mf cf ct:Nat)(extent gap:Int)(b b2 rw rm rl rk ra rb rc rd ra2 rc2 rt rl2 re rf:ABlk)(hc_0:FDoes Try.prog 14 [.slice o n c,zqI extent,zqI gap] (AHeap.rows 8 [(0,b),(1,b2)]) (.slice ow mw cw) (AHeap.rows 9 [(0,b),(1,b2),(8,rw)]))(hc_1:FDoes Try.prog 14 [.slice o2 n2 c2,zqI gap,zqI extent] (AHeap.rows 14 [(0,b),(1,b2),(8,rw)]) (.slice om mm cm) (AHeap.rows 15 [(0,b),(1,b2),(8,rw),(14,rm)]))(hc_2:FDoes Try.prog 15 [.slice o n c] (AHeap.rows 18 [(0,b),(1,b2),(8,rw),(14,rm)]) (.slice (some ⟨18,0,0,0,5⟩) n (n+70)) (AHeap.rows 19 [(0,b),(1,b2),(8,rw),(14,rm),(18,rl)]))(hc_3:FDoes Try.prog 15 [.slice o2 n2 c2] (AHeap.rows 22 [(0,b),(1,b2),(8,rw),(14,rm),(18,rl)]) (.slice (some ⟨22,0,0,0,5⟩) n2 (n2+70)) (AHeap.rows 23 [(0,b),(1,b2),(8,rw),(14,rm),(18,rl),(22,rk)]))(hc_4:FDoes Try.prog 16 [.slice (some ⟨18,0,0,0,5⟩) n (n+70),zqI extent,zqI gap] (AHeap.rows 28 [(0,b),(1,b2),(8,rw),(14,rm),(18,rl),(22,rk)]) (.slice oa ma ca) (AHeap.rows 29 [(0,b),(1,b2),(8,rw),(14,rm),(18,rl),(22,rk),(28,ra)]))(hc_5:FDoes Try.prog 16 [.slice (some ⟨18,0,0,0,5⟩) n (n+70),zqI extent,zqI gap] (AHeap.rows 34 [(0,b),(1,b2),(8,rw),(14,rm),(18,rl),(22,rk),(28,ra)]) (.slice ob mb cb) (AHeap.rows 35 [(0,b),(1,b2),(8,rw),(14,rm),(18,rl),(22,rk),(28,ra),(34,rb)]))(hc_6:FDoes Try.prog 16 [.slice (some ⟨22,0,0,0,5⟩) n2 (n2+70),zqI gap,zqI extent] (AHeap.rows 40 [(0,b),(1,b2),(8,rw),(14,rm),(18,rl),(22,rk),(28,ra),(34,rb)]) (.slice oc mc cc) (AHeap.rows 41 [(0,b),(1,b2),(8,rw),(14,rm),(18,rl),(22,rk),(28,ra),(34,rb),(40,rc)]))(hc_7:FDoes Try.prog 16 [.slice (some ⟨18,0,0,0,5⟩) n (n+70),zqI extent,zqI gap] (AHeap.rows 46 [(0,b),(1,b2),(8,rw),(14,rm),(18,rl),(22,rk),(28,ra),(34,rb),(40,rc)]) (.slice od md cd) (AHeap.rows 47 (zq92_1 b b2 rw rm rl rk ra rb rc rd)))(hc_8:FDoes Try.prog 17 [.slice oa ma ca,.slice ow mw cw] (AHeap.rows 81 (zq92_1 b b2 rw rm rl rk ra rb rc rd)) (AVal.bool true) (AHeap.rows 81 (zq92_1 b b2 rw rm rl rk ra rb rc rd)))(hc_9:FDoes Try.prog 17 [.slice ob mb cb,.slice ow mw cw] (AHeap.rows 81 (zq92_1 b b2 rw rm rl rk ra rb rc rd)) (AVal.bool true) (AHeap.rows 81 (zq92_1 b b2 rw rm rl rk ra rb rc rd)))(hc_10:FDoes Try.prog 17 [.slice oc mc cc,.slice om mm cm] (AHeap.rows 81 (zq92_1 b b2 rw rm rl rk ra rb rc rd)) (AVal.bool true) (AHeap.rows 81 (zq92_1 b b2 rw rm rl rk ra rb rc rd)))(hc_11:FDoes Try.prog 17 [.slice od md cd,.slice ow mw cw] (AHeap.rows 81 (zq92_1 b b2 rw rm rl rk ra rb rc rd)) (AVal.bool true) (AHeap.rows 81 (zq92_1 b b2 rw rm rl rk ra rb rc rd)))(hc_12:FDoes Try.prog 18 [.slice (some ⟨18,0,0,0,5⟩) n (n+70),.slice o n c] (AHeap.rows 81 (zq92_1 b b2 rw rm rl rk ra rb rc rd)) (AVal.bool true) (AHeap.rows 81 (zq92_1 b b2 rw rm rl rk ra rb rc rd)))(hc_13:FDoes Try.prog 18 [.slice (some ⟨22,0,0,0,5⟩) n2 (n2+70),.slice o2 n2 c2] (AHeap.rows 81 (zq92_1 b b2 rw rm rl rk ra rb rc rd)) (AVal.bool true) (AHeap.rows 81 (zq92_1 b b2 rw rm rl rk ra rb rc rd)))(hc_21:FDoes Try.prog 19 [.slice oa ma ca,.slice oc mc cc] (AHeap.rows 109 (zq92_1 b b2 rw rm rl rk ra rb rc rd)) (AVal.bool true) (AHeap.rows 109 (zq92_2 b b2 rw rm rl rk ra2 rb rc2 rd)))(hc_22:FDoes Try.prog 17 [.slice ob mb cb,.slice ow mw cw] (AHeap.rows 109 (zq92_2 b b2 rw rm rl rk ra2 rb rc2 rd)) (AVal.bool true) (AHeap.rows 109 (zq92_2 b b2 rw rm rl rk ra2 rb rc2 rd)))(hc_23:FDoes Try.prog 17 [.slice od md cd,.slice ow mw cw] (AHeap.rows 109 (zq92_2 b b2 rw rm rl rk ra2 rb rc2 rd)) (AVal.bool true) (AHeap.rows 109 (zq92_2 b b2 rw rm rl rk ra2 rb rc2 rd)))(hc_24:FDoes Try.prog 18 [.slice (some ⟨18,0,0,0,5⟩) n (n+70),.slice o n c] (AHeap.rows 109 (zq92_2 b b2 rw rm rl rk ra2 rb rc2 rd)) (AVal.bool true) (AHeap.rows 109 (zq92_2 b b2 rw rm rl rk ra2 rb rc2 rd)))(hc_25:FDoes Try.prog 18 [.slice (some ⟨22,0,0,0,5⟩) n2 (n2+70),.slice o2 n2 c2] (AHeap.rows 109 (zq92_2 b b2 rw rm rl rk ra2 rb rc2 rd)) (AVal.bool true) (AHeap.rows 109 (zq92_2 b b2 rw rm rl rk ra2 rb rc2 rd)))(hc_28:FDoes Try.prog 20 [.slice o n c] (AHeap.rows 112 (zq92_2 b b2 rw rm rl rk ra2 rb rc2 rd)) (.slice ot n ct) (AHeap.rows 113 [(0,b),(1,b2),(8,rw),(14,rm),(18,rl),(22,rk),(28,ra2),(34,rb),(40,rc2),(46,rd),(112,rt)]))(hc_29:Runs Try.prog 2 141 (.loop (loopAt Try.prog 4 0)) [(1,zqI extent),(2,zqI gap),(9,.slice ow mw cw),(11,.slice (some ⟨18,0,0,0,5⟩) n (n+70)),(14,.slice ob mb cb),(17,.slice ot n ct),(112,zqI (n:Int)),(113,zqI 0)] (AHeap.rows 116 [(0,b),(1,b2),(8,rw),(14,rm),(18,rl),(22,rk),(28,ra2),(34,rb),(40,rc2),(46,rd),(112,rt)]) (.exit 0) [(1,zqI extent),(2,zqI gap),(9,.slice ow mw cw),(11,.slice (some ⟨18,0,0,0,5⟩) n (n+70)),(14,.slice ob mb cb),(17,.slice ot n ct)] (AHeap.rows 139 [(0,b),(1,b2),(8,rw),(18,rl2),(34,rb),(112,rt)]))(hc_30:FDoes Try.prog 16 [.slice (some ⟨18,0,0,0,5⟩) n (n+70),zqI extent,zqI gap] (AHeap.rows 157 [(0,b),(1,b2),(8,rw),(18,rl2),(34,rb),(112,rt)]) (.slice oe me ce) (AHeap.rows 158 [(0,b),(1,b2),(8,rw),(18,rl2),(34,rb),(112,rt),(157,re)]))(hc_31:FDoes Try.prog 14 [.slice ot n ct,zqI extent,zqI gap] (AHeap.rows 158 [(0,b),(1,b2),(8,rw),(18,rl2),(34,rb),(112,rt),(157,re)]) (.slice og mf cf) (AHeap.rows 159 (zq92_3 b b2 rw rl2 rb rt re rf)))(hc_32:FDoes Try.prog 17 [.slice oe me ce,.slice og mf cf] (AHeap.rows 159 (zq92_3 b b2 rw rl2 rb rt re rf)) (AVal.bool true) (AHeap.rows 159 (zq92_3 b b2 rw rl2 rb rt re rf)))(hc_33:FDoes Try.prog 17 [.slice ob mb cb,.slice ow mw cw] (AHeap.rows 159 (zq92_3 b b2 rw rl2 rb rt re rf)) (AVal.bool true) (AHeap.rows 159 (zq92_3 b b2 rw rl2 rb rt re rf))) :
    FDoes Try.prog 4 [.slice o n c,zqI extent,zqI gap,.slice o2 n2 c2] (AHeap.of [b,b2]) (AVal.bool true) (AHeap.rows 159 (zq92_3 b b2 rw rl2 rb rt re rf)) :=
  pcall_does env_ok mixed (hs:= [.act 1003 (.slice ow mw cw) (fun h=>h.upd [] [rw]),.act 2003 (.slice om mm cm) (fun h=>h.upd [] [rm]),.act 3001 (.slice (some ⟨18,0,0,0,5⟩) n (n+70)) (fun h=>h.upd [] [rl]),.act 4001 (.slice (some ⟨22,0,0,0,5⟩) n2 (n2+70)) (fun h=>h.upd [] [rk]),.act 5003 (.slice oa ma ca) (fun h=>h.upd [] [ra]),.act 6003 (.slice ob mb cb) (fun h=>h.upd [] [rb]),.act 7003 (.slice oc mc cc) (fun h=>h.upd [] [rc]),.act 8003 (.slice od md cd) (fun h=>h.upd [] [rd]),.val 9002 (.bool true),.val 9007 (.bool true),.val 9013 (.bool true),.val 9019 (.bool true),.val 9025 (.bool true),.val 9031 (.bool true),.act 11002 (.bool true) (fun h=>h.upd [28,40] [ra2,rc2]),.val 11007 (.bool true),.val 11013 (.bool true),.val 11019 (.bool true),.val 11025 (.bool true),.act 13001 (.slice ot n ct) (fun h=>h.upd [] [rt]),.keep [1,2,9,11,14,17,112,113],.loop [(1,zqI extent),(2,zqI gap),(9,.slice ow mw cw),(11,.slice (some ⟨18,0,0,0,5⟩) n (n+70)),(14,.slice ob mb cb),(17,.slice ot n ct)] (AHeap.rows 139 [(0,b),(1,b2),(8,rw),(18,rl2),(34,rb),(112,rt)]) (.exit 0),.act 19003 (.slice oe me ce) (fun h=>h.upd [] [re]),.act 19007 (.slice og mf cf) (fun h=>h.upd [] [rf]),.val 19008 (.bool true),.val 19012 (.bool true),.val 19015 (.bool true)]) (rs:= []) (by kernel_rfl) (All.cons (CallT.mk hc_0) (All.cons (CallT.mk hc_1) (All.cons (CallT.mk hc_2) (All.cons (CallT.mk hc_3) (All.cons (CallT.mk hc_4) (All.cons (CallT.mk hc_5) (All.cons (CallT.mk hc_6) (All.cons (CallT.mk hc_7) (All.cons (CallT.mk hc_8) (All.cons (CallT.mk hc_9) (All.cons (CallT.mk hc_10) (All.cons (CallT.mk hc_11) (All.cons (CallT.mk hc_12) (All.cons (CallT.mk hc_13) (All.cons (show Agree [.slice oa ma ca,.slice ow mw cw] [.slice ob mb cb,.slice ow mw cw] (AHeap.rows 81 (zq92_1 b b2 rw rm rl rk ra rb rc rd)) (AHeap.rows 81 (zq92_1 b b2 rw rm rl rk ra rb rc rd)) (AVal.bool true) (AVal.bool true) (AHeap.rows 81 (zq92_1 b b2 rw rm rl rk ra rb rc rd)) (AHeap.rows 81 (zq92_1 b b2 rw rm rl rk ra rb rc rd))from⟨by intro hh _;first | (simp at hh;done) | (simp at hh;simp [hh]) | exact⟨rfl,rfl⟩⟩) (All.cons (show Agree [.slice oa ma ca,.slice ow mw cw] [.slice oc mc cc,.slice om mm cm] (AHeap.rows 81 (zq92_1 b b2 rw rm rl rk ra rb rc rd)) (AHeap.rows 81 (zq92_1 b b2 rw rm rl rk ra rb rc rd)) (AVal.bool true) (AVal.bool true) (AHeap.rows 81 (zq92_1 b b2 rw rm rl rk ra rb rc rd)) (AHeap.rows 81 (zq92_1 b b2 rw rm rl rk ra rb rc rd))from⟨by intro hh _;first | (simp at hh;done) | (simp at hh;simp [hh]) | exact⟨rfl,rfl⟩⟩) (All.cons (show Agree [.slice oa ma ca,.slice ow mw cw] [.slice od md cd,.slice ow mw cw] (AHeap.rows 81 (zq92_1 b b2 rw rm rl rk ra rb rc rd)) (AHeap.rows 81 (zq92_1 b b2 rw rm rl rk ra rb rc rd)) (AVal.bool true) (AVal.bool true) (AHeap.rows 81 (zq92_1 b b2 rw rm rl rk ra rb rc rd)) (AHeap.rows 81 (zq92_1 b b2 rw rm rl rk ra rb rc rd))from⟨by intro hh _;first | (simp at hh;done) | (simp at hh;simp [hh]) | exact⟨rfl,rfl⟩⟩) (All.cons (show Agree [.slice ob mb cb,.slice ow mw cw] [.slice oc mc cc,.slice om mm cm] (AHeap.rows 81 (zq92_1 b b2 rw rm rl rk ra rb rc rd)) (AHeap.rows 81 (zq92_1 b b2 rw rm rl rk ra rb rc rd)) (AVal.bool true) (AVal.bool true) (AHeap.rows 81 (zq92_1 b b2 rw rm rl rk ra rb rc rd)) (AHeap.rows 81 (zq92_1 b b2 rw rm rl rk ra rb rc rd))from⟨by intro hh _;first | (simp at hh;done) | (simp at hh;simp [hh]) | exact⟨rfl,rfl⟩⟩) (All.cons (show Agree [.slice ob mb cb,.slice ow mw cw] [.slice od md cd,.slice ow mw cw] (AHeap.rows 81 (zq92_1 b b2 rw rm rl rk ra rb rc rd)) (AHeap.rows 81 (zq92_1 b b2 rw rm rl rk ra rb rc rd)) (AVal.bool true) (AVal.bool true) (AHeap.rows 81 (zq92_1 b b2 rw rm rl rk ra rb rc rd)) (AHeap.rows 81 (zq92_1 b b2 rw rm rl rk ra rb rc rd))from⟨by intro hh _;first | (simp at hh;done) | (simp at hh;simp [hh]) | exact⟨rfl,rfl⟩⟩) (All.cons (show Agree [.slice oc mc cc,.slice om mm cm] [.slice od md cd,.slice ow mw cw] (AHeap.rows 81 (zq92_1 b b2 rw rm rl rk ra rb rc rd)) (AHeap.rows 81 (zq92_1 b b2 rw rm rl rk ra rb rc rd)) (AVal.bool true) (AVal.bool true) (AHeap.rows 81 (zq92_1 b b2 rw rm rl rk ra rb rc rd)) (AHeap.rows 81 (zq92_1 b b2 rw rm rl rk ra rb rc rd))from⟨by intro hh _;first | (simp at hh;done) | (simp at hh;simp [hh]) | exact⟨rfl,rfl⟩⟩) (All.cons (show Agree [.slice (some ⟨18,0,0,0,5⟩) n (n+70),.slice o n c] [.slice (some ⟨22,0,0,0,5⟩) n2 (n2+70),.slice o2 n2 c2] (AHeap.rows 81 (zq92_1 b b2 rw rm rl rk ra rb rc rd)) (AHeap.rows 81 (zq92_1 b b2 rw rm rl rk ra rb rc rd)) (AVal.bool true) (AVal.bool true) (AHeap.rows 81 (zq92_1 b b2 rw rm rl rk ra rb rc rd)) (AHeap.rows 81 (zq92_1 b b2 rw rm rl rk ra rb rc rd))from⟨by intro hh _;first | (simp at hh;done) | (simp at hh;simp [hh]) | exact⟨rfl,rfl⟩⟩) (All.cons (CallT.mk hc_21) (All.cons (CallT.mk hc_22) (All.cons (CallT.mk hc_23) (All.cons (CallT.mk hc_24) (All.cons (CallT.mk hc_25) (All.cons (show Agree [.slice ob mb cb,.slice ow mw cw] [.slice od md cd,.slice ow mw cw] (AHeap.rows 109 (zq92_2 b b2 rw rm rl rk ra2 rb rc2 rd)) (AHeap.rows 109 (zq92_2 b b2 rw rm rl rk ra2 rb rc2 rd)) (AVal.bool true) (AVal.bool true) (AHeap.rows 109 (zq92_2 b b2 rw rm rl rk ra2 rb rc2 rd)) (AHeap.rows 109 (zq92_2 b b2 rw rm rl rk ra2 rb rc2 rd))from⟨by intro hh _;first | (simp at hh;done) | (simp at hh;simp [hh]) | exact⟨rfl,rfl⟩⟩) (All.cons (show Agree [.slice (some ⟨18,0,0,0,5⟩) n (n+70),.slice o n c] [.slice (some ⟨22,0,0,0,5⟩) n2 (n2+70),.slice o2 n2 c2] (AHeap.rows 109 (zq92_2 b b2 rw rm rl rk ra2 rb rc2 rd)) (AHeap.rows 109 (zq92_2 b b2 rw rm rl rk ra2 rb rc2 rd)) (AVal.bool true) (AVal.bool true) (AHeap.rows 109 (zq92_2 b b2 rw rm rl rk ra2 rb rc2 rd)) (AHeap.rows 109 (zq92_2 b b2 rw rm rl rk ra2 rb rc2 rd))from⟨by intro hh _;first | (simp at hh;done) | (simp at hh;simp [hh]) | exact⟨rfl,rfl⟩⟩) (All.cons (CallT.mk hc_28) (All.cons hc_29 (All.cons (CallT.mk hc_30) (All.cons (CallT.mk hc_31) (All.cons (CallT.mk hc_32) (All.cons (CallT.mk hc_33) (All.cons (show CallT Try.prog 21 [] (AHeap.rows 159 (zq92_3 b b2 rw rl2 rb rt re rf)) (AVal.bool true) (AHeap.rows 159 (zq92_3 b b2 rw rl2 rb rt re rf))from⟨(works_does _)⟩) (All.cons (show Agree [.slice oe me ce,.slice og mf cf] [.slice ob mb cb,.slice ow mw cw] (AHeap.rows 159 (zq92_3 b b2 rw rl2 rb rt re rf)) (AHeap.rows 159 (zq92_3 b b2 rw rl2 rb rt re rf)) (AVal.bool true) (AVal.bool true) (AHeap.rows 159 (zq92_3 b b2 rw rl2 rb rt re rf)) (AHeap.rows 159 (zq92_3 b b2 rw rl2 rb rt re rf))from⟨by intro hh _;first | (simp at hh;done) | (simp at hh;simp [hh]) | exact⟨rfl,rfl⟩⟩) (All.nil)))))))))))))))))))))))))))))))))))))
section
variable(ow ob ot:Option AAddr)(n mw cw mb cb ct:Nat)(extent gap:Int)(b b2 rw rb rt:ABlk)(l:List AVal)(i:Nat)
include ow ob ot n mw cw mb cb ct extent gap b b2 rw rb rt l i
theorem sz8_turn(vt:Nat)(k nn d mn mx k2 n2 d2 mn2 mx2:Int)(hc_0:(i:Int)<(n:Int))(hc_1:aindexAddr env.D 26 (.slice ot n ct) (zqI (i:Int))=some (.ptr (some ⟨112,vt,0+i,0,5⟩)))(hc_2:ABlk.elem? rt vt (0+i)=some (.agg [.int .i8 k,zqI nn,zqI d,zqI mn,zqI mx]))(hc_3:0≤(i:Int)∧(i:Int)<(n:Int)∧5=5)(hc_4:0=0∧l[0+Int.toNat (i:Int)]? =some (.agg [.int .i8 k2,zqI n2,zqI d2,zqI mn2,zqI mx2]))(hc_5:zqF ((i:Int)+1)) :
    Runs Try.prog 2 141 (loopAt Try.prog 4 0) [(1,zqI extent),(2,zqI gap),(9,.slice ow mw cw),(11,.slice (some ⟨18,0,0,0,5⟩) n (n+70)),(14,.slice ob mb cb),(17,.slice ot n ct),(112,zqI n),(113,zqI i)] (AHeap.rows 138 [(0,b),(1,b2),(8,rw),(18,.made l 5 true),(34,rb),(112,rt)]) .normal [(1,zqI extent),(2,zqI gap),(9,.slice ow mw cw),(11,.slice (some ⟨18,0,0,0,5⟩) n (n+70)),(14,.slice ob mb cb),(17,.slice ot n ct),(112,zqI (n:Int)),(113,zqI ((i:Int)+1))] (AHeap.rows 151 [(0,b),(1,b2),(8,rw),(18,(.made (List.set l (0+Int.toNat (i:Int)) (.agg [.int .i8 k,zqI nn,zqI d,zqI mn,zqI mx])) 5 true)),(34,rb),(112,rt)]) :=
  ppath_runs env_ok mixed (hs:= [.val 15000 (.bool true),.val 17004 (.ptr (some ⟨112,vt,0+i,0,5⟩)),.ld 17005 (.agg [.int .i8 k,zqI nn,zqI d,zqI mn,zqI mx]),.go 17006,.st 17007 (.agg [.int .i8 k2,zqI n2,zqI d2,zqI mn2,zqI mx2]),.go 18000]) (keep:= [1,2,9,11,14,17,112,113]) (by kernel_rfl) (All.cons (okT hc_0) (All.cons hc_1 (All.cons hc_2 (All.cons hc_3 (All.cons hc_4 (All.cons hc_5 (All.nil)))))))
theorem sz8_turnEnd(hc_0: ¬ ((i:Int)<(n:Int))) :
    Runs Try.prog 2 141 (loopAt Try.prog 4 0) [(1,zqI extent),(2,zqI gap),(9,.slice ow mw cw),(11,.slice (some ⟨18,0,0,0,5⟩) n (n+70)),(14,.slice ob mb cb),(17,.slice ot n ct),(112,zqI n),(113,zqI i)] (AHeap.rows 138 [(0,b),(1,b2),(8,rw),(18,.made l 5 true),(34,rb),(112,rt)]) (.exit 0) [(1,zqI extent),(2,zqI gap),(9,.slice ow mw cw),(11,.slice (some ⟨18,0,0,0,5⟩) n (n+70)),(14,.slice ob mb cb),(17,.slice ot n ct)] (AHeap.rows 139 [(0,b),(1,b2),(8,rw),(18,.made l 5 true),(34,rb),(112,rt)]) :=
  ppath_runs env_ok mixed (hs:= [.val 15000 (.bool false)]) (keep:= [1,2,9,11,14,17]) (by kernel_rfl) (All.cons (okF hc_0) (All.nil))
end
def mlenI(n:Nat):Nat:=if n=0∨4096<n then 0 else n
theorem mlenI_le(n:Nat):mlenI n≤n∧mlenI n≤4096:=by unfold mlenI;split<;>omega
theorem sizes8_any {n c ver off:Nat}{b:ABlk}{src:Nat→It}(hb:BareB b)(hel: ∀ j,j<n→b.elem? ver (off+j)=some (src j).val)(extent gap:Int) :
    ∃ z,(1≤n→n≤4096→SizesZ (fun j=>effI (src j)) n (roomZ n extent gap) z)∧ ∀ {H:AHeap} {o:Option AAddr} {id:Nat} (hi:ItemsAt H o n c id ver off b src) {N:Nat} (hN:H.next=N),
      ∃ (o':Option AAddr) (c':Nat),SlArg o' (mlenI n) c' N 0 0 1∧c'≤mlenI n∧FDoes Try.prog 16 [.slice o n c,.int .i64 extent,.int .i64 gap] H (.slice o' (mlenI n) c') (H.upd [] [IRow (mlenI n) z]):=by
  by_cases h:n=0∨4096<n
  · have e:mlenI n=0:=by unfold mlenI;rw [if_pos h]
    refine⟨fun _=>0,fun h1 h2=>by omega,fun {H o id} hi {N} hN=> ?_⟩
    subst hN
    rw [e]
    exact⟨none,0,.inr ⟨rfl,rfl,rfl⟩,Nat.le_refl _,(sizes_nil hi h extent gap).pad1 _⟩
  · have e:mlenI n=n:=by unfold mlenI;rw [if_neg h]
    obtain⟨z,j,h',hz,hj,g0,gj,k⟩:=sizes_small (N:=n) (by omega) (by omega) (o:=some ⟨0,ver,off,0,5⟩) (c:=c) (.inl rfl) hb hel extent gap
    refine⟨z,fun _ _=>hz,fun {H o id} hi {N} hN=> ?_⟩
    subst hN
    rw [e]
    refine⟨some ⟨H.next,0,0,0,1⟩,n,.inl rfl,Nat.le_refl _,?_⟩
    have ho:o=some ⟨id,ver,off,0,5⟩:=by
      rcases hi.sl with h1 | ⟨_,h2,_⟩
      · exact h1
      · omega
    subst ho
    have:=k.new1 (bn:=IRow n z) (by simp [hb]) (irow_bare _ _) (by simp [List.range_succ,g0]) gj (by simpa using hj) (by simp [Clos,Clo]) (H:=H) [id] (by simp) (by simp [hi.lt]) (by simp [hi.get])
    simpa [AVal.ren,AAddr.ren,toBig]using this
theorem rsizes_any {H:AHeap}{o:Option AAddr}{n c id ver off:Nat}{b:ABlk}{src:Nat→It}(hi:ItemsAt H o n c id ver off b src)(extent gap:Int){z:Nat→Int}(hz:1≤n→n≤4096→SizesZ (fun j=>effI (src j)) n (roomZ n extent gap) z){N:Nat}(hN:H.next=N) :
    ∃ (o':Option AAddr) (c' m f:Nat),SlArg o' (mlenI n) c' N (mlenI n-1) 0 1∧FDoes Try.prog 14 [.slice o n c,.int .i64 extent,.int .i64 gap] H (.slice o' (mlenI n) c') (H.upd [] [vRow (mlenI n) z (mlenI n-1) m f]):=by
  subst hN
  by_cases h:n=0∨4096<n
  · have e:mlenI n=0:=by unfold mlenI;rw [if_pos h]
    rw [e]
    exact⟨none,0,0,0,.inr ⟨rfl,rfl,rfl⟩,(rsizes_nil hi h extent gap).pad1 _⟩
  · have e:mlenI n=n:=by unfold mlenI;rw [if_neg h]
    rw [e]
    have hr:=roomZ_range (n:=n) (by omega) extent gap
    obtain⟨m,f,k⟩:=rsizes_does hi (by omega) (by omega) extent gap (rsizes_of (fun j=>effI_right _) (by omega) hr (hz (by omega) (by omega)))
    exact⟨some ⟨H.next,n-1,0,0,1⟩,n,m,f,.inl rfl,k⟩
theorem made_atZ {H:AHeap}{o:Option AAddr}{m c id:Nat}{f:Nat→Int}(hs:SlArg o m c id 0 0 1)(hg:H.get id=some (IRow m f))(hlt:id<H.next):IntsAt H o m c id 0 0 (IRow m f) f :=
  ⟨hs,hg,hlt,fun e he=>ints_bare _ _ e he,fun j hj=>by rw [Nat.zero_add];exact ints_el hj⟩
theorem v_atZ {H:AHeap}{o:Option AAddr}{m c id mm ff:Nat}{f:Nat→Int}(hs:SlArg o m c id (m-1) 0 1)(hg:H.get id=some (vRow m f (m-1) mm ff))(hlt:id<H.next):IntsAt H o m c id (m-1) 0 (vRow m f (m-1) mm ff) f :=
  ⟨hs,hg,hlt,vRow_bare _ _ _ _ _,fun j hj=>by rw [Nat.zero_add];exact vRow_el hj⟩
theorem turnS_loop {ow ob ot:Option AAddr}{n mw cw mb cb ct vw vt:Nat}{b b2 rw rb rt:ABlk}(hw:SlArg ow mw cw 8 vw 0 1)(ho:SlArg ob mb cb 34 0 0 1)(ht:SlArg ot n ct 112 vt 0 5)(h0:BareB b)(h1:BareB b2)(h9:BareB rw)(h38:BareB rb)(h300:BareB rt){y z:Nat→It}
    (hy: ∀ j,j<n→rt.elem? vt (0+j)=some (y j).val) (hn:n≤2^42) (extent gap:Int) :
    ∀ (k i:Nat),i+k=n→Loops Try.prog 2 141 (loopAt Try.prog 4 0) [(1,.int .i64 extent),(2,.int .i64 gap),(9,.slice ow mw cw),(11,.slice (some ⟨18,0,0,0,5⟩) n (n+70)),(14,.slice ob mb cb),(17,.slice ot n ct),(112,.int .i64 n),(113,.int .i64 i)] (AHeap.rows 138 [(0,b),(1,b2),(8,rw),(18,.made (irows (n+70) (fun j=>if j<i then y j else z j)) 5 true),(34,rb),(112,rt)])
      (.exit 0) [(1,.int .i64 extent),(2,.int .i64 gap),(9,.slice ow mw cw),(11,.slice (some ⟨18,0,0,0,5⟩) n (n+70)),(14,.slice ob mb cb),(17,.slice ot n ct)] (AHeap.rows 139 [(0,b),(1,b2),(8,rw),(18,.made (irows (n+70) (fun j=>if j<n then y j else z j)) 5 true),(34,rb),(112,rt)])
  | 0,i,e=>by
    obtain rfl:i=n:=by omega
    exact Loops.last (by simp) (sz8_turnEnd ow ob ot i mw cw mb cb ct extent gap b b2 rw rb rt _ i (by omega))
  | k+1,i,e=>by
    have k9:Clo (Ids [0,1,8,18,34,112]) (.slice ow mw cw):=hw.clo (by simp [Ids])
    have k38:Clo (Ids [0,1,8,18,34,112]) (.slice ob mb cb):=ho.clo (by simp [Ids])
    have k300:Clo (Ids [0,1,8,18,34,112]) (.slice ot n ct):=ht.clo (by simp [Ids])
    have st:=sz8_turn ow ob ot n mw cw mb cb ct extent gap b b2 rw rb rt (irows (n+70) (fun j=>if j<i then y j else z j)) i vt (y i).k (y i).n (y i).d (y i).mn (y i).mx (z i).k (z i).n (z i).d (z i).mn (z i).mx (by omega) (ix_itS ht (by omega)) (hy i (by omega)) ⟨by omega,by omega,rfl⟩ ⟨rfl,by rw [show 0+Int.toNat (i:Int)=i by simp,irows_get (by omega)];simp [it_parts]⟩ (by omega)
    rw [show 0+Int.toNat (i:Int)=i by simp,← it_parts (y i),irows_step (y:=y) (z:=z) (i:=i)]at st
    refine Loops.round st ?_ (turnS_loop hw ho ht h0 h1 h9 h38 h300 hy hn extent gap k (i+1) (by omega))
    exact Ent.drop (by kernel_rfl) (by kernel_rfl) (by kernel_rfl) (by kernel_rfl) (by simp [All_cons,All_nil,Clo,k9,k38,k300];simp [Ids]) (by simp only [List.map,All_cons,All_nil,and_true];exact⟨h0.clo _,h1.clo _,h9.clo _,(irows_bare _ _).clo _,h38.clo _,h300.clo _⟩)
end Go.Proofs.Ytgfkllnaeekjeaa
namespace Go.Proofs.Ytgfkllnaeekjeaa
open Go.Lift
set_option maxRecDepth 1000000
theorem lent_el(n:Nat)(x:Nat→It): ∀ j,j<n→(ABlk.made (irows (n+70) (lentI n x)) 5 true).elem? 0 (0+j)=some (x j).val:=fun j hj=>by
  rw [Nat.zero_add,elem_made (irows_get (by omega))]
  unfold lentI;rw [if_pos hj]
theorem sizes_law {o o2:Option AAddr}{n c n2 c2 ver off ver2 off2:Nat}{b b2:ABlk}(hs:SlArg o n c 0 ver off 5)(hs2:SlArg o2 n2 c2 1 ver2 off2 5)(hb:BareB b)(hb2:BareB b2){x x2:Nat→It}(hx: ∀ j,j<n→b.elem? ver (off+j)=some (x j).val)
    (hx2: ∀ j,j<n2→b2.elem? ver2 (off2+j)=some (x2 j).val) (hn:n≤2^42) (hn2:n2≤2^42) (extent gap:Int) :
    ∃ h',FDoes Try.prog 4 [.slice o n c,.int .i64 extent,.int .i64 gap,.slice o2 n2 c2] (AHeap.of [b,b2]) (.bool true) h':=by
  obtain⟨z,hz,az⟩:=sizes8_any (n:=n) (c:=n+70) (ver:=0) (off:=0) (b:= .made (irows (n+70) (lentI n x)) 5 true) (src:=x) (irows_bare _ _) (lent_el _ _) extent gap
  obtain⟨z2,hz2,az2⟩:=sizes8_any (n:=n2) (c:=n2+70) (ver:=0) (off:=0) (b:= .made (irows (n2+70) (lentI n2 x2)) 5 true) (src:=x2) (irows_bare _ _) (lent_el _ _) gap extent
  obtain⟨z3,hz3,az3⟩:=sizes8_any (n:=n) (c:=n+70) (ver:=0) (off:=0) (b:= .made (irows (n+70) (lentI n (turnF n x))) 5 true) (src:=turnF n x) (irows_bare _ _) (lent_el _ _) extent gap
  obtain⟨ow,cw,mw,fw,sw,kw⟩:=rsizes_any (H:=(AHeap.rows 8 [(0,b),(1,b2)])) ⟨hs,by kernel_rfl,by rw [AHeap.rows_next];omega,hb,hx⟩ extent gap hz (N:=8) (by rw [AHeap.rows_next])
  obtain⟨om,cm,mm,fm,sm,km⟩:=rsizes_any (H:=(AHeap.rows 14 [(0,b),(1,b2),(8,vRow (mlenI n) z (mlenI n-1) mw fw)])) ⟨hs2,by kernel_rfl,by rw [AHeap.rows_next];omega,hb2,hx2⟩ gap extent hz2 (N:=14) (by rw [AHeap.rows_next])
  have kl:=lentI_does (H:=(AHeap.rows 18 [(0,b),(1,b2),(8,vRow (mlenI n) z (mlenI n-1) mw fw),(14,vRow (mlenI n2) z2 (mlenI n2-1) mm fm)])) ⟨hs,by kernel_rfl,by rw [AHeap.rows_next];omega,hb,hx⟩ hn
  rw [AHeap.rows_next]at kl
  have kk:=lentI_does (H:=(AHeap.rows 22 [(0,b),(1,b2),(8,vRow (mlenI n) z (mlenI n-1) mw fw),(14,vRow (mlenI n2) z2 (mlenI n2-1) mm fm),(18,.made (irows (n+70) (lentI n x)) 5 true)])) ⟨hs2,by kernel_rfl,by rw [AHeap.rows_next];omega,hb2,hx2⟩ hn2
  rw [AHeap.rows_next]at kk
  obtain⟨oa,ca,sa,la,ka⟩:=az (H:=(AHeap.rows 28 [(0,b),(1,b2),(8,vRow (mlenI n) z (mlenI n-1) mw fw),(14,vRow (mlenI n2) z2 (mlenI n2-1) mm fm),(18,.made (irows (n+70) (lentI n x)) 5 true),(22,.made (irows (n2+70) (lentI n2 x2)) 5 true)])) (o:=some ⟨18,0,0,0,5⟩) (id:=18) ⟨.inl rfl,by kernel_rfl,by rw [AHeap.rows_next];omega,irows_bare _ _,lent_el _ _⟩ (N:=28) (by rw [AHeap.rows_next])
  obtain⟨ob,cb,sb,lb,kb⟩:=az (H:=(AHeap.rows 34 [(0,b),(1,b2),(8,vRow (mlenI n) z (mlenI n-1) mw fw),(14,vRow (mlenI n2) z2 (mlenI n2-1) mm fm),(18,.made (irows (n+70) (lentI n x)) 5 true),(22,.made (irows (n2+70) (lentI n2 x2)) 5 true),(28,IRow (mlenI n) z)])) (o:=some ⟨18,0,0,0,5⟩) (id:=18) ⟨.inl rfl,by kernel_rfl,by rw [AHeap.rows_next];omega,irows_bare _ _,lent_el _ _⟩ (N:=34) (by rw [AHeap.rows_next])
  obtain⟨oc,cc,sc,lc,kc⟩:=az2 (H:=(AHeap.rows 40 [(0,b),(1,b2),(8,vRow (mlenI n) z (mlenI n-1) mw fw),(14,vRow (mlenI n2) z2 (mlenI n2-1) mm fm),(18,.made (irows (n+70) (lentI n x)) 5 true),(22,.made (irows (n2+70) (lentI n2 x2)) 5 true),(28,IRow (mlenI n) z),(34,IRow (mlenI n) z)])) (o:=some ⟨22,0,0,0,5⟩) (id:=22) ⟨.inl rfl,by kernel_rfl,by rw [AHeap.rows_next];omega,irows_bare _ _,lent_el _ _⟩ (N:=40) (by rw [AHeap.rows_next])
  obtain⟨od,cd,sd,ld,kd⟩:=az (H:=(AHeap.rows 46 [(0,b),(1,b2),(8,vRow (mlenI n) z (mlenI n-1) mw fw),(14,vRow (mlenI n2) z2 (mlenI n2-1) mm fm),(18,.made (irows (n+70) (lentI n x)) 5 true),(22,.made (irows (n2+70) (lentI n2 x2)) 5 true),(28,IRow (mlenI n) z),(34,IRow (mlenI n) z),(40,IRow (mlenI n2) z2)])) (o:=some ⟨18,0,0,0,5⟩) (id:=18) ⟨.inl rfl,by kernel_rfl,by rw [AHeap.rows_next];omega,irows_bare _ _,lent_el _ _⟩ (N:=46) (by rw [AHeap.rows_next])
  have e1:=same_does (H:=(AHeap.rows 81 [(0,b),(1,b2),(8,vRow (mlenI n) z (mlenI n-1) mw fw),(14,vRow (mlenI n2) z2 (mlenI n2-1) mm fm),(18,.made (irows (n+70) (lentI n x)) 5 true),(22,.made (irows (n2+70) (lentI n2 x2)) 5 true),(28,IRow (mlenI n) z),(34,IRow (mlenI n) z),(40,IRow (mlenI n2) z2),(46,IRow (mlenI n) z)])) (made_atZ (f:=z) sa (by kernel_rfl) (by rw [AHeap.rows_next];omega)) (v_atZ (f:=z) (mm:=mw) (ff:=fw) sw (by kernel_rfl) (by rw [AHeap.rows_next];omega)) (by omega) (by have:=mlenI_le n;have:=mlenI_le n2;omega)
  have e2:=same_does (H:=(AHeap.rows 81 [(0,b),(1,b2),(8,vRow (mlenI n) z (mlenI n-1) mw fw),(14,vRow (mlenI n2) z2 (mlenI n2-1) mm fm),(18,.made (irows (n+70) (lentI n x)) 5 true),(22,.made (irows (n2+70) (lentI n2 x2)) 5 true),(28,IRow (mlenI n) z),(34,IRow (mlenI n) z),(40,IRow (mlenI n2) z2),(46,IRow (mlenI n) z)])) (made_atZ (f:=z) sb (by kernel_rfl) (by rw [AHeap.rows_next];omega)) (v_atZ (f:=z) (mm:=mw) (ff:=fw) sw (by kernel_rfl) (by rw [AHeap.rows_next];omega)) (by omega) (by have:=mlenI_le n;have:=mlenI_le n2;omega)
  have e3:=same_does (H:=(AHeap.rows 81 [(0,b),(1,b2),(8,vRow (mlenI n) z (mlenI n-1) mw fw),(14,vRow (mlenI n2) z2 (mlenI n2-1) mm fm),(18,.made (irows (n+70) (lentI n x)) 5 true),(22,.made (irows (n2+70) (lentI n2 x2)) 5 true),(28,IRow (mlenI n) z),(34,IRow (mlenI n) z),(40,IRow (mlenI n2) z2),(46,IRow (mlenI n) z)])) (made_atZ (f:=z2) sc (by kernel_rfl) (by rw [AHeap.rows_next];omega)) (v_atZ (f:=z2) (mm:=mm) (ff:=fm) sm (by kernel_rfl) (by rw [AHeap.rows_next];omega)) (by omega) (by have:=mlenI_le n;have:=mlenI_le n2;omega)
  have e4:=same_does (H:=(AHeap.rows 81 [(0,b),(1,b2),(8,vRow (mlenI n) z (mlenI n-1) mw fw),(14,vRow (mlenI n2) z2 (mlenI n2-1) mm fm),(18,.made (irows (n+70) (lentI n x)) 5 true),(22,.made (irows (n2+70) (lentI n2 x2)) 5 true),(28,IRow (mlenI n) z),(34,IRow (mlenI n) z),(40,IRow (mlenI n2) z2),(46,IRow (mlenI n) z)])) (made_atZ (f:=z) sd (by kernel_rfl) (by rw [AHeap.rows_next];omega)) (v_atZ (f:=z) (mm:=mw) (ff:=fw) sw (by kernel_rfl) (by rw [AHeap.rows_next];omega)) (by omega) (by have:=mlenI_le n;have:=mlenI_le n2;omega)
  have k1:=keptI_does (H:=(AHeap.rows 81 [(0,b),(1,b2),(8,vRow (mlenI n) z (mlenI n-1) mw fw),(14,vRow (mlenI n2) z2 (mlenI n2-1) mm fm),(18,.made (irows (n+70) (lentI n x)) 5 true),(22,.made (irows (n2+70) (lentI n2 x2)) 5 true),(28,IRow (mlenI n) z),(34,IRow (mlenI n) z),(40,IRow (mlenI n2) z2),(46,IRow (mlenI n) z)])) ⟨hs,by kernel_rfl,by rw [AHeap.rows_next];omega,hb,hx⟩ (id2:=18) (by kernel_rfl) (by rw [AHeap.rows_next];omega) (by omega) hn
  have k2:=keptI_does (H:=(AHeap.rows 81 [(0,b),(1,b2),(8,vRow (mlenI n) z (mlenI n-1) mw fw),(14,vRow (mlenI n2) z2 (mlenI n2-1) mm fm),(18,.made (irows (n+70) (lentI n x)) 5 true),(22,.made (irows (n2+70) (lentI n2 x2)) 5 true),(28,IRow (mlenI n) z),(34,IRow (mlenI n) z),(40,IRow (mlenI n2) z2),(46,IRow (mlenI n) z)])) ⟨hs2,by kernel_rfl,by rw [AHeap.rows_next];omega,hb2,hx2⟩ (id2:=22) (by kernel_rfl) (by rw [AHeap.rows_next];omega) (by omega) hn2
  have ap:=apart_does (x:=z) (x2:=z2) (H:=(AHeap.rows 109 [(0,b),(1,b2),(8,vRow (mlenI n) z (mlenI n-1) mw fw),(14,vRow (mlenI n2) z2 (mlenI n2-1) mm fm),(18,.made (irows (n+70) (lentI n x)) 5 true),(22,.made (irows (n2+70) (lentI n2 x2)) 5 true),(28,IRow (mlenI n) z),(34,IRow (mlenI n) z),(40,IRow (mlenI n2) z2),(46,IRow (mlenI n) z)])) sa sc la lc (by kernel_rfl) (by kernel_rfl) (by rw [AHeap.rows_next];omega) (by rw [AHeap.rows_next];omega) (by omega) (by have:=mlenI_le n;omega) (by have:=mlenI_le n2;omega)
  have e5:=same_does (H:=(AHeap.rows 109 [(0,b),(1,b2),(8,vRow (mlenI n) z (mlenI n-1) mw fw),(14,vRow (mlenI n2) z2 (mlenI n2-1) mm fm),(18,.made (irows (n+70) (lentI n x)) 5 true),(22,.made (irows (n2+70) (lentI n2 x2)) 5 true),(28,.made (ints (mlenI n) fun _=> -11) 1 true),(34,IRow (mlenI n) z),(40,.made (ints (mlenI n2) fun _=> -22) 1 true),(46,IRow (mlenI n) z)])) (made_atZ (f:=z) sb (by kernel_rfl) (by rw [AHeap.rows_next];omega)) (v_atZ (f:=z) (mm:=mw) (ff:=fw) sw (by kernel_rfl) (by rw [AHeap.rows_next];omega)) (by omega) (by have:=mlenI_le n;have:=mlenI_le n2;omega)
  have e6:=same_does (H:=(AHeap.rows 109 [(0,b),(1,b2),(8,vRow (mlenI n) z (mlenI n-1) mw fw),(14,vRow (mlenI n2) z2 (mlenI n2-1) mm fm),(18,.made (irows (n+70) (lentI n x)) 5 true),(22,.made (irows (n2+70) (lentI n2 x2)) 5 true),(28,.made (ints (mlenI n) fun _=> -11) 1 true),(34,IRow (mlenI n) z),(40,.made (ints (mlenI n2) fun _=> -22) 1 true),(46,IRow (mlenI n) z)])) (made_atZ (f:=z) sd (by kernel_rfl) (by rw [AHeap.rows_next];omega)) (v_atZ (f:=z) (mm:=mw) (ff:=fw) sw (by kernel_rfl) (by rw [AHeap.rows_next];omega)) (by omega) (by have:=mlenI_le n;have:=mlenI_le n2;omega)
  have k3:=keptI_does (H:=(AHeap.rows 109 [(0,b),(1,b2),(8,vRow (mlenI n) z (mlenI n-1) mw fw),(14,vRow (mlenI n2) z2 (mlenI n2-1) mm fm),(18,.made (irows (n+70) (lentI n x)) 5 true),(22,.made (irows (n2+70) (lentI n2 x2)) 5 true),(28,.made (ints (mlenI n) fun _=> -11) 1 true),(34,IRow (mlenI n) z),(40,.made (ints (mlenI n2) fun _=> -22) 1 true),(46,IRow (mlenI n) z)])) ⟨hs,by kernel_rfl,by rw [AHeap.rows_next];omega,hb,hx⟩ (id2:=18) (by kernel_rfl) (by rw [AHeap.rows_next];omega) (by omega) hn
  have k4:=keptI_does (H:=(AHeap.rows 109 [(0,b),(1,b2),(8,vRow (mlenI n) z (mlenI n-1) mw fw),(14,vRow (mlenI n2) z2 (mlenI n2-1) mm fm),(18,.made (irows (n+70) (lentI n x)) 5 true),(22,.made (irows (n2+70) (lentI n2 x2)) 5 true),(28,.made (ints (mlenI n) fun _=> -11) 1 true),(34,IRow (mlenI n) z),(40,.made (ints (mlenI n2) fun _=> -22) 1 true),(46,IRow (mlenI n) z)])) ⟨hs2,by kernel_rfl,by rw [AHeap.rows_next];omega,hb2,hx2⟩ (id2:=22) (by kernel_rfl) (by rw [AHeap.rows_next];omega) (by omega) hn2
  obtain⟨ot,ct,st,kt⟩:=turnI_does (H:=(AHeap.rows 112 [(0,b),(1,b2),(8,vRow (mlenI n) z (mlenI n-1) mw fw),(14,vRow (mlenI n2) z2 (mlenI n2-1) mm fm),(18,.made (irows (n+70) (lentI n x)) 5 true),(22,.made (irows (n2+70) (lentI n2 x2)) 5 true),(28,.made (ints (mlenI n) fun _=> -11) 1 true),(34,IRow (mlenI n) z),(40,.made (ints (mlenI n2) fun _=> -22) 1 true),(46,IRow (mlenI n) z)])) ⟨hs,by kernel_rfl,by rw [AHeap.rows_next];omega,hb,hx⟩ hn
  rw [AHeap.rows_next]at st
  have lu:=turnS_loop (y:=turnF n x) (z:=lentI n x) sw sb st hb hb2 (vRow_bare (mlenI n) z (mlenI n-1) mw fw) (irow_bare (mlenI n) z) (gRowI_bare (turnF n x) 1 (n-1)) (fun j hj=>gRowI_el (by omega)) hn extent gap n 0 (by omega)
  rw [show(irows (n+70) fun j=>if j<0 then turnF n x j else lentI n x j)=irows (n+70) (lentI n x)from irows_congr fun j _=>by simp,show(irows (n+70) fun j=>if j<n then turnF n x j else lentI n x j)=irows (n+70) (lentI n (turnF n x))from irows_congr fun j _=>by unfold lentI;by_cases h:j<n<;>simp [h]]at lu
  have k9:Clo (Ids [0,1,8,18,34,112]) (.slice ow (mlenI n) cw):=sw.clo (by simp [Ids])
  have k38:Clo (Ids [0,1,8,18,34,112]) (.slice ob (mlenI n) cb):=sb.clo (by simp [Ids])
  have k300:Clo (Ids [0,1,8,18,34,112]) (.slice ot n ct):=st.clo (by simp [Ids])
  have pre:Ent 2 141 [(1,.int .i64 extent),(2,.int .i64 gap),(9,.slice ow (mlenI n) cw),(11,.slice (some ⟨18,0,0,0,5⟩) n (n+70)),(14,.slice ob (mlenI n) cb),(17,.slice ot n ct),(112,.int .i64 n),(113,.int .i64 (0:Nat))] (AHeap.rows 116 [(0,b),(1,b2),(8,vRow (mlenI n) z (mlenI n-1) mw fw),(14,vRow (mlenI n2) z2 (mlenI n2-1) mm fm),(18,.made (irows (n+70) (lentI n x)) 5 true),(22,.made (irows (n2+70) (lentI n2 x2)) 5 true),(28,.made (ints (mlenI n) fun _=> -11) 1 true),(34,IRow (mlenI n) z),(40,.made (ints (mlenI n2) fun _=> -22) 1 true),(46,IRow (mlenI n) z),(112,gRowI (turnF n x) 1 (n-1))]) [(1,.int .i64 extent),(2,.int .i64 gap),(9,.slice ow (mlenI n) cw),(11,.slice (some ⟨18,0,0,0,5⟩) n (n+70)),(14,.slice ob (mlenI n) cb),(17,.slice ot n ct),(112,.int .i64 n),(113,.int .i64 (0:Nat))] (AHeap.rows 138 [(0,b),(1,b2),(8,vRow (mlenI n) z (mlenI n-1) mw fw),(18,.made (irows (n+70) (lentI n x)) 5 true),(34,IRow (mlenI n) z),(112,gRowI (turnF n x) 1 (n-1))]) :=
    Ent.drop (by kernel_rfl) (by kernel_rfl) (by kernel_rfl) (by kernel_rfl) (by simp [All_cons,All_nil,Clo,k9,k38,k300];simp [Ids]) (by simp only [List.map,All_cons,All_nil,and_true];exact⟨hb.clo _,hb2.clo _,(vRow_bare (mlenI n) z (mlenI n-1) mw fw).clo _,(irows_bare _ _).clo _,(irow_bare _ _).clo _,(gRowI_bare _ _ _).clo _⟩)
  obtain⟨oe,ce,se,le,ke⟩:=az3 (H:=(AHeap.rows 157 [(0,b),(1,b2),(8,vRow (mlenI n) z (mlenI n-1) mw fw),(18,.made (irows (n+70) (lentI n (turnF n x))) 5 true),(34,IRow (mlenI n) z),(112,gRowI (turnF n x) 1 (n-1))])) (o:=some ⟨18,0,0,0,5⟩) (id:=18) ⟨.inl rfl,by kernel_rfl,by rw [AHeap.rows_next];omega,irows_bare _ _,lent_el _ _⟩ (N:=157) (by rw [AHeap.rows_next])
  obtain⟨og,cg,mf,ff,sg,kg⟩:=rsizes_any (H:=(AHeap.rows 158 [(0,b),(1,b2),(8,vRow (mlenI n) z (mlenI n-1) mw fw),(18,.made (irows (n+70) (lentI n (turnF n x))) 5 true),(34,IRow (mlenI n) z),(112,gRowI (turnF n x) 1 (n-1)),(157,IRow (mlenI n) z3)])) (src:=turnF n x) ⟨st,by kernel_rfl,by rw [AHeap.rows_next];omega,gRowI_bare _ _ _,fun j (hj:j<n)=>gRowI_el (f:=turnF n x) (n1:=1) (v:=n-1) (by omega)⟩ extent gap hz3 (N:=158) (by rw [AHeap.rows_next])
  have e7:=same_does (H:=(AHeap.rows 159 [(0,b),(1,b2),(8,vRow (mlenI n) z (mlenI n-1) mw fw),(18,.made (irows (n+70) (lentI n (turnF n x))) 5 true),(34,IRow (mlenI n) z),(112,gRowI (turnF n x) 1 (n-1)),(157,IRow (mlenI n) z3),(158,vRow (mlenI n) z3 (mlenI n-1) mf ff)])) (made_atZ (f:=z3) se (by kernel_rfl) (by rw [AHeap.rows_next];omega)) (v_atZ (f:=z3) (mm:=mf) (ff:=ff) sg (by kernel_rfl) (by rw [AHeap.rows_next];omega)) (by omega) (by have:=mlenI_le n;have:=mlenI_le n2;omega)
  have e8:=same_does (H:=(AHeap.rows 159 [(0,b),(1,b2),(8,vRow (mlenI n) z (mlenI n-1) mw fw),(18,.made (irows (n+70) (lentI n (turnF n x))) 5 true),(34,IRow (mlenI n) z),(112,gRowI (turnF n x) 1 (n-1)),(157,IRow (mlenI n) z3),(158,vRow (mlenI n) z3 (mlenI n-1) mf ff)])) (made_atZ (f:=z) sb (by kernel_rfl) (by rw [AHeap.rows_next];omega)) (v_atZ (f:=z) (mm:=mw) (ff:=fw) sw (by kernel_rfl) (by rw [AHeap.rows_next];omega)) (by omega) (by have:=mlenI_le n;have:=mlenI_le n2;omega)
  exact⟨_,sz8_call o o2 ow om oa ob oc od oe og ot n c n2 c2 (mlenI n) cw (mlenI n2) cm (mlenI n) ca (mlenI n) cb (mlenI n2) cc (mlenI n) cd (mlenI n) ce (mlenI n) cg ct extent gap b b2 _ _ _ _ _ _ _ _ _ _ _ _ _ _ (kw.to (by kernel_rfl)) (km.to (by kernel_rfl)) (kl.to (by kernel_rfl)) (kk.to (by kernel_rfl)) (ka.to (by kernel_rfl)) (kb.to (by kernel_rfl)) (kc.to (by kernel_rfl)) (kd.to (by kernel_rfl)) e1 e2 e3 e4 k1 k2 (ap.to (by kernel_rfl)) e5 e6 k3 k4 (kt.to (by kernel_rfl)) (Runs.of_loops (Tri.pre lu pre)) (ke.to (by kernel_rfl)) (kg.to (by kernel_rfl)) e7 e8⟩
end Go.Proofs.Ytgfkllnaeekjeaa
