/-
  Parts of the proof, one behind the other:
  SORTING, the walk: slices.swapRangeCmpFunc, rotateCmpFunc.
  THE LIFT, PART W: a call told of a small memory whose rows name rows of it, in every memory.
  SORTING, the walk: swapRange, rotate and insertion, each in every memory of this form.
  SORTING, the walk: insertion.
  SORTING, the walk: slices.symMergeCmpFunc.
  SORTING, the walk: symMerge, its searches and the cases of one thing.
-/
import Derived.Test.YtgfkllnaeekjeaaKSolveSizesB
set_option linter.unusedVariables false
set_option linter.unusedSimpArgs false
set_option linter.unusedSectionVars false
namespace Go.Proofs.Ytgfkllnaeekjeaa
open Go.Lift
set_option maxRecDepth 1000000
section
variable(N:Nat)(g:FuncId)(cs:List AVal)(l:List AVal)(b1 b2:ABlk)
include N g cs l b1 b2
theorem swr_step(n i a b:Nat)(x y u v:Int)(hc_0:(i:Int)<(n:Int))(hc_1:zqF ((a:Int)+(i:Int)))(hc_2:zqF ((b:Int)+(i:Int)))(hc_3:zqF ((b:Int)+(i:Int)))(hc_4:aindexAddr env.D 27 (.slice (some ⟨0,0,0,0,1⟩) N N) (zqI ((b:Int)+(i:Int)))=some (.ptr (some ⟨0,0,b+i,0,1⟩)))(hc_5:ABlk.elem? (.made l 1 true) 0 (b+i)=some (zqI y))(hc_6:zqF ((a:Int)+(i:Int)))(hc_7:aindexAddr env.D 27 (.slice (some ⟨0,0,0,0,1⟩) N N) (zqI ((a:Int)+(i:Int)))=some (.ptr (some ⟨0,0,a+i,0,1⟩)))(hc_8:ABlk.elem? (.made l 1 true) 0 (a+i)=some (zqI x))(hc_9:aindexAddr env.D 27 (.slice (some ⟨0,0,0,0,1⟩) N N) (zqI ((a:Int)+(i:Int)))=some (.ptr (some ⟨0,0,a+i,0,1⟩)))(hc_10:0=0∧l[a+i]? =some (zqI u))(hc_11:aindexAddr env.D 27 (.slice (some ⟨0,0,0,0,1⟩) N N) (zqI ((b:Int)+(i:Int)))=some (.ptr (some ⟨0,0,b+i,0,1⟩)))(hc_12:0=0∧(List.set l (a+i) (zqI y))[b+i]? =some (zqI v))(hc_13:zqF ((i:Int)+1)) :
    Runs Try.prog 3 38 (loopAt Try.prog 66 0) [(0,.slice (some ⟨0,0,0,0,1⟩) N N),(1,zqI a),(2,zqI b),(3,zqI n),(10,zqI i)] (AHeap.rows 4 [(0,.made l 1 true),(1,b1),(2,b2)]) .normal [(0,.slice (some ⟨0,0,0,0,1⟩) N N),(1,zqI (a:Int)),(2,zqI (b:Int)),(3,zqI (n:Int)),(10,zqI ((i:Int)+1))] (AHeap.rows 34 [(0,(.made (List.set (List.set l (a+i) (zqI y)) (b+i) (zqI x)) 1 true)),(1,b1),(2,b2)]) :=
  ppath_runs env_ok mixed (hs:= [.val 1002 (.bool true),.go 3003,.go 3007,.go 3011,.val 3012 (.ptr (some ⟨0,0,b+i,0,1⟩)),.ld 3013 (zqI y),.go 3017,.val 3018 (.ptr (some ⟨0,0,a+i,0,1⟩)),.ld 3019 (zqI x),.val 3020 (.ptr (some ⟨0,0,a+i,0,1⟩)),.st 3021 (zqI u),.val 3022 (.ptr (some ⟨0,0,b+i,0,1⟩)),.st 3023 (zqI v),.go 2001]) (keep:= [0,1,2,3,10]) (by kernel_rfl) (All.cons (okT hc_0) (All.cons hc_1 (All.cons hc_2 (All.cons hc_3 (All.cons hc_4 (All.cons hc_5 (All.cons hc_6 (All.cons hc_7 (All.cons hc_8 (All.cons hc_9 (All.cons hc_10 (All.cons hc_11 (All.cons hc_12 (All.cons hc_13 (All.nil)))))))))))))))
theorem swr_end(n i a b:Nat)(hc_0: ¬ ((i:Int)<(n:Int))) :
    Runs Try.prog 3 38 (loopAt Try.prog 66 0) [(0,.slice (some ⟨0,0,0,0,1⟩) N N),(1,zqI a),(2,zqI b),(3,zqI n),(10,zqI i)] (AHeap.rows 4 [(0,.made l 1 true),(1,b1),(2,b2)]) (.exit 0) [] (AHeap.rows 7 [(0,.made l 1 true),(1,b1),(2,b2)]) :=
  ppath_runs env_ok mixed (hs:= [.val 1002 (.bool false)]) (keep:= []) (by kernel_rfl) (All.cons (okF hc_0) (All.nil))
theorem swr_call(n a b:Nat)(l':List AVal)(hc_0:Runs Try.prog 3 38 (.loop (loopAt Try.prog 66 0)) [(0,.slice (some ⟨0,0,0,0,1⟩) N N),(1,zqI (a:Int)),(2,zqI (b:Int)),(3,zqI (n:Int)),(10,zqI 0)] (AHeap.rows 4 [(0,.made l 1 true),(1,b1),(2,b2)]) (.exit 0) [] (AHeap.rows 7 [(0,(.made (l') 1 true)),(1,b1),(2,b2)])) :
    FDoes Try.prog 66 [.slice (some ⟨0,0,0,0,1⟩) N N,zqI a,zqI b,zqI n,.func (.func g) [] cs] (AHeap.of [.made l 1 true,b1,b2]) (.tuple []) (AHeap.rows 7 [(0,(.made (l') 1 true)),(1,b1),(2,b2)]) :=
  pcall_does env_ok mixed (hs:= [.keep [0,1,2,3,10],.loop [] (AHeap.rows 7 [(0,.made l' 1 true),(1,b1),(2,b2)]) (.exit 0)]) (rs:= []) (by kernel_rfl) (All.cons hc_0 (All.nil))
section
variable(m i j:Nat)(l':List AVal)(hc_0: ¬ ((i:Int)=(j:Int)))
include m i j l' hc_0
theorem rot_gt(hc_1:(i:Int)>(j:Int))(hc_2:zqF ((m:Int)- (i:Int)))(hc_3:FDoes Try.prog 66 [.slice (some ⟨0,0,0,0,1⟩) N N,zqI ((m:Int)- (i:Int)),zqI (m:Int),zqI (j:Int),.func (.func g) [] cs] (AHeap.rows 25 [(0,.made l 1 true),(1,b1),(2,b2)]) (.tuple []) (AHeap.rows 25 [(0,.made l' 1 true),(1,b1),(2,b2)]))(hc_4:zqF ((i:Int)- (j:Int))) :
    Runs Try.prog 3 58 (loopAt Try.prog 65 0) [(0,.slice (some ⟨0,0,0,0,1⟩) N N),(2,zqI m),(4,.func (.func g) [] cs),(10,zqI i),(11,zqI j)] (AHeap.rows 11 [(0,.made l 1 true),(1,b1),(2,b2)]) .normal [(0,.slice (some ⟨0,0,0,0,1⟩) N N),(2,zqI (m:Int)),(4,.func (.func g) [] cs),(10,zqI ((i:Int)- (j:Int))),(11,zqI (j:Int))] (AHeap.rows 29 [(0,.made l' 1 true),(1,b1),(2,b2)]) :=
  ppath_runs env_ok mixed (hs:= [.val 2002 (.bool true),.val 3002 (.bool true),.go 4003,.act 4007 (.tuple []) (fun h=>h.upd [0] [.made l' 1 true]),.go 5002]) (keep:= [0,2,4,10,11]) (by kernel_rfl) (All.cons (neT hc_0) (All.cons (okT hc_1) (All.cons hc_2 (All.cons (CallT.mk hc_3) (All.cons hc_4 (All.nil))))))
theorem rot_lt(hc_1: ¬ ((i:Int)>(j:Int)))(hc_2:zqF ((m:Int)- (i:Int)))(hc_3:zqF ((m:Int)+(j:Int)))(hc_4:zqF ((m:Int)+(j:Int)- (i:Int)))(hc_5:FDoes Try.prog 66 [.slice (some ⟨0,0,0,0,1⟩) N N,zqI ((m:Int)- (i:Int)),zqI ((m:Int)+(j:Int)- (i:Int)),zqI (i:Int),.func (.func g) [] cs] (AHeap.rows 29 [(0,.made l 1 true),(1,b1),(2,b2)]) (.tuple []) (AHeap.rows 29 [(0,.made l' 1 true),(1,b1),(2,b2)]))(hc_6:zqF ((j:Int)- (i:Int))) :
    Runs Try.prog 3 58 (loopAt Try.prog 65 0) [(0,.slice (some ⟨0,0,0,0,1⟩) N N),(2,zqI m),(4,.func (.func g) [] cs),(10,zqI i),(11,zqI j)] (AHeap.rows 11 [(0,.made l 1 true),(1,b1),(2,b2)]) .normal [(0,.slice (some ⟨0,0,0,0,1⟩) N N),(2,zqI (m:Int)),(4,.func (.func g) [] cs),(10,zqI (i:Int)),(11,zqI ((j:Int)- (i:Int)))] (AHeap.rows 33 [(0,.made l' 1 true),(1,b1),(2,b2)]) :=
  ppath_runs env_ok mixed (hs:= [.val 2002 (.bool true),.val 3002 (.bool false),.go 6003,.go 6006,.go 6008,.act 6011 (.tuple []) (fun h=>h.upd [0] [.made l' 1 true]),.go 7002]) (keep:= [0,2,4,10,11]) (by kernel_rfl) (All.cons (neT hc_0) (All.cons (okF hc_1) (All.cons hc_2 (All.cons hc_3 (All.cons hc_4 (All.cons (CallT.mk hc_5) (All.cons hc_6 (All.nil))))))))
end
theorem rot_end(m i j:Nat)(hc_0:(i:Int)=(j:Int)) :
    Runs Try.prog 3 58 (loopAt Try.prog 65 0) [(0,.slice (some ⟨0,0,0,0,1⟩) N N),(2,zqI m),(4,.func (.func g) [] cs),(10,zqI i),(11,zqI j)] (AHeap.rows 11 [(0,.made l 1 true),(1,b1),(2,b2)]) (.exit 0) [(0,.slice (some ⟨0,0,0,0,1⟩) N N),(2,zqI (m:Int)),(4,.func (.func g) [] cs),(10,zqI (i:Int))] (AHeap.rows 14 [(0,.made l 1 true),(1,b1),(2,b2)]) :=
  ppath_runs env_ok mixed (hs:= [.val 2002 (.bool false)]) (keep:= [0,2,4,10]) (by kernel_rfl) (All.cons (neF hc_0) (All.nil))
theorem rot_call(a m b k:Nat)(l1 l':List AVal)(hc_0:zqF ((m:Int)- (a:Int)))(hc_1:zqF ((b:Int)- (m:Int)))(hc_2:Runs Try.prog 3 58 (.loop (loopAt Try.prog 65 0)) [(0,.slice (some ⟨0,0,0,0,1⟩) N N),(2,zqI (m:Int)),(4,.func (.func g) [] cs),(10,zqI ((m:Int)- (a:Int))),(11,zqI ((b:Int)- (m:Int)))] (AHeap.rows 11 [(0,.made l 1 true),(1,b1),(2,b2)]) (.exit 0) [(0,.slice (some ⟨0,0,0,0,1⟩) N N),(2,zqI (m:Int)),(4,.func (.func g) [] cs),(10,zqI (k:Int))] (AHeap.rows 14 [(0,.made l1 1 true),(1,b1),(2,b2)]))(hc_3:zqF ((m:Int)- (k:Int)))(hc_4:FDoes Try.prog 66 [.slice (some ⟨0,0,0,0,1⟩) N N,zqI ((m:Int)- (k:Int)),zqI (m:Int),zqI (k:Int),.func (.func g) [] cs] (AHeap.rows 22 [(0,.made l1 1 true),(1,b1),(2,b2)]) (.tuple []) (AHeap.rows 22 [(0,.made l' 1 true),(1,b1),(2,b2)])) :
    FDoes Try.prog 65 [.slice (some ⟨0,0,0,0,1⟩) N N,zqI a,zqI m,zqI b,.func (.func g) [] cs] (AHeap.of [.made l 1 true,b1,b2]) (.tuple []) (AHeap.rows 22 [(0,.made l' 1 true),(1,b1),(2,b2)]) :=
  pcall_does env_ok mixed (hs:= [.go 2,.go 1002,.keep [0,2,4,10,11],.loop [(0,.slice (some ⟨0,0,0,0,1⟩) N N),(2,zqI m),(4,.func (.func g) [] cs),(10,zqI k)] (AHeap.rows 14 [(0,.made l1 1 true),(1,b1),(2,b2)]) (.exit 0),.go 8003,.act 8007 (.tuple []) (fun h=>h.upd [0] [.made l' 1 true])]) (rs:= []) (by kernel_rfl) (All.cons hc_0 (All.cons hc_1 (All.cons hc_2 (All.cons hc_3 (All.cons (CallT.mk hc_4) (All.nil))))))
end
noncomputable abbrev zq29_1(N:Nat)(j:Nat):Prop:=aindexAddr env.D 27 (.slice (some ⟨0,0,0,0,1⟩) N N) (zqI ((j:Int)-1))=some (.ptr (some ⟨0,0,j-1,0,1⟩))
noncomputable abbrev zq29_2(N:Nat)(j:Nat):Prop:=aindexAddr env.D 27 (.slice (some ⟨0,0,0,0,1⟩) N N) (zqI (j:Int))=some (.ptr (some ⟨0,0,j,0,1⟩))
section
variable(N:Nat)(g:FuncId)(cs:List AVal)(l:List AVal)(b1 b2:ABlk)
include N g cs l b1 b2
theorem ins_in_step(a b i j:Nat)(x y c u v:Int)(hc_0:(j:Int)>(a:Int))(hc_1:(zq29_2 N j))(hc_2:ABlk.elem? (.made l 1 true) 0 j=some (zqI x))(hc_3:zqF ((j:Int)-1))(hc_4:(zq29_1 N j))(hc_5:ABlk.elem? (.made l 1 true) 0 (j-1)=some (zqI y))(hc_6:FDoes Try.prog g (zqI x::zqI y::cs) (AHeap.rows 28 [(0,.made l 1 true),(1,b1),(2,b2)]) (zqI c) (AHeap.rows 28 [(0,.made l 1 true),(1,b1),(2,b2)]))(hc_7:c<0)(hc_8:zqF ((j:Int)-1))(hc_9:zqF ((j:Int)-1))(hc_10:(zq29_1 N j))(hc_11:ABlk.elem? (.made l 1 true) 0 (j-1)=some (zqI y))(hc_12:(zq29_2 N j))(hc_13:ABlk.elem? (.made l 1 true) 0 j=some (zqI x))(hc_14:(zq29_2 N j))(hc_15:0=0∧l[j]? =some (zqI u))(hc_16:(zq29_1 N j))(hc_17:0=0∧(List.set l j (zqI y))[j-1]? =some (zqI v))(hc_18:zqF ((j:Int)-1)) :
    Runs Try.prog 3 53 (loopAt Try.prog 63 1) [(0,.slice (some ⟨0,0,0,0,1⟩) N N),(1,zqI a),(2,zqI b),(3,.func (.func g) [] cs),(8,zqI i),(9,zqI j)] (AHeap.rows 11 [(0,.made l 1 true),(1,b1),(2,b2)]) .normal [(0,.slice (some ⟨0,0,0,0,1⟩) N N),(1,zqI (a:Int)),(2,zqI (b:Int)),(3,.func (.func g) [] cs),(8,zqI (i:Int)),(9,zqI ((j:Int)-1))] (AHeap.rows 49 [(0,(.made (List.set (List.set l j (zqI y)) (j-1) (zqI x)) 1 true)),(1,b1),(2,b2)]) :=
  ppath_runs env_ok mixed (hs:= [.val 4002 (.bool true),.val 4007 (.ptr (some ⟨0,0,j,0,1⟩)),.ld 4008 (zqI x),.go 4011,.val 4012 (.ptr (some ⟨0,0,j-1,0,1⟩)),.ld 4013 (zqI y),.val 4014 (zqI c),.val 4015 (.bool true),.go 6004,.go 6007,.val 6008 (.ptr (some ⟨0,0,j-1,0,1⟩)),.ld 6009 (zqI y),.val 6012 (.ptr (some ⟨0,0,j,0,1⟩)),.ld 6013 (zqI x),.val 6014 (.ptr (some ⟨0,0,j,0,1⟩)),.st 6015 (zqI u),.val 6016 (.ptr (some ⟨0,0,j-1,0,1⟩)),.st 6017 (zqI v),.go 5001]) (keep:= [0,1,2,3,8,9]) (by kernel_rfl) (All.cons (okT hc_0) (All.cons hc_1 (All.cons hc_2 (All.cons hc_3 (All.cons hc_4 (All.cons hc_5 (All.cons (CallT.mk hc_6) (All.cons (okT hc_7) (All.cons hc_8 (All.cons hc_9 (All.cons hc_10 (All.cons hc_11 (All.cons hc_12 (All.cons hc_13 (All.cons hc_14 (All.cons hc_15 (All.cons hc_16 (All.cons hc_17 (All.cons hc_18 (All.nil))))))))))))))))))))
theorem ins_in_out(a b i j:Nat)(x y c:Int)(hc_0:(j:Int)>(a:Int))(hc_1:(zq29_2 N j))(hc_2:ABlk.elem? (.made l 1 true) 0 j=some (zqI x))(hc_3:zqF ((j:Int)-1))(hc_4:(zq29_1 N j))(hc_5:ABlk.elem? (.made l 1 true) 0 (j-1)=some (zqI y))(hc_6:FDoes Try.prog g (zqI x::zqI y::cs) (AHeap.rows 28 [(0,.made l 1 true),(1,b1),(2,b2)]) (zqI c) (AHeap.rows 28 [(0,.made l 1 true),(1,b1),(2,b2)]))(hc_7: ¬ (c<0)) :
    Runs Try.prog 3 53 (loopAt Try.prog 63 1) [(0,.slice (some ⟨0,0,0,0,1⟩) N N),(1,zqI a),(2,zqI b),(3,.func (.func g) [] cs),(8,zqI i),(9,zqI j)] (AHeap.rows 11 [(0,.made l 1 true),(1,b1),(2,b2)]) (.exit 2) [(0,.slice (some ⟨0,0,0,0,1⟩) N N),(1,zqI (a:Int)),(2,zqI (b:Int)),(3,.func (.func g) [] cs),(8,zqI (i:Int))] (AHeap.rows 28 [(0,.made l 1 true),(1,b1),(2,b2)]) :=
  ppath_runs env_ok mixed (hs:= [.val 4002 (.bool true),.val 4007 (.ptr (some ⟨0,0,j,0,1⟩)),.ld 4008 (zqI x),.go 4011,.val 4012 (.ptr (some ⟨0,0,j-1,0,1⟩)),.ld 4013 (zqI y),.val 4014 (zqI c),.val 4015 (.bool false)]) (keep:= [0,1,2,3,8]) (by kernel_rfl) (All.cons (okT hc_0) (All.cons hc_1 (All.cons hc_2 (All.cons hc_3 (All.cons hc_4 (All.cons hc_5 (All.cons (CallT.mk hc_6) (All.cons (okF hc_7) (All.nil)))))))))
theorem ins_in_a(a b i j:Nat)(hc_0: ¬ ((j:Int)>(a:Int))) :
    Runs Try.prog 3 53 (loopAt Try.prog 63 1) [(0,.slice (some ⟨0,0,0,0,1⟩) N N),(1,zqI a),(2,zqI b),(3,.func (.func g) [] cs),(8,zqI i),(9,zqI j)] (AHeap.rows 11 [(0,.made l 1 true),(1,b1),(2,b2)]) (.exit 2) [(0,.slice (some ⟨0,0,0,0,1⟩) N N),(1,zqI (a:Int)),(2,zqI (b:Int)),(3,.func (.func g) [] cs),(8,zqI (i:Int))] (AHeap.rows 28 [(0,.made l 1 true),(1,b1),(2,b2)]) :=
  ppath_runs env_ok mixed (hs:= [.val 4002 (.bool false)]) (keep:= [0,1,2,3,8]) (by kernel_rfl) (All.cons (okF hc_0) (All.nil))
theorem ins_step(a b i:Nat)(l1:List AVal)(hc_0:(i:Int)<(b:Int))(hc_1:Runs Try.prog 3 53 (.loop (loopAt Try.prog 63 1)) [(0,.slice (some ⟨0,0,0,0,1⟩) N N),(1,zqI (a:Int)),(2,zqI (b:Int)),(3,.func (.func g) [] cs),(8,zqI (i:Int)),(9,zqI (i:Int))] (AHeap.rows 11 [(0,.made l 1 true),(1,b1),(2,b2)]) (.exit 2) [(0,.slice (some ⟨0,0,0,0,1⟩) N N),(1,zqI (a:Int)),(2,zqI (b:Int)),(3,.func (.func g) [] cs),(8,zqI (i:Int))] (AHeap.rows 28 [(0,.made l1 1 true),(1,b1),(2,b2)]))(hc_2:zqF ((i:Int)+1)) :
    Runs Try.prog 3 53 (loopAt Try.prog 63 0) [(0,.slice (some ⟨0,0,0,0,1⟩) N N),(1,zqI a),(2,zqI b),(3,.func (.func g) [] cs),(8,zqI i)] (AHeap.rows 6 [(0,.made l 1 true),(1,b1),(2,b2)]) .normal [(0,.slice (some ⟨0,0,0,0,1⟩) N N),(1,zqI (a:Int)),(2,zqI (b:Int)),(3,.func (.func g) [] cs),(8,zqI ((i:Int)+1))] (AHeap.rows 31 [(0,.made l1 1 true),(1,b1),(2,b2)]) :=
  ppath_runs env_ok mixed (hs:= [.val 1002 (.bool true),.keep [0,1,2,3,8,9],.loop [(0,.slice (some ⟨0,0,0,0,1⟩) N N),(1,zqI a),(2,zqI b),(3,.func (.func g) [] cs),(8,zqI i)] (AHeap.rows 28 [(0,.made l1 1 true),(1,b1),(2,b2)]) (.exit 2),.go 2001]) (keep:= [0,1,2,3,8]) (by kernel_rfl) (All.cons (okT hc_0) (All.cons hc_1 (All.cons hc_2 (All.nil))))
theorem ins_end(a b i:Nat)(hc_0: ¬ ((i:Int)<(b:Int))) :
    Runs Try.prog 3 53 (loopAt Try.prog 63 0) [(0,.slice (some ⟨0,0,0,0,1⟩) N N),(1,zqI a),(2,zqI b),(3,.func (.func g) [] cs),(8,zqI i)] (AHeap.rows 6 [(0,.made l 1 true),(1,b1),(2,b2)]) (.exit 0) [] (AHeap.rows 9 [(0,.made l 1 true),(1,b1),(2,b2)]) :=
  ppath_runs env_ok mixed (hs:= [.val 1002 (.bool false)]) (keep:= []) (by kernel_rfl) (All.cons (okF hc_0) (All.nil))
theorem ins_call(a b:Nat)(l1:List AVal)(hc_0:zqF ((a:Int)+1))(hc_1:Runs Try.prog 3 53 (.loop (loopAt Try.prog 63 0)) [(0,.slice (some ⟨0,0,0,0,1⟩) N N),(1,zqI (a:Int)),(2,zqI (b:Int)),(3,.func (.func g) [] cs),(8,zqI ((a:Int)+1))] (AHeap.rows 6 [(0,.made l 1 true),(1,b1),(2,b2)]) (.exit 0) [] (AHeap.rows 9 [(0,.made l1 1 true),(1,b1),(2,b2)])) :
    FDoes Try.prog 63 [.slice (some ⟨0,0,0,0,1⟩) N N,zqI a,zqI b,.func (.func g) [] cs] (AHeap.of [.made l 1 true,b1,b2]) (.tuple []) (AHeap.rows 9 [(0,.made l1 1 true),(1,b1),(2,b2)]) :=
  pcall_does env_ok mixed (hs:= [.go 1,.keep [0,1,2,3,8],.loop [] (AHeap.rows 9 [(0,.made l1 1 true),(1,b1),(2,b2)]) (.exit 0)]) (rs:= []) (by kernel_rfl) (All.cons hc_0 (All.cons hc_1 (All.nil)))
end
end Go.Proofs.Ytgfkllnaeekjeaa
namespace Go.Lift
noncomputable section
open Go.RowKit
mutual
theorem AVal.ren_on {D:Nat→Prop}{r:Nat→Nat}(h: ∀ i,D i→r i=i): ∀ {v:AVal},Clo D v→v.ren r=v
  | .ptr (some a),k=>by simp only [Clo]at k;simp only [AVal.ren,AAddr.ren,h _ k]
  | .slice (some a) _ _,k=>by simp only [Clo]at k;simp only [AVal.ren,AAddr.ren,h _ k]
  | .func fn f c,k=>by simp only [Clo]at k;simp only [AVal.ren,AVal.rens_on h k.1,AVal.rens_on h k.2]
  | .iface t v,k=>by simp only [Clo]at k;simp only [AVal.ren,AVal.ren_on h k]
  | .agg cs,k=>by simp only [Clo]at k;simp only [AVal.ren,AVal.rens_on h k]
  | .tuple vs,k=>by simp only [Clo]at k;simp only [AVal.ren,AVal.rens_on h k]
  | .undef,_=>rfl
  | .bool _,_=>rfl
  | .int _ _,_=>rfl
  | .str _,_=>rfl
  | .ptr none,_=>rfl
  | .slice none _ _,_=>rfl
  | .nilFunc,_=>rfl
  | .nilIface,_=>rfl
theorem AVal.rens_on {D:Nat→Prop}{r:Nat→Nat}(h: ∀ i,D i→r i=i): ∀ {l:List AVal},Clos D l→AVal.rens r l=l
  | [],_=>rfl
  | a::l,k=>by simp only [Clos]at k;simp only [AVal.rens,AVal.ren_on h k.1,AVal.rens_on h k.2]
end
def CloB(D:Nat→Prop)(b:ABlk):Prop:= ∀ e∈b.elems,Clo D e
theorem ABlk.ren_on {D:Nat→Prop}{r:Nat→Nat}(h: ∀ i,D i→r i=i){b:ABlk}(k:CloB D b):b.ren r=b:=by
  unfold ABlk.ren
  have:b.elems.map (AVal.ren r)=b.elems:=by
    conv=>rhs;rw [← List.map_id b.elems]
    exact List.map_congr_left fun e he=>AVal.ren_on h (k e he)
  rw [this]
theorem FDoes.closed {P:Program} {f:FuncId} {args:List AVal} {h':AHeap} {v:AVal} {l l':List ABlk} (k:FDoes P f args (AHeap.of l) v h') (hlen:l'.length=l.length) (hget:(List.range l'.length).map h'.get=l'.map some) (hv:Bare v)
    (hc: ∀ b∈l',CloB (fun i=>i<l'.length) b):FDoes P f args (AHeap.of l) v (AHeap.of l'):=by
  have hfst:(idxd 0 l').map (·.1)=List.range l'.length:=by rw [idxd_fst,List.range_eq_range']
  rw [AHeap.of_rows l']
  refine k.clean (fun i=>i) v l'.length (idxd 0 l') ?_ (hv.1 _).symm ?_ ?_ ?_ ?_ (Nat.ble_eq.mpr ?_) (hv.clo _) ?_
  · have h1:(idxd 0 l').map (fun p=>h'.get p.1)=((idxd 0 l').map (·.1)).map h'.get:=by rw [List.map_map];rfl
    have h2:(idxd 0 l').map (fun p=>some (p.2.ren fun i=>i))=((idxd 0 l').map (·.2)).map some:=by
      rw [List.map_map];exact List.map_congr_left fun p _=>by rw [ABlk.ren_id];rfl
    rw [h1,h2,hfst,idxd_snd,hget]
  · rw [List.all_eq_true]
    intro p hp
    have:p.1∈(idxd 0 l').map (·.1):=List.mem_map.2 ⟨p,hp,rfl⟩
    rw [hfst]at this
    exact Nat.blt_eq.mpr (List.mem_range.1 this)
  · rw [hfst];rw [List.map_id'];exact List.nodup_range
  · rw [List.all_eq_true,AHeap.of_next]
    intro i hi
    have hi:=List.mem_range.1 hi
    rw [hfst,Bool.and_eq_true]
    exact⟨by simp;omega,beq_true rfl⟩
  · rw [List.all_eq_true,AHeap.of_next]
    intro p hp
    have:p.1∈(idxd 0 l').map (·.1):=List.mem_map.2 ⟨p,hp,rfl⟩
    rw [hfst]at this
    have hlt:=List.mem_range.1 this
    rw [Bool.or_eq_true]
    exact .inl (Nat.blt_eq.mpr (by omega))
  · rw [AHeap.of_next];omega
  · rw [hfst]
    have: ∀ (q:List (Nat×ABlk)),(∀ p∈q,CloB (fun i=>i<l'.length) p.2)→All (q.map fun p=> ∀ e∈p.2.elems,Clo (Ids (List.range l'.length)) e):=by
      intro q
      induction q with
      | nil=>intro _;exact All.nil
      | cons p r ih =>
        intro hq
        exact All.cons (fun e he=>Clo.mono (fun i hi=>List.mem_range.2 hi) (hq p (by simp) e he)) (ih fun p hp=>hq p (by simp [hp]))
    refine this _ fun p hp=>hc p.2 ?_
    have:p.2∈(idxd 0 l').map (·.2):=List.mem_map.2 ⟨p,hp,rfl⟩
    rwa [idxd_snd]at this
theorem FDoes.upC {P:Program}{f:FuncId}{args:List AVal}{v:AVal}{l l':List ABlk}(k:FDoes P f args (AHeap.of l) v (AHeap.of l'))(hll:l'.length=l.length)(hb: ∀ b∈l,CloB (fun i=>i<l.length) b)(ha:Clos (fun i=>i<l.length) args)(hv:Bare v)
    {H:AHeap} (ids:List Nat) (hn:ids.Nodup) (hlt: ∀ j∈ids,j<H.next) (hl:ids.map H.get=l.map (fun b=>some (b.ren (toBig ids H.next)))) :
    FDoes P f (args.map (AVal.ren (toBig ids H.next))) H v (H.upd ids (l'.map (ABlk.ren (toBig ids H.next)))):=by
  have hlen:ids.length=l.length:=by have:=congrArg List.length hl;simpa using this
  have hbig: ∀ i (hi:i<ids.length),toBig ids H.next i=ids[i]:=fun i hi=>by simp [toBig,List.getElem?_eq_getElem hi]
  have e:v.ren (toBig ids H.next)=v:=hv.1 _
  rw [show FDoes P f (args.map (AVal.ren (toBig ids H.next))) H v (H.upd ids (l'.map (ABlk.ren (toBig ids H.next))))=FDoes P f (args.map (AVal.ren (toBig ids H.next))) H (v.ren (toBig ids H.next)) (H.upd ids (l'.map (ABlk.ren (toBig ids H.next))))by rw [e]]
  refine k.frame (r:=toBig ids H.next) ⟨?_,?_,?_⟩ ?_ ?_ ?_ ?_ ?_
  · intro i b hg
    rw [AHeap.of_get]at hg
    have hi:=(List.getElem?_eq_some_iff.1 hg).1
    refine⟨by rw [AHeap.of_next];exact hi,?_⟩
    rw [hbig i (by omega)]
    have h1:=congrArg (fun(x:List (Option ABlk))=>x[i]?) hl
    simp only [List.getElem?_map,List.getElem?_eq_getElem (show i<ids.length by omega),Option.map_some,hg,Option.some.injEq]at h1
    exact h1
  · intro i j hi hj e
    rw [AHeap.of_in]at hi hj
    rw [hbig i (by omega),hbig j (by omega)]at e
    exact(List.getElem_inj hn).1 e
  · intro i b hg e he
    rw [AHeap.of_get]at hg
    exact Clo.mono (fun i hi=>AHeap.of_in.2 hi) (hb b (List.mem_of_getElem? hg) e he)
  · exact Clos.mono (fun i hi=>AHeap.of_in.2 hi) ha
  · intro i hi
    rw [AHeap.of_next]at hi
    simp only [toBig,List.getElem?_eq_none (show ids.length≤i by omega),AHeap.of_next,hlen]
  · intro i b hg _
    rw [AHeap.of_get]at hg
    show(AHeap.updFrom ids _ H).get _=_
    rw [AHeap.updFrom_at ids _ H i (by simp;omega) hn hlt (by simp;exact(List.getElem?_eq_some_iff.1 hg).1),List.getElem?_map,hg];rfl
  · show(AHeap.updFrom ids _ H).next=_
    rw [AHeap.updFrom_next ids _ H (by simp;omega)];simp [hlen]
  · intro j hj hne
    refine AHeap.updFrom_out ids _ H j (by simp;omega) hj fun hm=> ?_
    obtain⟨i,hi,e⟩:=List.mem_iff_getElem.1 hm
    exact hne i (AHeap.of_in.2 (by omega)) (by rw [hbig i hi];exact e)
theorem FDoes.all3 {P:Program}{f:FuncId}{args:List AVal}{v:AVal}{b0 b1 b2 b0':ABlk}{h':AHeap}(k:FDoes P f args (AHeap.of [b0,b1,b2]) v h')(hg: [h'.get 0,h'.get 1,h'.get 2]= [some b0',some b1,some b2])(hv:Bare v)
    (c0:CloB (fun i=>i<3) b0) (c0':CloB (fun i=>i<3) b0') (c1:CloB (fun i=>i<3) b1) (c2:CloB (fun i=>i<3) b2) (ha:Clos (fun i=>i<3) args) {K:Nat} (hK:3≤K) :
    FDoes P f args (AHeap.rows K [(0,b0),(1,b1),(2,b2)]) v (AHeap.rows K [(0,b0'),(1,b1),(2,b2)]):=by
  have k1:=k.closed (l':= [b0',b1,b2]) rfl hg hv (by simp;exact⟨c0',c1,c2⟩)
  have hr: ∀ i,i<3→toBig [0,1,2] K i=i:=by
    intro i hi
    match i,hi with
    | 0,_=>rfl
    | 1,_=>rfl
    | 2,_=>rfl
  have k2:=k1.upC rfl (by simp;exact⟨c0,c1,c2⟩) ha hv (H:=AHeap.rows K [(0,b0),(1,b1),(2,b2)]) [0,1,2] (by simp) (by rw [AHeap.rows_next];simp;omega) (by
    rw [AHeap.rows_next]
    simp only [List.map]
    rw [ABlk.ren_on hr c0,ABlk.ren_on hr c1,ABlk.ren_on hr c2]
    kernel_rfl)
  rw [AHeap.rows_next,← AVal.rens_map,AVal.rens_on hr ha]at k2
  simp only [List.map]at k2
  rw [ABlk.ren_on hr c0',ABlk.ren_on hr c1,ABlk.ren_on hr c2]at k2
  exact k2.to (by kernel_rfl)
end
end Go.Lift
namespace Go.Proofs.Ytgfkllnaeekjeaa
open Go.Lift
set_option maxRecDepth 1000000
theorem ixS {N k:Nat}{e:Int}(h:e=k)(hk:k<N):aindexAddr env.D 27 (.slice (some ⟨0,0,0,0,1⟩) N N) (.int .i64 e)=some (.ptr (some ⟨0,0,k,0,1⟩)):=by
  subst h
  have:=ix_intN (o:=some ⟨0,0,0,0,1⟩) (n:=N) (c:=N) (.inl rfl) (k:= .i64) hk
  rwa [Nat.zero_add]at this
theorem ints_set_get {n:Nat}{f:Nat→Int}{i k:Nat}{v:Int}(h:k<n):((ints n f).set i (.int .i64 v))[k]? =some (.int .i64 (if k=i then v else f k)):=by rw [ints_set,ints_get h]
theorem ints_el {n:Nat}{f:Nat→Int}{k:Nat}(h:k<n):(ABlk.made (ints n f) 1 true).elem? 0 k=some (.int .i64 (f k)):=elem_made (ints_get h)
noncomputable abbrev SRow(N:Nat)(π:Nat→Nat):ABlk:= .made (ints N fun k=>(π k:Int)) 1 true
noncomputable abbrev SH(K N:Nat)(π:Nat→Nat)(b1 b2:ABlk):AHeap:=AHeap.rows K [(0,SRow N π),(1,b1),(2,b2)]
theorem clo3 {v:AVal}(h:Clo (fun i=>i<3) v):Clo (Ids [0,1,2]) v:=Clo.mono (fun i hi=>by
  have hi:i<3:=hi
  show i∈ [0,1,2]
  simp;omega) h
theorem clos3 {l:List AVal}(h:Clos (fun i=>i<3) l):Clos (Ids [0,1,2]) l:=Clos.mono (fun i hi=>by
  have hi:i<3:=hi
  show i∈ [0,1,2]
  simp;omega) h
theorem srow_clo(N:Nat)(π:Nat→Nat)(D:Nat→Prop):CloB D (SRow N π):=fun e he=>(ints_bare _ _ e he).clo _
theorem SDrop {n:Nat}{F:Facts}{K K' N:Nat}{π:Nat→Nat}{b1 b2:ABlk}(c1:CloB (fun i=>i<3) b1)(c2:CloB (fun i=>i<3) b2)(hK:3≤K')(hn:F.all (fun p=>Nat.blt p.1 n)=true)(hF:All (F.map fun p=>Clo (Ids [0,1,2]) p.2)) :
    Ent 3 n F (SH K N π b1 b2) F (SH K' N π b1 b2) :=
  Ent.drop (by kernel_rfl) (by simp [List.all_cons,Nat.blt_eq];omega) (by kernel_rfl) hn hF (by
    simp only [List.map,All_cons,All_nil,and_true]
    exact⟨fun e he=>(ints_bare _ _ e he).clo _,fun e he=>clo3 (c1 e he),fun e he=>clo3 (c2 e he)⟩)
section
variable {N:Nat}(hN:N<2^44){b1 b2:ABlk}(c1:CloB (fun i=>i<3) b1)(c2:CloB (fun i=>i<3) b2){g:FuncId}{cs:List AVal}(hcs:Clos (fun i=>i<3) cs)
include hN c1 c2
theorem swr_set (π:Nat→Nat) {a b i:Nat} (hab:a+i<b) (hb:b+i<N):((ints N fun k=>(swapR π a b i k:Int)).set (a+i) (.int .i64 (π (b+i):Int))).set (b+i) (.int .i64 (π (a+i):Int))=ints N fun k=>(swapR π a b (i+1) k:Int):=by
  rw [ints_set,ints_set]
  refine ints_congr fun k hk=> ?_
  unfold swapR
  by_cases h1:k=b+i
  · subst h1
    rw [if_pos rfl,if_neg (by omega),if_pos (by omega),show b+i-b+a=a+i by omega]
  · rw [if_neg h1]
    by_cases h2:k=a+i
    · subst h2
      rw [if_pos rfl,if_pos (by omega),show a+i-a+b=b+i by omega]
    · rw [if_neg h2]
      by_cases h3:a≤k∧k<a+i
      · rw [if_pos h3,if_pos (by omega)]
      · rw [if_neg h3,if_neg (show ¬ (a≤k∧k<a+(i+1))by omega)]
        by_cases h4:b≤k∧k<b+i
        · rw [if_pos h4,if_pos (by omega)]
        · rw [if_neg h4,if_neg (by omega)]
theorem swr_loop(π:Nat→Nat){a b n:Nat}(hab:a+n≤b)(hb:b+n≤N): ∀ (k i:Nat),i+k=n →
    Loops Try.prog 3 38 (loopAt Try.prog 66 0) [(0,.slice (some ⟨0,0,0,0,1⟩) N N),(1,.int .i64 a),(2,.int .i64 b),(3,.int .i64 n),(10,.int .i64 i)] (SH 4 N (swapR π a b i) b1 b2) (.exit 0) [] (SH 7 N (swapR π a b n) b1 b2)
  | 0,i,e=>by
    obtain rfl:i=n:=by omega
    exact Loops.last (by simp) (swr_end N 0 [] _ b1 b2 i i a b (by omega))
  | k +1,i,e=>by
    have ea:swapR π a b i (a+i)=π (a+i):=by unfold swapR;rw [if_neg (by omega),if_neg (by omega)]
    have eb:swapR π a b i (b+i)=π (b+i):=by unfold swapR;rw [if_neg (by omega),if_neg (by omega)]
    have s:=swr_step N 0 [] (ints N fun k=>(swapR π a b i k:Int)) b1 b2 n i a b (π (a+i):Int) (π (b+i):Int) _ _ (by omega) (by omega) (by omega) (by omega) (ixS (by omega) (by omega)) (by rw [ints_el (by omega),eb]) (by omega) (ixS (by omega) (by omega)) (by rw [ints_el (by omega),ea])
      (ixS (by omega) (by omega)) ⟨rfl,ints_get (by omega)⟩ (ixS (by omega) (by omega)) ⟨rfl,ints_set_get (by omega)⟩ (by omega)
    rw [swr_set hN c1 c2 π (by omega) (by omega)]at s
    refine Loops.round s ?_ (swr_loop π hab hb k (i+1) (by omega))
    exact SDrop c1 c2 (by omega) (by kernel_rfl) (by simp [All_cons,All_nil,Clo];simp [Ids])
include hcs
theorem swr_does(π:Nat→Nat){a b n:Nat}(hab:a+n≤b)(hb:b+n≤N){ea eb en:Int}(ha:ea=a)(hb':eb=b)(hn:en=n){K:Nat}(hK:3≤K) :
    FDoes Try.prog 66 [.slice (some ⟨0,0,0,0,1⟩) N N,.int .i64 ea,.int .i64 eb,.int .i64 en,.func (.func g) [] cs] (SH K N π b1 b2) (.tuple []) (SH K N (swapR π a b n) b1 b2):=by
  subst ha hb' hn
  have l:=swr_loop hN c1 c2 π hab hb n 0 (by omega)
  rw [show swapR π a b 0=π by funext k;unfold swapR;rw [if_neg (by omega),if_neg (by omega)]]at l
  exact(swr_call N g cs _ b1 b2 n a b _ (Runs.of_loops l)).all3 (by kernel_rfl) ⟨fun _=>rfl,by simp [Clo,Clos]⟩ (srow_clo _ _ _) (srow_clo _ _ _) c1 c2 (by simp [Clos,Clo,hcs]) hK
theorem rot_loop {m:Nat} (hmN:m≤N): ∀ (fuel i j:Nat) (π:Nat→Nat),i+j≤fuel→0<i→0<j→i≤m→m+j≤N →
    ∃ (k:Nat) (ρ:Nat→Nat),0<k∧k≤m∧m+k≤N∧rotF ρ (m-k) m (m+k)=rotF π (m-i) m (m+j) ∧
    Loops Try.prog 3 58 (loopAt Try.prog 65 0) [(0,.slice (some ⟨0,0,0,0,1⟩) N N),(2,.int .i64 m),(4,.func (.func g) [] cs),(10,.int .i64 i),(11,.int .i64 j)] (SH 11 N π b1 b2)
      (.exit 0) [(0,.slice (some ⟨0,0,0,0,1⟩) N N),(2,.int .i64 m),(4,.func (.func g) [] cs),(10,.int .i64 k)] (SH 14 N ρ b1 b2)
  | 0,i,j,π,h,hi,hj,him,hjm=>by omega
  | fuel+1,i,j,π,h,hi,hj,him,hjm=>by
    by_cases hij:i=j
    · subst hij
      exact⟨i,π,hi,him,hjm,rfl,Loops.last (by simp) (rot_end N g cs _ b1 b2 m i i rfl)⟩
    · by_cases hgt:j<i
      · obtain⟨k,ρ,k1,k2,k3,k4,k5⟩:=rot_loop hmN fuel (i-j) j (swapR π (m-i) m j) (by omega) (by omega) hj (by omega) hjm
        refine⟨k,ρ,k1,k2,k3,k4.trans (rot_long π him hgt),?_⟩
        have s:=rot_gt N g cs (ints N fun k=>(π k:Int)) b1 b2 m i j (ints N fun k=>(swapR π (m-i) m j k:Int)) (by omega) (by omega) (by omega) (swr_does hN c1 c2 hcs π (by omega) (by omega) (by omega) rfl rfl (by omega)) (by omega)
        rw [show(i:Int)- (j:Int)=((i-j:Nat):Int)by omega]at s
        exact Loops.round s (SDrop c1 c2 (by omega) (by kernel_rfl) (by simp [All_cons,All_nil,Clo,Clos,clos3 hcs];simp [Ids])) k5
      · obtain⟨k,ρ,k1,k2,k3,k4,k5⟩:=rot_loop hmN fuel i (j-i) (swapR π (m-i) (m+j-i) i) (by omega) hi (by omega) him (by omega)
        refine⟨k,ρ,k1,k2,k3,k4.trans (rot_short π him (by omega)),?_⟩
        have s:=rot_lt N g cs (ints N fun k=>(π k:Int)) b1 b2 m i j (ints N fun k=>(swapR π (m-i) (m+j-i) i k:Int)) (by omega) (by omega) (by omega) (by omega) (by omega) (swr_does hN c1 c2 hcs π (by omega) (by omega) (by omega) (by omega) rfl (by omega)) (by omega)
        rw [show(j:Int)- (i:Int)=((j-i:Nat):Int)by omega]at s
        exact Loops.round s (SDrop c1 c2 (by omega) (by kernel_rfl) (by simp [All_cons,All_nil,Clo,Clos,clos3 hcs];simp [Ids])) k5
theorem rot_does(π:Nat→Nat){a m b:Nat}(ham:a<m)(hmb:m<b)(hb:b≤N){ea em eb:Int}(ha:ea=a)(hm:em=m)(hb':eb=b){K:Nat}(hK:3≤K) :
    FDoes Try.prog 65 [.slice (some ⟨0,0,0,0,1⟩) N N,.int .i64 ea,.int .i64 em,.int .i64 eb,.func (.func g) [] cs] (SH K N π b1 b2) (.tuple []) (SH K N (rotF π a m b) b1 b2):=by
  subst ha hm hb'
  obtain⟨k,ρ,k1,k2,k3,k4,k5⟩:=rot_loop hN c1 c2 hcs (m:=m) (by omega) (b-a) (m-a) (b-m) π (by omega) (by omega) (by omega) (by omega) (by omega)
  rw [show m- (m-a)=a by omega,show m+(b-m)=b by omega,← rot_same ρ k2]at k4
  have r:=Runs.of_loops k5
  rw [show((m-a:Nat):Int)=(m:Int)- (a:Int)by omega,show((b-m:Nat):Int)=(b:Int)- (m:Int)by omega]at r
  have c:=rot_call N g cs _ b1 b2 a m b k _ (ints N fun j=>(swapR ρ (m-k) m k j:Int)) (by omega) (by omega) r (by omega) (swr_does hN c1 c2 hcs ρ (by omega) (by omega) (by omega) rfl rfl (by omega))
  rw [k4]at c
  exact c.all3 (by kernel_rfl) ⟨fun _=>rfl,by simp [Clo,Clos]⟩ (srow_clo _ _ _) (srow_clo _ _ _) c1 c2 (by simp [Clos,Clo,hcs]) hK
end
end Go.Proofs.Ytgfkllnaeekjeaa
namespace Go.Proofs.Ytgfkllnaeekjeaa
open Go.Lift
set_option maxRecDepth 1000000
def CmpOk(N:Nat)(g:FuncId)(cs:List AVal)(b1 b2:ABlk)(less:Nat→Nat→Bool):Prop :=
  ∀ (K:Nat) (π:Nat→Nat) (p q:Nat),3≤K→p<N→q<N→ ∃ c:Int,(c<0↔less p q=true)∧FDoes Try.prog g (.int .i64 p:: .int .i64 q::cs) (SH K N π b1 b2) (.int .i64 c) (SH K N π b1 b2)
def InN(N:Nat)(π:Nat→Nat):Prop:= ∀ k,k<N→π k<N
theorem InN.same {N:Nat}{π ρ:Nat→Nat}{a b:Nat}(h:InN N π)(k:Same π ρ a b)(hb:b≤N):InN N ρ:=by
  intro j hj
  by_cases c:a≤j∧j<b
  · obtain⟨i,h1,h2,h3⟩:=k.from c.1 c.2
    rw [h3];exact h i (by omega)
  · rw [k.out j (by omega)];exact h j hj
section
variable {N:Nat}(hN:N<2^44){b1 b2:ABlk}(c1:CloB (fun i=>i<3) b1)(c2:CloB (fun i=>i<3) b2){g:FuncId}{cs:List AVal}(hcs:Clos (fun i=>i<3) cs){less:Nat→Nat→Bool}(hw:Weak less)(hcmp:CmpOk N g cs b1 b2 less)
include hN c1 c2 hcs hw hcmp
theorem ins_in {a b i:Nat} (ρ:Nat→Nat) (hρ:InN N ρ) (hai:a≤i) (hi:i<N): ∀ (j:Nat),a≤j→j≤i→(∀ k,j≤k→k<i→less (ρ i) (ρ k)=true) →
    ∃ j',a≤j'∧j'≤i∧(∀ k,j'≤k→k<i→less (ρ i) (ρ k)=true)∧(j'=a∨less (ρ i) (ρ (j'-1))=false) ∧
    Loops Try.prog 3 53 (loopAt Try.prog 63 1) [(0,.slice (some ⟨0,0,0,0,1⟩) N N),(1,.int .i64 a),(2,.int .i64 b),(3,.func (.func g) [] cs),(8,.int .i64 i),(9,.int .i64 j)] (SH 11 N (insAt ρ j i) b1 b2)
      (.exit 2) [(0,.slice (some ⟨0,0,0,0,1⟩) N N),(1,.int .i64 a),(2,.int .i64 b),(3,.func (.func g) [] cs),(8,.int .i64 i)] (SH 28 N (insAt ρ j' i) b1 b2)
  | 0,h1,h2,h3=>by
    obtain rfl:a=0:=by omega
    exact⟨0,by omega,by omega,h3,.inl rfl,Loops.last (by simp) (ins_in_a N g cs _ b1 b2 0 b i 0 (by omega))⟩
  | j + 1,h1,h2,h3=>by
    by_cases ha:a=j+1
    · subst ha
      exact⟨j+1,by omega,h2,h3,.inl rfl,Loops.last (by simp) (ins_in_a N g cs _ b1 b2 (j+1) b i (j+1) (by omega))⟩
    · have ex:insAt ρ (j+1) i (j+1)=ρ i:=by unfold insAt;rw [if_pos rfl]
      have ey:insAt ρ (j+1) i j=ρ j:=by unfold insAt;rw [if_neg (by omega),if_neg (by omega)]
      have hix:aindexAddr env.D 27 (.slice (some ⟨0,0,0,0,1⟩) N N) (.int .i64 ((j+1:Nat):Int))=some (.ptr (some ⟨0,0,j+1,0,1⟩)):=ixS rfl (by omega)
      have hiy:aindexAddr env.D 27 (.slice (some ⟨0,0,0,0,1⟩) N N) (.int .i64 (((j+1:Nat):Int)-1))=some (.ptr (some ⟨0,0,j+1-1,0,1⟩)):=ixS (by omega) (by omega)
      have hex:(ABlk.made (ints N fun k=>(insAt ρ (j+1) i k:Int)) 1 true).elem? 0 (j+1)=some (.int .i64 (ρ i:Int)):=by rw [ints_el (by omega),ex]
      have hey:(ABlk.made (ints N fun k=>(insAt ρ (j+1) i k:Int)) 1 true).elem? 0 (j+1-1)=some (.int .i64 (ρ j:Int)):=by rw [ints_el (by omega),show j+1-1=j by omega,ey]
      obtain⟨c,hc,hf⟩:=hcmp 28 (insAt ρ (j+1) i) (ρ i) (ρ j) (by omega) (hρ i hi) (hρ j (by omega))
      by_cases hl:less (ρ i) (ρ j)=true
      · obtain⟨j',q1,q2,q3,q4,q5⟩:=ins_in ρ hρ hai hi j (by omega) (by omega) (fun k hk hki=>by
          by_cases e:k=j
          · subst e;exact hl
          · exact h3 k (by omega) hki)
        refine⟨j',q1,q2,q3,q4,?_⟩
        have s:=ins_in_step N g cs (ints N fun k=>(insAt ρ (j+1) i k:Int)) b1 b2 a b i (j+1) (ρ i:Int) (ρ j:Int) c _ _ (by omega) hix hex (by omega) hiy hey hf (hc.2 hl) (by omega) (by omega) hiy hey hix hex hix ⟨rfl,ints_get (by omega)⟩ hiy ⟨rfl,ints_set_get (by omega)⟩ (by omega)
        have e:((ints N fun k=>(insAt ρ (j+1) i k:Int)).set (j+1) (.int .i64 (ρ j:Int))).set (j+1-1) (.int .i64 (ρ i:Int))=ints N fun k=>(insAt ρ j i k:Int):=by
          rw [ints_set,ints_set]
          refine ints_congr fun k hk=> ?_
          have h:=congrFun (insAt_step ρ (j:=j+1) (i:=i) (by omega) (by omega)) k
          rw [show j+1-1=j by omega]at h ⊢
          rw [← h]
          unfold swap1
          rw [ex,ey]
          by_cases e1:k=j
          · rw [if_pos e1,if_pos e1]
          · rw [if_neg e1,if_neg e1]
            by_cases e2:k=j+1
            · rw [if_pos e2,if_pos e2]
            · rw [if_neg e2,if_neg e2]
        rw [e,show((j+1:Nat):Int)-1=(j:Int)by omega]at s
        exact Loops.round s (SDrop c1 c2 (by omega) (by kernel_rfl) (by simp [All_cons,All_nil,Clo,Clos,clos3 hcs];simp [Ids])) q5
      · have hl:less (ρ i) (ρ j)=false:=by simpa using hl
        refine⟨j+1,by omega,h2,h3,.inr (by rw [show j+1-1=j by omega];exact hl),?_⟩
        have s:=ins_in_out N g cs (ints N fun k=>(insAt ρ (j+1) i k:Int)) b1 b2 a b i (j+1) (ρ i:Int) (ρ j:Int) c (by omega) hix hex (by omega) hiy hey hf (fun h=>by have:=hc.1 h;rw [hl]at this;cases this)
        exact Loops.last (by simp) s
theorem ins_out {a b:Nat}(π:Nat→Nat)(hπ:InN N π)(hab:a<b)(hb:b≤N)(hinc: ∀ i j,a≤i→i<j→j<b→π i<π j): ∀ (fuel i:Nat) (ρ:Nat→Nat),i+fuel=b→a<i→Same π ρ a i→Srt less ρ a i →
    ∃ σ,Same π σ a b∧Srt less σ a b∧Loops Try.prog 3 53 (loopAt Try.prog 63 0) [(0,.slice (some ⟨0,0,0,0,1⟩) N N),(1,.int .i64 a),(2,.int .i64 b),(3,.func (.func g) [] cs),(8,.int .i64 i)] (SH 6 N ρ b1 b2) (.exit 0) [] (SH 9 N σ b1 b2)
  | 0,i,ρ,e,h1,h2,h3=>by
    obtain rfl:i=b:=by omega
    exact⟨ρ,h2,h3,Loops.last (by simp) (ins_end N g cs _ b1 b2 a i i (by omega))⟩
  | fuel+1,i,ρ,e,h1,h2,h3=>by
    have hρ:InN N ρ:=hπ.same h2 (by omega)
    obtain⟨j,q1,q2,q3,q4,q5⟩:=ins_in hN c1 c2 hcs hw hcmp (a:=a) (b:=b) ρ hρ (by omega) (by omega:i<N) i (by omega) (by omega) (fun k _ _=>by omega)
    rw [insAt_self]at q5
    have hi:ρ i=π i:=h2.out i (by omega)
    have hlt: ∀ k,a≤k→k<i→ρ k<ρ i:=by
      intro k hk hki
      obtain⟨m,m1,m2,m3⟩:=h2.from hk hki
      rw [m3,hi];exact hinc m i m1 m2 (by omega)
    have hs:=ins_done hw h3 hlt q1 q2 q3 q4
    have hsame:Same π (insAt ρ j i) a (i+1):=(h2.wide (by omega) (by omega) (by omega)).trans (by
      rw [insAt_rot ρ q2]
      exact(rotF_same ρ q2 (by omega)).wide (by omega) (by omega) (by omega))
    obtain⟨σ,r1,r2,r3⟩:=ins_out π hπ hab hb hinc fuel (i+1) (insAt ρ j i) (by omega) (by omega) hsame hs
    refine⟨σ,r1,r2,?_⟩
    have s:=ins_step N g cs (ints N fun k=>(ρ k:Int)) b1 b2 a b i (ints N fun k=>(insAt ρ j i k:Int)) (by omega) (Runs.of_loops q5) (by omega)
    exact Loops.round s (SDrop c1 c2 (by omega) (by kernel_rfl) (by simp [All_cons,All_nil,Clo,Clos,clos3 hcs];simp [Ids])) r3
theorem ins_does {a b:Nat}(π:Nat→Nat)(hπ:InN N π)(hab:a≤b)(hb:b≤N)(hinc: ∀ i j,a≤i→i<j→j<b→π i<π j){ea eb:Int}(ha:ea=a)(hb':eb=b) :
    ∃ σ,Same π σ a b∧Srt less σ a b∧ ∀ K,3≤K→FDoes Try.prog 63 [.slice (some ⟨0,0,0,0,1⟩) N N,.int .i64 ea,.int .i64 eb,.func (.func g) [] cs] (SH K N π b1 b2) (.tuple []) (SH K N σ b1 b2):=by
  subst ha hb'
  have fin: ∀ σ,Loops Try.prog 3 53 (loopAt Try.prog 63 0) [(0,.slice (some ⟨0,0,0,0,1⟩) N N),(1,.int .i64 a),(2,.int .i64 b),(3,.func (.func g) [] cs),(8,.int .i64 (a+1:Nat))] (SH 6 N π b1 b2) (.exit 0) [] (SH 9 N σ b1 b2) →
      ∀ K,3≤K→FDoes Try.prog 63 [.slice (some ⟨0,0,0,0,1⟩) N N,.int .i64 a,.int .i64 b,.func (.func g) [] cs] (SH K N π b1 b2) (.tuple []) (SH K N σ b1 b2):=by
    intro σ l K hK
    exact(ins_call N g cs _ b1 b2 a b _ (by omega) (Runs.of_loops l)).all3 (by kernel_rfl) ⟨fun _=>rfl,by simp [Clo,Clos]⟩ (srow_clo _ _ _) (srow_clo _ _ _) c1 c2 (by simp [Clos,Clo,hcs]) hK
  by_cases h:a<b
  · obtain⟨σ,r1,r2,r3⟩:=ins_out hN c1 c2 hcs hw hcmp π hπ h hb hinc (b- (a+1)) (a+1) π (by omega) (by omega) (Same.refl _ _ _) (fun i j h1 h2 h3=>by omega)
    exact⟨σ,r1,r2,fin σ r3⟩
  · obtain rfl:a=b:=by omega
    exact⟨π,Same.refl _ _ _,fun i j h1 h2 h3=>by omega,fin π (Loops.last (by simp) (ins_end N g cs _ b1 b2 a a (a+1) (by omega)))⟩
end
end Go.Proofs.Ytgfkllnaeekjeaa
namespace Go.Proofs.Ytgfkllnaeekjeaa
open Go.Lift
set_option maxRecDepth 1000000
noncomputable abbrev zq33_1(N:Nat)(i:Nat)(j:Nat)(h:Nat):Prop:=aindexAddr env.D 27 (.slice (some ⟨0,0,0,0,1⟩) N N) (zqI (Int.fdiv ((i:Int)+(j:Int)) (2^1)))=some (.ptr (some ⟨0,0,h,0,1⟩))
noncomputable abbrev zq33_2(i:Nat)(j:Nat):Prop:=0≤(i:Int)+(j:Int)∧(i:Int)+(j:Int)≤18446744073709551615
section
variable(N:Nat)(g:FuncId)(cs:List AVal)(l:List AVal)(b1 b2:ABlk)(a i j h:Nat)(x y c:Int)(hc_0:(i:Int)<(j:Int))(hc_1:zqF ((i:Int)+(j:Int)))(hc_2:(zq33_2 i j))(hc_3:zqF (Int.fdiv ((i:Int)+(j:Int)) (2^1)))(hc_4:(zq33_1 N i j h))(hc_5:ABlk.elem? (.made l 1 true) 0 h=some (zqI x))(hc_6:aindexAddr env.D 27 (.slice (some ⟨0,0,0,0,1⟩) N N) (zqI (a:Int))=some (.ptr (some ⟨0,0,a,0,1⟩)))(hc_7:ABlk.elem? (.made l 1 true) 0 a=some (zqI y))(hc_8:FDoes Try.prog g (zqI x::zqI y::cs) (AHeap.rows 32 [(0,.made l 1 true),(1,b1),(2,b2)]) (zqI c) (AHeap.rows 32 [(0,.made l 1 true),(1,b1),(2,b2)]))
include N g cs l b1 b2 a i j h x y c hc_0 hc_1 hc_2 hc_3 hc_4 hc_5 hc_6 hc_7 hc_8
theorem sm0_t(hc_9:c<0)(hc_10:zqF (Int.fdiv ((i:Int)+(j:Int)) (2^1)+1)) :
    Runs Try.prog 3 220 (loopAt Try.prog 64 0) [(0,.slice (some ⟨0,0,0,0,1⟩) N N),(1,zqI a),(4,.func (.func g) [] cs),(10,zqI i),(11,zqI j)] (AHeap.rows 11 [(0,.made l 1 true),(1,b1),(2,b2)]) .normal [(0,.slice (some ⟨0,0,0,0,1⟩) N N),(1,zqI (a:Int)),(4,.func (.func g) [] cs),(10,zqI (Int.fdiv ((i:Int)+(j:Int)) (2^1)+1)),(11,zqI (j:Int))] (AHeap.rows 35 [(0,.made l 1 true),(1,b1),(2,b2)]) :=
  ppath_runs env_ok mixed (hs:= [.val 3002 (.bool true),.go 4002,.go 4003,.go 4005,.val 5003 (.ptr (some ⟨0,0,h,0,1⟩)),.ld 5004 (zqI x),.val 5007 (.ptr (some ⟨0,0,a,0,1⟩)),.ld 5008 (zqI y),.val 5009 (zqI c),.val 5010 (.bool true),.go 6001]) (keep:= [0,1,4,10,11]) (by kernel_rfl) (All.cons (okT hc_0) (All.cons hc_1 (All.cons hc_2 (All.cons hc_3 (All.cons hc_4 (All.cons hc_5 (All.cons hc_6 (All.cons hc_7 (All.cons (CallT.mk hc_8) (All.cons (okT hc_9) (All.cons hc_10 (All.nil))))))))))))
theorem sm0_f(hc_9: ¬ (c<0)) :
    Runs Try.prog 3 220 (loopAt Try.prog 64 0) [(0,.slice (some ⟨0,0,0,0,1⟩) N N),(1,zqI a),(4,.func (.func g) [] cs),(10,zqI i),(11,zqI j)] (AHeap.rows 11 [(0,.made l 1 true),(1,b1),(2,b2)]) .normal [(0,.slice (some ⟨0,0,0,0,1⟩) N N),(1,zqI (a:Int)),(4,.func (.func g) [] cs),(10,zqI (i:Int)),(11,zqI (Int.fdiv ((i:Int)+(j:Int)) (2^1)))] (AHeap.rows 34 [(0,.made l 1 true),(1,b1),(2,b2)]) :=
  ppath_runs env_ok mixed (hs:= [.val 3002 (.bool true),.go 4002,.go 4003,.go 4005,.val 5003 (.ptr (some ⟨0,0,h,0,1⟩)),.ld 5004 (zqI x),.val 5007 (.ptr (some ⟨0,0,a,0,1⟩)),.ld 5008 (zqI y),.val 5009 (zqI c),.val 5010 (.bool false)]) (keep:= [0,1,4,10,11]) (by kernel_rfl) (All.cons (okT hc_0) (All.cons hc_1 (All.cons hc_2 (All.cons hc_3 (All.cons hc_4 (All.cons hc_5 (All.cons hc_6 (All.cons hc_7 (All.cons (CallT.mk hc_8) (All.cons (okF hc_9) (All.nil)))))))))))
end
theorem sm0_end(N:Nat)(g:FuncId)(cs:List AVal)(l:List AVal)(b1 b2:ABlk)(a i j:Nat)(hc_0: ¬ ((i:Int)<(j:Int))) :
    Runs Try.prog 3 220 (loopAt Try.prog 64 0) [(0,.slice (some ⟨0,0,0,0,1⟩) N N),(1,zqI a),(4,.func (.func g) [] cs),(10,zqI i),(11,zqI j)] (AHeap.rows 11 [(0,.made l 1 true),(1,b1),(2,b2)]) (.exit 0) [(0,.slice (some ⟨0,0,0,0,1⟩) N N),(1,zqI (a:Int)),(10,zqI (i:Int))] (AHeap.rows 14 [(0,.made l 1 true),(1,b1),(2,b2)]) :=
  ppath_runs env_ok mixed (hs:= [.val 3002 (.bool false)]) (keep:= [0,1,10]) (by kernel_rfl) (All.cons (okF hc_0) (All.nil))
noncomputable abbrev zq33_3(N:Nat)(k:Nat):Prop:=aindexAddr env.D 27 (.slice (some ⟨0,0,0,0,1⟩) N N) (zqI (k:Int))=some (.ptr (some ⟨0,0,k,0,1⟩))
section
variable(N:Nat)(g:FuncId)(cs:List AVal)(l:List AVal)(b1 b2:ABlk)
include N g cs l b1 b2
theorem sm1_step(i k:Nat)(x y u v:Int)(hc_0:zqF ((i:Int)-1))(hc_1:(k:Int)<(i:Int)-1)(hc_2:zqF ((k:Int)+1))(hc_3:zqF ((k:Int)+1))(hc_4:aindexAddr env.D 27 (.slice (some ⟨0,0,0,0,1⟩) N N) (zqI ((k:Int)+1))=some (.ptr (some ⟨0,0,k+1,0,1⟩)))(hc_5:ABlk.elem? (.made l 1 true) 0 (k+1)=some (zqI y))(hc_6:(zq33_3 N k))(hc_7:ABlk.elem? (.made l 1 true) 0 k=some (zqI x))(hc_8:(zq33_3 N k))(hc_9:0=0∧l[k]? =some (zqI u))(hc_10:aindexAddr env.D 27 (.slice (some ⟨0,0,0,0,1⟩) N N) (zqI ((k:Int)+1))=some (.ptr (some ⟨0,0,k+1,0,1⟩)))(hc_11:0=0∧(List.set l k (zqI y))[k+1]? =some (zqI v))(hc_12:zqF ((k:Int)+1)) :
    Runs Try.prog 3 220 (loopAt Try.prog 64 1) [(0,.slice (some ⟨0,0,0,0,1⟩) N N),(10,zqI i),(13,zqI k)] (AHeap.rows 16 [(0,.made l 1 true),(1,b1),(2,b2)]) .normal [(0,.slice (some ⟨0,0,0,0,1⟩) N N),(10,zqI (i:Int)),(13,zqI ((k:Int)+1))] (AHeap.rows 41 [(0,(.made (List.set (List.set l k (zqI y)) (k+1) (zqI x)) 1 true)),(1,b1),(2,b2)]) :=
  ppath_runs env_ok mixed (hs:= [.go 9002,.val 9003 (.bool true),.go 11004,.go 11007,.val 11008 (.ptr (some ⟨0,0,k+1,0,1⟩)),.ld 11009 (zqI y),.val 11012 (.ptr (some ⟨0,0,k,0,1⟩)),.ld 11013 (zqI x),.val 11014 (.ptr (some ⟨0,0,k,0,1⟩)),.st 11015 (zqI u),.val 11016 (.ptr (some ⟨0,0,k+1,0,1⟩)),.st 11017 (zqI v),.go 10001]) (keep:= [0,10,13]) (by kernel_rfl) (All.cons hc_0 (All.cons (okT hc_1) (All.cons hc_2 (All.cons hc_3 (All.cons hc_4 (All.cons hc_5 (All.cons hc_6 (All.cons hc_7 (All.cons hc_8 (All.cons hc_9 (All.cons hc_10 (All.cons hc_11 (All.cons hc_12 (All.nil))))))))))))))
theorem sm1_end(i k:Nat)(hc_0:zqF ((i:Int)-1))(hc_1: ¬ ((k:Int)<(i:Int)-1)) :
    Runs Try.prog 3 220 (loopAt Try.prog 64 1) [(0,.slice (some ⟨0,0,0,0,1⟩) N N),(10,zqI i),(13,zqI k)] (AHeap.rows 16 [(0,.made l 1 true),(1,b1),(2,b2)]) (.exit 2) [] (AHeap.rows 20 [(0,.made l 1 true),(1,b1),(2,b2)]) :=
  ppath_runs env_ok mixed (hs:= [.go 9002,.val 9003 (.bool false)]) (keep:= []) (by kernel_rfl) (All.cons hc_0 (All.cons (okF hc_1) (All.nil)))
section
variable(m i j h:Nat)(x y c:Int)(hc_0:(i:Int)<(j:Int))(hc_1:zqF ((i:Int)+(j:Int)))(hc_2:(zq33_2 i j))(hc_3:zqF (Int.fdiv ((i:Int)+(j:Int)) (2^1)))(hc_4:aindexAddr env.D 27 (.slice (some ⟨0,0,0,0,1⟩) N N) (zqI (m:Int))=some (.ptr (some ⟨0,0,m,0,1⟩)))(hc_5:ABlk.elem? (.made l 1 true) 0 m=some (zqI x))(hc_6:(zq33_1 N i j h))(hc_7:ABlk.elem? (.made l 1 true) 0 h=some (zqI y))(hc_8:FDoes Try.prog g (zqI x::zqI y::cs) (AHeap.rows 37 [(0,.made l 1 true),(1,b1),(2,b2)]) (zqI c) (AHeap.rows 37 [(0,.made l 1 true),(1,b1),(2,b2)]))
include m i j h x y c hc_0 hc_1 hc_2 hc_3 hc_4 hc_5 hc_6 hc_7 hc_8
theorem sm2_t(hc_9:c<0) :
    Runs Try.prog 3 220 (loopAt Try.prog 64 2) [(0,.slice (some ⟨0,0,0,0,1⟩) N N),(2,zqI m),(4,.func (.func g) [] cs),(14,zqI i),(15,zqI j)] (AHeap.rows 15 [(0,.made l 1 true),(1,b1),(2,b2)]) .normal [(0,.slice (some ⟨0,0,0,0,1⟩) N N),(2,zqI (m:Int)),(4,.func (.func g) [] cs),(14,zqI (i:Int)),(15,zqI (Int.fdiv ((i:Int)+(j:Int)) (2^1)))] (AHeap.rows 39 [(0,.made l 1 true),(1,b1),(2,b2)]) :=
  ppath_runs env_ok mixed (hs:= [.val 15002 (.bool true),.go 16002,.go 16003,.go 16005,.val 17003 (.ptr (some ⟨0,0,m,0,1⟩)),.ld 17004 (zqI x),.val 17007 (.ptr (some ⟨0,0,h,0,1⟩)),.ld 17008 (zqI y),.val 17009 (zqI c),.val 17010 (.bool true)]) (keep:= [0,2,4,14,15]) (by kernel_rfl) (All.cons (okT hc_0) (All.cons hc_1 (All.cons hc_2 (All.cons hc_3 (All.cons hc_4 (All.cons hc_5 (All.cons hc_6 (All.cons hc_7 (All.cons (CallT.mk hc_8) (All.cons (okT hc_9) (All.nil)))))))))))
theorem sm2_f(hc_9: ¬ (c<0))(hc_10:zqF (Int.fdiv ((i:Int)+(j:Int)) (2^1)+1)) :
    Runs Try.prog 3 220 (loopAt Try.prog 64 2) [(0,.slice (some ⟨0,0,0,0,1⟩) N N),(2,zqI m),(4,.func (.func g) [] cs),(14,zqI i),(15,zqI j)] (AHeap.rows 15 [(0,.made l 1 true),(1,b1),(2,b2)]) .normal [(0,.slice (some ⟨0,0,0,0,1⟩) N N),(2,zqI (m:Int)),(4,.func (.func g) [] cs),(14,zqI (Int.fdiv ((i:Int)+(j:Int)) (2^1)+1)),(15,zqI (j:Int))] (AHeap.rows 40 [(0,.made l 1 true),(1,b1),(2,b2)]) :=
  ppath_runs env_ok mixed (hs:= [.val 15002 (.bool true),.go 16002,.go 16003,.go 16005,.val 17003 (.ptr (some ⟨0,0,m,0,1⟩)),.ld 17004 (zqI x),.val 17007 (.ptr (some ⟨0,0,h,0,1⟩)),.ld 17008 (zqI y),.val 17009 (zqI c),.val 17010 (.bool false),.go 18001]) (keep:= [0,2,4,14,15]) (by kernel_rfl) (All.cons (okT hc_0) (All.cons hc_1 (All.cons hc_2 (All.cons hc_3 (All.cons hc_4 (All.cons hc_5 (All.cons hc_6 (All.cons hc_7 (All.cons (CallT.mk hc_8) (All.cons (okF hc_9) (All.cons hc_10 (All.nil))))))))))))
end
theorem sm2_end(m i j:Nat)(hc_0: ¬ ((i:Int)<(j:Int))) :
    Runs Try.prog 3 220 (loopAt Try.prog 64 2) [(0,.slice (some ⟨0,0,0,0,1⟩) N N),(2,zqI m),(4,.func (.func g) [] cs),(14,zqI i),(15,zqI j)] (AHeap.rows 15 [(0,.made l 1 true),(1,b1),(2,b2)]) (.exit 4) [(0,.slice (some ⟨0,0,0,0,1⟩) N N),(2,zqI (m:Int)),(14,zqI (i:Int))] (AHeap.rows 18 [(0,.made l 1 true),(1,b1),(2,b2)]) :=
  ppath_runs env_ok mixed (hs:= [.val 15002 (.bool false)]) (keep:= [0,2,14]) (by kernel_rfl) (All.cons (okF hc_0) (All.nil))
theorem sm3_step(i k:Nat)(x y u v:Int)(hc_0:(k:Int)>(i:Int))(hc_1:zqF ((k:Int)-1))(hc_2:zqF ((k:Int)-1))(hc_3:aindexAddr env.D 27 (.slice (some ⟨0,0,0,0,1⟩) N N) (zqI ((k:Int)-1))=some (.ptr (some ⟨0,0,k-1,0,1⟩)))(hc_4:ABlk.elem? (.made l 1 true) 0 (k-1)=some (zqI y))(hc_5:(zq33_3 N k))(hc_6:ABlk.elem? (.made l 1 true) 0 k=some (zqI x))(hc_7:(zq33_3 N k))(hc_8:0=0∧l[k]? =some (zqI u))(hc_9:aindexAddr env.D 27 (.slice (some ⟨0,0,0,0,1⟩) N N) (zqI ((k:Int)-1))=some (.ptr (some ⟨0,0,k-1,0,1⟩)))(hc_10:0=0∧(List.set l k (zqI y))[k-1]? =some (zqI v))(hc_11:zqF ((k:Int)-1)) :
    Runs Try.prog 3 220 (loopAt Try.prog 64 3) [(0,.slice (some ⟨0,0,0,0,1⟩) N N),(14,zqI i),(17,zqI k)] (AHeap.rows 20 [(0,.made l 1 true),(1,b1),(2,b2)]) .normal [(0,.slice (some ⟨0,0,0,0,1⟩) N N),(14,zqI (i:Int)),(17,zqI ((k:Int)-1))] (AHeap.rows 44 [(0,(.made (List.set (List.set l k (zqI y)) (k-1) (zqI x)) 1 true)),(1,b1),(2,b2)]) :=
  ppath_runs env_ok mixed (hs:= [.val 21002 (.bool true),.go 23004,.go 23007,.val 23008 (.ptr (some ⟨0,0,k-1,0,1⟩)),.ld 23009 (zqI y),.val 23012 (.ptr (some ⟨0,0,k,0,1⟩)),.ld 23013 (zqI x),.val 23014 (.ptr (some ⟨0,0,k,0,1⟩)),.st 23015 (zqI u),.val 23016 (.ptr (some ⟨0,0,k-1,0,1⟩)),.st 23017 (zqI v),.go 22001]) (keep:= [0,14,17]) (by kernel_rfl) (All.cons (okT hc_0) (All.cons hc_1 (All.cons hc_2 (All.cons hc_3 (All.cons hc_4 (All.cons hc_5 (All.cons hc_6 (All.cons hc_7 (All.cons hc_8 (All.cons hc_9 (All.cons hc_10 (All.cons hc_11 (All.nil)))))))))))))
theorem sm3_end(i k:Nat)(hc_0: ¬ ((k:Int)>(i:Int))) :
    Runs Try.prog 3 220 (loopAt Try.prog 64 3) [(0,.slice (some ⟨0,0,0,0,1⟩) N N),(14,zqI i),(17,zqI k)] (AHeap.rows 20 [(0,.made l 1 true),(1,b1),(2,b2)]) (.exit 6) [] (AHeap.rows 23 [(0,.made l 1 true),(1,b1),(2,b2)]) :=
  ppath_runs env_ok mixed (hs:= [.val 21002 (.bool false)]) (keep:= []) (by kernel_rfl) (All.cons (okF hc_0) (All.nil))
section
variable(a m b d n i j p h:Nat)(x y c:Int)(hc_0:(i:Int)<(j:Int))(hc_1:zqF ((i:Int)+(j:Int)))(hc_2:(zq33_2 i j))(hc_3:zqF (Int.fdiv ((i:Int)+(j:Int)) (2^1)))(hc_4:zqF ((p:Int)-Int.fdiv ((i:Int)+(j:Int)) (2^1)))(hc_5:aindexAddr env.D 27 (.slice (some ⟨0,0,0,0,1⟩) N N) (zqI ((p:Int)-Int.fdiv ((i:Int)+(j:Int)) (2^1)))=some (.ptr (some ⟨0,0,p-h,0,1⟩)))(hc_6:ABlk.elem? (.made l 1 true) 0 (p-h)=some (zqI x))(hc_7:(zq33_1 N i j h))(hc_8:ABlk.elem? (.made l 1 true) 0 h=some (zqI y))(hc_9:FDoes Try.prog g (zqI x::zqI y::cs) (AHeap.rows 60 [(0,.made l 1 true),(1,b1),(2,b2)]) (zqI c) (AHeap.rows 60 [(0,.made l 1 true),(1,b1),(2,b2)]))
include a m b d n i j p h x y c hc_0 hc_1 hc_2 hc_3 hc_4 hc_5 hc_6 hc_7 hc_8 hc_9
theorem sm4_t(hc_10:c<0) :
    Runs Try.prog 3 220 (loopAt Try.prog 64 4) [(0,.slice (some ⟨0,0,0,0,1⟩) N N),(1,zqI a),(2,zqI m),(3,zqI b),(4,.func (.func g) [] cs),(18,zqI d),(19,zqI n),(20,zqI i),(21,zqI j),(22,zqI p)] (AHeap.rows 36 [(0,.made l 1 true),(1,b1),(2,b2)]) .normal [(0,.slice (some ⟨0,0,0,0,1⟩) N N),(1,zqI (a:Int)),(2,zqI (m:Int)),(3,zqI (b:Int)),(4,.func (.func g) [] cs),(18,zqI (d:Int)),(19,zqI (n:Int)),(20,zqI (i:Int)),(21,zqI (Int.fdiv ((i:Int)+(j:Int)) (2^1))),(22,zqI (p:Int))] (AHeap.rows 62 [(0,.made l 1 true),(1,b1),(2,b2)]) :=
  ppath_runs env_ok mixed (hs:= [.val 33002 (.bool true),.go 34002,.go 34003,.go 34005,.go 35004,.val 35005 (.ptr (some ⟨0,0,p-h,0,1⟩)),.ld 35006 (zqI x),.val 35009 (.ptr (some ⟨0,0,h,0,1⟩)),.ld 35010 (zqI y),.val 35011 (zqI c),.val 35012 (.bool true)]) (keep:= [0,1,2,3,4,18,19,20,21,22]) (by kernel_rfl) (All.cons (okT hc_0) (All.cons hc_1 (All.cons hc_2 (All.cons hc_3 (All.cons hc_4 (All.cons hc_5 (All.cons hc_6 (All.cons hc_7 (All.cons hc_8 (All.cons (CallT.mk hc_9) (All.cons (okT hc_10) (All.nil))))))))))))
theorem sm4_f(hc_10: ¬ (c<0))(hc_11:zqF (Int.fdiv ((i:Int)+(j:Int)) (2^1)+1)) :
    Runs Try.prog 3 220 (loopAt Try.prog 64 4) [(0,.slice (some ⟨0,0,0,0,1⟩) N N),(1,zqI a),(2,zqI m),(3,zqI b),(4,.func (.func g) [] cs),(18,zqI d),(19,zqI n),(20,zqI i),(21,zqI j),(22,zqI p)] (AHeap.rows 36 [(0,.made l 1 true),(1,b1),(2,b2)]) .normal [(0,.slice (some ⟨0,0,0,0,1⟩) N N),(1,zqI (a:Int)),(2,zqI (m:Int)),(3,zqI (b:Int)),(4,.func (.func g) [] cs),(18,zqI (d:Int)),(19,zqI (n:Int)),(20,zqI (Int.fdiv ((i:Int)+(j:Int)) (2^1)+1)),(21,zqI (j:Int)),(22,zqI (p:Int))] (AHeap.rows 63 [(0,.made l 1 true),(1,b1),(2,b2)]) :=
  ppath_runs env_ok mixed (hs:= [.val 33002 (.bool true),.go 34002,.go 34003,.go 34005,.go 35004,.val 35005 (.ptr (some ⟨0,0,p-h,0,1⟩)),.ld 35006 (zqI x),.val 35009 (.ptr (some ⟨0,0,h,0,1⟩)),.ld 35010 (zqI y),.val 35011 (zqI c),.val 35012 (.bool false),.go 36001]) (keep:= [0,1,2,3,4,18,19,20,21,22]) (by kernel_rfl) (All.cons (okT hc_0) (All.cons hc_1 (All.cons hc_2 (All.cons hc_3 (All.cons hc_4 (All.cons hc_5 (All.cons hc_6 (All.cons hc_7 (All.cons hc_8 (All.cons (CallT.mk hc_9) (All.cons (okF hc_10) (All.cons hc_11 (All.nil)))))))))))))
end
theorem sm4_end(a m b d n i j p:Nat)(hc_0: ¬ ((i:Int)<(j:Int))) :
    Runs Try.prog 3 220 (loopAt Try.prog 64 4) [(0,.slice (some ⟨0,0,0,0,1⟩) N N),(1,zqI a),(2,zqI m),(3,zqI b),(4,.func (.func g) [] cs),(18,zqI d),(19,zqI n),(20,zqI i),(21,zqI j),(22,zqI p)] (AHeap.rows 36 [(0,.made l 1 true),(1,b1),(2,b2)]) (.exit 8) [(0,.slice (some ⟨0,0,0,0,1⟩) N N),(1,zqI (a:Int)),(2,zqI (m:Int)),(3,zqI (b:Int)),(4,.func (.func g) [] cs),(18,zqI (d:Int)),(19,zqI (n:Int)),(20,zqI (i:Int))] (AHeap.rows 39 [(0,.made l 1 true),(1,b1),(2,b2)]) :=
  ppath_runs env_ok mixed (hs:= [.val 33002 (.bool false)]) (keep:= [0,1,2,3,4,18,19,20]) (by kernel_rfl) (All.cons (okF hc_0) (All.nil))
section
variable(a m b i:Nat)(l1 l2:List AVal)(hc_0:zqF ((m:Int)- (a:Int)))
include a m b i l1 l2 hc_0
theorem smc_one(hc_1:(m:Int)- (a:Int)=1)(hc_2:Runs Try.prog 3 220 (.loop (loopAt Try.prog 64 0)) [(0,.slice (some ⟨0,0,0,0,1⟩) N N),(1,zqI (a:Int)),(4,.func (.func g) [] cs),(10,zqI (m:Int)),(11,zqI (b:Int))] (AHeap.rows 11 [(0,.made l 1 true),(1,b1),(2,b2)]) (.exit 0) [(0,.slice (some ⟨0,0,0,0,1⟩) N N),(1,zqI (a:Int)),(10,zqI (i:Int))] (AHeap.rows 14 [(0,.made l1 1 true),(1,b1),(2,b2)]))(hc_3:Runs Try.prog 3 220 (.loop (loopAt Try.prog 64 1)) [(0,.slice (some ⟨0,0,0,0,1⟩) N N),(10,zqI (i:Int)),(13,zqI (a:Int))] (AHeap.rows 16 [(0,.made l1 1 true),(1,b1),(2,b2)]) (.exit 2) [] (AHeap.rows 20 [(0,.made l2 1 true),(1,b1),(2,b2)])) :
    FDoes Try.prog 64 [.slice (some ⟨0,0,0,0,1⟩) N N,zqI a,zqI m,zqI b,.func (.func g) [] cs] (AHeap.of [.made l 1 true,b1,b2]) (.tuple []) (AHeap.rows 20 [(0,.made l2 1 true),(1,b1),(2,b2)]) :=
  pcall_does env_ok mixed (hs:= [.go 2,.val 3 (.bool true),.keep [0,1,4,10,11],.loop [(0,.slice (some ⟨0,0,0,0,1⟩) N N),(1,zqI a),(10,zqI i)] (AHeap.rows 14 [(0,.made l1 1 true),(1,b1),(2,b2)]) (.exit 0),.keep [0,10,13],.loop [] (AHeap.rows 20 [(0,.made l2 1 true),(1,b1),(2,b2)]) (.exit 2)]) (rs:= []) (by kernel_rfl) (All.cons hc_0 (All.cons (eqT hc_1) (All.cons hc_2 (All.cons hc_3 (All.nil)))))
theorem smc_last(hc_1: ¬ ((m:Int)- (a:Int)=1))(hc_2:zqF ((b:Int)- (m:Int)))(hc_3:(b:Int)- (m:Int)=1)(hc_4:Runs Try.prog 3 220 (.loop (loopAt Try.prog 64 2)) [(0,.slice (some ⟨0,0,0,0,1⟩) N N),(2,zqI (m:Int)),(4,.func (.func g) [] cs),(14,zqI (a:Int)),(15,zqI (m:Int))] (AHeap.rows 15 [(0,.made l 1 true),(1,b1),(2,b2)]) (.exit 4) [(0,.slice (some ⟨0,0,0,0,1⟩) N N),(2,zqI (m:Int)),(14,zqI (i:Int))] (AHeap.rows 18 [(0,.made l1 1 true),(1,b1),(2,b2)]))(hc_5:Runs Try.prog 3 220 (.loop (loopAt Try.prog 64 3)) [(0,.slice (some ⟨0,0,0,0,1⟩) N N),(14,zqI (i:Int)),(17,zqI (m:Int))] (AHeap.rows 20 [(0,.made l1 1 true),(1,b1),(2,b2)]) (.exit 6) [] (AHeap.rows 23 [(0,.made l2 1 true),(1,b1),(2,b2)])) :
    FDoes Try.prog 64 [.slice (some ⟨0,0,0,0,1⟩) N N,zqI a,zqI m,zqI b,.func (.func g) [] cs] (AHeap.of [.made l 1 true,b1,b2]) (.tuple []) (AHeap.rows 23 [(0,.made l2 1 true),(1,b1),(2,b2)]) :=
  pcall_does env_ok mixed (hs:= [.go 2,.val 3 (.bool false),.go 12002,.val 12003 (.bool true),.keep [0,2,4,14,15],.loop [(0,.slice (some ⟨0,0,0,0,1⟩) N N),(2,zqI m),(14,zqI i)] (AHeap.rows 18 [(0,.made l1 1 true),(1,b1),(2,b2)]) (.exit 4),.keep [0,14,17],.loop [] (AHeap.rows 23 [(0,.made l2 1 true),(1,b1),(2,b2)]) (.exit 6)]) (rs:= []) (by kernel_rfl) (All.cons hc_0 (All.cons (eqF hc_1) (All.cons hc_2 (All.cons (eqT hc_3) (All.cons hc_4 (All.cons hc_5 (All.nil)))))))
end
end
end Go.Proofs.Ytgfkllnaeekjeaa
namespace Go.Proofs.Ytgfkllnaeekjeaa
open Go.Lift
set_option maxRecDepth 1000000
theorem fdiv2(i j:Nat):Int.fdiv ((i:Int)+(j:Int)) (2^1)=(((i+j) / 2:Nat):Int):=by
  rw [Int.fdiv_eq_ediv_of_nonneg _ (by decide)]
  omega
theorem swap1_row {N:Nat}(π:Nat→Nat){k:Nat} :((ints N fun j=>(π j:Int)).set k (.int .i64 (π (k+1):Int))).set (k+1) (.int .i64 (π k:Int))=ints N fun j=>(swap1 π k j:Int):=by
  rw [ints_set,ints_set]
  refine ints_congr fun j hj=> ?_
  unfold swap1
  by_cases e2:j=k+1
  · rw [if_pos e2,if_neg (by omega),if_pos e2]
  · rw [if_neg e2]
    by_cases e1:j=k
    · rw [if_pos e1,if_pos e1]
    · rw [if_neg e1,if_neg e1,if_neg e2]
theorem swap1_row' {N:Nat}(π:Nat→Nat){k:Nat} :((ints N fun j=>(π j:Int)).set (k+1) (.int .i64 (π k:Int))).set k (.int .i64 (π (k+1):Int))=ints N fun j=>(swap1 π k j:Int):=by
  rw [ints_set,ints_set]
  refine ints_congr fun j hj=> ?_
  unfold swap1
  by_cases e1:j=k
  · rw [if_pos e1,if_pos e1]
  · rw [if_neg e1,if_neg e1]
    by_cases e2:j=k+1
    · rw [if_pos e2,if_pos e2]
    · rw [if_neg e2,if_neg e2]
section
variable {N:Nat}(hN:N<2^44){b1 b2:ABlk}(c1:CloB (fun i=>i<3) b1)(c2:CloB (fun i=>i<3) b2){g:FuncId}{cs:List AVal}(hcs:Clos (fun i=>i<3) cs){less:Nat→Nat→Bool}(hw:Weak less)(hcmp:CmpOk N g cs b1 b2 less)
include hN c1 c2 hcs hw hcmp
theorem sm0_loop {a b:Nat} (π:Nat→Nat) (hπ:InN N π) (hab:a<b) (hb:b≤N): ∀ (fuel i j:Nat),j-i≤fuel→a+1≤i→i≤j→j≤b→(i=a+1∨less (π (i-1)) (π a)=true)→(j=b∨less (π j) (π a)=false) →
    ∃ k,a+1≤k∧k≤b∧(k=a+1∨less (π (k-1)) (π a)=true)∧(k=b∨less (π k) (π a)=false) ∧
    Loops Try.prog 3 220 (loopAt Try.prog 64 0) [(0,.slice (some ⟨0,0,0,0,1⟩) N N),(1,.int .i64 a),(4,.func (.func g) [] cs),(10,.int .i64 i),(11,.int .i64 j)] (SH 11 N π b1 b2)
      (.exit 0) [(0,.slice (some ⟨0,0,0,0,1⟩) N N),(1,.int .i64 a),(10,.int .i64 k)] (SH 14 N π b1 b2)
  | fuel, i,j,hf,h1,h2,h3,hl,hr=>by
    by_cases hij:i=j
    · subst hij
      exact⟨i,h1,h3,hl,hr,Loops.last (by simp) (sm0_end N g cs _ b1 b2 a i i (by omega))⟩
    · match fuel,hf with
      | 0,hf=>omega
      | fuel+1,hf =>
        have hh:i≤(i+j) / 2∧(i+j) / 2<j:=by omega
        generalize hhd:(i+j) / 2=h at hh
        have hd:Int.fdiv ((i:Int)+(j:Int)) (2^1)=(h:Int):=by rw [fdiv2,hhd]
        obtain⟨c,hc,hfd⟩:=hcmp 32 π (π h) (π a) (by omega) (hπ h (by omega)) (hπ a (by omega))
        by_cases hls:less (π h) (π a)=true
        · obtain⟨k,k1,k2,k3,k4,k5⟩:=sm0_loop π hπ hab hb fuel (h+1) j (by omega) (by omega) (by omega) h3 (.inr (by rw [show h+1-1=h by omega];exact hls)) hr
          refine⟨k,k1,k2,k3,k4,?_⟩
          have s:=sm0_t N g cs (ints N fun k=>(π k:Int)) b1 b2 a i j h (π h:Int) (π a:Int) c (by omega) (by omega) (by omega) (by rw [hd];omega) (ixS hd (by omega)) (ints_el (by omega)) (ixS rfl (by omega)) (ints_el (by omega)) hfd (hc.2 hls) (by rw [hd];omega)
          rw [hd]at s
          exact Loops.round s (SDrop c1 c2 (by omega) (by kernel_rfl) (by simp [All_cons,All_nil,Clo,Clos,clos3 hcs];simp [Ids])) k5
        · have hls:less (π h) (π a)=false:=by simpa using hls
          obtain⟨k,k1,k2,k3,k4,k5⟩:=sm0_loop π hπ hab hb fuel i h (by omega) h1 (by omega) (by omega) hl (.inr hls)
          refine⟨k,k1,k2,k3,k4,?_⟩
          have s:=sm0_f N g cs (ints N fun k=>(π k:Int)) b1 b2 a i j h (π h:Int) (π a:Int) c (by omega) (by omega) (by omega) (by rw [hd];omega) (ixS hd (by omega)) (ints_el (by omega)) (ixS rfl (by omega)) (ints_el (by omega)) hfd (fun h=>by have:=hc.1 h;rw [hls]at this;cases this)
          rw [hd]at s
          exact Loops.round s (SDrop c1 c2 (by omega) (by kernel_rfl) (by simp [All_cons,All_nil,Clo,Clos,clos3 hcs];simp [Ids])) k5
theorem sm1_loop {a i:Nat}(π:Nat→Nat)(hi:i≤N): ∀ (f k:Nat),k+1+f=i→a≤k →
    Loops Try.prog 3 220 (loopAt Try.prog 64 1) [(0,.slice (some ⟨0,0,0,0,1⟩) N N),(10,.int .i64 i),(13,.int .i64 k)] (SH 16 N (rotF π a (a+1) (k+1)) b1 b2) (.exit 2) [] (SH 20 N (rotF π a (a+1) i) b1 b2)
  | 0,k,e,h=>by
    obtain rfl:i=k+1:=by omega
    exact Loops.last (by simp) (sm1_end N 0 [] _ b1 b2 (k+1) k (by omega) (by omega))
  | f+1,k,e,h=>by
    have s:=sm1_step N 0 [] (ints N fun j=>(rotF π a (a+1) (k+1) j:Int)) b1 b2 i k (rotF π a (a+1) (k+1) k:Int) (rotF π a (a+1) (k+1) (k+1):Int) _ _ (by omega) (by omega) (by omega) (by omega) (ixS (by omega) (by omega)) (ints_el (by omega)) (ixS rfl (by omega)) (ints_el (by omega)) (ixS rfl (by omega)) ⟨rfl,ints_get (by omega)⟩ (ixS (by omega) (by omega)) ⟨rfl,ints_set_get (by omega)⟩ (by omega)
    rw [swap1_row,rot1_step π h]at s
    exact Loops.round s (SDrop c1 c2 (by omega) (by kernel_rfl) (by simp [All_cons,All_nil,Clo];simp [Ids])) (sm1_loop π hi f (k+1) (by omega) (by omega))
theorem sm2_loop {a m:Nat} (π:Nat→Nat) (hπ:InN N π) (ham:a<m) (hm:m<N): ∀ (fuel i j:Nat),j-i≤fuel→a≤i→i≤j→j≤m→(i=a∨less (π m) (π (i-1))=false)→(j=m∨less (π m) (π j)=true) →
    ∃ k,a≤k∧k≤m∧(k=a∨less (π m) (π (k-1))=false)∧(k=m∨less (π m) (π k)=true) ∧
    Loops Try.prog 3 220 (loopAt Try.prog 64 2) [(0,.slice (some ⟨0,0,0,0,1⟩) N N),(2,.int .i64 m),(4,.func (.func g) [] cs),(14,.int .i64 i),(15,.int .i64 j)] (SH 15 N π b1 b2)
      (.exit 4) [(0,.slice (some ⟨0,0,0,0,1⟩) N N),(2,.int .i64 m),(14,.int .i64 k)] (SH 18 N π b1 b2)
  | fuel, i,j,hf,h1,h2,h3,hl,hr=>by
    by_cases hij:i=j
    · subst hij
      exact⟨i,h1,h3,hl,hr,Loops.last (by simp) (sm2_end N g cs _ b1 b2 m i i (by omega))⟩
    · match fuel,hf with
      | 0,hf=>omega
      | fuel+1,hf =>
        have hh:i≤(i+j) / 2∧(i+j) / 2<j:=by omega
        generalize hhd:(i+j) / 2=h at hh
        have hd:Int.fdiv ((i:Int)+(j:Int)) (2^1)=(h:Int):=by rw [fdiv2,hhd]
        obtain⟨c,hc,hfd⟩:=hcmp 37 π (π m) (π h) (by omega) (hπ m (by omega)) (hπ h (by omega))
        by_cases hls:less (π m) (π h)=true
        · obtain⟨k,k1,k2,k3,k4,k5⟩:=sm2_loop π hπ ham hm fuel i h (by omega) h1 (by omega) (by omega) hl (.inr hls)
          refine⟨k,k1,k2,k3,k4,?_⟩
          have s:=sm2_t N g cs (ints N fun k=>(π k:Int)) b1 b2 m i j h (π m:Int) (π h:Int) c (by omega) (by omega) (by omega) (by rw [hd];omega) (ixS rfl (by omega)) (ints_el (by omega)) (ixS hd (by omega)) (ints_el (by omega)) hfd (hc.2 hls)
          rw [hd]at s
          exact Loops.round s (SDrop c1 c2 (by omega) (by kernel_rfl) (by simp [All_cons,All_nil,Clo,Clos,clos3 hcs];simp [Ids])) k5
        · have hls:less (π m) (π h)=false:=by simpa using hls
          obtain⟨k,k1,k2,k3,k4,k5⟩:=sm2_loop π hπ ham hm fuel (h+1) j (by omega) (by omega) (by omega) h3 (.inr (by rw [show h+1-1=h by omega];exact hls)) hr
          refine⟨k,k1,k2,k3,k4,?_⟩
          have s:=sm2_f N g cs (ints N fun k=>(π k:Int)) b1 b2 m i j h (π m:Int) (π h:Int) c (by omega) (by omega) (by omega) (by rw [hd];omega) (ixS rfl (by omega)) (ints_el (by omega)) (ixS hd (by omega)) (ints_el (by omega)) hfd (fun h=>by have:=hc.1 h;rw [hls]at this;cases this) (by rw [hd];omega)
          rw [hd]at s
          exact Loops.round s (SDrop c1 c2 (by omega) (by kernel_rfl) (by simp [All_cons,All_nil,Clo,Clos,clos3 hcs];simp [Ids])) k5
theorem sm3_loop {m i:Nat}(π:Nat→Nat)(hm:m<N): ∀ (f k:Nat),i+f=k→k≤m →
    Loops Try.prog 3 220 (loopAt Try.prog 64 3) [(0,.slice (some ⟨0,0,0,0,1⟩) N N),(14,.int .i64 i),(17,.int .i64 k)] (SH 20 N (rotF π k m (m+1)) b1 b2) (.exit 6) [] (SH 23 N (rotF π i m (m+1)) b1 b2)
  | 0,k,e,h=>by
    obtain rfl:i=k:=by omega
    exact Loops.last (by simp) (sm3_end N 0 [] _ b1 b2 i i (by omega))
  | f+1,k,e,h=>by
    obtain⟨k',rfl⟩: ∃ k',k=k'+1:=⟨k-1,by omega⟩
    have s:=sm3_step N 0 [] (ints N fun j=>(rotF π (k'+1) m (m+1) j:Int)) b1 b2 i (k'+1) (rotF π (k'+1) m (m+1) (k'+1):Int) (rotF π (k'+1) m (m+1) k':Int) _ _ (by omega) (by omega) (by omega) (ixS (by omega) (by omega)) (ints_el (by omega)) (ixS rfl (by omega)) (ints_el (by omega)) (ixS rfl (by omega)) ⟨rfl,ints_get (by omega)⟩ (ixS (by omega) (by omega)) ⟨rfl,ints_set_get (by omega)⟩ (by omega)
    have r:=rotL_step π h (by omega)
    rw [show k'+1-1=k' by omega]at r s
    rw [swap1_row',r,show((k'+1:Nat):Int)-1=(k':Int)by omega]at s
    exact Loops.round s (SDrop c1 c2 (by omega) (by kernel_rfl) (by simp [All_cons,All_nil,Clo];simp [Ids])) (sm3_loop π hm f k' (by omega) (by omega))
theorem sm_one {a m b:Nat}(π:Nat→Nat)(hπ:InN N π)(hm:m=a+1)(hmb:m<b)(hb:b≤N)(hp:Parts less π a m b) :
    ∃ σ,Same π σ a b∧Srt less σ a b∧ ∀ K,3≤K→FDoes Try.prog 64 [.slice (some ⟨0,0,0,0,1⟩) N N,.int .i64 a,.int .i64 m,.int .i64 b,.func (.func g) [] cs] (SH K N π b1 b2) (.tuple []) (SH K N σ b1 b2):=by
  subst hm
  obtain⟨k,k1,k2,k3,k4,k5⟩:=sm0_loop hN c1 c2 hcs hw hcmp π hπ (by omega:a<b) hb (b- (a+1)) (a+1) b (by omega) (by omega) (by omega) (by omega) (.inl rfl) (.inl rfl)
  have l:=sm1_loop hN c1 c2 hcs hw hcmp (a:=a) (i:=k) π (by omega) (k- (a+1)) a (by omega) (by omega)
  rw [rot1_zero]at l
  refine⟨_,(rotF_same π (by omega) (by omega)).wide (Nat.le_refl a) k2 (by omega),merge_one hw hp k1 k2 k3 k4,fun K hK=> ?_⟩
  exact(smc_one N g cs _ b1 b2 a (a+1) b k _ _ (by omega) (by omega) (Runs.of_loops k5) (Runs.of_loops l)).all3 (by kernel_rfl) ⟨fun _=>rfl,by simp [Clo,Clos]⟩ (srow_clo _ _ _) (srow_clo _ _ _) c1 c2 (by simp [Clos,Clo,hcs]) hK
theorem sm_last {a m b:Nat}(π:Nat→Nat)(hπ:InN N π)(ham:a<m)(ham2:m≠a+1)(hbm:b=m+1)(hb:b≤N)(hp:Parts less π a m b) :
    ∃ σ,Same π σ a b∧Srt less σ a b∧ ∀ K,3≤K→FDoes Try.prog 64 [.slice (some ⟨0,0,0,0,1⟩) N N,.int .i64 a,.int .i64 m,.int .i64 b,.func (.func g) [] cs] (SH K N π b1 b2) (.tuple []) (SH K N σ b1 b2):=by
  subst hbm
  obtain⟨k,k1,k2,k3,k4,k5⟩:=sm2_loop hN c1 c2 hcs hw hcmp π hπ ham (by omega) (m-a) a m (by omega) (by omega) (by omega) (by omega) (.inl rfl) (.inl rfl)
  have l:=sm3_loop hN c1 c2 hcs hw hcmp (i:=k) π (by omega:m<N) (m-k) m (by omega) (by omega)
  rw [rotL_zero]at l
  refine⟨_,(rotF_same π k2 (by omega)).wide k1 (Nat.le_refl _) (by omega),merge_last hw hp k1 k2 k3 k4,fun K hK=> ?_⟩
  exact(smc_last N g cs _ b1 b2 a m (m+1) k _ _ (by omega) (by omega) (by omega) (by omega) (Runs.of_loops k5) (Runs.of_loops l)).all3 (by kernel_rfl) ⟨fun _=>rfl,by simp [Clo,Clos]⟩ (srow_clo _ _ _) (srow_clo _ _ _) c1 c2 (by simp [Clos,Clo,hcs]) hK
end
end Go.Proofs.Ytgfkllnaeekjeaa
