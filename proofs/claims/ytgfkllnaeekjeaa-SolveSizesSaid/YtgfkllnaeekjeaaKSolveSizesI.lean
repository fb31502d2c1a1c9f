/-
  Parts of the proof, one behind the other:
  frescoref08: rounded: the walk.
  frescoref08.Sizes: the walk.
  frescoref08: start: what it answers.
  frescoref08: rounded: what it answers.
  frescoref08: rounded: what it answers, all of it.
  frescoref08: filled: what it answers.
  'frescolaw08.SolveSums' and what it calls: the walk.
  'frescolaw08.SolveSums' answers true: the parts.
-/
import Derived.Test.YtgfkllnaeekjeaaKSolveSizesH
set_option linter.unusedVariables false
set_option linter.unusedSimpArgs false
set_option linter.unusedSectionVars false
namespace Go.Proofs.Ytgfkllnaeekjeaa
open Go.Lift
set_option maxRecDepth 1000000
noncomputable abbrev zq75_2(o:Option AAddr)(N:Nat)(c:Nat)(i:Nat)(ver:Nat)(off:Nat):Prop:=aindexAddr env.D 26 (.slice o N c) (zqI (i:Int))=some (.ptr (some ⟨0,ver,off+i,0,5⟩))
noncomputable abbrev zq75_4(b:ABlk)(sz:List AVal)(v:Nat)(m:Nat)(f:Nat)(k:Int)(n:Int)(d:Int)(mn:Int)(mx:Int)(r:ABlk):Prop:=abuiltin env Builtin.append {toList:= [63,63]} [.slice none 0 0,.slice (some ⟨79,0,0,0,1⟩) 1 1] 80 (AHeap.set (AHeap.rows 82 [(0,b),(1,⟨sz,1,false,false,v,m,f⟩),(44,(.made ([zqA k n d mn mx]) 5 true))]) 79 (.made [AVal.bool false] 1 true))=some (.slice (some ⟨80,0,0,0,1⟩) 1 1,(AHeap.rows 82 [(0,b),(1,⟨sz,1,false,false,v,m,f⟩),(44,(.made ([zqA k n d mn mx]) 5 true)),(79,.made [AVal.bool false] 1 true),(80,r)]))
noncomputable abbrev zq75_6(o:Option AAddr)(N:Nat)(c:Nat)(v:Nat)(p:Int)(q:Int)(left:Int)(weight:Int)(i:Nat):Facts:= [(0,.slice o N c),(1,.slice (some ⟨1,v,0,0,1⟩) N N),(3,zqI p),(4,zqI q),(11,zqI left),(12,zqI weight),(13,.slice none 0 0),(14,zqI i)]
noncomputable abbrev zq75_10(b:ABlk)(sz:List AVal)(v:Nat)(m:Nat)(f:Nat)(k:Int)(n:Int)(d:Int)(mn:Int)(mx:Int)(r:ABlk):List (Nat×ABlk):= [(0,b),(1,⟨sz,1,false,false,v,m,f⟩),(44,(.made ([zqA k n d mn mx]) 5 true)),(79,.made [AVal.bool false] 1 true),(80,r)]
theorem rd_an(o:Option AAddr)(N c ver off i v m f gv gq:Nat)(b r0 r:ABlk)(sz:List AVal)(k n d mn mx x w left weight p q:Int)(hc_0:(i:Int)<(N:Int))(hc_1:(zq75_2 o N c i ver off))(hc_2:ABlk.elem? b ver (off+i)=some (zqA k n d mn mx))(hc_3: ¬ (k=3))(hc_4:(zq75_4 b sz v m f k n d mn mx r))(hc_5: ¬ (k=3))(hc_6:zqF ((i:Int)+1)) :
    Runs Try.prog 2 140 (loopAt Try.prog 55 0) (zq75_6 o N c v p q left weight i) (AHeap.rows 36 [(0,b),(1,⟨sz,1,false,false,v,m,f⟩)]) .normal [(0,.slice o N c),(1,.slice (some ⟨1,v,0,0,1⟩) N N),(3,zqI p),(4,zqI q),(11,zqI left),(12,zqI weight),(13,.slice (some ⟨80,0,0,0,1⟩) 1 1),(14,zqI ((i:Int)+1))] (AHeap.rows 89 (zq75_10 b sz v m f k n d mn mx r)) :=
  ppath_runs env_ok mixed (hs:= [.val 5003 (.bool true),.val 7002 (.ptr (some ⟨0,ver,off+i,0,5⟩)),.ld 7003 (zqA k n d mn mx),.val 8002 (.bool false),.act 9003 (.slice (some ⟨80,0,0,0,1⟩) 1 1) (fun h=>h.set 80 r),.val 12002 (.bool false),.go 6001]) (keep:= [0,1,3,4,11,12,13,14]) (by kernel_rfl) (All.cons (okT hc_0) (All.cons hc_1 (All.cons hc_2 (All.cons (eqF hc_3) (All.cons hc_4 (All.cons (eqF hc_5) (All.cons hc_6 (All.nil))))))))
noncomputable abbrev zq75_1(v:Nat)(N:Nat)(i:Nat):Prop:=aindexAddr env.D 27 (.slice (some ⟨1,v,0,0,1⟩) N N) (zqI (i:Int))=some (.ptr (some ⟨1,v,i,0,1⟩))
noncomputable abbrev zq75_11(sz:List AVal)(i:Nat)(w:Int)(q:Int)(v:Nat)(f:Nat):Prop:=ABlk.elem? ⟨List.set sz i (zqI (Int.tdiv w q)),1,false,false,v,v,f⟩ v i=some (zqI (Int.tdiv w q))
theorem rd_bn(o:Option AAddr)(N c ver off i v m f gv gq:Nat)(b r0 r:ABlk)(sz:List AVal)(k n d mn mx x w left weight p q:Int)(hc_0:(i:Int)<(N:Int))(hc_1:(zq75_2 o N c i ver off))(hc_2:ABlk.elem? b ver (off+i)=some (zqA k n d mn mx))(hc_3:k=3)(hc_4:zqF (p*n))(hc_5:zqF (mn*q))(hc_6: ¬ (p*n≥mn*q))(hc_7:(zq75_4 b sz v m f k n d mn mx r))(hc_8:k=3)(hc_9:FDoes Try.prog 59 [zqA k n d mn mx,zqI p,zqI q] (AHeap.rows 96 (zq75_10 b sz v m f k n d mn mx r)) (zqI w) (AHeap.rows 96 (zq75_10 b sz v m f k n d mn mx r)))(hc_10:q≠0∧zqF (Int.tdiv w q))(hc_11:(zq75_1 v N i))(hc_12:v=v∧sz[i]? =some (zqI x))(hc_13:(zq75_1 v N i))(hc_14:(zq75_11 sz i w q v f))(hc_15:zqF (left-Int.tdiv w q))(hc_16:zqF ((i:Int)+1)) :
    Runs Try.prog 2 140 (loopAt Try.prog 55 0) (zq75_6 o N c v p q left weight i) (AHeap.rows 36 [(0,b),(1,⟨sz,1,false,false,v,m,f⟩)]) .normal [(0,.slice o N c),(1,.slice (some ⟨1,v,0,0,1⟩) N N),(3,zqI p),(4,zqI q),(11,zqI (left-Int.tdiv w q)),(12,zqI weight),(13,.slice (some ⟨80,0,0,0,1⟩) 1 1),(14,zqI ((i:Int)+1))] (AHeap.rows 106 [(0,b),(1,⟨List.set sz i (zqI (Int.tdiv w q)),1,false,false,v,v,f⟩),(44,(.made ([zqA k n d mn mx]) 5 true)),(79,.made [AVal.bool false] 1 true),(80,r)]) :=
  ppath_runs env_ok mixed (hs:= [.val 5003 (.bool true),.val 7002 (.ptr (some ⟨0,ver,off+i,0,5⟩)),.ld 7003 (zqA k n d mn mx),.val 8002 (.bool true),.go 8007,.go 8011,.val 8012 (.bool false),.act 9003 (.slice (some ⟨80,0,0,0,1⟩) 1 1) (fun h=>h.set 80 r),.val 12002 (.bool true),.val 13005 (zqI w),.go 13007,.val 13008 (.ptr (some ⟨1,v,i,0,1⟩)),.st 13009 (zqI x),.val 14003 (.ptr (some ⟨1,v,i,0,1⟩)),.ld 14004 (zqI (Int.tdiv w q)),.go 14005,.go 6001]) (keep:= [0,1,3,4,11,12,13,14]) (by kernel_rfl) (All.cons (okT hc_0) (All.cons hc_1 (All.cons hc_2 (All.cons (eqT hc_3) (All.cons hc_4 (All.cons hc_5 (All.cons (okF hc_6) (All.cons hc_7 (All.cons (eqT hc_8) (All.cons (CallT.mk hc_9) (All.cons hc_10 (All.cons hc_11 (All.cons hc_12 (All.cons hc_13 (All.cons hc_14 (All.cons hc_15 (All.cons hc_16 (All.nil))))))))))))))))))
noncomputable abbrev zq75_8(b:ABlk)(sz:List AVal)(v:Nat)(m:Nat)(f:Nat)(k:Int)(n:Int)(d:Int)(mn:Int)(mx:Int)(r:ABlk):Prop:=abuiltin env Builtin.append {toList:= [63,63]} [.slice none 0 0,.slice (some ⟨79,0,0,0,1⟩) 1 1] 80 (AHeap.set (AHeap.rows 82 [(0,b),(1,⟨sz,1,false,false,v,m,f⟩),(44,(.made ([zqA k n d mn mx]) 5 true))]) 79 (.made [AVal.bool true] 1 true))=some (.slice (some ⟨80,0,0,0,1⟩) 1 1,(AHeap.rows 82 [(0,b),(1,⟨sz,1,false,false,v,m,f⟩),(44,(.made ([zqA k n d mn mx]) 5 true)),(79,.made [AVal.bool true] 1 true),(80,r)]))
section
variable(o:Option AAddr)(N c ver off i v m f gv gq:Nat)(b r0 r:ABlk)(sz:List AVal)(k n d mn mx x w left weight p q:Int)(hc_0:(i:Int)<(N:Int))(hc_1:(zq75_2 o N c i ver off))(hc_2:ABlk.elem? b ver (off+i)=some (zqA k n d mn mx))(hc_3:k=3)(hc_4:zqF (p*n))(hc_5:zqF (mn*q))(hc_6:p*n≥mn*q)
include o N c ver off i v m f gv gq b r0 r sz k n d mn mx x w left weight p q hc_0 hc_1 hc_2 hc_3 hc_4 hc_5 hc_6
theorem rd_cn(hc_7:mx=0)(hc_8:(zq75_8 b sz v m f k n d mn mx r))(hc_9:zqF (weight+n))(hc_10:zqF ((i:Int)+1)) :
    Runs Try.prog 2 140 (loopAt Try.prog 55 0) (zq75_6 o N c v p q left weight i) (AHeap.rows 36 [(0,b),(1,⟨sz,1,false,false,v,m,f⟩)]) .normal [(0,.slice o N c),(1,.slice (some ⟨1,v,0,0,1⟩) N N),(3,zqI p),(4,zqI q),(11,zqI left),(12,zqI (weight+n)),(13,.slice (some ⟨80,0,0,0,1⟩) 1 1),(14,zqI ((i:Int)+1))] (AHeap.rows 91 [(0,b),(1,⟨sz,1,false,false,v,m,f⟩),(44,(.made ([zqA k n d mn mx]) 5 true)),(79,.made [AVal.bool true] 1 true),(80,r)]) :=
  ppath_runs env_ok mixed (hs:= [.val 5003 (.bool true),.val 7002 (.ptr (some ⟨0,ver,off+i,0,5⟩)),.ld 7003 (zqA k n d mn mx),.val 8002 (.bool true),.go 8007,.go 8011,.val 8012 (.bool true),.val 8017 (.bool true),.act 9003 (.slice (some ⟨80,0,0,0,1⟩) 1 1) (fun h=>h.set 80 r),.go 11003,.go 6001]) (keep:= [0,1,3,4,11,12,13,14]) (by kernel_rfl) (All.cons (okT hc_0) (All.cons hc_1 (All.cons hc_2 (All.cons (eqT hc_3) (All.cons hc_4 (All.cons hc_5 (All.cons (okT hc_6) (All.cons (eqT hc_7) (All.cons hc_8 (All.cons hc_9 (All.cons hc_10 (All.nil))))))))))))
section
variable(hc_7: ¬ (mx=0))(hc_8:zqF (p*n))(hc_9:zqF (mx*q))
include hc_7 hc_8 hc_9
theorem rd_dn(hc_10:p*n<mx*q)(hc_11:(zq75_8 b sz v m f k n d mn mx r))(hc_12:zqF (weight+n))(hc_13:zqF ((i:Int)+1)) :
    Runs Try.prog 2 140 (loopAt Try.prog 55 0) (zq75_6 o N c v p q left weight i) (AHeap.rows 36 [(0,b),(1,⟨sz,1,false,false,v,m,f⟩)]) .normal [(0,.slice o N c),(1,.slice (some ⟨1,v,0,0,1⟩) N N),(3,zqI p),(4,zqI q),(11,zqI left),(12,zqI (weight+n)),(13,.slice (some ⟨80,0,0,0,1⟩) 1 1),(14,zqI ((i:Int)+1))] (AHeap.rows 91 [(0,b),(1,⟨sz,1,false,false,v,m,f⟩),(44,(.made ([zqA k n d mn mx]) 5 true)),(79,.made [AVal.bool true] 1 true),(80,r)]) :=
  ppath_runs env_ok mixed (hs:= [.val 5003 (.bool true),.val 7002 (.ptr (some ⟨0,ver,off+i,0,5⟩)),.ld 7003 (zqA k n d mn mx),.val 8002 (.bool true),.go 8007,.go 8011,.val 8012 (.bool true),.val 8017 (.bool false),.go 8022,.go 8026,.val 8027 (.bool true),.act 9003 (.slice (some ⟨80,0,0,0,1⟩) 1 1) (fun h=>h.set 80 r),.go 11003,.go 6001]) (keep:= [0,1,3,4,11,12,13,14]) (by kernel_rfl) (All.cons (okT hc_0) (All.cons hc_1 (All.cons hc_2 (All.cons (eqT hc_3) (All.cons hc_4 (All.cons hc_5 (All.cons (okT hc_6) (All.cons (eqF hc_7) (All.cons hc_8 (All.cons hc_9 (All.cons (okT hc_10) (All.cons hc_11 (All.cons hc_12 (All.cons hc_13 (All.nil)))))))))))))))
theorem rd_en(hc_10: ¬ (p*n<mx*q))(hc_11:(zq75_4 b sz v m f k n d mn mx r))(hc_12:k=3)(hc_13:FDoes Try.prog 59 [zqA k n d mn mx,zqI p,zqI q] (AHeap.rows 96 (zq75_10 b sz v m f k n d mn mx r)) (zqI w) (AHeap.rows 96 (zq75_10 b sz v m f k n d mn mx r)))(hc_14:q≠0∧zqF (Int.tdiv w q))(hc_15:(zq75_1 v N i))(hc_16:v=v∧sz[i]? =some (zqI x))(hc_17:(zq75_1 v N i))(hc_18:(zq75_11 sz i w q v f))(hc_19:zqF (left-Int.tdiv w q))(hc_20:zqF ((i:Int)+1)) :
    Runs Try.prog 2 140 (loopAt Try.prog 55 0) (zq75_6 o N c v p q left weight i) (AHeap.rows 36 [(0,b),(1,⟨sz,1,false,false,v,m,f⟩)]) .normal [(0,.slice o N c),(1,.slice (some ⟨1,v,0,0,1⟩) N N),(3,zqI p),(4,zqI q),(11,zqI (left-Int.tdiv w q)),(12,zqI weight),(13,.slice (some ⟨80,0,0,0,1⟩) 1 1),(14,zqI ((i:Int)+1))] (AHeap.rows 106 [(0,b),(1,⟨List.set sz i (zqI (Int.tdiv w q)),1,false,false,v,v,f⟩),(44,(.made ([zqA k n d mn mx]) 5 true)),(79,.made [AVal.bool false] 1 true),(80,r)]) :=
  ppath_runs env_ok mixed (hs:= [.val 5003 (.bool true),.val 7002 (.ptr (some ⟨0,ver,off+i,0,5⟩)),.ld 7003 (zqA k n d mn mx),.val 8002 (.bool true),.go 8007,.go 8011,.val 8012 (.bool true),.val 8017 (.bool false),.go 8022,.go 8026,.val 8027 (.bool false),.act 9003 (.slice (some ⟨80,0,0,0,1⟩) 1 1) (fun h=>h.set 80 r),.val 12002 (.bool true),.val 13005 (zqI w),.go 13007,.val 13008 (.ptr (some ⟨1,v,i,0,1⟩)),.st 13009 (zqI x),.val 14003 (.ptr (some ⟨1,v,i,0,1⟩)),.ld 14004 (zqI (Int.tdiv w q)),.go 14005,.go 6001]) (keep:= [0,1,3,4,11,12,13,14]) (by kernel_rfl) (All.cons (okT hc_0) (All.cons hc_1 (All.cons hc_2 (All.cons (eqT hc_3) (All.cons hc_4 (All.cons hc_5 (All.cons (okT hc_6) (All.cons (eqF hc_7) (All.cons hc_8 (All.cons hc_9 (All.cons (okF hc_10) (All.cons hc_11 (All.cons (eqT hc_12) (All.cons (CallT.mk hc_13) (All.cons hc_14 (All.cons hc_15 (All.cons hc_16 (All.cons hc_17 (All.cons hc_18 (All.cons hc_19 (All.cons hc_20 (All.nil))))))))))))))))))))))
end
end
noncomputable abbrev zq75_3(gv:Nat)(gq:Nat)(b:ABlk)(sz:List AVal)(v:Nat)(m:Nat)(f:Nat)(r0:ABlk)(k:Int)(n:Int)(d:Int)(mn:Int)(mx:Int)(r:ABlk):Prop:=abuiltin env Builtin.append {toList:= [63,63]} [.slice (some ⟨80,gv,0,0,1⟩) gq gq,.slice (some ⟨133,0,0,0,1⟩) 1 1] 134 (AHeap.set (AHeap.rows 136 [(0,b),(1,⟨sz,1,false,false,v,m,f⟩),(80,r0),(98,(.made ([zqA k n d mn mx]) 5 true))]) 133 (.made [AVal.bool false] 1 true))=some (.slice (some ⟨80,gv+1,0,0,1⟩) (gq+1) (gq+1),(AHeap.rows 136 [(0,b),(1,⟨sz,1,false,false,v,m,f⟩),(80,r),(98,(.made ([zqA k n d mn mx]) 5 true)),(133,.made [AVal.bool false] 1 true)]))
noncomputable abbrev zq75_5(o:Option AAddr)(N:Nat)(c:Nat)(v:Nat)(p:Int)(q:Int)(left:Int)(weight:Int)(gv:Nat)(gq:Nat)(i:Nat):Facts:= [(0,.slice o N c),(1,.slice (some ⟨1,v,0,0,1⟩) N N),(3,zqI p),(4,zqI q),(11,zqI left),(12,zqI weight),(13,.slice (some ⟨80,gv,0,0,1⟩) gq gq),(14,zqI i)]
noncomputable abbrev zq75_9(b:ABlk)(sz:List AVal)(v:Nat)(m:Nat)(f:Nat)(r:ABlk)(k:Int)(n:Int)(d:Int)(mn:Int)(mx:Int):List (Nat×ABlk):= [(0,b),(1,⟨sz,1,false,false,v,m,f⟩),(80,r),(98,(.made ([zqA k n d mn mx]) 5 true)),(133,.made [AVal.bool false] 1 true)]
section
variable(o:Option AAddr)(N c ver off i v m f gv gq:Nat)(b r0 r:ABlk)(sz:List AVal)(k n d mn mx x w left weight p q:Int)(hc_0:(i:Int)<(N:Int))(hc_1:(zq75_2 o N c i ver off))(hc_2:ABlk.elem? b ver (off+i)=some (zqA k n d mn mx))
include o N c ver off i v m f gv gq b r0 r sz k n d mn mx x w left weight p q hc_0 hc_1 hc_2
theorem rd_ag(hc_3: ¬ (k=3))(hc_4:(zq75_3 gv gq b sz v m f r0 k n d mn mx r))(hc_5: ¬ (k=3))(hc_6:zqF ((i:Int)+1)) :
    Runs Try.prog 2 140 (loopAt Try.prog 55 0) (zq75_5 o N c v p q left weight gv gq i) (AHeap.rows 90 [(0,b),(1,⟨sz,1,false,false,v,m,f⟩),(80,r0)]) .normal [(0,.slice o N c),(1,.slice (some ⟨1,v,0,0,1⟩) N N),(3,zqI p),(4,zqI q),(11,zqI left),(12,zqI weight),(13,.slice (some ⟨80,gv+1,0,0,1⟩) (gq+1) (gq+1)),(14,zqI ((i:Int)+1))] (AHeap.rows 143 (zq75_9 b sz v m f r k n d mn mx)) :=
  ppath_runs env_ok mixed (hs:= [.val 5003 (.bool true),.val 7002 (.ptr (some ⟨0,ver,off+i,0,5⟩)),.ld 7003 (zqA k n d mn mx),.val 8002 (.bool false),.act 9003 (.slice (some ⟨80,gv+1,0,0,1⟩) (gq+1) (gq+1)) (fun h=>h.set 80 r),.val 12002 (.bool false),.go 6001]) (keep:= [0,1,3,4,11,12,13,14]) (by kernel_rfl) (All.cons (okT hc_0) (All.cons hc_1 (All.cons hc_2 (All.cons (eqF hc_3) (All.cons hc_4 (All.cons (eqF hc_5) (All.cons hc_6 (All.nil))))))))
theorem rd_bg(hc_3:k=3)(hc_4:zqF (p*n))(hc_5:zqF (mn*q))(hc_6: ¬ (p*n≥mn*q))(hc_7:(zq75_3 gv gq b sz v m f r0 k n d mn mx r))(hc_8:k=3)(hc_9:FDoes Try.prog 59 [zqA k n d mn mx,zqI p,zqI q] (AHeap.rows 150 (zq75_9 b sz v m f r k n d mn mx)) (zqI w) (AHeap.rows 150 (zq75_9 b sz v m f r k n d mn mx)))(hc_10:q≠0∧zqF (Int.tdiv w q))(hc_11:(zq75_1 v N i))(hc_12:v=v∧sz[i]? =some (zqI x))(hc_13:(zq75_1 v N i))(hc_14:(zq75_11 sz i w q v f))(hc_15:zqF (left-Int.tdiv w q))(hc_16:zqF ((i:Int)+1)) :
    Runs Try.prog 2 140 (loopAt Try.prog 55 0) (zq75_5 o N c v p q left weight gv gq i) (AHeap.rows 90 [(0,b),(1,⟨sz,1,false,false,v,m,f⟩),(80,r0)]) .normal [(0,.slice o N c),(1,.slice (some ⟨1,v,0,0,1⟩) N N),(3,zqI p),(4,zqI q),(11,zqI (left-Int.tdiv w q)),(12,zqI weight),(13,.slice (some ⟨80,gv+1,0,0,1⟩) (gq+1) (gq+1)),(14,zqI ((i:Int)+1))] (AHeap.rows 160 [(0,b),(1,⟨List.set sz i (zqI (Int.tdiv w q)),1,false,false,v,v,f⟩),(80,r),(98,(.made ([zqA k n d mn mx]) 5 true)),(133,.made [AVal.bool false] 1 true)]) :=
  ppath_runs env_ok mixed (hs:= [.val 5003 (.bool true),.val 7002 (.ptr (some ⟨0,ver,off+i,0,5⟩)),.ld 7003 (zqA k n d mn mx),.val 8002 (.bool true),.go 8007,.go 8011,.val 8012 (.bool false),.act 9003 (.slice (some ⟨80,gv+1,0,0,1⟩) (gq+1) (gq+1)) (fun h=>h.set 80 r),.val 12002 (.bool true),.val 13005 (zqI w),.go 13007,.val 13008 (.ptr (some ⟨1,v,i,0,1⟩)),.st 13009 (zqI x),.val 14003 (.ptr (some ⟨1,v,i,0,1⟩)),.ld 14004 (zqI (Int.tdiv w q)),.go 14005,.go 6001]) (keep:= [0,1,3,4,11,12,13,14]) (by kernel_rfl) (All.cons (okT hc_0) (All.cons hc_1 (All.cons hc_2 (All.cons (eqT hc_3) (All.cons hc_4 (All.cons hc_5 (All.cons (okF hc_6) (All.cons hc_7 (All.cons (eqT hc_8) (All.cons (CallT.mk hc_9) (All.cons hc_10 (All.cons hc_11 (All.cons hc_12 (All.cons hc_13 (All.cons hc_14 (All.cons hc_15 (All.cons hc_16 (All.nil))))))))))))))))))
end
noncomputable abbrev zq75_7(gv:Nat)(gq:Nat)(b:ABlk)(sz:List AVal)(v:Nat)(m:Nat)(f:Nat)(r0:ABlk)(k:Int)(n:Int)(d:Int)(mn:Int)(mx:Int)(r:ABlk):Prop:=abuiltin env Builtin.append {toList:= [63,63]} [.slice (some ⟨80,gv,0,0,1⟩) gq gq,.slice (some ⟨133,0,0,0,1⟩) 1 1] 134 (AHeap.set (AHeap.rows 136 [(0,b),(1,⟨sz,1,false,false,v,m,f⟩),(80,r0),(98,(.made ([zqA k n d mn mx]) 5 true))]) 133 (.made [AVal.bool true] 1 true))=some (.slice (some ⟨80,gv+1,0,0,1⟩) (gq+1) (gq+1),(AHeap.rows 136 [(0,b),(1,⟨sz,1,false,false,v,m,f⟩),(80,r),(98,(.made ([zqA k n d mn mx]) 5 true)),(133,.made [AVal.bool true] 1 true)]))
section
variable(o:Option AAddr)(N c ver off i v m f gv gq:Nat)(b r0 r:ABlk)(sz:List AVal)(k n d mn mx x w left weight p q:Int)(hc_0:(i:Int)<(N:Int))(hc_1:(zq75_2 o N c i ver off))(hc_2:ABlk.elem? b ver (off+i)=some (zqA k n d mn mx))(hc_3:k=3)(hc_4:zqF (p*n))(hc_5:zqF (mn*q))(hc_6:p*n≥mn*q)
include o N c ver off i v m f gv gq b r0 r sz k n d mn mx x w left weight p q hc_0 hc_1 hc_2 hc_3 hc_4 hc_5 hc_6
theorem rd_cg(hc_7:mx=0)(hc_8:(zq75_7 gv gq b sz v m f r0 k n d mn mx r))(hc_9:zqF (weight+n))(hc_10:zqF ((i:Int)+1)) :
    Runs Try.prog 2 140 (loopAt Try.prog 55 0) (zq75_5 o N c v p q left weight gv gq i) (AHeap.rows 90 [(0,b),(1,⟨sz,1,false,false,v,m,f⟩),(80,r0)]) .normal [(0,.slice o N c),(1,.slice (some ⟨1,v,0,0,1⟩) N N),(3,zqI p),(4,zqI q),(11,zqI left),(12,zqI (weight+n)),(13,.slice (some ⟨80,gv+1,0,0,1⟩) (gq+1) (gq+1)),(14,zqI ((i:Int)+1))] (AHeap.rows 145 [(0,b),(1,⟨sz,1,false,false,v,m,f⟩),(80,r),(98,(.made ([zqA k n d mn mx]) 5 true)),(133,.made [AVal.bool true] 1 true)]) :=
  ppath_runs env_ok mixed (hs:= [.val 5003 (.bool true),.val 7002 (.ptr (some ⟨0,ver,off+i,0,5⟩)),.ld 7003 (zqA k n d mn mx),.val 8002 (.bool true),.go 8007,.go 8011,.val 8012 (.bool true),.val 8017 (.bool true),.act 9003 (.slice (some ⟨80,gv+1,0,0,1⟩) (gq+1) (gq+1)) (fun h=>h.set 80 r),.go 11003,.go 6001]) (keep:= [0,1,3,4,11,12,13,14]) (by kernel_rfl) (All.cons (okT hc_0) (All.cons hc_1 (All.cons hc_2 (All.cons (eqT hc_3) (All.cons hc_4 (All.cons hc_5 (All.cons (okT hc_6) (All.cons (eqT hc_7) (All.cons hc_8 (All.cons hc_9 (All.cons hc_10 (All.nil))))))))))))
section
variable(hc_7: ¬ (mx=0))(hc_8:zqF (p*n))(hc_9:zqF (mx*q))
include hc_7 hc_8 hc_9
theorem rd_dg(hc_10:p*n<mx*q)(hc_11:(zq75_7 gv gq b sz v m f r0 k n d mn mx r))(hc_12:zqF (weight+n))(hc_13:zqF ((i:Int)+1)) :
    Runs Try.prog 2 140 (loopAt Try.prog 55 0) (zq75_5 o N c v p q left weight gv gq i) (AHeap.rows 90 [(0,b),(1,⟨sz,1,false,false,v,m,f⟩),(80,r0)]) .normal [(0,.slice o N c),(1,.slice (some ⟨1,v,0,0,1⟩) N N),(3,zqI p),(4,zqI q),(11,zqI left),(12,zqI (weight+n)),(13,.slice (some ⟨80,gv+1,0,0,1⟩) (gq+1) (gq+1)),(14,zqI ((i:Int)+1))] (AHeap.rows 145 [(0,b),(1,⟨sz,1,false,false,v,m,f⟩),(80,r),(98,(.made ([zqA k n d mn mx]) 5 true)),(133,.made [AVal.bool true] 1 true)]) :=
  ppath_runs env_ok mixed (hs:= [.val 5003 (.bool true),.val 7002 (.ptr (some ⟨0,ver,off+i,0,5⟩)),.ld 7003 (zqA k n d mn mx),.val 8002 (.bool true),.go 8007,.go 8011,.val 8012 (.bool true),.val 8017 (.bool false),.go 8022,.go 8026,.val 8027 (.bool true),.act 9003 (.slice (some ⟨80,gv+1,0,0,1⟩) (gq+1) (gq+1)) (fun h=>h.set 80 r),.go 11003,.go 6001]) (keep:= [0,1,3,4,11,12,13,14]) (by kernel_rfl) (All.cons (okT hc_0) (All.cons hc_1 (All.cons hc_2 (All.cons (eqT hc_3) (All.cons hc_4 (All.cons hc_5 (All.cons (okT hc_6) (All.cons (eqF hc_7) (All.cons hc_8 (All.cons hc_9 (All.cons (okT hc_10) (All.cons hc_11 (All.cons hc_12 (All.cons hc_13 (All.nil)))))))))))))))
theorem rd_eg(hc_10: ¬ (p*n<mx*q))(hc_11:(zq75_3 gv gq b sz v m f r0 k n d mn mx r))(hc_12:k=3)(hc_13:FDoes Try.prog 59 [zqA k n d mn mx,zqI p,zqI q] (AHeap.rows 150 (zq75_9 b sz v m f r k n d mn mx)) (zqI w) (AHeap.rows 150 (zq75_9 b sz v m f r k n d mn mx)))(hc_14:q≠0∧zqF (Int.tdiv w q))(hc_15:(zq75_1 v N i))(hc_16:v=v∧sz[i]? =some (zqI x))(hc_17:(zq75_1 v N i))(hc_18:(zq75_11 sz i w q v f))(hc_19:zqF (left-Int.tdiv w q))(hc_20:zqF ((i:Int)+1)) :
    Runs Try.prog 2 140 (loopAt Try.prog 55 0) (zq75_5 o N c v p q left weight gv gq i) (AHeap.rows 90 [(0,b),(1,⟨sz,1,false,false,v,m,f⟩),(80,r0)]) .normal [(0,.slice o N c),(1,.slice (some ⟨1,v,0,0,1⟩) N N),(3,zqI p),(4,zqI q),(11,zqI (left-Int.tdiv w q)),(12,zqI weight),(13,.slice (some ⟨80,gv+1,0,0,1⟩) (gq+1) (gq+1)),(14,zqI ((i:Int)+1))] (AHeap.rows 160 [(0,b),(1,⟨List.set sz i (zqI (Int.tdiv w q)),1,false,false,v,v,f⟩),(80,r),(98,(.made ([zqA k n d mn mx]) 5 true)),(133,.made [AVal.bool false] 1 true)]) :=
  ppath_runs env_ok mixed (hs:= [.val 5003 (.bool true),.val 7002 (.ptr (some ⟨0,ver,off+i,0,5⟩)),.ld 7003 (zqA k n d mn mx),.val 8002 (.bool true),.go 8007,.go 8011,.val 8012 (.bool true),.val 8017 (.bool false),.go 8022,.go 8026,.val 8027 (.bool false),.act 9003 (.slice (some ⟨80,gv+1,0,0,1⟩) (gq+1) (gq+1)) (fun h=>h.set 80 r),.val 12002 (.bool true),.val 13005 (zqI w),.go 13007,.val 13008 (.ptr (some ⟨1,v,i,0,1⟩)),.st 13009 (zqI x),.val 14003 (.ptr (some ⟨1,v,i,0,1⟩)),.ld 14004 (zqI (Int.tdiv w q)),.go 14005,.go 6001]) (keep:= [0,1,3,4,11,12,13,14]) (by kernel_rfl) (All.cons (okT hc_0) (All.cons hc_1 (All.cons hc_2 (All.cons (eqT hc_3) (All.cons hc_4 (All.cons hc_5 (All.cons (okT hc_6) (All.cons (eqF hc_7) (All.cons hc_8 (All.cons hc_9 (All.cons (okF hc_10) (All.cons hc_11 (All.cons (eqT hc_12) (All.cons (CallT.mk hc_13) (All.cons hc_14 (All.cons hc_15 (All.cons hc_16 (All.cons hc_17 (All.cons hc_18 (All.cons hc_19 (All.cons hc_20 (All.nil))))))))))))))))))))))
end
end
theorem rd_end(o:Option AAddr)(N c ver off i v m f gv gq:Nat)(b r0 r:ABlk)(sz:List AVal)(k n d mn mx x w left weight p q:Int)(gs:AVal)(hc_0: ¬ ((i:Int)<(N:Int))) :
    Runs Try.prog 2 140 (loopAt Try.prog 55 0) [(0,.slice o N c),(1,.slice (some ⟨1,v,0,0,1⟩) N N),(3,zqI p),(4,zqI q),(11,zqI left),(12,zqI weight),(13,gs),(14,zqI i)] (AHeap.rows 90 [(0,b),(1,⟨sz,1,false,false,v,m,f⟩),(80,r0)]) (.exit 0) [(0,.slice o N c),(1,.slice (some ⟨1,v,0,0,1⟩) N N),(11,zqI left),(12,zqI weight),(13,gs)] (AHeap.rows 94 [(0,b),(1,⟨sz,1,false,false,v,m,f⟩),(80,r0)]) :=
  ppath_runs env_ok mixed (hs:= [.val 5003 (.bool false)]) (keep:= [0,1,11,12,13]) (by kernel_rfl) (All.cons (okF hc_0) (All.nil))
noncomputable abbrev zq75_12(og:Option AAddr)(N:Nat)(gc:Nat)(i:Nat)(gver:Nat):Prop:=aindexAddr env.D 63 (.slice og N gc) (zqI (i:Int))=some (.ptr (some ⟨80,gver,0+i,0,1⟩))
section
variable(o og:Option AAddr)(N c gc ver off gver i v m f gv gq:Nat)(b g r0 r:ABlk)(sz:List AVal)(k n d mn mx x left weight over:Int)(hc_0:(i:Int)<(N:Int))(hc_1:(zq75_12 og N gc i gver))
include o og N c gc ver off gver i v m f gv gq b g r0 r sz k n d mn mx x left weight over hc_0 hc_1
section
variable(hc_2:ABlk.elem? g gver (0+i)=some (AVal.bool false))
include hc_2
theorem re_Fn(hc_3:abuiltin env Builtin.append {toList:= [27,27]} [.slice none 0 0,.slice (some ⟨119,0,0,0,1⟩) 1 1] 120 (AHeap.set (AHeap.rows 122 [(0,b),(1,⟨sz,1,false,false,v,m,f⟩),(80,g)]) 119 (.made [zqI (-1)] 1 true))=some (.slice (some ⟨120,0,0,0,1⟩) 1 1,(AHeap.rows 122 [(0,b),(1,⟨sz,1,false,false,v,m,f⟩),(80,g),(119,.made [zqI (-1)] 1 true),(120,r)])))(hc_4:zqF ((i:Int)+1)) :
    Runs Try.prog 2 140 (loopAt Try.prog 55 1) [(0,.slice o N c),(1,.slice (some ⟨1,v,0,0,1⟩) N N),(11,zqI left),(12,zqI weight),(13,.slice og N gc),(17,zqI over),(18,.slice none 0 0),(19,zqI i)] (AHeap.rows 109 [(0,b),(1,⟨sz,1,false,false,v,m,f⟩),(80,g)]) .normal [(0,.slice o N c),(1,.slice (some ⟨1,v,0,0,1⟩) N N),(11,zqI left),(12,zqI weight),(13,.slice og N gc),(17,zqI over),(18,.slice (some ⟨120,0,0,0,1⟩) 1 1),(19,zqI ((i:Int)+1))] (AHeap.rows 125 [(0,b),(1,⟨sz,1,false,false,v,m,f⟩),(80,g),(119,.made [zqI (-1)] 1 true),(120,r)]) :=
  ppath_runs env_ok mixed (hs:= [.val 18003 (.bool true),.val 20002 (.ptr (some ⟨80,gver,0+i,0,1⟩)),.ld 20003 (.bool false),.act 21002 (.slice (some ⟨120,0,0,0,1⟩) 1 1) (fun h=>h.set 120 r),.go 19001]) (keep:= [0,1,11,12,13,17,18,19]) (by kernel_rfl) (All.cons (okT hc_0) (All.cons hc_1 (All.cons hc_2 (All.cons hc_3 (All.cons hc_4 (All.nil))))))
theorem re_Fg(hc_3:abuiltin env Builtin.append {toList:= [27,27]} [.slice (some ⟨120,gv,0,0,1⟩) gq gq,.slice (some ⟨140,0,0,0,1⟩) 1 1] 141 (AHeap.set (AHeap.rows 143 [(0,b),(1,⟨sz,1,false,false,v,m,f⟩),(80,g),(120,r0)]) 140 (.made [zqI (-1)] 1 true))=some (.slice (some ⟨120,gv+1,0,0,1⟩) (gq+1) (gq+1),(AHeap.rows 143 [(0,b),(1,⟨sz,1,false,false,v,m,f⟩),(80,g),(120,r),(140,.made [zqI (-1)] 1 true)])))(hc_4:zqF ((i:Int)+1)) :
    Runs Try.prog 2 140 (loopAt Try.prog 55 1) [(0,.slice o N c),(1,.slice (some ⟨1,v,0,0,1⟩) N N),(11,zqI left),(12,zqI weight),(13,.slice og N gc),(17,zqI over),(18,.slice (some ⟨120,gv,0,0,1⟩) gq gq),(19,zqI i)] (AHeap.rows 130 [(0,b),(1,⟨sz,1,false,false,v,m,f⟩),(80,g),(120,r0)]) .normal [(0,.slice o N c),(1,.slice (some ⟨1,v,0,0,1⟩) N N),(11,zqI left),(12,zqI weight),(13,.slice og N gc),(17,zqI over),(18,.slice (some ⟨120,gv+1,0,0,1⟩) (gq+1) (gq+1)),(19,zqI ((i:Int)+1))] (AHeap.rows 146 [(0,b),(1,⟨sz,1,false,false,v,m,f⟩),(80,g),(120,r),(140,.made [zqI (-1)] 1 true)]) :=
  ppath_runs env_ok mixed (hs:= [.val 18003 (.bool true),.val 20002 (.ptr (some ⟨80,gver,0+i,0,1⟩)),.ld 20003 (.bool false),.act 21002 (.slice (some ⟨120,gv+1,0,0,1⟩) (gq+1) (gq+1)) (fun h=>h.set 120 r),.go 19001]) (keep:= [0,1,11,12,13,17,18,19]) (by kernel_rfl) (All.cons (okT hc_0) (All.cons hc_1 (All.cons hc_2 (All.cons hc_3 (All.cons hc_4 (All.nil))))))
end
section
variable(hc_2:ABlk.elem? g gver (0+i)=some (AVal.bool true))(hc_3:(zq75_2 o N c i ver off))(hc_4:ABlk.elem? b ver (off+i)=some (zqA k n d mn mx))(hc_5:zqF (left*n))(hc_6:weight≠0∧zqF (Int.tdiv (left*n) weight))(hc_7:(zq75_1 v N i))(hc_8:v=v∧sz[i]? =some (zqI x))(hc_9:(zq75_2 o N c i ver off))(hc_10:ABlk.elem? b ver (off+i)=some (zqA k n d mn mx))(hc_11:zqF (left*n))(hc_12:weight≠0)
include hc_2 hc_3 hc_4 hc_5 hc_6 hc_7 hc_8 hc_9 hc_10 hc_11 hc_12
theorem re_Tn(hc_13:abuiltin env Builtin.append {toList:= [27,27]} [.slice none 0 0,.slice (some ⟨119,0,0,0,1⟩) 1 1] 120 (AHeap.set (AHeap.rows 122 [(0,b),(1,⟨List.set sz i (zqI (Int.tdiv (left*n) weight)),1,false,false,v,v,f⟩),(80,g)]) 119 (.made [zqI (Int.tmod (left*n) weight)] 1 true))=some (.slice (some ⟨120,0,0,0,1⟩) 1 1,(AHeap.rows 122 [(0,b),(1,⟨List.set sz i (zqI (Int.tdiv (left*n) weight)),1,false,false,v,v,f⟩),(80,g),(119,.made [zqI (Int.tmod (left*n) weight)] 1 true),(120,r)])))(hc_14:(zq75_1 v N i))(hc_15:ABlk.elem? ⟨List.set sz i (zqI (Int.tdiv (left*n) weight)),1,false,false,v,v,f⟩ v i=some (zqI (Int.tdiv (left*n) weight)))(hc_16:zqF (over-Int.tdiv (left*n) weight))(hc_17:zqF ((i:Int)+1)) :
    Runs Try.prog 2 140 (loopAt Try.prog 55 1) [(0,.slice o N c),(1,.slice (some ⟨1,v,0,0,1⟩) N N),(11,zqI left),(12,zqI weight),(13,.slice og N gc),(17,zqI over),(18,.slice none 0 0),(19,zqI i)] (AHeap.rows 87 [(0,b),(1,⟨sz,1,false,false,v,m,f⟩),(80,g)]) .normal [(0,.slice o N c),(1,.slice (some ⟨1,v,0,0,1⟩) N N),(11,zqI left),(12,zqI weight),(13,.slice og N gc),(17,zqI (over-Int.tdiv (left*n) weight)),(18,.slice (some ⟨120,0,0,0,1⟩) 1 1),(19,zqI ((i:Int)+1))] (AHeap.rows 132 [(0,b),(1,⟨List.set sz i (zqI (Int.tdiv (left*n) weight)),1,false,false,v,v,f⟩),(80,g),(119,.made [zqI (Int.tmod (left*n) weight)] 1 true),(120,r)]) :=
  ppath_runs env_ok mixed (hs:= [.val 18003 (.bool true),.val 20002 (.ptr (some ⟨80,gver,0+i,0,1⟩)),.ld 20003 (.bool true),.val 22005 (.ptr (some ⟨0,ver,off+i,0,5⟩)),.ld 22007 (zqA k n d mn mx),.go 22008,.go 22010,.val 22011 (.ptr (some ⟨1,v,i,0,1⟩)),.st 22012 (zqI x),.val 23004 (.ptr (some ⟨0,ver,off+i,0,5⟩)),.ld 23006 (zqA k n d mn mx),.go 23007,.go 23009,.act 23011 (.slice (some ⟨120,0,0,0,1⟩) 1 1) (fun h=>h.set 120 r),.val 24003 (.ptr (some ⟨1,v,i,0,1⟩)),.ld 24004 (zqI (Int.tdiv (left*n) weight)),.go 24005,.go 19001]) (keep:= [0,1,11,12,13,17,18,19]) (by kernel_rfl) (All.cons (okT hc_0) (All.cons hc_1 (All.cons hc_2 (All.cons hc_3 (All.cons hc_4 (All.cons hc_5 (All.cons hc_6 (All.cons hc_7 (All.cons hc_8 (All.cons hc_9 (All.cons hc_10 (All.cons hc_11 (All.cons hc_12 (All.cons hc_13 (All.cons hc_14 (All.cons hc_15 (All.cons hc_16 (All.cons hc_17 (All.nil)))))))))))))))))))
theorem re_Tg(hc_13:abuiltin env Builtin.append {toList:= [27,27]} [.slice (some ⟨120,gv,0,0,1⟩) gq gq,.slice (some ⟨162,0,0,0,1⟩) 1 1] 163 (AHeap.set (AHeap.rows 165 [(0,b),(1,⟨List.set sz i (zqI (Int.tdiv (left*n) weight)),1,false,false,v,v,f⟩),(80,g),(120,r0)]) 162 (.made [zqI (Int.tmod (left*n) weight)] 1 true))=some (.slice (some ⟨120,gv+1,0,0,1⟩) (gq+1) (gq+1),(AHeap.rows 165 [(0,b),(1,⟨List.set sz i (zqI (Int.tdiv (left*n) weight)),1,false,false,v,v,f⟩),(80,g),(120,r),(162,.made [zqI (Int.tmod (left*n) weight)] 1 true)])))(hc_14:(zq75_1 v N i))(hc_15:ABlk.elem? ⟨List.set sz i (zqI (Int.tdiv (left*n) weight)),1,false,false,v,v,f⟩ v i=some (zqI (Int.tdiv (left*n) weight)))(hc_16:zqF (over-Int.tdiv (left*n) weight))(hc_17:zqF ((i:Int)+1)) :
    Runs Try.prog 2 140 (loopAt Try.prog 55 1) [(0,.slice o N c),(1,.slice (some ⟨1,v,0,0,1⟩) N N),(11,zqI left),(12,zqI weight),(13,.slice og N gc),(17,zqI over),(18,.slice (some ⟨120,gv,0,0,1⟩) gq gq),(19,zqI i)] (AHeap.rows 130 [(0,b),(1,⟨sz,1,false,false,v,m,f⟩),(80,g),(120,r0)]) .normal [(0,.slice o N c),(1,.slice (some ⟨1,v,0,0,1⟩) N N),(11,zqI left),(12,zqI weight),(13,.slice og N gc),(17,zqI (over-Int.tdiv (left*n) weight)),(18,.slice (some ⟨120,gv+1,0,0,1⟩) (gq+1) (gq+1)),(19,zqI ((i:Int)+1))] (AHeap.rows 175 [(0,b),(1,⟨List.set sz i (zqI (Int.tdiv (left*n) weight)),1,false,false,v,v,f⟩),(80,g),(120,r),(162,.made [zqI (Int.tmod (left*n) weight)] 1 true)]) :=
  ppath_runs env_ok mixed (hs:= [.val 18003 (.bool true),.val 20002 (.ptr (some ⟨80,gver,0+i,0,1⟩)),.ld 20003 (.bool true),.val 22005 (.ptr (some ⟨0,ver,off+i,0,5⟩)),.ld 22007 (zqA k n d mn mx),.go 22008,.go 22010,.val 22011 (.ptr (some ⟨1,v,i,0,1⟩)),.st 22012 (zqI x),.val 23004 (.ptr (some ⟨0,ver,off+i,0,5⟩)),.ld 23006 (zqA k n d mn mx),.go 23007,.go 23009,.act 23011 (.slice (some ⟨120,gv+1,0,0,1⟩) (gq+1) (gq+1)) (fun h=>h.set 120 r),.val 24003 (.ptr (some ⟨1,v,i,0,1⟩)),.ld 24004 (zqI (Int.tdiv (left*n) weight)),.go 24005,.go 19001]) (keep:= [0,1,11,12,13,17,18,19]) (by kernel_rfl) (All.cons (okT hc_0) (All.cons hc_1 (All.cons hc_2 (All.cons hc_3 (All.cons hc_4 (All.cons hc_5 (All.cons hc_6 (All.cons hc_7 (All.cons hc_8 (All.cons hc_9 (All.cons hc_10 (All.cons hc_11 (All.cons hc_12 (All.cons hc_13 (All.cons hc_14 (All.cons hc_15 (All.cons hc_16 (All.cons hc_17 (All.nil)))))))))))))))))))
end
end
theorem re_end(o og:Option AAddr)(N c gc ver off gver i v m f gv gq:Nat)(b g r0 r:ABlk)(sz:List AVal)(k n d mn mx x left weight over:Int)(rv:AVal)(hc_0: ¬ ((i:Int)<(N:Int))) :
    Runs Try.prog 2 140 (loopAt Try.prog 55 1) [(0,.slice o N c),(1,.slice (some ⟨1,v,0,0,1⟩) N N),(11,zqI left),(12,zqI weight),(13,.slice og N gc),(17,zqI over),(18,rv),(19,zqI i)] (AHeap.rows 130 [(0,b),(1,⟨sz,1,false,false,v,m,f⟩),(80,g),(120,r0)]) (.exit 2) [(1,.slice (some ⟨1,v,0,0,1⟩) N N),(12,zqI weight),(17,zqI over),(18,rv)] (AHeap.rows 134 [(0,b),(1,⟨sz,1,false,false,v,m,f⟩),(80,g),(120,r0)]) :=
  ppath_runs env_ok mixed (hs:= [.val 18003 (.bool false)]) (keep:= [1,12,17,18]) (by kernel_rfl) (All.cons (okF hc_0) (All.nil))
section
variable(o og or:Option AAddr)(N c gc rc v m f m2 m3 m4:Nat)(b g r0:ABlk)(sz sz2 sz3 sz4:List AVal)(rest p q left weight over:Int)(hc_0:Runs Try.prog 2 140 (.loop (loopAt Try.prog 55 0)) [(0,.slice o N c),(1,.slice (some ⟨1,v,0,0,1⟩) N N),(3,zqI p),(4,zqI q),(11,zqI rest),(12,zqI 0),(13,.slice none 0 0),(14,zqI 0)] (AHeap.rows 8 [(0,b),(1,⟨sz,1,false,false,v,m,f⟩)]) (.exit 0) [(0,.slice o N c),(1,.slice (some ⟨1,v,0,0,1⟩) N N),(11,zqI left),(12,zqI weight),(13,.slice og N gc)] (AHeap.rows 81 [(0,b),(1,⟨sz2,1,false,false,v,m2,f⟩),(80,g)]))(hc_1:Runs Try.prog 2 140 (.loop (loopAt Try.prog 55 1)) [(0,.slice o N c),(1,.slice (some ⟨1,v,0,0,1⟩) N N),(11,zqI left),(12,zqI weight),(13,.slice og N gc),(17,zqI left),(18,.slice none 0 0),(19,zqI 0)] (AHeap.rows 85 [(0,b),(1,⟨sz2,1,false,false,v,m2,f⟩),(80,g)]) (.exit 2) [(1,.slice (some ⟨1,v,0,0,1⟩) N N),(12,zqI weight),(17,zqI over),(18,.slice or N rc)] (AHeap.rows 131 [(0,b),(1,⟨sz3,1,false,false,v,m3,f⟩),(80,g),(120,r0)]))
include o og or N c gc rc v m f m2 m3 m4 b g r0 sz sz2 sz3 sz4 rest p q left weight over hc_0 hc_1
theorem rounded_none(hc_2:weight=0) :
    FDoes Try.prog 55 [.slice o N c,.slice (some ⟨1,v,0,0,1⟩) N N,zqI rest,zqI p,zqI q] (AHeap.of [b,⟨sz,1,false,false,v,m,f⟩]) (.slice (some ⟨1,v,0,0,1⟩) N N) (AHeap.rows 135 [(0,b),(1,⟨sz3,1,false,false,v,m3,f⟩),(80,g),(120,r0)]) :=
  pcall_does env_ok mixed (hs:= [.keep [0,1,3,4,11,12,13,14],.loop [(0,.slice o N c),(1,.slice (some ⟨1,v,0,0,1⟩) N N),(11,zqI left),(12,zqI weight),(13,.slice og N gc)] (AHeap.rows 81 [(0,b),(1,⟨sz2,1,false,false,v,m2,f⟩),(80,g)]) (.exit 0),.keep [0,1,11,12,13,17,18,19],.loop [(1,.slice (some ⟨1,v,0,0,1⟩) N N),(12,zqI weight),(17,zqI over),(18,.slice or N rc)] (AHeap.rows 131 [(0,b),(1,⟨sz3,1,false,false,v,m3,f⟩),(80,g),(120,r0)]) (.exit 2),.val 25001 (.bool true)]) (rs:= []) (by kernel_rfl) (All.cons hc_0 (All.cons hc_1 (All.cons (eqT hc_2) (All.nil))))
theorem rounded_given(hc_2: ¬ (weight=0))(hc_3:FDoes Try.prog 53 [.slice (some ⟨1,v,0,0,1⟩) N N,.slice or N rc,zqI over] (AHeap.rows 138 [(0,b),(1,⟨sz3,1,false,false,v,m3,f⟩),(80,g),(120,r0)]) (.slice (some ⟨1,v,0,0,1⟩) N N) (AHeap.rows 138 [(0,b),(1,⟨sz4,1,false,false,v,m4,f⟩),(80,g),(120,r0)])) :
    FDoes Try.prog 55 [.slice o N c,.slice (some ⟨1,v,0,0,1⟩) N N,zqI rest,zqI p,zqI q] (AHeap.of [b,⟨sz,1,false,false,v,m,f⟩]) (.slice (some ⟨1,v,0,0,1⟩) N N) (AHeap.rows 138 [(0,b),(1,⟨sz4,1,false,false,v,m4,f⟩),(80,g),(120,r0)]) :=
  pcall_does env_ok mixed (hs:= [.keep [0,1,3,4,11,12,13,14],.loop [(0,.slice o N c),(1,.slice (some ⟨1,v,0,0,1⟩) N N),(11,zqI left),(12,zqI weight),(13,.slice og N gc)] (AHeap.rows 81 [(0,b),(1,⟨sz2,1,false,false,v,m2,f⟩),(80,g)]) (.exit 0),.keep [0,1,11,12,13,17,18,19],.loop [(1,.slice (some ⟨1,v,0,0,1⟩) N N),(12,zqI weight),(17,zqI over),(18,.slice or N rc)] (AHeap.rows 131 [(0,b),(1,⟨sz3,1,false,false,v,m3,f⟩),(80,g),(120,r0)]) (.exit 2),.val 25001 (.bool false),.act 27003 (.slice (some ⟨1,v,0,0,1⟩) N N) (fun h=>h.set 1 ⟨sz4,1,false,false,v,m4,f⟩)]) (rs:= []) (by kernel_rfl) (All.cons hc_0 (All.cons hc_1 (All.cons (eqF hc_2) (All.cons (CallT.mk hc_3) (All.nil)))))
end
end Go.Proofs.Ytgfkllnaeekjeaa
namespace Go.Proofs.Ytgfkllnaeekjeaa
open Go.Lift
set_option maxRecDepth 1000000
noncomputable abbrev zq76_15(o:Option AAddr)(N:Nat)(c:Nat)(room:Int)(i:Nat):Facts:= [(0,.slice o N c),(7,zqI (N:Int)),(8,zqI room),(9,.slice (some ⟨25,0,0,0,5⟩) 1 1),(10,.slice (some ⟨31,0,0,0,1⟩) 1 1),(11,.slice (some ⟨36,0,0,0,1⟩) 1 1),(12,.slice (some ⟨44,0,0,0,1⟩) 1 1),(13,zqI ((i:Int)+1))]
theorem rz_nT(o:Option AAddr)(N c ver off i gv gq:Nat)(b lr0 mr0 wr0 ar0 lr mr wr ar:ABlk)(k n d mn mx room w:Int)(hc_0:(i:Int)<(N:Int))(hc_1:aindexAddr env.D 26 (.slice o N c) (zqI (i:Int))=some (.ptr (some ⟨0,ver,off+i,0,5⟩)))(hc_2:ABlk.elem? b ver (off+i)=some (zqA k n d mn mx))(hc_3:FDoes Try.prog 13 [zqA k n d mn mx] (AHeap.rows 16 [(0,b),(11,(.made ([zqA k n d mn mx]) 5 true))]) (AVal.bool true) (AHeap.rows 16 [(0,b),(11,(.made ([zqA k n d mn mx]) 5 true))]))(hc_4:FDoes Try.prog 34 [zqA k n d mn mx,zqI room] (AHeap.rows 22 [(0,b),(11,(.made ([zqA k n d mn mx]) 5 true))]) (zqI w) (AHeap.rows 22 [(0,b),(11,(.made ([zqA k n d mn mx]) 5 true))]))(hc_5:abuiltin env Builtin.append {toList:= [26,26]} [.slice none 0 0,.slice (some ⟨24,0,0,0,5⟩) 1 1] 25 (AHeap.set (AHeap.rows 27 [(0,b),(11,(.made ([zqA k n d mn mx]) 5 true))]) 24 (.made [zqA k n d mn mx] 5 true))=some (.slice (some ⟨25,0,0,0,5⟩) 1 1,(AHeap.rows 27 [(0,b),(11,(.made ([zqA k n d mn mx]) 5 true)),(24,(.made ([zqA k n d mn mx]) 5 true)),(25,lr)])))(hc_6:abuiltin env Builtin.append {toList:= [27,27]} [.slice none 0 0,.slice (some ⟨30,0,0,0,1⟩) 1 1] 31 (AHeap.set (AHeap.rows 33 [(0,b),(11,(.made ([zqA k n d mn mx]) 5 true)),(24,(.made ([zqA k n d mn mx]) 5 true)),(25,lr)]) 30 (.made [zqI mn] 1 true))=some (.slice (some ⟨31,0,0,0,1⟩) 1 1,(AHeap.rows 33 [(0,b),(11,(.made ([zqA k n d mn mx]) 5 true)),(24,(.made ([zqA k n d mn mx]) 5 true)),(25,lr),(30,(.made ([zqI mn]) 1 true)),(31,mr)])))(hc_7:abuiltin env Builtin.append {toList:= [27,27]} [.slice none 0 0,.slice (some ⟨35,0,0,0,1⟩) 1 1] 36 (AHeap.set (AHeap.rows 38 [(0,b),(11,(.made ([zqA k n d mn mx]) 5 true)),(24,(.made ([zqA k n d mn mx]) 5 true)),(25,lr),(30,(.made ([zqI mn]) 1 true)),(31,mr)]) 35 (.made [zqI w] 1 true))=some (.slice (some ⟨36,0,0,0,1⟩) 1 1,(AHeap.rows 38 [(0,b),(11,(.made ([zqA k n d mn mx]) 5 true)),(24,(.made ([zqA k n d mn mx]) 5 true)),(25,lr),(30,(.made ([zqI mn]) 1 true)),(31,mr),(35,(.made ([zqI w]) 1 true)),(36,wr)])))(hc_8:zqF (w-mn))(hc_9:abuiltin env Builtin.append {toList:= [27,27]} [.slice none 0 0,.slice (some ⟨43,0,0,0,1⟩) 1 1] 44 (AHeap.set (AHeap.rows 46 [(0,b),(11,(.made ([zqA k n d mn mx]) 5 true)),(24,(.made ([zqA k n d mn mx]) 5 true)),(25,lr),(30,(.made ([zqI mn]) 1 true)),(31,mr),(35,(.made ([zqI w]) 1 true)),(36,wr)]) 43 (.made [zqI (w-mn)] 1 true))=some (.slice (some ⟨44,0,0,0,1⟩) 1 1,(AHeap.rows 46 [(0,b),(11,(.made ([zqA k n d mn mx]) 5 true)),(24,(.made ([zqA k n d mn mx]) 5 true)),(25,lr),(30,(.made ([zqI mn]) 1 true)),(31,mr),(35,(.made ([zqI w]) 1 true)),(36,wr),(43,(.made ([zqI (w-mn)]) 1 true)),(44,ar)])))(hc_10:zqF ((i:Int)+1)) :
    Runs Try.prog 1 109 (loopAt Try.prog 14 0) [(0,.slice o N c),(7,zqI N),(8,zqI room),(9,.slice none 0 0),(10,.slice none 0 0),(11,.slice none 0 0),(12,.slice none 0 0),(13,zqI i)] (AHeap.rows 4 [(0,b)]) .normal (zq76_15 o N c room i) (AHeap.rows 49 [(0,b),(11,(.made ([zqA k n d mn mx]) 5 true)),(24,(.made ([zqA k n d mn mx]) 5 true)),(25,lr),(30,(.made ([zqI mn]) 1 true)),(31,mr),(35,(.made ([zqI w]) 1 true)),(36,wr),(43,(.made ([zqI (w-mn)]) 1 true)),(44,ar)]) :=
  ppath_runs env_ok mixed (hs:= [.val 10002 (.bool true),.val 12002 (.ptr (some ⟨0,ver,off+i,0,5⟩)),.ld 12003 (zqA k n d mn mx),.val 13001 (.bool true),.val 16002 (zqI w),.act 17003 (.slice (some ⟨25,0,0,0,5⟩) 1 1) (fun h=>AHeap.rows 27 [(0,b),(11,.made [zqA k n d mn mx] 5 true),(24,.made [zqA k n d mn mx] 5 true),(25,lr)]),.act 18004 (.slice (some ⟨31,0,0,0,1⟩) 1 1) (fun h=>AHeap.rows 33 [(0,b),(11,.made [zqA k n d mn mx] 5 true),(24,.made [zqA k n d mn mx] 5 true),(25,lr),(30,.made [zqI mn] 1 true),(31,mr)]),.act 19003 (.slice (some ⟨36,0,0,0,1⟩) 1 1) (fun h=>AHeap.rows 38 [(0,b),(11,.made [zqA k n d mn mx] 5 true),(24,.made [zqA k n d mn mx] 5 true),(25,lr),(30,.made [zqI mn] 1 true),(31,mr),(35,.made [zqI w] 1 true),(36,wr)]),.go 20004,.act 20006 (.slice (some ⟨44,0,0,0,1⟩) 1 1) (fun h=>AHeap.rows 46 [(0,b),(11,.made [zqA k n d mn mx] 5 true),(24,.made [zqA k n d mn mx] 5 true),(25,lr),(30,.made [zqI mn] 1 true),(31,mr),(35,.made [zqI w] 1 true),(36,wr),(43,.made [zqI (w-mn)] 1 true),(44,ar)]),.go 11001]) (keep:= [0,7,8,9,10,11,12,13]) (by kernel_rfl) (All.cons (okT hc_0) (All.cons hc_1 (All.cons hc_2 (All.cons (CallT.mk hc_3) (All.cons (CallT.mk hc_4) (All.cons hc_5 (All.cons hc_6 (All.cons hc_7 (All.cons hc_8 (All.cons hc_9 (All.cons hc_10 (All.nil))))))))))))
noncomputable abbrev zq76_10(o:Option AAddr)(N:Nat)(c:Nat)(room:Int)(gv:Nat)(gq:Nat)(i:Nat):Facts:= [(0,.slice o N c),(7,zqI (N:Int)),(8,zqI room),(9,.slice (some ⟨25,gv+1,0,0,5⟩) (gq+1) (gq+1)),(10,.slice (some ⟨31,gv+1,0,0,1⟩) (gq+1) (gq+1)),(11,.slice (some ⟨36,gv+1,0,0,1⟩) (gq+1) (gq+1)),(12,.slice (some ⟨44,gv+1,0,0,1⟩) (gq+1) (gq+1)),(13,zqI ((i:Int)+1))]
noncomputable abbrev zq76_13(b:ABlk)(lr0:ABlk)(mr0:ABlk)(wr0:ABlk)(ar0:ABlk)(k:Int)(n:Int)(d:Int)(mn:Int)(mx:Int):List (Nat×ABlk):= [(0,b),(25,lr0),(31,mr0),(36,wr0),(44,ar0),(52,(.made ([zqA k n d mn mx]) 5 true))]
theorem rz_gT(o:Option AAddr)(N c ver off i gv gq:Nat)(b lr0 mr0 wr0 ar0 lr mr wr ar:ABlk)(k n d mn mx room w:Int)(hc_0:(i:Int)<(N:Int))(hc_1:aindexAddr env.D 26 (.slice o N c) (zqI (i:Int))=some (.ptr (some ⟨0,ver,off+i,0,5⟩)))(hc_2:ABlk.elem? b ver (off+i)=some (zqA k n d mn mx))(hc_3:FDoes Try.prog 13 [zqA k n d mn mx] (AHeap.rows 57 (zq76_13 b lr0 mr0 wr0 ar0 k n d mn mx)) (AVal.bool true) (AHeap.rows 57 (zq76_13 b lr0 mr0 wr0 ar0 k n d mn mx)))(hc_4:FDoes Try.prog 34 [zqA k n d mn mx,zqI room] (AHeap.rows 63 (zq76_13 b lr0 mr0 wr0 ar0 k n d mn mx)) (zqI w) (AHeap.rows 63 (zq76_13 b lr0 mr0 wr0 ar0 k n d mn mx)))(hc_5:abuiltin env Builtin.append {toList:= [26,26]} [.slice (some ⟨25,gv,0,0,5⟩) gq gq,.slice (some ⟨65,0,0,0,5⟩) 1 1] 66 (AHeap.set (AHeap.rows 68 (zq76_13 b lr0 mr0 wr0 ar0 k n d mn mx)) 65 (.made [zqA k n d mn mx] 5 true))=some (.slice (some ⟨25,gv+1,0,0,5⟩) (gq+1) (gq+1),(AHeap.rows 68 [(0,b),(25,lr),(31,mr0),(36,wr0),(44,ar0),(52,(.made ([zqA k n d mn mx]) 5 true)),(65,(.made ([zqA k n d mn mx]) 5 true))])))(hc_6:abuiltin env Builtin.append {toList:= [27,27]} [.slice (some ⟨31,gv,0,0,1⟩) gq gq,.slice (some ⟨71,0,0,0,1⟩) 1 1] 72 (AHeap.set (AHeap.rows 74 [(0,b),(25,lr),(31,mr0),(36,wr0),(44,ar0),(52,(.made ([zqA k n d mn mx]) 5 true)),(65,(.made ([zqA k n d mn mx]) 5 true))]) 71 (.made [zqI mn] 1 true))=some (.slice (some ⟨31,gv+1,0,0,1⟩) (gq+1) (gq+1),(AHeap.rows 74 [(0,b),(25,lr),(31,mr),(36,wr0),(44,ar0),(52,(.made ([zqA k n d mn mx]) 5 true)),(65,(.made ([zqA k n d mn mx]) 5 true)),(71,(.made ([zqI mn]) 1 true))])))(hc_7:abuiltin env Builtin.append {toList:= [27,27]} [.slice (some ⟨36,gv,0,0,1⟩) gq gq,.slice (some ⟨76,0,0,0,1⟩) 1 1] 77 (AHeap.set (AHeap.rows 79 [(0,b),(25,lr),(31,mr),(36,wr0),(44,ar0),(52,(.made ([zqA k n d mn mx]) 5 true)),(65,(.made ([zqA k n d mn mx]) 5 true)),(71,(.made ([zqI mn]) 1 true))]) 76 (.made [zqI w] 1 true))=some (.slice (some ⟨36,gv+1,0,0,1⟩) (gq+1) (gq+1),(AHeap.rows 79 [(0,b),(25,lr),(31,mr),(36,wr),(44,ar0),(52,(.made ([zqA k n d mn mx]) 5 true)),(65,(.made ([zqA k n d mn mx]) 5 true)),(71,(.made ([zqI mn]) 1 true)),(76,(.made ([zqI w]) 1 true))])))(hc_8:zqF (w-mn))(hc_9:abuiltin env Builtin.append {toList:= [27,27]} [.slice (some ⟨44,gv,0,0,1⟩) gq gq,.slice (some ⟨84,0,0,0,1⟩) 1 1] 85 (AHeap.set (AHeap.rows 87 [(0,b),(25,lr),(31,mr),(36,wr),(44,ar0),(52,(.made ([zqA k n d mn mx]) 5 true)),(65,(.made ([zqA k n d mn mx]) 5 true)),(71,(.made ([zqI mn]) 1 true)),(76,(.made ([zqI w]) 1 true))]) 84 (.made [zqI (w-mn)] 1 true))=some (.slice (some ⟨44,gv+1,0,0,1⟩) (gq+1) (gq+1),(AHeap.rows 87 [(0,b),(25,lr),(31,mr),(36,wr),(44,ar),(52,(.made ([zqA k n d mn mx]) 5 true)),(65,(.made ([zqA k n d mn mx]) 5 true)),(71,(.made ([zqI mn]) 1 true)),(76,(.made ([zqI w]) 1 true)),(84,(.made ([zqI (w-mn)]) 1 true))])))(hc_10:zqF ((i:Int)+1)) :
    Runs Try.prog 1 109 (loopAt Try.prog 14 0) [(0,.slice o N c),(7,zqI N),(8,zqI room),(9,.slice (some ⟨25,gv,0,0,5⟩) gq gq),(10,.slice (some ⟨31,gv,0,0,1⟩) gq gq),(11,.slice (some ⟨36,gv,0,0,1⟩) gq gq),(12,.slice (some ⟨44,gv,0,0,1⟩) gq gq),(13,zqI i)] (AHeap.rows 45 [(0,b),(25,lr0),(31,mr0),(36,wr0),(44,ar0)]) .normal (zq76_10 o N c room gv gq i) (AHeap.rows 90 [(0,b),(25,lr),(31,mr),(36,wr),(44,ar),(52,(.made ([zqA k n d mn mx]) 5 true)),(65,(.made ([zqA k n d mn mx]) 5 true)),(71,(.made ([zqI mn]) 1 true)),(76,(.made ([zqI w]) 1 true)),(84,(.made ([zqI (w-mn)]) 1 true))]) :=
  ppath_runs env_ok mixed (hs:= [.val 10002 (.bool true),.val 12002 (.ptr (some ⟨0,ver,off+i,0,5⟩)),.ld 12003 (zqA k n d mn mx),.val 13001 (.bool true),.val 16002 (zqI w),.act 17003 (.slice (some ⟨25,gv+1,0,0,5⟩) (gq+1) (gq+1)) (fun h=>AHeap.rows 68 [(0,b),(25,lr),(31,mr0),(36,wr0),(44,ar0),(52,.made [zqA k n d mn mx] 5 true),(65,.made [zqA k n d mn mx] 5 true)]),.act 18004 (.slice (some ⟨31,gv+1,0,0,1⟩) (gq+1) (gq+1)) (fun h=>AHeap.rows 74 [(0,b),(25,lr),(31,mr),(36,wr0),(44,ar0),(52,.made [zqA k n d mn mx] 5 true),(65,.made [zqA k n d mn mx] 5 true),(71,.made [zqI mn] 1 true)]),.act 19003 (.slice (some ⟨36,gv+1,0,0,1⟩) (gq+1) (gq+1)) (fun h=>AHeap.rows 79 [(0,b),(25,lr),(31,mr),(36,wr),(44,ar0),(52,.made [zqA k n d mn mx] 5 true),(65,.made [zqA k n d mn mx] 5 true),(71,.made [zqI mn] 1 true),(76,.made [zqI w] 1 true)]),.go 20004,.act 20006 (.slice (some ⟨44,gv+1,0,0,1⟩) (gq+1) (gq+1)) (fun h=>AHeap.rows 87 [(0,b),(25,lr),(31,mr),(36,wr),(44,ar),(52,.made [zqA k n d mn mx] 5 true),(65,.made [zqA k n d mn mx] 5 true),(71,.made [zqI mn] 1 true),(76,.made [zqI w] 1 true),(84,.made [zqI (w-mn)] 1 true)]),.go 11001]) (keep:= [0,7,8,9,10,11,12,13]) (by kernel_rfl) (All.cons (okT hc_0) (All.cons hc_1 (All.cons hc_2 (All.cons (CallT.mk hc_3) (All.cons (CallT.mk hc_4) (All.cons hc_5 (All.cons hc_6 (All.cons hc_7 (All.cons hc_8 (All.cons hc_9 (All.cons hc_10 (All.nil))))))))))))
noncomputable abbrev zq76_12(b:ABlk)(lr:ABlk)(mr:ABlk)(w:Int)(wr:ABlk)(ar:ABlk):List (Nat×ABlk):= [(0,b),(9,(.made ([.agg [.int .i8 (1),zqI 0,zqI 0,zqI 0,zqI 0]]) 5 true)),(24,(.made ([.agg [.int .i8 (1),zqI 0,zqI 0,zqI 0,zqI 0]]) 5 true)),(25,lr),(30,(.made ([zqI 0]) 1 true)),(31,mr),(35,(.made ([zqI w]) 1 true)),(36,wr),(43,(.made ([zqI (w-0)]) 1 true)),(44,ar)]
noncomputable abbrev zq76_14(b:ABlk)(lr:ABlk)(mr:ABlk)(w:Int)(wr:ABlk):List (Nat×ABlk):= [(0,b),(9,(.made ([.agg [.int .i8 (1),zqI 0,zqI 0,zqI 0,zqI 0]]) 5 true)),(24,(.made ([.agg [.int .i8 (1),zqI 0,zqI 0,zqI 0,zqI 0]]) 5 true)),(25,lr),(30,(.made ([zqI 0]) 1 true)),(31,mr),(35,(.made ([zqI w]) 1 true)),(36,wr)]
noncomputable abbrev zq76_18(b:ABlk)(lr:ABlk)(mr:ABlk):List (Nat×ABlk):= [(0,b),(9,(.made ([.agg [.int .i8 (1),zqI 0,zqI 0,zqI 0,zqI 0]]) 5 true)),(24,(.made ([.agg [.int .i8 (1),zqI 0,zqI 0,zqI 0,zqI 0]]) 5 true)),(25,lr),(30,(.made ([zqI 0]) 1 true)),(31,mr)]
theorem rz_nF(o:Option AAddr)(N c ver off i gv gq:Nat)(b lr0 mr0 wr0 ar0 lr mr wr ar:ABlk)(k n d mn mx room w:Int)(hc_0:(i:Int)<(N:Int))(hc_1:aindexAddr env.D 26 (.slice o N c) (zqI (i:Int))=some (.ptr (some ⟨0,ver,off+i,0,5⟩)))(hc_2:ABlk.elem? b ver (off+i)=some (zqA k n d mn mx))(hc_3:FDoes Try.prog 13 [zqA k n d mn mx] (AHeap.rows 14 [(0,b),(9,(.made ([zqA k n d mn mx]) 5 true))]) (AVal.bool false) (AHeap.rows 14 [(0,b),(9,(.made ([zqA k n d mn mx]) 5 true))]))(hc_4:FDoes Try.prog 34 [.agg [.int .i8 (1),zqI 0,zqI 0,zqI 0,zqI 0],zqI room] (AHeap.rows 22 [(0,b),(9,(.made ([.agg [.int .i8 (1),zqI 0,zqI 0,zqI 0,zqI 0]]) 5 true))]) (zqI w) (AHeap.rows 22 [(0,b),(9,(.made ([.agg [.int .i8 (1),zqI 0,zqI 0,zqI 0,zqI 0]]) 5 true))]))(hc_5:abuiltin env Builtin.append {toList:= [26,26]} [.slice none 0 0,.slice (some ⟨24,0,0,0,5⟩) 1 1] 25 (AHeap.set (AHeap.rows 27 [(0,b),(9,(.made ([.agg [.int .i8 (1),zqI 0,zqI 0,zqI 0,zqI 0]]) 5 true))]) 24 (.made [.agg [.int .i8 (1),zqI 0,zqI 0,zqI 0,zqI 0]] 5 true))=some (.slice (some ⟨25,0,0,0,5⟩) 1 1,(AHeap.rows 27 [(0,b),(9,(.made ([.agg [.int .i8 (1),zqI 0,zqI 0,zqI 0,zqI 0]]) 5 true)),(24,(.made ([.agg [.int .i8 (1),zqI 0,zqI 0,zqI 0,zqI 0]]) 5 true)),(25,lr)])))(hc_6:abuiltin env Builtin.append {toList:= [27,27]} [.slice none 0 0,.slice (some ⟨30,0,0,0,1⟩) 1 1] 31 (AHeap.set (AHeap.rows 33 [(0,b),(9,(.made ([.agg [.int .i8 (1),zqI 0,zqI 0,zqI 0,zqI 0]]) 5 true)),(24,(.made ([.agg [.int .i8 (1),zqI 0,zqI 0,zqI 0,zqI 0]]) 5 true)),(25,lr)]) 30 (.made [zqI 0] 1 true))=some (.slice (some ⟨31,0,0,0,1⟩) 1 1,(AHeap.rows 33 (zq76_18 b lr mr))))(hc_7:abuiltin env Builtin.append {toList:= [27,27]} [.slice none 0 0,.slice (some ⟨35,0,0,0,1⟩) 1 1] 36 (AHeap.set (AHeap.rows 38 (zq76_18 b lr mr)) 35 (.made [zqI w] 1 true))=some (.slice (some ⟨36,0,0,0,1⟩) 1 1,(AHeap.rows 38 (zq76_14 b lr mr w wr))))(hc_8:zqF (w-0))(hc_9:abuiltin env Builtin.append {toList:= [27,27]} [.slice none 0 0,.slice (some ⟨43,0,0,0,1⟩) 1 1] 44 (AHeap.set (AHeap.rows 46 (zq76_14 b lr mr w wr)) 43 (.made [zqI (w-0)] 1 true))=some (.slice (some ⟨44,0,0,0,1⟩) 1 1,(AHeap.rows 46 (zq76_12 b lr mr w wr ar))))(hc_10:zqF ((i:Int)+1)) :
    Runs Try.prog 1 109 (loopAt Try.prog 14 0) [(0,.slice o N c),(7,zqI N),(8,zqI room),(9,.slice none 0 0),(10,.slice none 0 0),(11,.slice none 0 0),(12,.slice none 0 0),(13,zqI i)] (AHeap.rows 2 [(0,b)]) .normal (zq76_15 o N c room i) (AHeap.rows 49 (zq76_12 b lr mr w wr ar)) :=
  ppath_runs env_ok mixed (hs:= [.val 10002 (.bool true),.val 12002 (.ptr (some ⟨0,ver,off+i,0,5⟩)),.ld 12003 (zqA k n d mn mx),.val 13001 (.bool false),.val 16002 (zqI w),.act 17003 (.slice (some ⟨25,0,0,0,5⟩) 1 1) (fun h=>AHeap.rows 27 [(0,b),(9,.made [.agg [.int .i8 1,zqI 0,zqI 0,zqI 0,zqI 0]] 5 true),(24,.made [.agg [.int .i8 1,zqI 0,zqI 0,zqI 0,zqI 0]] 5 true),(25,lr)]),.act 18004 (.slice (some ⟨31,0,0,0,1⟩) 1 1) (fun h=>AHeap.rows 33 [(0,b),(9,.made [.agg [.int .i8 1,zqI 0,zqI 0,zqI 0,zqI 0]] 5 true),(24,.made [.agg [.int .i8 1,zqI 0,zqI 0,zqI 0,zqI 0]] 5 true),(25,lr),(30,.made [zqI 0] 1 true),(31,mr)]),.act 19003 (.slice (some ⟨36,0,0,0,1⟩) 1 1) (fun h=>AHeap.rows 38 [(0,b),(9,.made [.agg [.int .i8 1,zqI 0,zqI 0,zqI 0,zqI 0]] 5 true),(24,.made [.agg [.int .i8 1,zqI 0,zqI 0,zqI 0,zqI 0]] 5 true),(25,lr),(30,.made [zqI 0] 1 true),(31,mr),(35,.made [zqI w] 1 true),(36,wr)]),.go 20004,.act 20006 (.slice (some ⟨44,0,0,0,1⟩) 1 1) (fun h=>AHeap.rows 46 [(0,b),(9,.made [.agg [.int .i8 1,zqI 0,zqI 0,zqI 0,zqI 0]] 5 true),(24,.made [.agg [.int .i8 1,zqI 0,zqI 0,zqI 0,zqI 0]] 5 true),(25,lr),(30,.made [zqI 0] 1 true),(31,mr),(35,.made [zqI w] 1 true),(36,wr),(43,.made [zqI (w-0)] 1 true),(44,ar)]),.go 11001]) (keep:= [0,7,8,9,10,11,12,13]) (by kernel_rfl) (All.cons (okT hc_0) (All.cons hc_1 (All.cons hc_2 (All.cons (CallT.mk hc_3) (All.cons (CallT.mk hc_4) (All.cons hc_5 (All.cons hc_6 (All.cons hc_7 (All.cons hc_8 (All.cons hc_9 (All.cons hc_10 (All.nil))))))))))))
noncomputable abbrev zq76_11(b:ABlk)(lr:ABlk)(mr:ABlk)(wr:ABlk)(ar:ABlk)(w:Int):List (Nat×ABlk):= [(0,b),(25,lr),(31,mr),(36,wr),(44,ar),(52,(.made ([.agg [.int .i8 (1),zqI 0,zqI 0,zqI 0,zqI 0]]) 5 true)),(67,(.made ([.agg [.int .i8 (1),zqI 0,zqI 0,zqI 0,zqI 0]]) 5 true)),(73,(.made ([zqI 0]) 1 true)),(78,(.made ([zqI w]) 1 true)),(86,(.made ([zqI (w-0)]) 1 true))]
noncomputable abbrev zq76_17(b:ABlk)(lr:ABlk)(mr:ABlk)(wr:ABlk)(ar0:ABlk)(w:Int):List (Nat×ABlk):= [(0,b),(25,lr),(31,mr),(36,wr),(44,ar0),(52,(.made ([.agg [.int .i8 (1),zqI 0,zqI 0,zqI 0,zqI 0]]) 5 true)),(67,(.made ([.agg [.int .i8 (1),zqI 0,zqI 0,zqI 0,zqI 0]]) 5 true)),(73,(.made ([zqI 0]) 1 true)),(78,(.made ([zqI w]) 1 true))]
theorem rz_gF(o:Option AAddr)(N c ver off i gv gq:Nat)(b lr0 mr0 wr0 ar0 lr mr wr ar:ABlk)(k n d mn mx room w:Int)(hc_0:(i:Int)<(N:Int))(hc_1:aindexAddr env.D 26 (.slice o N c) (zqI (i:Int))=some (.ptr (some ⟨0,ver,off+i,0,5⟩)))(hc_2:ABlk.elem? b ver (off+i)=some (zqA k n d mn mx))(hc_3:FDoes Try.prog 13 [zqA k n d mn mx] (AHeap.rows 57 (zq76_13 b lr0 mr0 wr0 ar0 k n d mn mx)) (AVal.bool false) (AHeap.rows 57 (zq76_13 b lr0 mr0 wr0 ar0 k n d mn mx)))(hc_4:FDoes Try.prog 34 [.agg [.int .i8 (1),zqI 0,zqI 0,zqI 0,zqI 0],zqI room] (AHeap.rows 65 [(0,b),(25,lr0),(31,mr0),(36,wr0),(44,ar0),(52,(.made ([.agg [.int .i8 (1),zqI 0,zqI 0,zqI 0,zqI 0]]) 5 true))]) (zqI w) (AHeap.rows 65 [(0,b),(25,lr0),(31,mr0),(36,wr0),(44,ar0),(52,(.made ([.agg [.int .i8 (1),zqI 0,zqI 0,zqI 0,zqI 0]]) 5 true))]))(hc_5:abuiltin env Builtin.append {toList:= [26,26]} [.slice (some ⟨25,gv,0,0,5⟩) gq gq,.slice (some ⟨67,0,0,0,5⟩) 1 1] 68 (AHeap.set (AHeap.rows 70 [(0,b),(25,lr0),(31,mr0),(36,wr0),(44,ar0),(52,(.made ([.agg [.int .i8 (1),zqI 0,zqI 0,zqI 0,zqI 0]]) 5 true))]) 67 (.made [.agg [.int .i8 (1),zqI 0,zqI 0,zqI 0,zqI 0]] 5 true))=some (.slice (some ⟨25,gv+1,0,0,5⟩) (gq+1) (gq+1),(AHeap.rows 70 [(0,b),(25,lr),(31,mr0),(36,wr0),(44,ar0),(52,(.made ([.agg [.int .i8 (1),zqI 0,zqI 0,zqI 0,zqI 0]]) 5 true)),(67,(.made ([.agg [.int .i8 (1),zqI 0,zqI 0,zqI 0,zqI 0]]) 5 true))])))(hc_6:abuiltin env Builtin.append {toList:= [27,27]} [.slice (some ⟨31,gv,0,0,1⟩) gq gq,.slice (some ⟨73,0,0,0,1⟩) 1 1] 74 (AHeap.set (AHeap.rows 76 [(0,b),(25,lr),(31,mr0),(36,wr0),(44,ar0),(52,(.made ([.agg [.int .i8 (1),zqI 0,zqI 0,zqI 0,zqI 0]]) 5 true)),(67,(.made ([.agg [.int .i8 (1),zqI 0,zqI 0,zqI 0,zqI 0]]) 5 true))]) 73 (.made [zqI 0] 1 true))=some (.slice (some ⟨31,gv+1,0,0,1⟩) (gq+1) (gq+1),(AHeap.rows 76 [(0,b),(25,lr),(31,mr),(36,wr0),(44,ar0),(52,(.made ([.agg [.int .i8 (1),zqI 0,zqI 0,zqI 0,zqI 0]]) 5 true)),(67,(.made ([.agg [.int .i8 (1),zqI 0,zqI 0,zqI 0,zqI 0]]) 5 true)),(73,(.made ([zqI 0]) 1 true))])))(hc_7:abuiltin env Builtin.append {toList:= [27,27]} [.slice (some ⟨36,gv,0,0,1⟩) gq gq,.slice (some ⟨78,0,0,0,1⟩) 1 1] 79 (AHeap.set (AHeap.rows 81 [(0,b),(25,lr),(31,mr),(36,wr0),(44,ar0),(52,(.made ([.agg [.int .i8 (1),zqI 0,zqI 0,zqI 0,zqI 0]]) 5 true)),(67,(.made ([.agg [.int .i8 (1),zqI 0,zqI 0,zqI 0,zqI 0]]) 5 true)),(73,(.made ([zqI 0]) 1 true))]) 78 (.made [zqI w] 1 true))=some (.slice (some ⟨36,gv+1,0,0,1⟩) (gq+1) (gq+1),(AHeap.rows 81 (zq76_17 b lr mr wr ar0 w))))(hc_8:zqF (w-0))(hc_9:abuiltin env Builtin.append {toList:= [27,27]} [.slice (some ⟨44,gv,0,0,1⟩) gq gq,.slice (some ⟨86,0,0,0,1⟩) 1 1] 87 (AHeap.set (AHeap.rows 89 (zq76_17 b lr mr wr ar0 w)) 86 (.made [zqI (w-0)] 1 true))=some (.slice (some ⟨44,gv+1,0,0,1⟩) (gq+1) (gq+1),(AHeap.rows 89 (zq76_11 b lr mr wr ar w))))(hc_10:zqF ((i:Int)+1)) :
    Runs Try.prog 1 109 (loopAt Try.prog 14 0) [(0,.slice o N c),(7,zqI N),(8,zqI room),(9,.slice (some ⟨25,gv,0,0,5⟩) gq gq),(10,.slice (some ⟨31,gv,0,0,1⟩) gq gq),(11,.slice (some ⟨36,gv,0,0,1⟩) gq gq),(12,.slice (some ⟨44,gv,0,0,1⟩) gq gq),(13,zqI i)] (AHeap.rows 45 [(0,b),(25,lr0),(31,mr0),(36,wr0),(44,ar0)]) .normal (zq76_10 o N c room gv gq i) (AHeap.rows 92 (zq76_11 b lr mr wr ar w)) :=
  ppath_runs env_ok mixed (hs:= [.val 10002 (.bool true),.val 12002 (.ptr (some ⟨0,ver,off+i,0,5⟩)),.ld 12003 (zqA k n d mn mx),.val 13001 (.bool false),.val 16002 (zqI w),.act 17003 (.slice (some ⟨25,gv+1,0,0,5⟩) (gq+1) (gq+1)) (fun h=>AHeap.rows 70 [(0,b),(25,lr),(31,mr0),(36,wr0),(44,ar0),(52,.made [.agg [.int .i8 1,zqI 0,zqI 0,zqI 0,zqI 0]] 5 true),(67,.made [.agg [.int .i8 1,zqI 0,zqI 0,zqI 0,zqI 0]] 5 true)]),.act 18004 (.slice (some ⟨31,gv+1,0,0,1⟩) (gq+1) (gq+1)) (fun h=>AHeap.rows 76 [(0,b),(25,lr),(31,mr),(36,wr0),(44,ar0),(52,.made [.agg [.int .i8 1,zqI 0,zqI 0,zqI 0,zqI 0]] 5 true),(67,.made [.agg [.int .i8 1,zqI 0,zqI 0,zqI 0,zqI 0]] 5 true),(73,.made [zqI 0] 1 true)]),.act 19003 (.slice (some ⟨36,gv+1,0,0,1⟩) (gq+1) (gq+1)) (fun h=>AHeap.rows 81 [(0,b),(25,lr),(31,mr),(36,wr),(44,ar0),(52,.made [.agg [.int .i8 1,zqI 0,zqI 0,zqI 0,zqI 0]] 5 true),(67,.made [.agg [.int .i8 1,zqI 0,zqI 0,zqI 0,zqI 0]] 5 true),(73,.made [zqI 0] 1 true),(78,.made [zqI w] 1 true)]),.go 20004,.act 20006 (.slice (some ⟨44,gv+1,0,0,1⟩) (gq+1) (gq+1)) (fun h=>AHeap.rows 89 [(0,b),(25,lr),(31,mr),(36,wr),(44,ar),(52,.made [.agg [.int .i8 1,zqI 0,zqI 0,zqI 0,zqI 0]] 5 true),(67,.made [.agg [.int .i8 1,zqI 0,zqI 0,zqI 0,zqI 0]] 5 true),(73,.made [zqI 0] 1 true),(78,.made [zqI w] 1 true),(86,.made [zqI (w-0)] 1 true)]),.go 11001]) (keep:= [0,7,8,9,10,11,12,13]) (by kernel_rfl) (All.cons (okT hc_0) (All.cons hc_1 (All.cons hc_2 (All.cons (CallT.mk hc_3) (All.cons (CallT.mk hc_4) (All.cons hc_5 (All.cons hc_6 (All.cons hc_7 (All.cons hc_8 (All.cons hc_9 (All.cons hc_10 (All.nil))))))))))))
theorem rz_end(o:Option AAddr)(N c ver off i gv:Nat)(b lr mr wr ar:ABlk)(room:Int)(lv mv wv av:AVal)(hc_0: ¬ ((i:Int)<(N:Int))) :
    Runs Try.prog 1 109 (loopAt Try.prog 14 0) [(0,.slice o N c),(7,zqI N),(8,zqI room),(9,lv),(10,mv),(11,wv),(12,av),(13,zqI i)] (AHeap.rows 45 [(0,b),(25,lr),(31,mr),(36,wr),(44,ar)]) (.exit 0) [(7,zqI (N:Int)),(8,zqI room),(9,lv),(10,mv),(11,wv),(12,av)] (AHeap.rows 48 [(0,b),(25,lr),(31,mr),(36,wr),(44,ar)]) :=
  ppath_runs env_ok mixed (hs:= [.val 10002 (.bool false)]) (keep:= [7,8,9,10,11,12]) (by kernel_rfl) (All.cons (okF hc_0) (All.nil))
theorem rz_end0(o:Option AAddr)(b:ABlk)(c:Nat)(room:Int) :
    Runs Try.prog 1 109 (loopAt Try.prog 14 0) [(0,.slice o 0 c),(7,.int .i64 0),(8,.int .i64 room),(9,.slice none 0 0),(10,.slice none 0 0),(11,.slice none 0 0),(12,.slice none 0 0),(13,.int .i64 0)] (AHeap.rows 10 [(0,b)]) (.exit 0) [(7,.int .i64 0),(8,.int .i64 room),(9,.slice none 0 0),(10,.slice none 0 0),(11,.slice none 0 0),(12,.slice none 0 0)] (AHeap.rows 13 [(0,b)]) :=
  ppath_runs env_ok mixed (hs:= []) (keep:= [7,8,9,10,11,12]) (by kernel_rfl) (All.nil)
section
variable(N gv v m f i:Nat)(b g:ABlk)(sz:List AVal)(x y:Int)
include N gv v m f i b g sz x y
theorem rz_sub(hc_0:(i:Int)<(N:Int))(hc_1:aindexAddr env.D 27 (.slice (some ⟨36,v,0,0,1⟩) N N) (zqI (i:Int))=some (.ptr (some ⟨36,v,i,0,1⟩)))(hc_2:ABlk.elem? ⟨sz,1,false,false,v,m,f⟩ v i=some (zqI x))(hc_3:aindexAddr env.D 27 (.slice (some ⟨76,gv,0,0,1⟩) N N) (zqI (i:Int))=some (.ptr (some ⟨76,gv,0+i,0,1⟩)))(hc_4:ABlk.elem? g gv (0+i)=some (zqI y))(hc_5:zqF (x-y))(hc_6:aindexAddr env.D 27 (.slice (some ⟨36,v,0,0,1⟩) N N) (zqI (i:Int))=some (.ptr (some ⟨36,v,i,0,1⟩)))(hc_7:v=v∧sz[i]? =some (zqI x))(hc_8:zqF ((i:Int)+1)) :
    Runs Try.prog 1 109 (loopAt Try.prog 14 1) [(7,zqI N),(11,.slice (some ⟨36,v,0,0,1⟩) N N),(17,.slice (some ⟨76,gv,0,0,1⟩) N N),(18,zqI i)] (AHeap.rows 80 [(0,b),(36,⟨sz,1,false,false,v,m,f⟩),(76,g)]) .normal [(7,zqI (N:Int)),(11,.slice (some ⟨36,v,0,0,1⟩) N N),(17,.slice (some ⟨76,gv,0,0,1⟩) N N),(18,zqI ((i:Int)+1))] (AHeap.rows 99 [(0,b),(36,⟨List.set sz i (zqI (x-y)),1,false,false,v,v,f⟩),(76,g)]) :=
  ppath_runs env_ok mixed (hs:= [.val 26002 (.bool true),.val 28004 (.ptr (some ⟨36,v,i,0,1⟩)),.ld 28005 (zqI x),.val 28008 (.ptr (some ⟨76,gv,0+i,0,1⟩)),.ld 28009 (zqI y),.go 28010,.val 28011 (.ptr (some ⟨36,v,i,0,1⟩)),.st 28012 (zqI x),.go 27001]) (keep:= [7,11,17,18]) (by kernel_rfl) (All.cons (okT hc_0) (All.cons hc_1 (All.cons hc_2 (All.cons hc_3 (All.cons hc_4 (All.cons hc_5 (All.cons hc_6 (All.cons hc_7 (All.cons hc_8 (All.nil))))))))))
theorem rz_sub_end(hc_0: ¬ ((i:Int)<(N:Int))) :
    Runs Try.prog 1 109 (loopAt Try.prog 14 1) [(7,zqI N),(11,.slice (some ⟨36,v,0,0,1⟩) N N),(17,.slice (some ⟨76,gv,0,0,1⟩) N N),(18,zqI i)] (AHeap.rows 80 [(0,b),(36,⟨sz,1,false,false,v,m,f⟩),(76,g)]) (.exit 2) [(11,.slice (some ⟨36,v,0,0,1⟩) N N)] (AHeap.rows 83 [(0,b),(36,⟨sz,1,false,false,v,m,f⟩),(76,g)]) :=
  ppath_runs env_ok mixed (hs:= [.val 26002 (.bool false)]) (keep:= [11]) (by kernel_rfl) (All.cons (okF hc_0) (All.nil))
end
noncomputable abbrev zq76_1(b:ABlk)(lr:ABlk)(mr:ABlk)(sz:List AVal)(gv:Nat)(m:Nat)(f:Nat)(ar:ABlk):List (Nat×ABlk):= [(0,b),(25,lr),(31,mr),(36,⟨sz,1,false,false,gv,m,f⟩),(44,ar)]
noncomputable abbrev zq76_3(o:Option AAddr)(N:Nat)(c:Nat)(b:ABlk)(gv:Nat)(lr:ABlk)(mr:ABlk)(sz:List AVal)(m:Nat)(f:Nat)(ar:ABlk):Prop:=Runs Try.prog 1 109 (.loop (loopAt Try.prog 14 0)) [(0,.slice o N c),(7,zqI (N:Int)),(8,zqI 0),(9,.slice none 0 0),(10,.slice none 0 0),(11,.slice none 0 0),(12,.slice none 0 0),(13,zqI 0)] (AHeap.rows 24 [(0,b)]) (.exit 0) [(7,zqI (N:Int)),(8,zqI 0),(9,.slice (some ⟨25,gv,0,0,5⟩) N N),(10,.slice (some ⟨31,gv,0,0,1⟩) N N),(11,.slice (some ⟨36,gv,0,0,1⟩) N N),(12,.slice (some ⟨44,gv,0,0,1⟩) N N)] (AHeap.rows 61 (zq76_1 b lr mr sz gv m f ar))
noncomputable abbrev zq76_4(extent:Int)(b:ABlk):Prop:=FDoes Try.prog 33 [zqI extent,zqI 0,zqI 4096] (AHeap.rows 16 [(0,b)]) (zqI (sideZ extent)) (AHeap.rows 16 [(0,b)])
noncomputable abbrev zq76_5(gap:Int)(b:ABlk):Prop:=FDoes Try.prog 33 [zqI gap,zqI 0,zqI 4096] (AHeap.rows 16 [(0,b)]) (zqI (sideZ gap)) (AHeap.rows 16 [(0,b)])
noncomputable abbrev zq76_6(gv:Nat)(N:Nat)(b:ABlk)(lr:ABlk)(mr:ABlk)(sz:List AVal)(m:Nat)(f:Nat)(ar:ABlk)(s1:Int):Prop:=FDoes Try.prog 35 [.slice (some ⟨31,gv,0,0,1⟩) N N] (AHeap.rows 65 (zq76_1 b lr mr sz gv m f ar)) (zqI s1) (AHeap.rows 65 (zq76_1 b lr mr sz gv m f ar))
noncomputable abbrev zq76_8(N:Nat)(gv:Nat):Facts:= [(7,zqI N),(8,zqI 0),(9,.slice (some ⟨25,gv,0,0,5⟩) N N),(10,.slice (some ⟨31,gv,0,0,1⟩) N N),(11,.slice (some ⟨36,gv,0,0,1⟩) N N),(12,.slice (some ⟨44,gv,0,0,1⟩) N N)]
theorem rz_leastT(o:Option AAddr)(N c gv m f m2 f2 v2:Nat)(b lr mr wr ar r:ABlk)(sz sz2:List AVal)(extent gap room s1 s2:Int)(hc_0: ¬ ((N:Int)>4096))(hc_1:(zq76_4 extent b))(hc_2:(zq76_5 gap b))(hc_3:zqF ((N:Int)-1))(hc_4:zqF (sideZ gap* ((N:Int)-1)))(hc_5:zqF (sideZ extent-sideZ gap* ((N:Int)-1)))(hc_7:sideZ extent-sideZ gap* ((N:Int)-1)<0)(hc_8:(zq76_3 o N c b gv lr mr sz m f ar))(hc_9:(zq76_6 gv N b lr mr sz m f ar s1))(hc_10:s1>0)(hc_11:FDoes Try.prog 36 [zqI 0,.slice (some ⟨31,gv,0,0,1⟩) N N] (AHeap.rows 69 (zq76_1 b lr mr sz gv m f ar)) (.slice (some ⟨69,v2,0,0,1⟩) N N) (AHeap.rows 70 [(0,b),(25,lr),(31,mr),(36,⟨sz,1,false,false,gv,m,f⟩),(44,ar),(69,r)])) :
    FDoes Try.prog 14 [.slice o N c,zqI extent,zqI gap] (AHeap.of [b]) (.slice (some ⟨69,v2,0,0,1⟩) N N) (AHeap.rows 70 [(0,b),(25,lr),(31,mr),(36,⟨sz,1,false,false,gv,m,f⟩),(44,ar),(69,r)]) :=
  pcall_does env_ok mixed (hs:= [.val 2001 (.bool false),.val 4001 (zqI (sideZ extent)),.val 4003 (zqI (sideZ gap)),.go 4005,.go 4006,.go 4007,.val 5001 (.bool true),.keep [0,7,8,9,10,11,12,13],.loop (zq76_8 N gv) (AHeap.rows 61 (zq76_1 b lr mr sz gv m f ar)) (.exit 0),.val 21001 (zqI s1),.val 21003 (.bool true),.act 22002 (.slice (some ⟨69,v2,0,0,1⟩) N N) (fun h=>h.upd [] [r])]) (rs:= []) (by kernel_rfl) (All.cons (okF hc_0) (All.cons (CallT.mk hc_1) (All.cons (CallT.mk hc_2) (All.cons hc_3 (All.cons hc_4 (All.cons hc_5 (All.cons (show Agree [zqI extent,zqI 0,zqI 4096] [zqI gap,zqI 0,zqI 4096] (AHeap.rows 16 [(0,b)]) (AHeap.rows 16 [(0,b)]) (zqI (sideZ extent)) (zqI (sideZ gap)) (AHeap.rows 16 [(0,b)]) (AHeap.rows 16 [(0,b)])from⟨by intro hh _;first | (simp at hh;done) | (simp at hh;simp [hh]) | exact⟨rfl,rfl⟩⟩) (All.cons (okT hc_7) (All.cons hc_8 (All.cons (CallT.mk hc_9) (All.cons (okT hc_10) (All.cons (CallT.mk hc_11) (All.nil)))))))))))))
noncomputable abbrev zq76_9(gv:Nat)(N:Nat)(b:ABlk)(lr:ABlk)(mr:ABlk)(sz:List AVal)(m:Nat)(f:Nat)(ar:ABlk)(s2:Int):Prop:=FDoes Try.prog 35 [.slice (some ⟨36,gv,0,0,1⟩) N N] (AHeap.rows 69 (zq76_1 b lr mr sz gv m f ar)) (zqI s2) (AHeap.rows 69 (zq76_1 b lr mr sz gv m f ar))
noncomputable abbrev zq76_16(N:Nat)(gv:Nat)(v2:Nat)(b:ABlk)(lr:ABlk)(mr:ABlk)(sz:List AVal)(m:Nat)(f:Nat)(ar:ABlk)(r:ABlk)(sz2:List AVal)(m2:Nat)(f2:Nat):Prop:=Runs Try.prog 1 109 (.loop (loopAt Try.prog 14 1)) [(7,zqI (N:Int)),(11,.slice (some ⟨36,gv,0,0,1⟩) N N),(17,.slice (some ⟨76,v2,0,0,1⟩) N N),(18,zqI 0)] (AHeap.rows 78 [(0,b),(25,lr),(31,mr),(36,⟨sz,1,false,false,gv,m,f⟩),(44,ar),(76,r)]) (.exit 2) [(11,.slice (some ⟨36,gv,0,0,1⟩) N N)] (AHeap.rows 81 [(0,b),(36,⟨sz2,1,false,false,gv,m2,f2⟩),(76,r)])
section
variable(o:Option AAddr)(N c gv m f m2 f2 v2:Nat)(b lr mr wr ar r:ABlk)(sz sz2:List AVal)(extent gap room s1 s2:Int)(hc_0: ¬ ((N:Int)>4096))(hc_1:(zq76_4 extent b))(hc_2:(zq76_5 gap b))(hc_3:zqF ((N:Int)-1))(hc_4:zqF (sideZ gap* ((N:Int)-1)))(hc_5:zqF (sideZ extent-sideZ gap* ((N:Int)-1)))(hc_7:sideZ extent-sideZ gap* ((N:Int)-1)<0)(hc_8:(zq76_3 o N c b gv lr mr sz m f ar))(hc_9:(zq76_6 gv N b lr mr sz m f ar s1))(hc_10: ¬ (s1>0))(hc_11:(zq76_9 gv N b lr mr sz m f ar s2))
include o N c gv m f m2 f2 v2 b lr mr wr ar r sz sz2 extent gap room s1 s2 hc_0 hc_1 hc_2 hc_3 hc_4 hc_5 hc_7 hc_8 hc_9 hc_10 hc_11
theorem rz_cutT(hc_12:s2>0)(hc_13:FDoes Try.prog 35 [.slice (some ⟨36,gv,0,0,1⟩) N N] (AHeap.rows 76 (zq76_1 b lr mr sz gv m f ar)) (zqI s2) (AHeap.rows 76 (zq76_1 b lr mr sz gv m f ar)))(hc_14:zqF (s2-0))(hc_15:FDoes Try.prog 36 [zqI (s2-0),.slice (some ⟨44,gv,0,0,1⟩) N N] (AHeap.rows 76 (zq76_1 b lr mr sz gv m f ar)) (.slice (some ⟨76,v2,0,0,1⟩) N N) (AHeap.rows 77 [(0,b),(25,lr),(31,mr),(36,⟨sz,1,false,false,gv,m,f⟩),(44,ar),(76,r)]))(hc_16:(zq76_16 N gv v2 b lr mr sz m f ar r sz2 m2 f2)) :
    FDoes Try.prog 14 [.slice o N c,zqI extent,zqI gap] (AHeap.of [b]) (.slice (some ⟨36,gv,0,0,1⟩) N N) (AHeap.rows 83 [(0,b),(36,⟨sz2,1,false,false,gv,m2,f2⟩),(76,r)]) :=
  pcall_does env_ok mixed (hs:= [.val 2001 (.bool false),.val 4001 (zqI (sideZ extent)),.val 4003 (zqI (sideZ gap)),.go 4005,.go 4006,.go 4007,.val 5001 (.bool true),.keep [0,7,8,9,10,11,12,13],.loop (zq76_8 N gv) (AHeap.rows 61 (zq76_1 b lr mr sz gv m f ar)) (.exit 0),.val 21001 (zqI s1),.val 21003 (.bool false),.val 23001 (zqI s2),.val 23003 (.bool true),.val 24001 (zqI s2),.go 24003,.act 24005 (.slice (some ⟨76,v2,0,0,1⟩) N N) (fun h=>h.upd [] [r]),.keep [7,11,17,18],.loop [(11,.slice (some ⟨36,gv,0,0,1⟩) N N)] (AHeap.rows 81 [(0,b),(36,⟨sz2,1,false,false,gv,m2,f2⟩),(76,r)]) (.exit 2)]) (rs:= []) (by kernel_rfl) (All.cons (okF hc_0) (All.cons (CallT.mk hc_1) (All.cons (CallT.mk hc_2) (All.cons hc_3 (All.cons hc_4 (All.cons hc_5 (All.cons (show Agree [zqI extent,zqI 0,zqI 4096] [zqI gap,zqI 0,zqI 4096] (AHeap.rows 16 [(0,b)]) (AHeap.rows 16 [(0,b)]) (zqI (sideZ extent)) (zqI (sideZ gap)) (AHeap.rows 16 [(0,b)]) (AHeap.rows 16 [(0,b)])from⟨by intro hh _;first | (simp at hh;done) | (simp at hh;simp [hh]) | exact⟨rfl,rfl⟩⟩) (All.cons (okT hc_7) (All.cons hc_8 (All.cons (CallT.mk hc_9) (All.cons (okF hc_10) (All.cons (CallT.mk hc_11) (All.cons (okT hc_12) (All.cons (CallT.mk hc_13) (All.cons hc_14 (All.cons (CallT.mk hc_15) (All.cons hc_16 (All.nil))))))))))))))))))
theorem rz_fillT(hc_12: ¬ (s2>0))(hc_13:FDoes Try.prog 37 [.slice (some ⟨25,gv,0,0,5⟩) N N,.slice (some ⟨36,gv,0,0,1⟩) N N,zqI 0] (AHeap.rows 74 (zq76_1 b lr mr sz gv m f ar)) (.slice (some ⟨36,gv,0,0,1⟩) N N) (AHeap.rows 74 [(0,b),(25,lr),(31,mr),(36,⟨sz2,1,false,false,gv,m2,f2⟩),(44,ar)])) :
    FDoes Try.prog 14 [.slice o N c,zqI extent,zqI gap] (AHeap.of [b]) (.slice (some ⟨36,gv,0,0,1⟩) N N) (AHeap.rows 74 [(0,b),(25,lr),(31,mr),(36,⟨sz2,1,false,false,gv,m2,f2⟩),(44,ar)]) :=
  pcall_does env_ok mixed (hs:= [.val 2001 (.bool false),.val 4001 (zqI (sideZ extent)),.val 4003 (zqI (sideZ gap)),.go 4005,.go 4006,.go 4007,.val 5001 (.bool true),.keep [0,7,8,9,10,11,12,13],.loop (zq76_8 N gv) (AHeap.rows 61 (zq76_1 b lr mr sz gv m f ar)) (.exit 0),.val 21001 (zqI s1),.val 21003 (.bool false),.val 23001 (zqI s2),.val 23003 (.bool false),.act 30003 (.slice (some ⟨36,gv,0,0,1⟩) N N) (fun h=>h.upd [25,36] [lr,⟨sz2,1,false,false,gv,m2,f2⟩])]) (rs:= []) (by kernel_rfl) (All.cons (okF hc_0) (All.cons (CallT.mk hc_1) (All.cons (CallT.mk hc_2) (All.cons hc_3 (All.cons hc_4 (All.cons hc_5 (All.cons (show Agree [zqI extent,zqI 0,zqI 4096] [zqI gap,zqI 0,zqI 4096] (AHeap.rows 16 [(0,b)]) (AHeap.rows 16 [(0,b)]) (zqI (sideZ extent)) (zqI (sideZ gap)) (AHeap.rows 16 [(0,b)]) (AHeap.rows 16 [(0,b)])from⟨by intro hh _;first | (simp at hh;done) | (simp at hh;simp [hh]) | exact⟨rfl,rfl⟩⟩) (All.cons (okT hc_7) (All.cons hc_8 (All.cons (CallT.mk hc_9) (All.cons (okF hc_10) (All.cons (CallT.mk hc_11) (All.cons (okF hc_12) (All.cons (CallT.mk hc_13) (All.nil)))))))))))))))
end
noncomputable abbrev zq76_2(o:Option AAddr)(N:Nat)(c:Nat)(extent:Int)(gap:Int)(b:ABlk)(gv:Nat)(lr:ABlk)(mr:ABlk)(sz:List AVal)(m:Nat)(f:Nat)(ar:ABlk):Prop:=Runs Try.prog 1 109 (.loop (loopAt Try.prog 14 0)) [(0,.slice o N c),(7,zqI (N:Int)),(8,zqI (sideZ extent-sideZ gap* ((N:Int)-1))),(9,.slice none 0 0),(10,.slice none 0 0),(11,.slice none 0 0),(12,.slice none 0 0),(13,zqI 0)] (AHeap.rows 23 [(0,b)]) (.exit 0) [(7,zqI (N:Int)),(8,zqI (sideZ extent-sideZ gap* ((N:Int)-1))),(9,.slice (some ⟨25,gv,0,0,5⟩) N N),(10,.slice (some ⟨31,gv,0,0,1⟩) N N),(11,.slice (some ⟨36,gv,0,0,1⟩) N N),(12,.slice (some ⟨44,gv,0,0,1⟩) N N)] (AHeap.rows 61 (zq76_1 b lr mr sz gv m f ar))
noncomputable abbrev zq76_7(N:Nat)(extent:Int)(gap:Int)(gv:Nat):Facts:= [(7,zqI N),(8,zqI (sideZ extent-sideZ gap* ((N:Int)-1))),(9,.slice (some ⟨25,gv,0,0,5⟩) N N),(10,.slice (some ⟨31,gv,0,0,1⟩) N N),(11,.slice (some ⟨36,gv,0,0,1⟩) N N),(12,.slice (some ⟨44,gv,0,0,1⟩) N N)]
section
variable(o:Option AAddr)(N c gv m f m2 f2 v2:Nat)(b lr mr wr ar r:ABlk)(sz sz2:List AVal)(extent gap room s1 s2:Int)(hc_0: ¬ ((N:Int)>4096))(hc_1:(zq76_4 extent b))(hc_2:(zq76_5 gap b))(hc_3:zqF ((N:Int)-1))(hc_4:zqF (sideZ gap* ((N:Int)-1)))(hc_5:zqF (sideZ extent-sideZ gap* ((N:Int)-1)))(hc_7: ¬ (sideZ extent-sideZ gap* ((N:Int)-1)<0))(hc_8:(zq76_2 o N c extent gap b gv lr mr sz m f ar))(hc_9:(zq76_6 gv N b lr mr sz m f ar s1))
include o N c gv m f m2 f2 v2 b lr mr wr ar r sz sz2 extent gap room s1 s2 hc_0 hc_1 hc_2 hc_3 hc_4 hc_5 hc_7 hc_8 hc_9
theorem rz_leastF(hc_10:s1>sideZ extent-sideZ gap* ((N:Int)-1))(hc_11:FDoes Try.prog 36 [zqI (sideZ extent-sideZ gap* ((N:Int)-1)),.slice (some ⟨31,gv,0,0,1⟩) N N] (AHeap.rows 69 (zq76_1 b lr mr sz gv m f ar)) (.slice (some ⟨69,v2,0,0,1⟩) N N) (AHeap.rows 70 [(0,b),(25,lr),(31,mr),(36,⟨sz,1,false,false,gv,m,f⟩),(44,ar),(69,r)])) :
    FDoes Try.prog 14 [.slice o N c,zqI extent,zqI gap] (AHeap.of [b]) (.slice (some ⟨69,v2,0,0,1⟩) N N) (AHeap.rows 70 [(0,b),(25,lr),(31,mr),(36,⟨sz,1,false,false,gv,m,f⟩),(44,ar),(69,r)]) :=
  pcall_does env_ok mixed (hs:= [.val 2001 (.bool false),.val 4001 (zqI (sideZ extent)),.val 4003 (zqI (sideZ gap)),.go 4005,.go 4006,.go 4007,.val 5001 (.bool false),.keep [0,7,8,9,10,11,12,13],.loop (zq76_7 N extent gap gv) (AHeap.rows 61 (zq76_1 b lr mr sz gv m f ar)) (.exit 0),.val 21001 (zqI s1),.val 21003 (.bool true),.act 22002 (.slice (some ⟨69,v2,0,0,1⟩) N N) (fun h=>h.upd [] [r])]) (rs:= []) (by kernel_rfl) (All.cons (okF hc_0) (All.cons (CallT.mk hc_1) (All.cons (CallT.mk hc_2) (All.cons hc_3 (All.cons hc_4 (All.cons hc_5 (All.cons (show Agree [zqI extent,zqI 0,zqI 4096] [zqI gap,zqI 0,zqI 4096] (AHeap.rows 16 [(0,b)]) (AHeap.rows 16 [(0,b)]) (zqI (sideZ extent)) (zqI (sideZ gap)) (AHeap.rows 16 [(0,b)]) (AHeap.rows 16 [(0,b)])from⟨by intro hh _;first | (simp at hh;done) | (simp at hh;simp [hh]) | exact⟨rfl,rfl⟩⟩) (All.cons (okF hc_7) (All.cons hc_8 (All.cons (CallT.mk hc_9) (All.cons (okT hc_10) (All.cons (CallT.mk hc_11) (All.nil)))))))))))))
section
variable(hc_10: ¬ (s1>sideZ extent-sideZ gap* ((N:Int)-1)))(hc_11:(zq76_9 gv N b lr mr sz m f ar s2))
include hc_10 hc_11
theorem rz_cutF(hc_12:s2>sideZ extent-sideZ gap* ((N:Int)-1))(hc_13:FDoes Try.prog 35 [.slice (some ⟨36,gv,0,0,1⟩) N N] (AHeap.rows 76 (zq76_1 b lr mr sz gv m f ar)) (zqI s2) (AHeap.rows 76 (zq76_1 b lr mr sz gv m f ar)))(hc_14:zqF (s2- (sideZ extent-sideZ gap* ((N:Int)-1))))(hc_15:FDoes Try.prog 36 [zqI (s2- (sideZ extent-sideZ gap* ((N:Int)-1))),.slice (some ⟨44,gv,0,0,1⟩) N N] (AHeap.rows 76 (zq76_1 b lr mr sz gv m f ar)) (.slice (some ⟨76,v2,0,0,1⟩) N N) (AHeap.rows 77 [(0,b),(25,lr),(31,mr),(36,⟨sz,1,false,false,gv,m,f⟩),(44,ar),(76,r)]))(hc_16:(zq76_16 N gv v2 b lr mr sz m f ar r sz2 m2 f2)) :
    FDoes Try.prog 14 [.slice o N c,zqI extent,zqI gap] (AHeap.of [b]) (.slice (some ⟨36,gv,0,0,1⟩) N N) (AHeap.rows 83 [(0,b),(36,⟨sz2,1,false,false,gv,m2,f2⟩),(76,r)]) :=
  pcall_does env_ok mixed (hs:= [.val 2001 (.bool false),.val 4001 (zqI (sideZ extent)),.val 4003 (zqI (sideZ gap)),.go 4005,.go 4006,.go 4007,.val 5001 (.bool false),.keep [0,7,8,9,10,11,12,13],.loop (zq76_7 N extent gap gv) (AHeap.rows 61 (zq76_1 b lr mr sz gv m f ar)) (.exit 0),.val 21001 (zqI s1),.val 21003 (.bool false),.val 23001 (zqI s2),.val 23003 (.bool true),.val 24001 (zqI s2),.go 24003,.act 24005 (.slice (some ⟨76,v2,0,0,1⟩) N N) (fun h=>h.upd [] [r]),.keep [7,11,17,18],.loop [(11,.slice (some ⟨36,gv,0,0,1⟩) N N)] (AHeap.rows 81 [(0,b),(36,⟨sz2,1,false,false,gv,m2,f2⟩),(76,r)]) (.exit 2)]) (rs:= []) (by kernel_rfl) (All.cons (okF hc_0) (All.cons (CallT.mk hc_1) (All.cons (CallT.mk hc_2) (All.cons hc_3 (All.cons hc_4 (All.cons hc_5 (All.cons (show Agree [zqI extent,zqI 0,zqI 4096] [zqI gap,zqI 0,zqI 4096] (AHeap.rows 16 [(0,b)]) (AHeap.rows 16 [(0,b)]) (zqI (sideZ extent)) (zqI (sideZ gap)) (AHeap.rows 16 [(0,b)]) (AHeap.rows 16 [(0,b)])from⟨by intro hh _;first | (simp at hh;done) | (simp at hh;simp [hh]) | exact⟨rfl,rfl⟩⟩) (All.cons (okF hc_7) (All.cons hc_8 (All.cons (CallT.mk hc_9) (All.cons (okF hc_10) (All.cons (CallT.mk hc_11) (All.cons (okT hc_12) (All.cons (CallT.mk hc_13) (All.cons hc_14 (All.cons (CallT.mk hc_15) (All.cons hc_16 (All.nil))))))))))))))))))
theorem rz_fillF(hc_12: ¬ (s2>sideZ extent-sideZ gap* ((N:Int)-1)))(hc_13:FDoes Try.prog 37 [.slice (some ⟨25,gv,0,0,5⟩) N N,.slice (some ⟨36,gv,0,0,1⟩) N N,zqI (sideZ extent-sideZ gap* ((N:Int)-1))] (AHeap.rows 74 (zq76_1 b lr mr sz gv m f ar)) (.slice (some ⟨36,gv,0,0,1⟩) N N) (AHeap.rows 74 [(0,b),(25,lr),(31,mr),(36,⟨sz2,1,false,false,gv,m2,f2⟩),(44,ar)])) :
    FDoes Try.prog 14 [.slice o N c,zqI extent,zqI gap] (AHeap.of [b]) (.slice (some ⟨36,gv,0,0,1⟩) N N) (AHeap.rows 74 [(0,b),(25,lr),(31,mr),(36,⟨sz2,1,false,false,gv,m2,f2⟩),(44,ar)]) :=
  pcall_does env_ok mixed (hs:= [.val 2001 (.bool false),.val 4001 (zqI (sideZ extent)),.val 4003 (zqI (sideZ gap)),.go 4005,.go 4006,.go 4007,.val 5001 (.bool false),.keep [0,7,8,9,10,11,12,13],.loop (zq76_7 N extent gap gv) (AHeap.rows 61 (zq76_1 b lr mr sz gv m f ar)) (.exit 0),.val 21001 (zqI s1),.val 21003 (.bool false),.val 23001 (zqI s2),.val 23003 (.bool false),.act 30003 (.slice (some ⟨36,gv,0,0,1⟩) N N) (fun h=>h.upd [25,36] [lr,⟨sz2,1,false,false,gv,m2,f2⟩])]) (rs:= []) (by kernel_rfl) (All.cons (okF hc_0) (All.cons (CallT.mk hc_1) (All.cons (CallT.mk hc_2) (All.cons hc_3 (All.cons hc_4 (All.cons hc_5 (All.cons (show Agree [zqI extent,zqI 0,zqI 4096] [zqI gap,zqI 0,zqI 4096] (AHeap.rows 16 [(0,b)]) (AHeap.rows 16 [(0,b)]) (zqI (sideZ extent)) (zqI (sideZ gap)) (AHeap.rows 16 [(0,b)]) (AHeap.rows 16 [(0,b)])from⟨by intro hh _;first | (simp at hh;done) | (simp at hh;simp [hh]) | exact⟨rfl,rfl⟩⟩) (All.cons (okF hc_7) (All.cons hc_8 (All.cons (CallT.mk hc_9) (All.cons (okF hc_10) (All.cons (CallT.mk hc_11) (All.cons (okF hc_12) (All.cons (CallT.mk hc_13) (All.nil)))))))))))))))
end
end
theorem rz_big(o:Option AAddr)(N c:Nat)(b:ABlk)(extent gap:Int)(hc_0:(N:Int)>4096) :
    FDoes Try.prog 14 [.slice o N c,zqI extent,zqI gap] (AHeap.of [b]) (.slice none 0 0) (AHeap.rows 8 [(0,b)]) :=
  pcall_does env_ok mixed (hs:= [.val 2001 (.bool true)]) (rs:= []) (by kernel_rfl) (All.cons (okT hc_0) (All.nil))
theorem rfl_end0(room:Int) :
    Runs Try.prog 0 88 (loopAt Try.prog 37 0) [(0,.slice none 0 0),(1,.slice none 0 0),(7,.int .i64 room),(8,.int .i64 0),(9,.bool true),(10,.int .i64 0)] (AHeap.rows 6 []) (.exit 0) [(0,.slice none 0 0),(1,.slice none 0 0),(7,.int .i64 room),(8,.int .i64 0),(9,AVal.bool true)] (AHeap.rows 10 []) :=
  ppath_runs env_ok mixed (hs:= [.val 5003 (.bool false)]) (keep:= [0,1,7,8,9]) (by kernel_rfl) (All.cons (show some (AVal.bool false)=some (AVal.bool false)from congrArg (fun q=>some (AVal.bool q)) (rfl)) (All.nil))
theorem rfm_end0(room:Int) :
    Runs Try.prog 0 88 (loopAt Try.prog 37 1) [(0,.slice none 0 0),(1,.slice none 0 0),(11,.int .i64 0)] (AHeap.rows 26 []) (.exit 2) [(1,.slice none 0 0)] (AHeap.rows 30 []) :=
  ppath_runs env_ok mixed (hs:= [.val 13003 (.bool false)]) (keep:= [1]) (by kernel_rfl) (All.cons (show some (AVal.bool false)=some (AVal.bool false)from congrArg (fun q=>some (AVal.bool q)) (rfl)) (All.nil))
theorem filled_nil(room:Int)(hc_0:Runs Try.prog 0 88 (.loop (loopAt Try.prog 37 0)) [(0,.slice none 0 0),(1,.slice none 0 0),(7,zqI room),(8,zqI 0),(9,AVal.bool true),(10,zqI 0)] (AHeap.rows 6 []) (.exit 0) [(0,.slice none 0 0),(1,.slice none 0 0),(7,zqI room),(8,zqI 0),(9,AVal.bool true)] (AHeap.rows 21 []))(hc_1:0≤room)(hc_2:Runs Try.prog 0 88 (.loop (loopAt Try.prog 37 1)) [(0,.slice none 0 0),(1,.slice none 0 0),(11,zqI 0)] (AHeap.rows 28 []) (.exit 2) [(1,.slice none 0 0)] (AHeap.rows 41 [])) :
    FDoes Try.prog 37 [.slice none 0 0,.slice none 0 0,zqI room] (⟨0,.nil⟩) (.slice none 0 0) (AHeap.rows 43 []) :=
  pcall_does env_ok mixed (hs:= [.keep [0,1,7,8,9,10],.loop [(0,.slice none 0 0),(1,.slice none 0 0),(7,zqI room),(8,zqI 0),(9,.bool true)] (AHeap.rows 21 []) (.exit 0),.val 11004 (.bool true),.keep [0,1,11],.loop [(1,.slice none 0 0)] (AHeap.rows 41 []) (.exit 2)]) (rs:= []) (by kernel_rfl) (All.cons hc_0 (All.cons (okT hc_1) (All.cons hc_2 (All.nil))))
theorem rz_zero(o:Option AAddr)(c:Nat)(b:ABlk)(extent gap:Int)(hc_1:(zq76_4 extent b))(hc_2:(zq76_5 gap b))(hc_3: -9223372036854775808≤ -1∧(-1:Int)≤9223372036854775807)(hc_4:zqF (sideZ gap* ((0:Int)-1)))(hc_5:zqF (sideZ extent-sideZ gap* ((0:Int)-1)))(hc_7: ¬ (sideZ extent-sideZ gap* ((0:Int)-1)<0))(hc_8:Runs Try.prog 1 109 (.loop (loopAt Try.prog 14 0)) [(0,.slice o 0 c),(7,zqI 0),(8,zqI (sideZ extent-sideZ gap* ((0:Int)-1))),(9,.slice none 0 0),(10,.slice none 0 0),(11,.slice none 0 0),(12,.slice none 0 0),(13,zqI 0)] (AHeap.rows 23 [(0,b)]) (.exit 0) [(7,zqI 0),(8,zqI (sideZ extent-sideZ gap* -1)),(9,.slice none 0 0),(10,.slice none 0 0),(11,.slice none 0 0),(12,.slice none 0 0)] (AHeap.rows 41 [(0,b)]))(hc_9:FDoes Try.prog 35 [.slice none 0 0] (AHeap.rows 45 [(0,b)]) (zqI 0) (AHeap.rows 45 [(0,b)]))(hc_10: ¬ (0>sideZ extent-sideZ gap* -1))(hc_11:FDoes Try.prog 35 [.slice none 0 0] (AHeap.rows 49 [(0,b)]) (zqI 0) (AHeap.rows 49 [(0,b)]))(hc_12: ¬ (0>sideZ extent-sideZ gap* -1))(hc_13:FDoes Try.prog 37 [.slice none 0 0,.slice none 0 0,zqI (sideZ extent-sideZ gap* -1)] (AHeap.rows 54 [(0,b)]) (.slice none 0 0) (AHeap.rows 54 [(0,b)])) :
    FDoes Try.prog 14 [.slice o 0 c,zqI extent,zqI gap] (AHeap.of [b]) (.slice none 0 0) (AHeap.rows 54 [(0,b)]) :=
  pcall_does env_ok mixed (hs:= [.val 2001 (.bool false),.val 4001 (zqI (sideZ extent)),.val 4003 (zqI (sideZ gap)),.go 4005,.go 4006,.go 4007,.val 5001 (.bool false),.keep [0,7,8,9,10,11,12,13],.loop [(7,zqI 0),(8,zqI (sideZ extent-sideZ gap* (-1))),(9,.slice none 0 0),(10,.slice none 0 0),(11,.slice none 0 0),(12,.slice none 0 0)] (AHeap.rows 41 [(0,b)]) (.exit 0),.val 21001 (zqI 0),.val 21003 (.bool false),.val 23001 (zqI 0),.val 23003 (.bool false),.val 30003 (.slice none 0 0)]) (rs:= []) (by kernel_rfl) (All.cons (show some (AVal.bool false)=some (AVal.bool false)from congrArg (fun q=>some (AVal.bool q)) (rfl)) (All.cons (CallT.mk hc_1) (All.cons (CallT.mk hc_2) (All.cons hc_3 (All.cons hc_4 (All.cons hc_5 (All.cons (show Agree [zqI extent,zqI 0,zqI 4096] [zqI gap,zqI 0,zqI 4096] (AHeap.rows 16 [(0,b)]) (AHeap.rows 16 [(0,b)]) (zqI (sideZ extent)) (zqI (sideZ gap)) (AHeap.rows 16 [(0,b)]) (AHeap.rows 16 [(0,b)])from⟨by intro hh _;first | (simp at hh;done) | (simp at hh;simp [hh]) | exact⟨rfl,rfl⟩⟩) (All.cons (okF hc_7) (All.cons hc_8 (All.cons (CallT.mk hc_9) (All.cons (okF hc_10) (All.cons (CallT.mk hc_11) (All.cons (okF hc_12) (All.cons (CallT.mk hc_13) (All.nil)))))))))))))))
end Go.Proofs.Ytgfkllnaeekjeaa
namespace Go.Proofs.Ytgfkllnaeekjeaa
open Go.Lift
set_option maxRecDepth 1000000
structure PQ(it:Nat→It)(N:Nat)(rest p q:Int):Prop where
  hp:0≤p∧p≤4096
  hq:1≤q∧q≤1000
  le:sumTo (allZ it p q) N≤rest*q
def EndOk(it:Nat→It)(N:Nat)(rest p q e n:Int):Prop:=sumTo (allZ it e n) N≤rest*n→e*q≤p*n
def Onto(p q p2 q2:Int):Prop:= ∀ e n:Int,0≤n→e*q≤p*n→e*q2≤p2*n
theorem Onto.refl(p q:Int):Onto p q p q:=fun e n _ h=>h
theorem Onto.trans {p q p2 q2 p3 q3:Int}(h:Onto p q p2 q2)(h2:Onto p2 q2 p3 q3):Onto p q p3 q3:=fun e n h0 h1=>h2 e n h0 (h e n h0 h1)
theorem Onto.of {p q p2 q2:Int}(hq:0<q)(hq2:0≤q2)(h:p2*q>p*q2):Onto p q p2 q2:=by
  intro e n h0 h1
  have a1:e*q*q2≤p*n*q2:=Int.mul_le_mul_of_nonneg_right h1 hq2
  have a2:p*q2*n≤p2*q*n:=Int.mul_le_mul_of_nonneg_right (by omega) h0
  have a3:e*q*q2=e*q2*q:=by rw [Int.mul_assoc,Int.mul_comm q q2,Int.mul_assoc]
  have a4:p*n*q2=p*q2*n:=by rw [Int.mul_assoc,Int.mul_comm n q2,Int.mul_assoc]
  have a5:p2*q*n=p2*n*q:=by rw [Int.mul_assoc,Int.mul_comm q n,Int.mul_assoc]
  exact Int.le_of_mul_le_mul_right (show e*q2*q≤p2*n*q by omega) hq
section
variable {N:Nat}(hN:N≤4096){o:Option AAddr}{c ver off:Nat}{b:ABlk}(hs:SlArg o N c 0 ver off 5)(hb:BareB b){it:Nat→It}(hel: ∀ j,j<N→b.elem? ver (off+j)=some (it j).val)(hit: ∀ j,RightIt (it j)){rest:Int}(hr:0≤rest∧rest≤4096)
include hN hs hb hel hit hr
theorem rsi_one {p q:Int} (hpq:PQ it N rest p q) {i:Nat} (hi:i<N) (hk:(it i).k=3) (kk:Nat) (hkk:kk<2) (e:Int) (he:0≤e∧e≤4096) (hel2: [AVal.int .i64 (it i).mn,.int .i64 (it i).mx][kk]? =some (.int .i64 e)) :
    ∃ p2 q2,PQ it N rest p2 q2∧EndOk it N rest p2 q2 e (it i).n∧Onto p q p2 q2 ∧
      Runs Try.prog 1 84 (loopAt Try.prog 54 1) [(0,.slice o N c),(1,.int .i64 rest),(6,.int .i64 p),(7,.int .i64 q),(8,.int .i64 i),(9,.slice (some ⟨50,0,0,0,1⟩) 2 2),(10,.int .i64 kk)] (AHeap.rows 53 [(0,b),(50,.made [.int .i64 (it i).mn,.int .i64 (it i).mx] 1 true)]) .normal
        [(0,.slice o N c),(1,.int .i64 rest),(6,.int .i64 p2),(7,.int .i64 q2),(8,.int .i64 i),(9,.slice (some ⟨50,0,0,0,1⟩) 2 2),(10,.int .i64 (kk+1:Nat))] (AHeap.rows 53 [(0,b),(50,.made [.int .i64 (it i).mn,.int .i64 (it i).mx] 1 true)]):=by
  have hf:=(hit i).fill hk
  have hn:=hf.n
  have hc:Clo (Ids [0,50]) (.slice o N c):=hs.clo (by simp [Ids])
  have m1:=mul_range he.1 he.2 (show 0≤q by have:=hpq.hq;omega) hpq.hq.2
  have m2:=mul_range hpq.hp.1 hpq.hp.2 (show 0≤(it i).n by omega) hn.2
  have m3:=mul_range hr.1 hr.2 (show 0≤(it i).n by omega) hn.2
  have ixk:aindexAddr env.D 27 (.slice (some ⟨50,0,0,0,1⟩) 2 2) (.int .i64 (kk:Int))=some (.ptr (some ⟨50,0,kk,0,1⟩)):=ixR hkk
  have ixi:aindexAddr env.D 26 (.slice o N c) (.int .i64 (i:Int))=some (.ptr (some ⟨0,ver,off+i,0,5⟩)):=ix_itS hs hi
  have ek:(ABlk.made [AVal.int .i64 (it i).mn,.int .i64 (it i).mx] 1 true).elem? 0 kk=some (.int .i64 e):=elem_made hel2
  have hbk:BareB (ABlk.made [AVal.int .i64 (it i).mn,.int .i64 (it i).mx] 1 true):=by
    intro x hx
    have hx:x∈ [AVal.int .i64 (it i).mn,.int .i64 (it i).mx]:=hx
    simp only [List.mem_cons,List.not_mem_nil,or_false]at hx
    rcases hx with rfl | rfl<;>exact Bare.int _ _
  have dr: ∀ (K:Nat) (p2 q2:Int) (hk: [(0,b),(50,ABlk.made [AVal.int .i64 (it i).mn,.int .i64 (it i).mx] 1 true)].map (fun p=>(AHeap.rows K [(0,b),(50,.made [.int .i64 (it i).mn,.int .i64 (it i).mx] 1 true)]).get p.1)= [(0,b),(50,ABlk.made [AVal.int .i64 (it i).mn,.int .i64 (it i).mx] 1 true)].map (fun p=>some p.2)),
      Ent 1 84 [(0,.slice o N c),(1,.int .i64 rest),(6,.int .i64 p2),(7,.int .i64 q2),(8,.int .i64 i),(9,.slice (some ⟨50,0,0,0,1⟩) 2 2),(10,.int .i64 (kk+1:Nat))] (AHeap.rows K [(0,b),(50,.made [.int .i64 (it i).mn,.int .i64 (it i).mx] 1 true)])
        [(0,.slice o N c),(1,.int .i64 rest),(6,.int .i64 p2),(7,.int .i64 q2),(8,.int .i64 i),(9,.slice (some ⟨50,0,0,0,1⟩) 2 2),(10,.int .i64 (kk+1:Nat))] (AHeap.rows 53 [(0,b),(50,.made [.int .i64 (it i).mn,.int .i64 (it i).mx] 1 true)]):=fun K p2 q2 hk =>
    Ent.drop hk (by kernel_rfl) (by kernel_rfl) (by kernel_rfl) (by simp only [List.map,All_cons,All_nil,and_true];exact⟨hc,by simp [Clo],by simp [Clo],by simp [Clo],by simp [Clo],by simp [Clo,Ids],by simp [Clo]⟩) (by simp only [List.map,All_cons,All_nil,and_true];exact⟨hb.clo _,hbk.clo _⟩)
  by_cases c1:e*q>p* (it i).n
  · have al:=rall_does (H:=AHeap.rows 90 [(0,b),(50,.made [.int .i64 (it i).mn,.int .i64 (it i).mx] 1 true)]) ⟨hs,by kernel_rfl,by rw [AHeap.rows_next];omega,hb,hel⟩ hN hit he (q:=(it i).n) ⟨by omega,by omega⟩
    by_cases c2:sumTo (allZ it e (it i).n) N≤rest* (it i).n
    · refine⟨e,(it i).n,⟨he,⟨by omega,hn.2⟩,c2⟩,fun _=>Int.le_refl _,Onto.of (by have:=hpq.hq;omega) (by omega) c1,?_⟩
      exact(rsi_yes o N c ver off i kk b (it i).k (it i).n (it i).d (it i).mn (it i).mx rest p q e _ (by omega) ixk ek (by omega) ixi (hel i hi) (by omega) c1 ixk ek ixi (hel i hi) al ixi (hel i hi) (by omega) c2 ixk ek ixi (hel i hi) (by omega)).post (dr _ _ _ (by kernel_rfl))
    · refine⟨p,q,hpq,fun h=>absurd h c2,Onto.refl p q,?_⟩
      exact(rsi_no2 o N c ver off i kk b (it i).k (it i).n (it i).d (it i).mn (it i).mx rest p q e _ (by omega) ixk ek (by omega) ixi (hel i hi) (by omega) c1 ixk ek ixi (hel i hi) al ixi (hel i hi) (by omega) c2 (by omega)).post (dr _ _ _ (by kernel_rfl))
  · refine⟨p,q,hpq,fun _=>by omega,Onto.refl p q,?_⟩
    exact(rsi_no1 o N c ver off i kk b (it i).k (it i).n (it i).d (it i).mn (it i).mx rest p q e 0 (by omega) ixk ek (by omega) ixi (hel i hi) (by omega) c1 (by omega)).post (dr _ _ _ (by kernel_rfl))
theorem rsi_both {p q:Int} (hpq:PQ it N rest p q) {i:Nat} (hi:i<N) (hk:(it i).k=3) :
    ∃ p2 q2,PQ it N rest p2 q2∧EndOk it N rest p2 q2 (it i).mn (it i).n∧EndOk it N rest p2 q2 (it i).mx (it i).n∧Onto p q p2 q2 ∧
      Loops Try.prog 1 84 (loopAt Try.prog 54 1) [(0,.slice o N c),(1,.int .i64 rest),(6,.int .i64 p),(7,.int .i64 q),(8,.int .i64 i),(9,.slice (some ⟨50,0,0,0,1⟩) 2 2),(10,.int .i64 (0:Nat))] (AHeap.rows 53 [(0,b),(50,.made [.int .i64 (it i).mn,.int .i64 (it i).mx] 1 true)]) (.exit 2)
        [(0,.slice o N c),(1,.int .i64 rest),(6,.int .i64 p2),(7,.int .i64 q2),(8,.int .i64 i)] (AHeap.rows 60 [(0,b)]):=by
  have hf:=(hit i).fill hk
  have hc:Clo (Ids [0]) (.slice o N c):=hs.clo (by simp [Ids])
  have hm:=hf.mn
  have hx:=hf.mx
  obtain⟨p1,q1,a1,a2,a3,a4⟩:=rsi_one hN hs hb hel hit hr hpq hi hk 0 (by omega) (it i).mn hm rfl
  obtain⟨p2,q2,b1,b2,b3,b4⟩:=rsi_one hN hs hb hel hit hr a1 hi hk 1 (by omega) (it i).mx (by omega) rfl
  refine⟨p2,q2,b1,fun h=>b3 _ _ (by have:=hf.n;omega) (a2 h),b2,a3.trans b3,?_⟩
  refine Loops.step a4 (Loops.step b4 ((Loops.last (by simp) (rsi_end o N c ver off i 2 b (it i).k (it i).n (it i).d (it i).mn (it i).mx rest p2 q2 0 0 (by omega))).post ?_))
  exact Ent.drop (by kernel_rfl) (by kernel_rfl) (by kernel_rfl) (by kernel_rfl) (by simp only [List.map,All_cons,All_nil,and_true];exact⟨hc,by simp [Clo],by simp [Clo],by simp [Clo],by simp [Clo]⟩) (by simp only [List.map,All_cons,All_nil,and_true];exact hb.clo _)
theorem rs_loop: ∀ (f i:Nat) (p q:Int),i+f=N→PQ it N rest p q→ ∃ p2 q2,PQ it N rest p2 q2∧Onto p q p2 q2∧(∀ j,i≤j→j<N→(it j).k=3→EndOk it N rest p2 q2 (it j).mn (it j).n∧EndOk it N rest p2 q2 (it j).mx (it j).n) ∧
    Loops Try.prog 1 84 (loopAt Try.prog 54 0) [(0,.slice o N c),(1,.int .i64 rest),(6,.int .i64 p),(7,.int .i64 q),(8,.int .i64 i)] (AHeap.rows 30 [(0,b)]) (.exit 0) [(6,.int .i64 p2),(7,.int .i64 q2)] (AHeap.rows 61 [(0,b)])
  | 0,i,p,q,e,hpq=>by
    obtain rfl:i=N:=by omega
    refine⟨p,q,hpq,Onto.refl p q,fun j h1 h2=>by omega,?_⟩
    refine(Loops.last (by simp) (rs_end o i c ver off i 0 b 0 0 0 0 0 rest p q 0 0 (by omega))).post ?_
    exact Ent.drop (by kernel_rfl) (by kernel_rfl) (by kernel_rfl) (by kernel_rfl) (by simp [All_cons,All_nil,Clo]) (by simp only [List.map,All_cons,All_nil,and_true];exact hb.clo _)
  | f + 1,i,p,q,e,hpq=>by
    have hi:i<N:=by omega
    have hc:Clo (Ids [0]) (.slice o N c):=hs.clo (by simp [Ids])
    have ixi:aindexAddr env.D 26 (.slice o N c) (.int .i64 (i:Int))=some (.ptr (some ⟨0,ver,off+i,0,5⟩)):=ix_itS hs hi
    have dr: ∀ (K:Nat) (p2 q2:Int) (hk: [(0,b)].map (fun p=>(AHeap.rows K [(0,b)]).get p.1)= [(0,b)].map (fun p=>some p.2)),
        Ent 1 84 [(0,.slice o N c),(1,.int .i64 rest),(6,.int .i64 p2),(7,.int .i64 q2),(8,.int .i64 (i+1:Nat))] (AHeap.rows K [(0,b)]) [(0,.slice o N c),(1,.int .i64 rest),(6,.int .i64 p2),(7,.int .i64 q2),(8,.int .i64 (i+1:Nat))] (AHeap.rows 30 [(0,b)]):=fun K p2 q2 hk =>
      Ent.drop hk (by kernel_rfl) (by kernel_rfl) (by kernel_rfl) (by simp only [List.map,All_cons,All_nil,and_true];exact⟨hc,by simp [Clo],by simp [Clo],by simp [Clo],by simp [Clo]⟩) (by simp only [List.map,All_cons,All_nil,and_true];exact hb.clo _)
    by_cases hk:(it i).k=3
    · obtain⟨p1,q1,a1,a2,a3,a4,a5⟩:=rsi_both hN hs hb hel hit hr hpq hi hk
      obtain⟨p2,q2,b1,b2,b3,b4⟩:=rs_loop f (i+1) p1 q1 (by omega) a1
      refine⟨p2,q2,b1,a4.trans b2,fun j h1 h2 h3=> ?_,Loops.step ((rs_F o N c ver off i 0 b (it i).k (it i).n (it i).d (it i).mn (it i).mx rest p q 0 0 p1 q1 (by omega) ixi (hel i hi) hk ixi (hel i hi) ixi (hel i hi) (Runs.of_loops a5) (by omega)).post (dr _ _ _ (by kernel_rfl))) b4⟩
      by_cases c:j=i
      · subst c
        have hn:=((hit j).fill hk).n
        exact⟨fun h=>b2 _ _ (by omega) (a2 h),fun h=>b2 _ _ (by omega) (a3 h)⟩
      · exact b3 j (by omega) h2 h3
    · obtain⟨p2,q2,b1,b2,b3,b4⟩:=rs_loop f (i+1) p q (by omega) hpq
      refine⟨p2,q2,b1,b2,fun j h1 h2 h3=> ?_,Loops.step ((rs_O o N c ver off i 0 b (it i).k (it i).n (it i).d (it i).mn (it i).mx rest p q 0 0 (by omega) ixi (hel i hi) hk (by omega)).post (dr _ _ _ (by kernel_rfl))) b4⟩
      by_cases c:j=i
      · subst c;exact absurd h3 hk
      · exact b3 j (by omega) h2 h3
end
structure StartZ(it:Nat→It)(N:Nat)(rest p q:Int):Prop where
  pq:PQ it N rest p q
  ends: ∀ j,j<N→(it j).k=3→EndOk it N rest p q (it j).mn (it j).n∧EndOk it N rest p q (it j).mx (it j).n
theorem start_does {H:AHeap}{o:Option AAddr}{n c id ver off:Nat}{b:ABlk}{it:Nat→It}(hi:ItemsAt H o n c id ver off b it)(hn:n≤4096)(hit: ∀ j,RightIt (it j)){rest:Int}(hr:0≤rest∧rest≤4096)(h0:sumTo (allZ it 0 1) n≤rest) :
    ∃ p q,StartZ it n rest p q∧FDoes Try.prog 54 [.slice o n c,.int .i64 rest] H (.tuple [.int .i64 p,.int .i64 q]) H:=by
  have s1:=hi.sl.at 0
  obtain⟨p,q,a1,a2,a3,l⟩:=rs_loop hn s1 hi.bare hi.el hit hr n 0 0 1 (by omega) ⟨by omega,by omega,by omega⟩
  refine⟨p,q,⟨a1,fun j h1 h2=>a3 j (by omega) h1 h2⟩,?_⟩
  have hc:Clo (Ids [0]) (.slice (o.map fun a=> {a with id:=0}) n c):=s1.clo (by simp [Ids])
  have pre:Ent 1 84 [(0,.slice (o.map fun a=> {a with id:=0}) n c),(1,.int .i64 rest),(6,.int .i64 0),(7,.int .i64 1),(8,.int .i64 (0:Nat))] (AHeap.rows 6 [(0,b)]) [(0,.slice (o.map fun a=> {a with id:=0}) n c),(1,.int .i64 rest),(6,.int .i64 0),(7,.int .i64 1),(8,.int .i64 (0:Nat))] (AHeap.rows 30 [(0,b)]) :=
    Ent.drop (by kernel_rfl) (by kernel_rfl) (by kernel_rfl) (by kernel_rfl) (by simp only [List.map,All_cons,All_nil,and_true];exact⟨hc,by simp [Clo],by simp [Clo],by simp [Clo],by simp [Clo]⟩) (by simp only [List.map,All_cons,All_nil,and_true];exact hi.bare.clo _)
  have k:=(start_call (o.map fun a=> {a with id:=0}) n c b rest p q (Runs.of_loops (Tri.pre l pre))).pure (by simp [hi.bare]) (by kernel_rfl) ⟨fun r=>by simp [AVal.ren,AVal.rens],by simp [Clo,Clos]⟩ (by simp [Clos,Clo,s1.clo]) (H:=H) [id] (by simp) (by simp [hi.lt]) (by simp [hi.get])
  simpa [hi.sl.back (id':=0) (r:=toBig [id] H.next) rfl,AVal.ren]using k
end Go.Proofs.Ytgfkllnaeekjeaa
namespace Go.Proofs.Ytgfkllnaeekjeaa
open Go.Lift
set_option maxRecDepth 1000000
theorem slBool:SlTy env.D 63 4 1 1:=⟨⟨⟨.slice 4,1,24,some (.slice none 0 0)⟩,⟨.bool,1,1,some (.bool false)⟩,by kernel_rfl,rfl,by kernel_rfl,rfl,rfl,by omega,by kernel_rfl⟩⟩
def gbRow(f:Nat→Bool)(v:Nat):ABlk:= {elems:=bls (1+v) f,es:=1,exact:=false,ro:=false,ver:=v,minVer:=0,forkLen:=if v=0 then 0 else 1}
theorem gbRow_bare(f:Nat→Bool)(v:Nat):BareB (gbRow f v):=fun e he=>bls_bare _ _ e he
theorem gbRow_el {f:Nat→Bool}{v j:Nat}(hj:j<1+v):(gbRow f v).elem? v (0+j)=some (.bool (f j)):=by
  show(if 0+j<(gbRow f v).lim v then(bls (1+v) f)[0+j]? else none)=_
  have:(gbRow f v).lim v=1+v:=by simp [ABlk.lim,gbRow,bls]
  rw [this,if_pos (by omega),Nat.zero_add,bls_get hj]
theorem gbRow_grow(f:Nat→Bool)(v:Nat):(gbRow f v).grow [.bool (f (1+v))]=gbRow f (v+1):=by
  have e:bls (1+v) f++ [AVal.bool (f (1+v))]=bls (1+(v+1)) f:=by
    unfold bls
    rw [show 1+(v+1)=(1+v)+1 by omega,List.range_succ,List.map_append]
    simp
  simp only [ABlk.grow,gbRow,e]
  congr 1
  cases v with
  | zero=>simp [bls]
  | succ v=>simp [bls]
theorem app_brow {f:Nat→Bool}{v id:Nat}(hv:v≤2^40)(x:Bool)(hx1:f (1+v)=x)(t K:Nat)(hp:AHeap)(hg:hp.get id=some (gbRow f v))(hx:elemsOf 1 (.slice (some ⟨t,0,0,0,1⟩) 1 1) hp=some [.bool x]) :
    abuiltin env .append #[63,63] [.slice (some ⟨id,v,0,0,1⟩) (1+v) (1+v),.slice (some ⟨t,0,0,0,1⟩) 1 1] K hp=some (.slice (some ⟨id,v+1,0,0,1⟩) (1+v+1) (1+v+1),hp.set id (gbRow f (v+1))):=by
  refine(app_grow slBool hx (by simp) (b:=gbRow f v) (by simp;omega) (by simp;omega) hg rfl (by simp) rfl rfl rfl (by simp [gbRow,bls])).trans ?_
  rw [← hx1,← gbRow_grow];rfl
theorem app_brow1 {f:Nat→Bool}{id:Nat}(x:Bool)(hx1:f 0=x)(t:Nat)(hp:AHeap)(hx:elemsOf 1 (.slice (some ⟨t,0,0,0,1⟩) 1 1) hp=some [.bool x]) :
    abuiltin env .append #[63,63] [.slice none 0 0,.slice (some ⟨t,0,0,0,1⟩) 1 1] id hp=some (.slice (some ⟨id,0,0,0,1⟩) 1 1,hp.set id (gbRow f 0)):=by
  refine(app_new slBool hx (by simp) (by simp) (by simp)).trans ?_
  rw [← hx1];rfl
def grZ(it:Nat→It)(p q:Int)(j:Nat):Bool:=decide ((it j).k=3∧p* (it j).n≥(it j).mn*q∧((it j).mx=0∨p* (it j).n<(it j).mx*q))
def stZ(it:Nat→It)(p q:Int)(j:Nat):Int:=if(it j).k=3∧grZ it p q j=false then atZ (it j) p q / q else 0
def rdY(it:Nat→It)(p q:Int)(y:Nat→Int)(j:Nat):Int:=if(it j).k=3∧grZ it p q j=false then atZ (it j) p q / q else y j
def grN(it:Nat→It)(p q:Int)(j:Nat):Int:=if grZ it p q j=true then(it j).n else 0
theorem vRow_congr {n:Nat}{y z:Nat→Int}{v m f:Nat}(h: ∀ j,j<n→y j=z j):vRow n y v m f=vRow n z v m f:=by
  unfold vRow;rw [ints_congr h]
def reQ(it:Nat→It)(p q left weight:Int)(j:Nat):Int:=if grZ it p q j=true then left* (it j).n / weight else 0
def reY(it:Nat→It)(p q left weight:Int)(y:Nat→Int)(j:Nat):Int:=if grZ it p q j=true then left* (it j).n / weight else y j
def reR(it:Nat→It)(p q left weight:Int)(j:Nat):Int:=if grZ it p q j=true then left* (it j).n % weight else-1
section
variable {N:Nat}(hN:N≤4096){o:Option AAddr}{c ver off:Nat}{b:ABlk}(hs:SlArg o N c 0 ver off 5)(hb:BareB b){it:Nat→It}(hel: ∀ j,j<N→b.elem? ver (off+j)=some (it j).val)(hit: ∀ j,RightIt (it j)){p q:Int}(hp:0≤p∧p≤4096)(hq:1≤q∧q≤1000){v f0:Nat}
include hN hs hb hel hit hp hq
inductive RdCase(i:Nat):Prop
  | a (h: ¬ (it i).k=3)
  | b (h:(it i).k=3) (h1: ¬ p* (it i).n≥(it i).mn*q)
  | c (h:(it i).k=3) (h1:p* (it i).n≥(it i).mn*q) (h2:(it i).mx=0)
  | d (h:(it i).k=3) (h1:p* (it i).n≥(it i).mn*q) (h2: ¬ (it i).mx=0) (h3:p* (it i).n<(it i).mx*q)
  | e (h:(it i).k=3) (h1:p* (it i).n≥(it i).mn*q) (h2: ¬ (it i).mx=0) (h3: ¬ p* (it i).n<(it i).mx*q)
theorem rd_first {i:Nat} (hi:i<N) (hi0:i=0) (y:Nat→Int) (m:Nat) {left weight:Int} (hl: -(2^50)≤left∧left≤2^50) (hw: -(2^50)≤weight∧weight≤2^50) :
    ∃ m2,Runs Try.prog 2 140 (loopAt Try.prog 55 0) [(0,.slice o N c),(1,.slice (some ⟨1,v,0,0,1⟩) N N),(3,.int .i64 p),(4,.int .i64 q),(11,.int .i64 left),(12,.int .i64 weight),(13,.slice none 0 0),(14,.int .i64 i)] (AHeap.rows 36 [(0,b),(1,vRow N y v m f0)]) .normal
      [(0,.slice o N c),(1,.slice (some ⟨1,v,0,0,1⟩) N N),(3,.int .i64 p),(4,.int .i64 q),(11,.int .i64 (left-stZ it p q i)),(12,.int .i64 (weight+grN it p q i)),(13,.slice (some ⟨80,i,0,0,1⟩) (1+i) (1+i)),(14,.int .i64 (i+1:Nat))] (AHeap.rows 90 [(0,b),(1,vRow N (fun j=>if j=i then rdY it p q y i else y j) v m2 f0),(80,gbRow (grZ it p q) i)]):=by
  subst hi0
  have ixi:aindexAddr env.D 26 (.slice o N c) (.int .i64 (0:Nat))=some (.ptr (some ⟨0,ver,off+0,0,5⟩)):=ix_itS hs hi
  have hc:Clo (Ids [0,1,80]) (.slice o N c):=hs.clo (by simp [Ids])
  have nn:=(hit 0).nn
  have ar:=atZ_range (hit 0) hp ⟨by omega,hq.2⟩ nn
  have mx:=(hit 0).mx
  have mn:=(hit 0).mn
  have m1:=mul_range hp.1 hp.2 nn.1 nn.2
  have m2:=mul_range mn.1 mn.2 (show 0≤q by omega) hq.2
  have m3:=mul_range (a:=(it 0).mx) (A:=4096) (by omega) (by omega) (show 0≤q by omega) hq.2
  have hq0:(0:Int)<q:=by omega
  have td:Int.tdiv (atZ (it 0) p q) q=atZ (it 0) p q / q:=Int.tdiv_eq_ediv_of_nonneg ar.1
  have t0:0≤atZ (it 0) p q / q:=Int.ediv_nonneg ar.1 (by omega)
  have t1:atZ (it 0) p q / q≤atZ (it 0) p q:=Int.ediv_le_self _ ar.1
  have ixs:aindexAddr env.D 27 (.slice (some ⟨1,v,0,0,1⟩) N N) (.int .i64 (0:Nat))=some (.ptr (some ⟨1,v,0,0,1⟩)):=by
    have:=ix_intN (o:=some ⟨1,v,0,0,1⟩) (n:=N) (c:=N) (.inl rfl) (k:= .i64) hi
    rwa [Nat.zero_add]at this
  have fin: ∀ (K m2:Nat) (y2:List AVal) (x tt:ABlk) (l2 w2:Int) (hy:y2=ints N (fun j=>if j=0 then rdY it p q y 0 else y j)) (e1:l2=left-stZ it p q 0) (e2:w2=weight+grN it p q 0)
      (hk: [(0,b),(1,(⟨y2,1,false,false,v,m2,f0⟩:ABlk)),(80,gbRow (grZ it p q) 0)].map (fun r=>(AHeap.rows K [(0,b),(1,⟨y2,1,false,false,v,m2,f0⟩),(44,x),(79,tt),(80,gbRow (grZ it p q) 0)]).get r.1)= [(0,b),(1,(⟨y2,1,false,false,v,m2,f0⟩:ABlk)),(80,gbRow (grZ it p q) 0)].map (fun r=>some r.2)),
      Ent 2 140 [(0,.slice o N c),(1,.slice (some ⟨1,v,0,0,1⟩) N N),(3,.int .i64 p),(4,.int .i64 q),(11,.int .i64 l2),(12,.int .i64 w2),(13,.slice (some ⟨80,0,0,0,1⟩) 1 1),(14,.int .i64 (((0:Nat):Int)+1))] (AHeap.rows K [(0,b),(1,⟨y2,1,false,false,v,m2,f0⟩),(44,x),(79,tt),(80,gbRow (grZ it p q) 0)])
        [(0,.slice o N c),(1,.slice (some ⟨1,v,0,0,1⟩) N N),(3,.int .i64 p),(4,.int .i64 q),(11,.int .i64 (left-stZ it p q 0)),(12,.int .i64 (weight+grN it p q 0)),(13,.slice (some ⟨80,0,0,0,1⟩) (1+0) (1+0)),(14,.int .i64 (0+1:Nat))] (AHeap.rows 90 [(0,b),(1,vRow N (fun j=>if j=0 then rdY it p q y 0 else y j) v m2 f0),(80,gbRow (grZ it p q) 0)]):=by
    intro K m2 y2 x tt l2 w2 hy e1 e2 hk
    subst hy;subst e1;subst e2
    exact Ent.drop hk (by kernel_rfl) (by kernel_rfl) (by kernel_rfl) (by simp only [List.map,All_cons,All_nil,and_true];exact⟨hc,by simp [Clo,Ids],by simp [Clo],by simp [Clo],by simp [Clo],by simp [Clo],by simp [Clo,Ids],by simp [Clo]⟩) (by simp only [List.map,All_cons,All_nil,and_true];exact⟨hb.clo _,fun e he=>(ints_bare _ _ e he).clo _,(gbRow_bare _ _).clo _⟩)
  have same: ∀ (h: ¬ ((it 0).k=3∧grZ it p q 0=false)),ints N y=ints N (fun j=>if j=0 then rdY it p q y 0 else y j):=fun h=>ints_congr fun j _=>by
    by_cases c:j=0
    · subst c;rw [if_pos rfl];unfold rdY;rw [if_neg h]
    · rw [if_neg c]
  have new: ∀ (h:(it 0).k=3∧grZ it p q 0=false),(ints N y).set 0 (.int .i64 (Int.tdiv (atZ (it 0) p q) q))=ints N (fun j=>if j=0 then rdY it p q y 0 else y j):=fun h=>by
    rw [ints_set]
    refine ints_congr fun j _=> ?_
    by_cases c:j=0
    · subst c;rw [if_pos rfl,if_pos rfl];unfold rdY;rw [if_pos h,td]
    · rw [if_neg c,if_neg c]
  have rd:(⟨(ints N y).set 0 (.int .i64 (Int.tdiv (atZ (it 0) p q) q)),1,false,false,v,v,f0⟩:ABlk).elem? v 0=some (.int .i64 (Int.tdiv (atZ (it 0) p q) q)):=by
    rw [ints_set]
    have:=vRow_el (n:=N) (y:=fun j=>if j=0 then Int.tdiv (atZ (it 0) p q) q else y j) (v:=v) (m:=v) (f:=f0) hi
    rwa [if_pos rfl]at this
  have grow: ∀ (g:Bool) (hg:grZ it p q 0=g) (hp':AHeap) (hx:elemsOf 1 (.slice (some ⟨79,0,0,0,1⟩) 1 1) hp'=some [.bool g]),_:=fun g hg hp' hx=>app_brow1 (f:=grZ it p q) (id:=80) g hg 79 hp' hx
  have cs :RdCase (it:=it) (p:=p) (q:=q) 0:=by
    by_cases h:(it 0).k=3
    · by_cases h1:p* (it 0).n≥(it 0).mn*q
      · by_cases h2:(it 0).mx=0
        · exact .c h h1 h2
        · by_cases h3:p* (it 0).n<(it 0).mx*q
          · exact .d h h1 h2 h3
          · exact .e h h1 h2 h3
      · exact .b h h1
    · exact .a h
  rcases cs with h | ⟨h,h1⟩ | ⟨h,h1,h2⟩ | ⟨h,h1,h2,h3⟩ | ⟨h,h1,h2,h3⟩
  · have g:grZ it p q 0=false:=by unfold grZ;simp [h]
    exact⟨_,(rd_an o N c ver off 0 v m f0 0 0 b b (gbRow (grZ it p q) 0) (ints N y) (it 0).k (it 0).n (it 0).d (it 0).mn (it 0).mx 0 0 left weight p q (by omega) ixi (hel 0 hi) h ((grow false g _ (by kernel_rfl)).trans (by kernel_rfl)) h (by omega)).post (fin _ _ _ _ _ _ _ (same fun c=>h c.1) (by unfold stZ;rw [if_neg fun c=>h c.1];omega) (by unfold grN;rw [if_neg (by simp [g])];omega) (by kernel_rfl))⟩
  · have g:grZ it p q 0=false:=by unfold grZ;simp [h];intro c;omega
    exact⟨_,(rd_bn o N c ver off 0 v m f0 0 0 b b (gbRow (grZ it p q) 0) (ints N y) (it 0).k (it 0).n (it 0).d (it 0).mn (it 0).mx (y 0) (atZ (it 0) p q) left weight p q (by omega) ixi (hel 0 hi) h (by omega) (by omega) h1 ((grow false g _ (by kernel_rfl)).trans (by kernel_rfl)) h (rat_does (hit 0) hp ⟨by omega,hq.2⟩ nn _) ⟨by omega,by rw [td];omega⟩ ixs ⟨rfl,ints_get hi⟩ ixs rd (by rw [td];omega) (by omega)).post (fin _ _ _ _ _ _ _ (new ⟨h,g⟩) (by unfold stZ;rw [if_pos ⟨h,g⟩,td]) (by unfold grN;rw [if_neg (by simp [g])];omega) (by kernel_rfl))⟩
  · have g:grZ it p q 0=true:=by unfold grZ;simp [h,h2];omega
    exact⟨_,(rd_cn o N c ver off 0 v m f0 0 0 b b (gbRow (grZ it p q) 0) (ints N y) (it 0).k (it 0).n (it 0).d (it 0).mn (it 0).mx 0 0 left weight p q (by omega) ixi (hel 0 hi) h (by omega) (by omega) h1 h2 ((grow true g _ (by kernel_rfl)).trans (by kernel_rfl)) (by omega) (by omega)).post (fin _ _ _ _ _ _ _ (same fun c=>by rw [g]at c;exact absurd c.2 (by simp)) (by unfold stZ;rw [if_neg (by simp [g])];omega) (by unfold grN;rw [if_pos g]) (by kernel_rfl))⟩
  · have g:grZ it p q 0=true:=by unfold grZ;simp [h,h3];omega
    exact⟨_,(rd_dn o N c ver off 0 v m f0 0 0 b b (gbRow (grZ it p q) 0) (ints N y) (it 0).k (it 0).n (it 0).d (it 0).mn (it 0).mx 0 0 left weight p q (by omega) ixi (hel 0 hi) h (by omega) (by omega) h1 h2 (by omega) (by omega) h3 ((grow true g _ (by kernel_rfl)).trans (by kernel_rfl)) (by omega) (by omega)).post (fin _ _ _ _ _ _ _ (same fun c=>by rw [g]at c;exact absurd c.2 (by simp)) (by unfold stZ;rw [if_neg (by simp [g])];omega) (by unfold grN;rw [if_pos g]) (by kernel_rfl))⟩
  · have g:grZ it p q 0=false:=by unfold grZ;simp only [decide_eq_false_iff_not];rintro ⟨_,_,c | c⟩<;>omega
    exact⟨_,(rd_en o N c ver off 0 v m f0 0 0 b b (gbRow (grZ it p q) 0) (ints N y) (it 0).k (it 0).n (it 0).d (it 0).mn (it 0).mx (y 0) (atZ (it 0) p q) left weight p q (by omega) ixi (hel 0 hi) h (by omega) (by omega) h1 h2 (by omega) (by omega) h3 ((grow false g _ (by kernel_rfl)).trans (by kernel_rfl)) h (rat_does (hit 0) hp ⟨by omega,hq.2⟩ nn _) ⟨by omega,by rw [td];omega⟩ ixs ⟨rfl,ints_get hi⟩ ixs rd (by rw [td];omega) (by omega)).post (fin _ _ _ _ _ _ _ (new ⟨h,g⟩) (by unfold stZ;rw [if_pos ⟨h,g⟩,td]) (by unfold grN;rw [if_neg (by simp [g])];omega) (by kernel_rfl))⟩
theorem rd_grow {w i:Nat} (hi:i<N) (hi0:i=1+w) (y:Nat→Int) (m:Nat) {left weight:Int} (hl: -(2^50)≤left∧left≤2^50) (hw: -(2^50)≤weight∧weight≤2^50) :
    ∃ m2,Runs Try.prog 2 140 (loopAt Try.prog 55 0) [(0,.slice o N c),(1,.slice (some ⟨1,v,0,0,1⟩) N N),(3,.int .i64 p),(4,.int .i64 q),(11,.int .i64 left),(12,.int .i64 weight),(13,.slice (some ⟨80,w,0,0,1⟩) (1+w) (1+w)),(14,.int .i64 i)] (AHeap.rows 90 [(0,b),(1,vRow N y v m f0),(80,gbRow (grZ it p q) w)]) .normal
      [(0,.slice o N c),(1,.slice (some ⟨1,v,0,0,1⟩) N N),(3,.int .i64 p),(4,.int .i64 q),(11,.int .i64 (left-stZ it p q i)),(12,.int .i64 (weight+grN it p q i)),(13,.slice (some ⟨80,w+1,0,0,1⟩) (1+(w+1)) (1+(w+1))),(14,.int .i64 (i+1:Nat))] (AHeap.rows 90 [(0,b),(1,vRow N (fun j=>if j=i then rdY it p q y i else y j) v m2 f0),(80,gbRow (grZ it p q) (w+1))]):=by
  have ixi:aindexAddr env.D 26 (.slice o N c) (.int .i64 i)=some (.ptr (some ⟨0,ver,off+i,0,5⟩)):=ix_itS hs hi
  have hc:Clo (Ids [0,1,80]) (.slice o N c):=hs.clo (by simp [Ids])
  have nn:=(hit i).nn
  have ar:=atZ_range (hit i) hp ⟨by omega,hq.2⟩ nn
  have mx:=(hit i).mx
  have mn:=(hit i).mn
  have m1:=mul_range hp.1 hp.2 nn.1 nn.2
  have m2:=mul_range mn.1 mn.2 (show 0≤q by omega) hq.2
  have m3:=mul_range (a:=(it i).mx) (A:=4096) (by omega) (by omega) (show 0≤q by omega) hq.2
  have hq0:(0:Int)<q:=by omega
  have td:Int.tdiv (atZ (it i) p q) q=atZ (it i) p q / q:=Int.tdiv_eq_ediv_of_nonneg ar.1
  have t0:0≤atZ (it i) p q / q:=Int.ediv_nonneg ar.1 (by omega)
  have t1:atZ (it i) p q / q≤atZ (it i) p q:=Int.ediv_le_self _ ar.1
  have ixs:aindexAddr env.D 27 (.slice (some ⟨1,v,0,0,1⟩) N N) (.int .i64 i)=some (.ptr (some ⟨1,v,i,0,1⟩)):=by
    have:=ix_intN (o:=some ⟨1,v,0,0,1⟩) (n:=N) (c:=N) (.inl rfl) (k:= .i64) hi
    rwa [Nat.zero_add]at this
  have fin: ∀ (K m2:Nat) (y2:List AVal) (x tt:ABlk) (l2 w2:Int) (hy:y2=ints N (fun j=>if j=i then rdY it p q y i else y j)) (e1:l2=left-stZ it p q i) (e2:w2=weight+grN it p q i)
      (hk: [(0,b),(1,(⟨y2,1,false,false,v,m2,f0⟩:ABlk)),(80,gbRow (grZ it p q) (w+1))].map (fun r=>(AHeap.rows K [(0,b),(1,⟨y2,1,false,false,v,m2,f0⟩),(80,gbRow (grZ it p q) (w+1)),(98,x),(133,tt)]).get r.1)= [(0,b),(1,(⟨y2,1,false,false,v,m2,f0⟩:ABlk)),(80,gbRow (grZ it p q) (w+1))].map (fun r=>some r.2)),
      Ent 2 140 [(0,.slice o N c),(1,.slice (some ⟨1,v,0,0,1⟩) N N),(3,.int .i64 p),(4,.int .i64 q),(11,.int .i64 l2),(12,.int .i64 w2),(13,.slice (some ⟨80,w+1,0,0,1⟩) (1+w+1) (1+w+1)),(14,.int .i64 ((i:Int)+1))] (AHeap.rows K [(0,b),(1,⟨y2,1,false,false,v,m2,f0⟩),(80,gbRow (grZ it p q) (w+1)),(98,x),(133,tt)])
        [(0,.slice o N c),(1,.slice (some ⟨1,v,0,0,1⟩) N N),(3,.int .i64 p),(4,.int .i64 q),(11,.int .i64 (left-stZ it p q i)),(12,.int .i64 (weight+grN it p q i)),(13,.slice (some ⟨80,w+1,0,0,1⟩) (1+(w+1)) (1+(w+1))),(14,.int .i64 (i+1:Nat))] (AHeap.rows 90 [(0,b),(1,vRow N (fun j=>if j=i then rdY it p q y i else y j) v m2 f0),(80,gbRow (grZ it p q) (w+1))]):=by
    intro K m2 y2 x tt l2 w2 hy e1 e2 hk
    subst hy;subst e1;subst e2
    exact Ent.drop hk (by kernel_rfl) (by kernel_rfl) (by kernel_rfl) (by simp only [List.map,All_cons,All_nil,and_true];exact⟨hc,by simp [Clo,Ids],by simp [Clo],by simp [Clo],by simp [Clo],by simp [Clo],by simp [Clo,Ids],by simp [Clo]⟩) (by simp only [List.map,All_cons,All_nil,and_true];exact⟨hb.clo _,fun e he=>(ints_bare _ _ e he).clo _,(gbRow_bare _ _).clo _⟩)
  have same: ∀ (h: ¬ ((it i).k=3∧grZ it p q i=false)),ints N y=ints N (fun j=>if j=i then rdY it p q y i else y j):=fun h=>ints_congr fun j _=>by
    by_cases c:j=i
    · subst c;rw [if_pos rfl];unfold rdY;rw [if_neg h]
    · rw [if_neg c]
  have new: ∀ (h:(it i).k=3∧grZ it p q i=false),(ints N y).set i (.int .i64 (Int.tdiv (atZ (it i) p q) q))=ints N (fun j=>if j=i then rdY it p q y i else y j):=fun h=>by
    rw [ints_set]
    refine ints_congr fun j _=> ?_
    by_cases c:j=i
    · subst c;rw [if_pos rfl,if_pos rfl];unfold rdY;rw [if_pos h,td]
    · rw [if_neg c,if_neg c]
  have rd:(⟨(ints N y).set i (.int .i64 (Int.tdiv (atZ (it i) p q) q)),1,false,false,v,v,f0⟩:ABlk).elem? v i=some (.int .i64 (Int.tdiv (atZ (it i) p q) q)):=by
    rw [ints_set]
    have:=vRow_el (n:=N) (y:=fun j=>if j=i then Int.tdiv (atZ (it i) p q) q else y j) (v:=v) (m:=v) (f:=f0) hi
    rwa [if_pos rfl]at this
  have grow: ∀ (g:Bool) (hg:grZ it p q i=g) (K:Nat) (hp':AHeap) (hgt:hp'.get 80=some (gbRow (grZ it p q) w)) (hx:elemsOf 1 (.slice (some ⟨133,0,0,0,1⟩) 1 1) hp'=some [.bool g]),_:=fun g hg K hp' hgt hx=>app_brow (f:=grZ it p q) (v:=w) (id:=80) (by omega) g (by rw [← hi0];exact hg) 133 K hp' hgt hx
  have cs :RdCase (it:=it) (p:=p) (q:=q) i:=by
    by_cases h:(it i).k=3
    · by_cases h1:p* (it i).n≥(it i).mn*q
      · by_cases h2:(it i).mx=0
        · exact .c h h1 h2
        · by_cases h3:p* (it i).n<(it i).mx*q
          · exact .d h h1 h2 h3
          · exact .e h h1 h2 h3
      · exact .b h h1
    · exact .a h
  rcases cs with h | ⟨h,h1⟩ | ⟨h,h1,h2⟩ | ⟨h,h1,h2,h3⟩ | ⟨h,h1,h2,h3⟩
  · have g:grZ it p q i=false:=by unfold grZ;simp [h]
    exact⟨_,(rd_ag o N c ver off i v m f0 w (1+w) b (gbRow (grZ it p q) w) (gbRow (grZ it p q) (w+1)) (ints N y) (it i).k (it i).n (it i).d (it i).mn (it i).mx 0 0 left weight p q (by omega) ixi (hel i hi) h ((grow false g _ _ (by kernel_rfl) (by kernel_rfl)).trans (by kernel_rfl)) h (by omega)).post (fin _ _ _ _ _ _ _ (same fun c=>h c.1) (by unfold stZ;rw [if_neg fun c=>h c.1];omega) (by unfold grN;rw [if_neg (by simp [g])];omega) (by kernel_rfl))⟩
  · have g:grZ it p q i=false:=by unfold grZ;simp [h];intro c;omega
    exact⟨_,(rd_bg o N c ver off i v m f0 w (1+w) b (gbRow (grZ it p q) w) (gbRow (grZ it p q) (w+1)) (ints N y) (it i).k (it i).n (it i).d (it i).mn (it i).mx (y i) (atZ (it i) p q) left weight p q (by omega) ixi (hel i hi) h (by omega) (by omega) h1 ((grow false g _ _ (by kernel_rfl) (by kernel_rfl)).trans (by kernel_rfl)) h (rat_does (hit i) hp ⟨by omega,hq.2⟩ nn _) ⟨by omega,by rw [td];omega⟩ ixs ⟨rfl,ints_get hi⟩ ixs rd (by rw [td];omega) (by omega)).post (fin _ _ _ _ _ _ _ (new ⟨h,g⟩) (by unfold stZ;rw [if_pos ⟨h,g⟩,td]) (by unfold grN;rw [if_neg (by simp [g])];omega) (by kernel_rfl))⟩
  · have g:grZ it p q i=true:=by unfold grZ;simp [h,h2];omega
    exact⟨_,(rd_cg o N c ver off i v m f0 w (1+w) b (gbRow (grZ it p q) w) (gbRow (grZ it p q) (w+1)) (ints N y) (it i).k (it i).n (it i).d (it i).mn (it i).mx 0 0 left weight p q (by omega) ixi (hel i hi) h (by omega) (by omega) h1 h2 ((grow true g _ _ (by kernel_rfl) (by kernel_rfl)).trans (by kernel_rfl)) (by omega) (by omega)).post (fin _ _ _ _ _ _ _ (same fun c=>by rw [g]at c;exact absurd c.2 (by simp)) (by unfold stZ;rw [if_neg (by simp [g])];omega) (by unfold grN;rw [if_pos g]) (by kernel_rfl))⟩
  · have g:grZ it p q i=true:=by unfold grZ;simp [h,h3];omega
    exact⟨_,(rd_dg o N c ver off i v m f0 w (1+w) b (gbRow (grZ it p q) w) (gbRow (grZ it p q) (w+1)) (ints N y) (it i).k (it i).n (it i).d (it i).mn (it i).mx 0 0 left weight p q (by omega) ixi (hel i hi) h (by omega) (by omega) h1 h2 (by omega) (by omega) h3 ((grow true g _ _ (by kernel_rfl) (by kernel_rfl)).trans (by kernel_rfl)) (by omega) (by omega)).post (fin _ _ _ _ _ _ _ (same fun c=>by rw [g]at c;exact absurd c.2 (by simp)) (by unfold stZ;rw [if_neg (by simp [g])];omega) (by unfold grN;rw [if_pos g]) (by kernel_rfl))⟩
  · have g:grZ it p q i=false:=by unfold grZ;simp only [decide_eq_false_iff_not];rintro ⟨_,_,c | c⟩<;>omega
    exact⟨_,(rd_eg o N c ver off i v m f0 w (1+w) b (gbRow (grZ it p q) w) (gbRow (grZ it p q) (w+1)) (ints N y) (it i).k (it i).n (it i).d (it i).mn (it i).mx (y i) (atZ (it i) p q) left weight p q (by omega) ixi (hel i hi) h (by omega) (by omega) h1 h2 (by omega) (by omega) h3 ((grow false g _ _ (by kernel_rfl) (by kernel_rfl)).trans (by kernel_rfl)) h (rat_does (hit i) hp ⟨by omega,hq.2⟩ nn _) ⟨by omega,by rw [td];omega⟩ ixs ⟨rfl,ints_get hi⟩ ixs rd (by rw [td];omega) (by omega)).post (fin _ _ _ _ _ _ _ (new ⟨h,g⟩) (by unfold stZ;rw [if_pos ⟨h,g⟩,td]) (by unfold grN;rw [if_neg (by simp [g])];omega) (by kernel_rfl))⟩
theorem re_first {i:Nat} (hi:i<N) (hi0:i=0) (y:Nat→Int) (m:Nat) {left weight over:Int} (hl:0≤left∧left≤4096) (hw:0≤weight) (hg:grZ it p q i=true→0<weight) (ho: -(2^50)≤over∧over≤2^50) :
    ∃ m2,Runs Try.prog 2 140 (loopAt Try.prog 55 1) [(0,.slice o N c),(1,.slice (some ⟨1,v,0,0,1⟩) N N),(11,.int .i64 left),(12,.int .i64 weight),(13,.slice (some ⟨80,N-1,0,0,1⟩) N N),(17,.int .i64 over),(18,.slice none 0 0),(19,.int .i64 i)] (AHeap.rows 85 [(0,b),(1,vRow N y v m f0),(80,gbRow (grZ it p q) (N-1))]) .normal
      [(0,.slice o N c),(1,.slice (some ⟨1,v,0,0,1⟩) N N),(11,.int .i64 left),(12,.int .i64 weight),(13,.slice (some ⟨80,N-1,0,0,1⟩) N N),(17,.int .i64 (over-reQ it p q left weight i)),(18,.slice (some ⟨120,0,0,0,1⟩) (1+0) (1+0)),(19,.int .i64 (i+1:Nat))] (AHeap.rows 130 [(0,b),(1,vRow N (fun j=>if j=i then reY it p q left weight y i else y j) v m2 f0),(80,gbRow (grZ it p q) (N-1)),(120,gRow (reR it p q left weight) 1 0)]):=by
  have ixi:aindexAddr env.D 26 (.slice o N c) (.int .i64 (i:Int))=some (.ptr (some ⟨0,ver,off+i,0,5⟩)):=ix_itS hs hi
  have hc:Clo (Ids [0,1,80,120]) (.slice o N c):=hs.clo (by simp [Ids])
  have hc':Clo (Ids [0,1,80]) (.slice o N c):=hs.clo (by simp [Ids])
  have nn:=(hit i).nn
  have m1:=mul_range hl.1 hl.2 nn.1 nn.2
  have ixs:aindexAddr env.D 27 (.slice (some ⟨1,v,0,0,1⟩) N N) (.int .i64 (i:Int))=some (.ptr (some ⟨1,v,i,0,1⟩)):=by
    have:=ix_intN (o:=some ⟨1,v,0,0,1⟩) (n:=N) (c:=N) (.inl rfl) (k:= .i64) hi
    rwa [Nat.zero_add]at this
  have ixg:aindexAddr env.D 63 (.slice (some ⟨80,N-1,0,0,1⟩) N N) (.int .i64 (i:Int))=some (.ptr (some ⟨80,N-1,0+i,0,1⟩)):=ix_boolN (o:=some ⟨80,N-1,0,0,1⟩) (n:=N) (c:=N) (.inl rfl) (k:= .i64) hi
  have eg:(gbRow (grZ it p q) (N-1)).elem? (N-1) (0+i)=some (.bool (grZ it p q i)):=gbRow_el (by omega)
  have fin: ∀ (K m2:Nat) (y2:List AVal) (tt:ABlk) (o2:Int) (hy:y2=ints N (fun j=>if j=i then reY it p q left weight y i else y j)) (e1:o2=over-reQ it p q left weight i)
      (hk: [(0,b),(1,(⟨y2,1,false,false,v,m2,f0⟩:ABlk)),(80,gbRow (grZ it p q) (N-1)),(120,gRow (reR it p q left weight) 1 0)].map (fun r=>(AHeap.rows K [(0,b),(1,⟨y2,1,false,false,v,m2,f0⟩),(80,gbRow (grZ it p q) (N-1)),(119,tt),(120,gRow (reR it p q left weight) 1 0)]).get r.1)= [(0,b),(1,(⟨y2,1,false,false,v,m2,f0⟩:ABlk)),(80,gbRow (grZ it p q) (N-1)),(120,gRow (reR it p q left weight) 1 0)].map (fun r=>some r.2)),
      Ent 2 140 [(0,.slice o N c),(1,.slice (some ⟨1,v,0,0,1⟩) N N),(11,.int .i64 left),(12,.int .i64 weight),(13,.slice (some ⟨80,N-1,0,0,1⟩) N N),(17,.int .i64 o2),(18,.slice (some ⟨120,0,0,0,1⟩) 1 1),(19,.int .i64 ((i:Int)+1))] (AHeap.rows K [(0,b),(1,⟨y2,1,false,false,v,m2,f0⟩),(80,gbRow (grZ it p q) (N-1)),(119,tt),(120,gRow (reR it p q left weight) 1 0)])
        [(0,.slice o N c),(1,.slice (some ⟨1,v,0,0,1⟩) N N),(11,.int .i64 left),(12,.int .i64 weight),(13,.slice (some ⟨80,N-1,0,0,1⟩) N N),(17,.int .i64 (over-reQ it p q left weight i)),(18,.slice (some ⟨120,0,0,0,1⟩) (1+0) (1+0)),(19,.int .i64 (i+1:Nat))] (AHeap.rows 130 [(0,b),(1,vRow N (fun j=>if j=i then reY it p q left weight y i else y j) v m2 f0),(80,gbRow (grZ it p q) (N-1)),(120,gRow (reR it p q left weight) 1 0)]):=by
    intro K m2 y2 tt o2 hy e1 hk
    subst hy;subst e1
    exact Ent.drop hk (by kernel_rfl) (by kernel_rfl) (by kernel_rfl) (by simp only [List.map,All_cons,All_nil,and_true];exact⟨hc,by simp [Clo,Ids],by simp [Clo],by simp [Clo],by simp [Clo,Ids],by simp [Clo],by simp [Clo,Ids],by simp [Clo]⟩) (by simp only [List.map,All_cons,All_nil,and_true];exact⟨hb.clo _,fun e he=>(ints_bare _ _ e he).clo _,(gbRow_bare _ _).clo _,(gRow_bare _ _ _).clo _⟩)
  have pre: ∀ K2,[(0,b),(1,vRow N y v m f0),(80,gbRow (grZ it p q) (N-1))].all (fun r=>Nat.blt r.1 K2)=true→Ent 2 140 [(0,.slice o N c),(1,.slice (some ⟨1,v,0,0,1⟩) N N),(11,.int .i64 left),(12,.int .i64 weight),(13,.slice (some ⟨80,N-1,0,0,1⟩) N N),(17,.int .i64 over),(18,.slice none 0 0),(19,.int .i64 i)] (AHeap.rows 85 [(0,b),(1,vRow N y v m f0),(80,gbRow (grZ it p q) (N-1))])
      [(0,.slice o N c),(1,.slice (some ⟨1,v,0,0,1⟩) N N),(11,.int .i64 left),(12,.int .i64 weight),(13,.slice (some ⟨80,N-1,0,0,1⟩) N N),(17,.int .i64 over),(18,.slice none 0 0),(19,.int .i64 i)] (AHeap.rows K2 [(0,b),(1,vRow N y v m f0),(80,gbRow (grZ it p q) (N-1))]):=fun K2 hK2 =>
    Ent.drop (by kernel_rfl) hK2 (by kernel_rfl) (by kernel_rfl) (by simp only [List.map,All_cons,All_nil,and_true];exact⟨hc',by simp [Clo,Ids],by simp [Clo],by simp [Clo],by simp [Clo,Ids],by simp [Clo],by simp [Clo],by simp [Clo]⟩) (by simp only [List.map,All_cons,All_nil,and_true];exact⟨hb.clo _,fun e he=>(ints_bare _ _ e he).clo _,(gbRow_bare _ _).clo _⟩)
  have grow: ∀ (x:Int) (hx0:reR it p q left weight i=x) (hp':AHeap) (hx:elemsOf 1 (.slice (some ⟨119,0,0,0,1⟩) 1 1) hp'=some [.int .i64 x]),_:=fun x hx0 hp' hx=>app_row1 (f:=reR it p q left weight) (id:=120) x (by rw [← hi0];exact hx0) 119 hp' hx
  by_cases g:grZ it p q i=true
  · have w1:=hg g
    have td:Int.tdiv (left* (it i).n) weight=left* (it i).n / weight:=Int.tdiv_eq_ediv_of_nonneg m1.1
    have tm:Int.tmod (left* (it i).n) weight=left* (it i).n % weight:=Int.tmod_eq_emod_of_nonneg m1.1
    have t0:0≤left* (it i).n / weight:=Int.ediv_nonneg m1.1 (by omega)
    have t1:left* (it i).n / weight≤left* (it i).n:=Int.ediv_le_self _ m1.1
    have new:(ints N y).set i (.int .i64 (Int.tdiv (left* (it i).n) weight))=ints N (fun j=>if j=i then reY it p q left weight y i else y j):=by
      rw [ints_set]
      refine ints_congr fun j _=> ?_
      by_cases c:j=i
      · subst c;rw [if_pos rfl,if_pos rfl];unfold reY;rw [if_pos g,td]
      · rw [if_neg c,if_neg c]
    have rd:(⟨(ints N y).set i (.int .i64 (Int.tdiv (left* (it i).n) weight)),1,false,false,v,v,f0⟩:ABlk).elem? v i=some (.int .i64 (Int.tdiv (left* (it i).n) weight)):=by
      rw [ints_set]
      have:=vRow_el (n:=N) (y:=fun j=>if j=i then Int.tdiv (left* (it i).n) weight else y j) (v:=v) (m:=v) (f:=f0) hi
      rwa [if_pos rfl]at this
    rw [g]at eg
    have er:reR it p q left weight i=Int.tmod (left* (it i).n) weight:=by unfold reR;rw [if_pos g,tm]
    exact⟨_,(Tri.pre (re_Tn o (some ⟨80,N-1,0,0,1⟩) N c N ver off (N-1) i v m f0 0 0 b (gbRow (grZ it p q) (N-1)) b (gRow (reR it p q left weight) 1 0) (ints N y) (it i).k (it i).n (it i).d (it i).mn (it i).mx (y i) left weight over (by omega) ixg eg ixi (hel i hi) (by omega) ⟨by omega,by rw [td];omega⟩ ixs ⟨rfl,ints_get hi⟩ ixi (hel i hi) (by omega) (by omega) ((grow _ er _ (by kernel_rfl)).trans (by kernel_rfl)) ixs rd (by rw [td];omega) (by omega)) (pre _ (by kernel_rfl))).post (fin _ _ _ _ _ new (by unfold reQ;rw [if_pos g,td]) (by kernel_rfl))⟩
  · simp only [Bool.not_eq_true]at g
    rw [g]at eg
    have er:reR it p q left weight i= -1:=by unfold reR;rw [if_neg (by simp [g])]
    have same:ints N y=ints N (fun j=>if j=i then reY it p q left weight y i else y j):=ints_congr fun j _=>by
      by_cases c:j=i
      · subst c;rw [if_pos rfl];unfold reY;rw [if_neg (by simp [g])]
      · rw [if_neg c]
    exact⟨_,(Tri.pre (re_Fn o (some ⟨80,N-1,0,0,1⟩) N c N ver off (N-1) i v m f0 0 0 b (gbRow (grZ it p q) (N-1)) b (gRow (reR it p q left weight) 1 0) (ints N y) (it i).k (it i).n (it i).d (it i).mn (it i).mx (y i) left weight over (by omega) ixg eg ((grow _ er _ (by kernel_rfl)).trans (by kernel_rfl)) (by omega)) (pre _ (by kernel_rfl))).post (fin _ _ _ _ _ same (by unfold reQ;rw [if_neg (by simp [g])];omega) (by kernel_rfl))⟩
theorem re_grow {w i:Nat} (hi:i<N) (hi0:i=1+w) (y:Nat→Int) (m:Nat) {left weight over:Int} (hl:0≤left∧left≤4096) (hw:0≤weight) (hg:grZ it p q i=true→0<weight) (ho: -(2^50)≤over∧over≤2^50) :
    ∃ m2,Runs Try.prog 2 140 (loopAt Try.prog 55 1) [(0,.slice o N c),(1,.slice (some ⟨1,v,0,0,1⟩) N N),(11,.int .i64 left),(12,.int .i64 weight),(13,.slice (some ⟨80,N-1,0,0,1⟩) N N),(17,.int .i64 over),(18,.slice (some ⟨120,w,0,0,1⟩) (1+w) (1+w)),(19,.int .i64 i)] (AHeap.rows 130 [(0,b),(1,vRow N y v m f0),(80,gbRow (grZ it p q) (N-1)),(120,gRow (reR it p q left weight) 1 w)]) .normal
      [(0,.slice o N c),(1,.slice (some ⟨1,v,0,0,1⟩) N N),(11,.int .i64 left),(12,.int .i64 weight),(13,.slice (some ⟨80,N-1,0,0,1⟩) N N),(17,.int .i64 (over-reQ it p q left weight i)),(18,.slice (some ⟨120,(w+1),0,0,1⟩) (1+(w+1)) (1+(w+1))),(19,.int .i64 (i+1:Nat))] (AHeap.rows 130 [(0,b),(1,vRow N (fun j=>if j=i then reY it p q left weight y i else y j) v m2 f0),(80,gbRow (grZ it p q) (N-1)),(120,gRow (reR it p q left weight) 1 (w+1))]):=by
  have ixi:aindexAddr env.D 26 (.slice o N c) (.int .i64 (i:Int))=some (.ptr (some ⟨0,ver,off+i,0,5⟩)):=ix_itS hs hi
  have hc:Clo (Ids [0,1,80,120]) (.slice o N c):=hs.clo (by simp [Ids])
  have hc':Clo (Ids [0,1,80]) (.slice o N c):=hs.clo (by simp [Ids])
  have nn:=(hit i).nn
  have m1:=mul_range hl.1 hl.2 nn.1 nn.2
  have ixs:aindexAddr env.D 27 (.slice (some ⟨1,v,0,0,1⟩) N N) (.int .i64 (i:Int))=some (.ptr (some ⟨1,v,i,0,1⟩)):=by
    have:=ix_intN (o:=some ⟨1,v,0,0,1⟩) (n:=N) (c:=N) (.inl rfl) (k:= .i64) hi
    rwa [Nat.zero_add]at this
  have ixg:aindexAddr env.D 63 (.slice (some ⟨80,N-1,0,0,1⟩) N N) (.int .i64 (i:Int))=some (.ptr (some ⟨80,N-1,0+i,0,1⟩)):=ix_boolN (o:=some ⟨80,N-1,0,0,1⟩) (n:=N) (c:=N) (.inl rfl) (k:= .i64) hi
  have eg:(gbRow (grZ it p q) (N-1)).elem? (N-1) (0+i)=some (.bool (grZ it p q i)):=gbRow_el (by omega)
  have fin: ∀ (K m2 xt:Nat) (y2:List AVal) (tt:ABlk) (o2:Int) (hy:y2=ints N (fun j=>if j=i then reY it p q left weight y i else y j)) (e1:o2=over-reQ it p q left weight i)
      (hk: [(0,b),(1,(⟨y2,1,false,false,v,m2,f0⟩:ABlk)),(80,gbRow (grZ it p q) (N-1)),(120,gRow (reR it p q left weight) 1 (w+1))].map (fun r=>(AHeap.rows K [(0,b),(1,⟨y2,1,false,false,v,m2,f0⟩),(80,gbRow (grZ it p q) (N-1)),(120,gRow (reR it p q left weight) 1 (w+1)),(xt,tt)]).get r.1)= [(0,b),(1,(⟨y2,1,false,false,v,m2,f0⟩:ABlk)),(80,gbRow (grZ it p q) (N-1)),(120,gRow (reR it p q left weight) 1 (w+1))].map (fun r=>some r.2)),
      Ent 2 140 [(0,.slice o N c),(1,.slice (some ⟨1,v,0,0,1⟩) N N),(11,.int .i64 left),(12,.int .i64 weight),(13,.slice (some ⟨80,N-1,0,0,1⟩) N N),(17,.int .i64 o2),(18,.slice (some ⟨120,w+1,0,0,1⟩) (1+w+1) (1+w+1)),(19,.int .i64 ((i:Int)+1))] (AHeap.rows K [(0,b),(1,⟨y2,1,false,false,v,m2,f0⟩),(80,gbRow (grZ it p q) (N-1)),(120,gRow (reR it p q left weight) 1 (w+1)),(xt,tt)])
        [(0,.slice o N c),(1,.slice (some ⟨1,v,0,0,1⟩) N N),(11,.int .i64 left),(12,.int .i64 weight),(13,.slice (some ⟨80,N-1,0,0,1⟩) N N),(17,.int .i64 (over-reQ it p q left weight i)),(18,.slice (some ⟨120,(w+1),0,0,1⟩) (1+(w+1)) (1+(w+1))),(19,.int .i64 (i+1:Nat))] (AHeap.rows 130 [(0,b),(1,vRow N (fun j=>if j=i then reY it p q left weight y i else y j) v m2 f0),(80,gbRow (grZ it p q) (N-1)),(120,gRow (reR it p q left weight) 1 (w+1))]):=by
    intro K m2 xt y2 tt o2 hy e1 hk
    subst hy;subst e1
    exact Ent.drop hk (by kernel_rfl) (by kernel_rfl) (by kernel_rfl) (by simp only [List.map,All_cons,All_nil,and_true];exact⟨hc,by simp [Clo,Ids],by simp [Clo],by simp [Clo],by simp [Clo,Ids],by simp [Clo],by simp [Clo,Ids],by simp [Clo]⟩) (by simp only [List.map,All_cons,All_nil,and_true];exact⟨hb.clo _,fun e he=>(ints_bare _ _ e he).clo _,(gbRow_bare _ _).clo _,(gRow_bare _ _ _).clo _⟩)
  have grow: ∀ (x:Int) (hx0:reR it p q left weight i=x) (t K:Nat) (hp':AHeap) (hgt:hp'.get 120=some (gRow (reR it p q left weight) 1 w)) (hx:elemsOf 1 (.slice (some ⟨t,0,0,0,1⟩) 1 1) hp'=some [.int .i64 x]),_:=fun x hx0 t K hp' hgt hx=>app_row (f:=reR it p q left weight) (v:=w) (id:=120) (by omega) x (by rw [← hi0];exact hx0) t K hp' hgt hx
  by_cases g:grZ it p q i=true
  · have w1:=hg g
    have td:Int.tdiv (left* (it i).n) weight=left* (it i).n / weight:=Int.tdiv_eq_ediv_of_nonneg m1.1
    have tm:Int.tmod (left* (it i).n) weight=left* (it i).n % weight:=Int.tmod_eq_emod_of_nonneg m1.1
    have t0:0≤left* (it i).n / weight:=Int.ediv_nonneg m1.1 (by omega)
    have t1:left* (it i).n / weight≤left* (it i).n:=Int.ediv_le_self _ m1.1
    have new:(ints N y).set i (.int .i64 (Int.tdiv (left* (it i).n) weight))=ints N (fun j=>if j=i then reY it p q left weight y i else y j):=by
      rw [ints_set]
      refine ints_congr fun j _=> ?_
      by_cases c:j=i
      · subst c;rw [if_pos rfl,if_pos rfl];unfold reY;rw [if_pos g,td]
      · rw [if_neg c,if_neg c]
    have rd:(⟨(ints N y).set i (.int .i64 (Int.tdiv (left* (it i).n) weight)),1,false,false,v,v,f0⟩:ABlk).elem? v i=some (.int .i64 (Int.tdiv (left* (it i).n) weight)):=by
      rw [ints_set]
      have:=vRow_el (n:=N) (y:=fun j=>if j=i then Int.tdiv (left* (it i).n) weight else y j) (v:=v) (m:=v) (f:=f0) hi
      rwa [if_pos rfl]at this
    rw [g]at eg
    have er:reR it p q left weight i=Int.tmod (left* (it i).n) weight:=by unfold reR;rw [if_pos g,tm]
    exact⟨_,((re_Tg o (some ⟨80,N-1,0,0,1⟩) N c N ver off (N-1) i v m f0 w (1+w) b (gbRow (grZ it p q) (N-1)) (gRow (reR it p q left weight) 1 w) (gRow (reR it p q left weight) 1 (w+1)) (ints N y) (it i).k (it i).n (it i).d (it i).mn (it i).mx (y i) left weight over (by omega) ixg eg ixi (hel i hi) (by omega) ⟨by omega,by rw [td];omega⟩ ixs ⟨rfl,ints_get hi⟩ ixi (hel i hi) (by omega) (by omega) ((grow _ er _ _ _ (by kernel_rfl) (by kernel_rfl)).trans (by kernel_rfl)) ixs rd (by rw [td];omega) (by omega))).post (fin _ _ _ _ _ _ new (by unfold reQ;rw [if_pos g,td]) (by kernel_rfl))⟩
  · simp only [Bool.not_eq_true]at g
    rw [g]at eg
    have er:reR it p q left weight i= -1:=by unfold reR;rw [if_neg (by simp [g])]
    have same:ints N y=ints N (fun j=>if j=i then reY it p q left weight y i else y j):=ints_congr fun j _=>by
      by_cases c:j=i
      · subst c;rw [if_pos rfl];unfold reY;rw [if_neg (by simp [g])]
      · rw [if_neg c]
    exact⟨_,((re_Fg o (some ⟨80,N-1,0,0,1⟩) N c N ver off (N-1) i v m f0 w (1+w) b (gbRow (grZ it p q) (N-1)) (gRow (reR it p q left weight) 1 w) (gRow (reR it p q left weight) 1 (w+1)) (ints N y) (it i).k (it i).n (it i).d (it i).mn (it i).mx (y i) left weight over (by omega) ixg eg ((grow _ er _ _ _ (by kernel_rfl) (by kernel_rfl)).trans (by kernel_rfl)) (by omega))).post (fin _ _ _ _ _ _ same (by unfold reQ;rw [if_neg (by simp [g])];omega) (by kernel_rfl))⟩
end
end Go.Proofs.Ytgfkllnaeekjeaa
namespace Go.Proofs.Ytgfkllnaeekjeaa
open Go.Lift
set_option maxRecDepth 1000000
def leftZ(it:Nat→It)(rest p q:Int)(N:Nat):Int:=rest-sumTo (stZ it p q) N
def grW(it:Nat→It)(p q:Int)(N:Nat):Int:=sumTo (grN it p q) N
def overZ(it:Nat→It)(rest p q:Int)(N:Nat):Int:=leftZ it rest p q N-sumTo (reQ it p q (leftZ it rest p q N) (grW it p q N)) N
structure RndZ(it:Nat→It)(N:Nat)(rest p q:Int)(y z:Nat→Int):Prop where
  left:0≤leftZ it rest p q N
  z : (grW it p q N=0∧ ∀ j,j<N→z j=rdY it p q y j) ∨
    (grW it p q N≠0∧ ∃ K:Nat,K≤N∧(K:Int)=overZ it rest p q N∧ ∃ σ,Same (fun j=>j) σ 0 N∧Srt (restP (reR it p q (leftZ it rest p q N) (grW it p q N))) σ 0 N ∧
      ∀ j,j<N→z j=topP (reY it p q (leftZ it rest p q N) (grW it p q N) (rdY it p q y)) σ K j)
section
variable {N:Nat}(hN:N≤4096){o:Option AAddr}{c ver off:Nat}{b:ABlk}(hs:SlArg o N c 0 ver off 5)(hb:BareB b){it:Nat→It}(hel: ∀ j,j<N→b.elem? ver (off+j)=some (it j).val)(hit: ∀ j,RightIt (it j)){p q:Int}(hp:0≤p∧p≤4096)(hq:1≤q∧q≤1000){v f0:Nat}
include hN hs hb hel hit hp hq
theorem stZ_range(j:Nat):0≤stZ it p q j∧stZ it p q j≤2^24:=by
  have ar:=atZ_range (hit j) hp ⟨by omega,hq.2⟩ (hit j).nn
  unfold stZ
  split
  · have t0:0≤atZ (it j) p q / q:=Int.ediv_nonneg ar.1 (by omega)
    have t1:atZ (it j) p q / q≤atZ (it j) p q:=Int.ediv_le_self _ ar.1
    omega
  · omega
theorem grN_range(j:Nat):0≤grN it p q j∧grN it p q j≤4096:=by
  have:=(hit j).nn
  unfold grN;split<;>omega
theorem gr_fill {j:Nat}(h:grZ it p q j=true):(it j).k=3∧1≤(it j).n∧(it j).n≤1000:=by
  unfold grZ at h
  have h:=of_decide_eq_true h
  exact⟨h.1,((hit j).fill h.1).n⟩
theorem rd_loop {rest:Int} (hr:0≤rest∧rest≤4096) (y:Nat→Int): ∀ (f w m:Nat),1+w+f=N→ ∃ m2,
    Loops Try.prog 2 140 (loopAt Try.prog 55 0) [(0,.slice o N c),(1,.slice (some ⟨1,v,0,0,1⟩) N N),(3,.int .i64 p),(4,.int .i64 q),(11,.int .i64 (leftZ it rest p q (1+w))),(12,.int .i64 (grW it p q (1+w))),(13,.slice (some ⟨80,w,0,0,1⟩) (1+w) (1+w)),(14,.int .i64 (1+w:Nat))] (AHeap.rows 90 [(0,b),(1,vRow N (fun j=>if j<1+w then rdY it p q y j else y j) v m f0),(80,gbRow (grZ it p q) w)]) (.exit 0)
      [(0,.slice o N c),(1,.slice (some ⟨1,v,0,0,1⟩) N N),(11,.int .i64 (leftZ it rest p q N)),(12,.int .i64 (grW it p q N)),(13,.slice (some ⟨80,N-1,0,0,1⟩) N N)] (AHeap.rows 81 [(0,b),(1,vRow N (rdY it p q y) v m2 f0),(80,gbRow (grZ it p q) (N-1))])
  | 0,w,m,e=>by
    have e1:N=1+w:=by omega
    refine⟨m,(Loops.last (by simp) ?_)⟩
    have hw:w=N-1:=by omega
    rw [hw,show 1+(N-1)=N by omega]
    have hc:Clo (Ids [0,1,80]) (.slice o N c):=hs.clo (by simp [Ids])
    have ev:vRow N (fun j=>if j<N then rdY it p q y j else y j) v m f0=vRow N (rdY it p q y) v m f0:=vRow_congr fun j hj=>if_pos hj
    rw [ev]
    refine(rd_end o N c ver off N v m f0 0 0 b (gbRow (grZ it p q) (N-1)) b (ints N (rdY it p q y)) 0 0 0 0 0 0 0 (leftZ it rest p q N) (grW it p q N) p q (.slice (some ⟨80,N-1,0,0,1⟩) N N) (by omega)).post ?_
    exact Ent.drop (by kernel_rfl) (by kernel_rfl) (by kernel_rfl) (by kernel_rfl) (by simp only [List.map,All_cons,All_nil,and_true];exact⟨hc,by simp [Clo,Ids],by simp [Clo],by simp [Clo],by simp [Clo,Ids]⟩) (by simp only [List.map,All_cons,All_nil,and_true];exact⟨hb.clo _,fun e he=>(ints_bare _ _ e he).clo _,(gbRow_bare _ _).clo _⟩)
  | f + 1,w,m,e=>by
    have hi:1+w<N:=by omega
    have sr:=stZ_range hN hs hb hel hit hp hq
    have gr:=grN_range hN hs hb hel hit hp hq
    have s0:0≤sumTo (stZ it p q) (1+w):=sumTo_ge0 fun j _=>(sr j).1
    have s1:sumTo (stZ it p q) (1+w)≤(1+w:Nat)*2^24:=sumTo_up fun j _=>(sr j).2
    have s2:0≤sumTo (grN it p q) (1+w):=sumTo_ge0 fun j _=>(gr j).1
    have s3:sumTo (grN it p q) (1+w)≤(1+w:Nat)*4096:=sumTo_up fun j _=>(gr j).2
    obtain⟨m1,k1⟩:=rd_grow hN hs hb hel hit hp hq (v:=v) (f0:=f0) hi rfl (fun j=>if j<1+w then rdY it p q y j else y j) m (left:=leftZ it rest p q (1+w)) (weight:=grW it p q (1+w)) (by unfold leftZ;omega) (by unfold grW;omega)
    obtain⟨m2,k2⟩:=rd_loop hr y f (w+1) m1 (by omega)
    refine⟨m2,?_⟩
    have ev:vRow N (fun j=>if j=1+w then rdY it p q (fun j=>if j<1+w then rdY it p q y j else y j) (1+w)else if j<1+w then rdY it p q y j else y j) v m1 f0=vRow N (fun j=>if j<1+(w+1)then rdY it p q y j else y j) v m1 f0:=vRow_congr fun j hj=>by
      by_cases c1:j=1+w
      · subst c1
        rw [if_pos rfl,if_pos (by omega)]
        unfold rdY
        simp only [Nat.lt_irrefl,if_false]
      · rw [if_neg c1]
        by_cases c2:j<1+w
        · rw [if_pos c2,if_pos (by omega)]
        · rw [if_neg c2,if_neg (by omega)]
    rw [ev]at k1
    have el:leftZ it rest p q (1+w)-stZ it p q (1+w)=leftZ it rest p q (1+(w+1)):=by unfold leftZ;rw [show 1+(w+1)=1+w+1 by omega];simp only [sumTo];omega
    have ew:grW it p q (1+w)+grN it p q (1+w)=grW it p q (1+(w+1)):=rfl
    rw [el,ew]at k1
    exact Loops.step k1 k2
theorem rd_all {rest:Int}(hr:0≤rest∧rest≤4096)(h1:1≤N)(y:Nat→Int)(m:Nat): ∃ m2,
    Loops Try.prog 2 140 (loopAt Try.prog 55 0) [(0,.slice o N c),(1,.slice (some ⟨1,v,0,0,1⟩) N N),(3,.int .i64 p),(4,.int .i64 q),(11,.int .i64 rest),(12,.int .i64 0),(13,.slice none 0 0),(14,.int .i64 (0:Nat))] (AHeap.rows 8 [(0,b),(1,vRow N y v m f0)]) (.exit 0)
      [(0,.slice o N c),(1,.slice (some ⟨1,v,0,0,1⟩) N N),(11,.int .i64 (leftZ it rest p q N)),(12,.int .i64 (grW it p q N)),(13,.slice (some ⟨80,N-1,0,0,1⟩) N N)] (AHeap.rows 81 [(0,b),(1,vRow N (rdY it p q y) v m2 f0),(80,gbRow (grZ it p q) (N-1))]):=by
  obtain⟨m1,k1⟩:=rd_first hN hs hb hel hit hp hq (v:=v) (f0:=f0) (show 0<N by omega) rfl y m (left:=rest) (weight:=0) (by omega) (by omega)
  obtain⟨m2,k2⟩:=rd_loop hN hs hb hel hit hp hq (v:=v) (f0:=f0) hr y (N-1) 0 m1 (by omega)
  refine⟨m2,?_⟩
  have hc:Clo (Ids [0,1]) (.slice o N c):=hs.clo (by simp [Ids])
  have ev:vRow N (fun j=>if j=0 then rdY it p q y 0 else y j) v m1 f0=vRow N (fun j=>if j<1+0 then rdY it p q y j else y j) v m1 f0:=vRow_congr fun j hj=>by
    by_cases c1:j=0
    · subst c1;rw [if_pos rfl,if_pos (by omega)]
    · rw [if_neg c1,if_neg (by omega)]
  have el:rest-stZ it p q 0=leftZ it rest p q (1+0):=by unfold leftZ;simp [sumTo]
  have ew:(0:Int)+grN it p q 0=grW it p q (1+0):=by unfold grW;simp [sumTo]
  rw [ev,el,ew]at k1
  refine Tri.pre (Loops.step k1 k2) ?_
  exact Ent.drop (by kernel_rfl) (by kernel_rfl) (by kernel_rfl) (by kernel_rfl) (by simp only [List.map,All_cons,All_nil,and_true];exact⟨hc,by simp [Clo,Ids],by simp [Clo],by simp [Clo],by simp [Clo],by simp [Clo],by simp [Clo],by simp [Clo]⟩) (by simp only [List.map,All_cons,All_nil,and_true];exact⟨hb.clo _,fun e he=>(ints_bare _ _ e he).clo _⟩)
theorem reQ_range {left weight:Int}(hl:0≤left∧left≤4096)(hw:0≤weight)(j:Nat):0≤reQ it p q left weight j∧reQ it p q left weight j≤2^24:=by
  have nn:=(hit j).nn
  have m1:=mul_range hl.1 hl.2 nn.1 nn.2
  unfold reQ
  split
  · have t0:0≤left* (it j).n / weight:=Int.ediv_nonneg m1.1 (by omega)
    have t1:left* (it j).n / weight≤left* (it j).n:=Int.ediv_le_self _ m1.1
    omega
  · omega
theorem re_loop {left weight:Int} (hl:0≤left∧left≤4096) (hw:0≤weight) (hg: ∀ j,j<N→grZ it p q j=true→0<weight) (y:Nat→Int): ∀ (f w m:Nat),1+w+f=N→ ∃ m2,
    Loops Try.prog 2 140 (loopAt Try.prog 55 1) [(0,.slice o N c),(1,.slice (some ⟨1,v,0,0,1⟩) N N),(11,.int .i64 left),(12,.int .i64 weight),(13,.slice (some ⟨80,N-1,0,0,1⟩) N N),(17,.int .i64 (left-sumTo (reQ it p q left weight) (1+w))),(18,.slice (some ⟨120,w,0,0,1⟩) (1+w) (1+w)),(19,.int .i64 (1+w:Nat))] (AHeap.rows 130 [(0,b),(1,vRow N (fun j=>if j<1+w then reY it p q left weight y j else y j) v m f0),(80,gbRow (grZ it p q) (N-1)),(120,gRow (reR it p q left weight) 1 w)]) (.exit 2)
      [(1,.slice (some ⟨1,v,0,0,1⟩) N N),(12,.int .i64 weight),(17,.int .i64 (left-sumTo (reQ it p q left weight) N)),(18,.slice (some ⟨120,N-1,0,0,1⟩) N N)] (AHeap.rows 131 [(0,b),(1,vRow N (reY it p q left weight y) v m2 f0),(80,gbRow (grZ it p q) (N-1)),(120,gRow (reR it p q left weight) 1 (N-1))])
  | 0,w,m,e=>by
    refine⟨m,(Loops.last (by simp) ?_)⟩
    have hw:w=N-1:=by omega
    rw [hw,show 1+(N-1)=N by omega]
    have ev:vRow N (fun j=>if j<N then reY it p q left weight y j else y j) v m f0=vRow N (reY it p q left weight y) v m f0:=vRow_congr fun j hj=>if_pos hj
    rw [ev]
    refine(re_end o (some ⟨80,N-1,0,0,1⟩) N c N ver off 0 N v m f0 0 0 b (gbRow (grZ it p q) (N-1)) (gRow (reR it p q left weight) 1 (N-1)) b (ints N (reY it p q left weight y)) 0 0 0 0 0 0 left weight _ (.slice (some ⟨120,N-1,0,0,1⟩) N N) (by omega)).post ?_
    exact Ent.drop (by kernel_rfl) (by kernel_rfl) (by kernel_rfl) (by kernel_rfl) (by simp only [List.map,All_cons,All_nil,and_true];exact⟨by simp [Clo,Ids],by simp [Clo],by simp [Clo],by simp [Clo,Ids]⟩) (by simp only [List.map,All_cons,All_nil,and_true];exact⟨hb.clo _,fun e he=>(ints_bare _ _ e he).clo _,(gbRow_bare _ _).clo _,(gRow_bare _ _ _).clo _⟩)
  | f + 1,w,m,e=>by
    have hi:1+w<N:=by omega
    have sr:=reQ_range hN hs hb hel hit hp hq hl hw
    have s0:0≤sumTo (reQ it p q left weight) (1+w):=sumTo_ge0 fun j _=>(sr j).1
    have s1:sumTo (reQ it p q left weight) (1+w)≤(1+w:Nat)*2^24:=sumTo_up fun j _=>(sr j).2
    obtain⟨m1,k1⟩:=re_grow hN hs hb hel hit hp hq (v:=v) (f0:=f0) hi rfl (fun j=>if j<1+w then reY it p q left weight y j else y j) m hl hw (hg _ hi) (over:=left-sumTo (reQ it p q left weight) (1+w)) (by omega)
    obtain⟨m2,k2⟩:=re_loop hl hw hg y f (w+1) m1 (by omega)
    refine⟨m2,?_⟩
    have ev:vRow N (fun j=>if j=1+w then reY it p q left weight (fun j=>if j<1+w then reY it p q left weight y j else y j) (1+w)else if j<1+w then reY it p q left weight y j else y j) v m1 f0=vRow N (fun j=>if j<1+(w+1)then reY it p q left weight y j else y j) v m1 f0:=vRow_congr fun j hj=>by
      by_cases c1:j=1+w
      · subst c1
        rw [if_pos rfl,if_pos (by omega)]
        unfold reY
        simp only [Nat.lt_irrefl,if_false]
      · rw [if_neg c1]
        by_cases c2:j<1+w
        · rw [if_pos c2,if_pos (by omega)]
        · rw [if_neg c2,if_neg (by omega)]
    rw [ev]at k1
    have el:left-sumTo (reQ it p q left weight) (1+w)-reQ it p q left weight (1+w)=left-sumTo (reQ it p q left weight) (1+(w+1)):=by rw [show 1+(w+1)=1+w+1 by omega];simp only [sumTo];omega
    rw [el]at k1
    exact Loops.step k1 k2
theorem re_all {left weight:Int}(hl:0≤left∧left≤4096)(hw:0≤weight)(hg: ∀ j,j<N→grZ it p q j=true→0<weight)(h1:1≤N)(y:Nat→Int)(m:Nat): ∃ m2,
    Loops Try.prog 2 140 (loopAt Try.prog 55 1) [(0,.slice o N c),(1,.slice (some ⟨1,v,0,0,1⟩) N N),(11,.int .i64 left),(12,.int .i64 weight),(13,.slice (some ⟨80,N-1,0,0,1⟩) N N),(17,.int .i64 left),(18,.slice none 0 0),(19,.int .i64 (0:Nat))] (AHeap.rows 85 [(0,b),(1,vRow N y v m f0),(80,gbRow (grZ it p q) (N-1))]) (.exit 2)
      [(1,.slice (some ⟨1,v,0,0,1⟩) N N),(12,.int .i64 weight),(17,.int .i64 (left-sumTo (reQ it p q left weight) N)),(18,.slice (some ⟨120,N-1,0,0,1⟩) N N)] (AHeap.rows 131 [(0,b),(1,vRow N (reY it p q left weight y) v m2 f0),(80,gbRow (grZ it p q) (N-1)),(120,gRow (reR it p q left weight) 1 (N-1))]):=by
  obtain⟨m1,k1⟩:=re_first hN hs hb hel hit hp hq (v:=v) (f0:=f0) (show 0<N by omega) rfl y m hl hw (hg _ (by omega)) (over:=left) (by omega)
  obtain⟨m2,k2⟩:=re_loop hN hs hb hel hit hp hq (v:=v) (f0:=f0) hl hw hg y (N-1) 0 m1 (by omega)
  refine⟨m2,?_⟩
  have ev:vRow N (fun j=>if j=0 then reY it p q left weight y 0 else y j) v m1 f0=vRow N (fun j=>if j<1+0 then reY it p q left weight y j else y j) v m1 f0:=vRow_congr fun j hj=>by
    by_cases c1:j=0
    · subst c1;rw [if_pos rfl,if_pos (by omega)]
    · rw [if_neg c1,if_neg (by omega)]
  have el:left-reQ it p q left weight 0=left-sumTo (reQ it p q left weight) (1+0):=by simp [sumTo]
  rw [ev,el]at k1
  exact Loops.step k1 k2
theorem rounded_small {rest:Int}(hr:0≤rest∧rest≤4096)(h1:1≤N){y z:Nat→Int}(hy: ∀ j,j<N→0≤y j∧y j≤2^40)(hz:RndZ it N rest p q y z)(m:Nat): ∃ m2 h',h'.get 0=some b∧h'.get 1=some (vRow N z v m2 f0) ∧
    FDoes Try.prog 55 [.slice o N c,.slice (some ⟨1,v,0,0,1⟩) N N,.int .i64 rest,.int .i64 p,.int .i64 q] (AHeap.of [b,vRow N y v m f0]) (.slice (some ⟨1,v,0,0,1⟩) N N) h':=by
  have sr:=stZ_range hN hs hb hel hit hp hq
  have gr:=grN_range hN hs hb hel hit hp hq
  have s0:0≤sumTo (stZ it p q) N:=sumTo_ge0 fun j _=>(sr j).1
  have w0:0≤grW it p q N:=sumTo_ge0 fun j _=>(gr j).1
  have hl:0≤leftZ it rest p q N∧leftZ it rest p q N≤4096:=⟨hz.left,by unfold leftZ;omega⟩
  have hg: ∀ j,j<N→grZ it p q j=true→0<grW it p q N:=fun j hj h=>by
    have a1:=sumTo_le_one (f:=grN it p q) (fun i _=>(gr i).1) j hj
    have a2:grN it p q j=(it j).n:=by unfold grN;rw [if_pos h]
    have a3:=gr_fill hN hs hb hel hit hp hq h
    unfold grW;omega
  obtain⟨m1,k1⟩:=rd_all hN hs hb hel hit hp hq (v:=v) (f0:=f0) hr h1 y m
  obtain⟨m2,k2⟩:=re_all hN hs hb hel hit hp hq (v:=v) (f0:=f0) hl w0 hg h1 (rdY it p q y) m1
  rcases hz.z with ⟨hw,e⟩ | ⟨hw,K,hK,eK,σ,g1,g2,e⟩
  · have ev:vRow N (reY it p q (leftZ it rest p q N) (grW it p q N) (rdY it p q y)) v m2 f0=vRow N z v m2 f0:=vRow_congr fun j hj=>by
      rw [e j hj];unfold reY
      rw [if_neg fun c=>by have:=hg j hj c;omega]
    rw [ev]at k2
    exact⟨m2,_,by kernel_rfl,by kernel_rfl,rounded_none o (some ⟨80,N-1,0,0,1⟩) (some ⟨120,N-1,0,0,1⟩) N c N N v m f0 m1 m2 0 b (gbRow (grZ it p q) (N-1)) (gRow (reR it p q (leftZ it rest p q N) (grW it p q N)) 1 (N-1)) (ints N y) (ints N (rdY it p q y)) (ints N z) [] rest p q (leftZ it rest p q N) (grW it p q N) _ (Runs.of_loops k1) (Runs.of_loops k2) hw⟩
  · have eg: ∀ (f:Nat→Int) (j:Nat),j<N→(gRow f 1 (N-1)).elem? (N-1) (0+j)=some (.int .i64 (f j)):=fun f j hj=>gRow_el (by omega)
    have ry: ∀ j,j<N→0≤rdY it p q y j∧rdY it p q y j≤2^41:=fun j hj=>by
      have h2:=sr j
      unfold stZ at h2
      unfold rdY
      have:=hy j hj
      split at h2<;>rename_i c<;>first | rw [if_pos c];omega | rw [if_neg c];omega
    have yb: ∀ j,j<N→0≤reY it p q (leftZ it rest p q N) (grW it p q N) (rdY it p q y) j∧reY it p q (leftZ it rest p q N) (grW it p q N) (rdY it p q y) j≤2^42:=fun j hj=>by
      have h2:=reQ_range hN hs hb hel hit hp hq hl w0 j
      have h3:=ry j hj
      unfold reQ at h2
      unfold reY
      split at h2<;>rename_i c<;>first | rw [if_pos c];omega | rw [if_neg c];omega
    have gv:=given_does hN (o:=some ⟨1,N-1,0,0,1⟩) (c:=N) (.inl rfl) (gRow_bare (reR it p q (leftZ it rest p q N) (grW it p q N)) 1 (N-1)) (eg _) (v:=v) (f0:=f0) g1 g2 hK (reY it p q (leftZ it rest p q N) (grW it p q N) (rdY it p q y)) (fun j hj=>by have:=yb j hj;omega) m2
    have u:=gv.upW (by simp;exact⟨vRow_bare _ _ _ _ _,gRow_bare _ _ _⟩) (by simp;exact⟨vRow_bare _ _ _ _ _,gRow_bare _ _ _⟩) (by simp) (by simp [Clos,Clo]) (H:=AHeap.rows 138 [(0,b),(1,vRow N (reY it p q (leftZ it rest p q N) (grW it p q N) (rdY it p q y)) v m2 f0),(80,gbRow (grZ it p q) (N-1)),(120,gRow (reR it p q (leftZ it rest p q N) (grW it p q N)) 1 (N-1))]) [1,120] (by simp) (by rw [AHeap.rows_next];simp) (by kernel_rfl)
    have ev:vRow N (topP (reY it p q (leftZ it rest p q N) (grW it p q N) (rdY it p q y)) σ K) v (if K=0 then m2 else v) f0=vRow N z v (if K=0 then m2 else v) f0:=vRow_congr fun j hj=>(e j hj).symm
    rw [eK,ev]at u
    exact⟨if K=0 then m2 else v,_,by kernel_rfl,by kernel_rfl,rounded_given o (some ⟨80,N-1,0,0,1⟩) (some ⟨120,N-1,0,0,1⟩) N c N N v m f0 m1 m2 (if K=0 then m2 else v) b (gbRow (grZ it p q) (N-1)) (gRow (reR it p q (leftZ it rest p q N) (grW it p q N)) 1 (N-1)) (ints N y) (ints N (rdY it p q y)) (ints N (reY it p q (leftZ it rest p q N) (grW it p q N) (rdY it p q y))) (ints N z) rest p q (leftZ it rest p q N) (grW it p q N) _ (Runs.of_loops k1) (Runs.of_loops k2) hw (u.to (by kernel_rfl))⟩
end
end Go.Proofs.Ytgfkllnaeekjeaa
namespace Go.Proofs.Ytgfkllnaeekjeaa
open Go.Lift
set_option maxRecDepth 1000000
theorem mostAt_in {it:Nat→It}{i:Nat}(h:(it i).k=3):mostAt it (i+1)=mostAt it i+(it i).mx:=by
  unfold mostAt;rw [opn_in h,sumL_append];simp [sumL]
theorem mostAt_out {it:Nat→It}{i:Nat}(h: ¬ (it i).k=3):mostAt it (i+1)=mostAt it i:=by
  unfold mostAt;rw [opn_out h]
theorem bndAt_in {it:Nat→It}{i:Nat}(h:(it i).k=3):bndAt it (i+1)=(bndAt it i && decide (0<(it i).mx)):=by
  unfold bndAt;rw [opn_in h,List.all_append];simp
theorem bndAt_out {it:Nat→It}{i:Nat}(h: ¬ (it i).k=3):bndAt it (i+1)=bndAt it i:=by
  unfold bndAt;rw [opn_out h]
def FilledZ (it:Nat→It) (N:Nat) (room:Int) (y z:Nat→Int):Prop :=
  (bndAt it N=true∧mostAt it N≤restAt it y room N∧ ∀ j,j<N→z j=if(it j).k=3 then(it j).mx else y j) ∨
    (¬ (bndAt it N=true∧mostAt it N≤restAt it y room N)∧0≤restAt it y room N∧sumTo (allZ it 0 1) N≤restAt it y room N∧ ∀ p q,StartZ it N (restAt it y room N) p q→RndZ it N (restAt it y room N) p q y z)
section
variable {N:Nat}(hN:N≤4096){o:Option AAddr}{c ver off:Nat}{b:ABlk}(hs:SlArg o N c 0 ver off 5)(hb:BareB b){it:Nat→It}(hel: ∀ j,j<N→b.elem? ver (off+j)=some (it j).val)(hit: ∀ j,RightIt (it j)){v f0:Nat}
  {y:Nat→Int} (hy: ∀ j,j<N→0≤y j∧y j≤4096) {room:Int} (hroom:0≤room∧room≤4096)
include hN hs hb hel hit hy hroom
theorem fl_loop (m:Nat): ∀ (f i:Nat),i+f=N →
    Loops Try.prog 2 88 (loopAt Try.prog 37 0) [(0,.slice o N c),(1,.slice (some ⟨1,v,0,0,1⟩) N N),(7,.int .i64 (restAt it y room i)),(8,.int .i64 (mostAt it i)),(9,.bool (bndAt it i)),(10,.int .i64 i)] (AHeap.rows 20 [(0,b),(1,vRow N y v m f0)]) (.exit 0)
      [(0,.slice o N c),(1,.slice (some ⟨1,v,0,0,1⟩) N N),(7,.int .i64 (restAt it y room N)),(8,.int .i64 (mostAt it N)),(9,.bool (bndAt it N))] (AHeap.rows 21 [(0,b),(1,vRow N y v m f0)])
  | 0,i,e=>by
    obtain rfl:i=N:=by omega
    have hc:Clo (Ids [0,1]) (.slice o i c):=hs.clo (by simp [Ids])
    refine(Loops.last (by simp) (rfl_end o i c ver off i v m f0 b (ints i y) 0 0 0 0 0 0 (restAt it y room i) (mostAt it i) (bndAt it i) (by omega))).post ?_
    exact Ent.drop (by kernel_rfl) (by kernel_rfl) (by kernel_rfl) (by kernel_rfl) (by simp only [List.map,All_cons,All_nil,and_true];exact⟨hc,by simp [Clo,Ids],by simp [Clo],by simp [Clo],by simp [Clo]⟩) (by simp only [List.map,All_cons,All_nil,and_true];exact⟨hb.clo _,fun e he=>(ints_bare _ _ e he).clo _⟩)
  | f + 1,i,e=>by
    have hi:i<N:=by omega
    have hc:Clo (Ids [0,1]) (.slice o N c):=hs.clo (by simp [Ids])
    have ih:=fl_loop m f (i+1) (by omega)
    have hF: ∀ j,j<N→(it j).k=3→FillIt (it j):=fun j _ h=>(hit j).fill h
    have r1:=restAt_range (show N≤2^14 by omega) hF hy hroom (show i≤N by omega)
    have w1:=weightAt_range (show N≤2^14 by omega) hF (show i≤N by omega)
    have ixi:aindexAddr env.D 26 (.slice o N c) (.int .i64 (i:Int))=some (.ptr (some ⟨0,ver,off+i,0,5⟩)):=ix_itS hs hi
    have ixs:aindexAddr env.D 27 (.slice (some ⟨1,v,0,0,1⟩) N N) (.int .i64 (i:Int))=some (.ptr (some ⟨1,v,i,0,1⟩)):=by
      have:=ix_intN (o:=some ⟨1,v,0,0,1⟩) (n:=N) (c:=N) (.inl rfl) (k:= .i64) hi
      rwa [Nat.zero_add]at this
    have dr: ∀ (K:Nat) (r2 m2:Int) (bd:Bool) (hk: [(0,b),(1,vRow N y v m f0)].map (fun p=>(AHeap.rows K [(0,b),(1,vRow N y v m f0)]).get p.1)= [(0,b),(1,vRow N y v m f0)].map (fun p=>some p.2)),
        Ent 2 88 [(0,.slice o N c),(1,.slice (some ⟨1,v,0,0,1⟩) N N),(7,.int .i64 r2),(8,.int .i64 m2),(9,.bool bd),(10,.int .i64 (i+1:Nat))] (AHeap.rows K [(0,b),(1,vRow N y v m f0)]) [(0,.slice o N c),(1,.slice (some ⟨1,v,0,0,1⟩) N N),(7,.int .i64 r2),(8,.int .i64 m2),(9,.bool bd),(10,.int .i64 (i+1:Nat))] (AHeap.rows 20 [(0,b),(1,vRow N y v m f0)]):=fun K r2 m2 bd hk =>
      Ent.drop hk (by kernel_rfl) (by kernel_rfl) (by kernel_rfl) (by simp only [List.map,All_cons,All_nil,and_true];exact⟨hc,by simp [Clo,Ids],by simp [Clo],by simp [Clo],by simp [Clo],by simp [Clo]⟩) (by simp only [List.map,All_cons,All_nil,and_true];exact⟨hb.clo _,fun e he=>(ints_bare _ _ e he).clo _⟩)
    by_cases hk:(it i).k=3
    · have hx:=(hF i hi hk).mx
      rw [restAt_in hk,mostAt_in hk,bndAt_in hk]at ih
      cases hbd:bndAt it i with
      | true =>
        rw [hbd,Bool.true_and]at ih
        by_cases hp:(it i).mx>0
        · rw [decide_eq_true (show 0<(it i).mx from hp)]at ih
          exact Loops.step ((rfl_T o N c ver off i v m f0 b (ints N y) (it i).k (it i).n (it i).d (it i).mn (it i).mx 0 (restAt it y room i) (mostAt it i) (by omega) ixi (hel i hi) hk ixi (hel i hi) (by omega) ixi (hel i hi) hp (by omega)).post (dr _ _ _ _ (by kernel_rfl))) ih
        · rw [decide_eq_false (show ¬ 0<(it i).mx from hp)]at ih
          exact Loops.step ((rfl_F o N c ver off i v m f0 b (ints N y) (it i).k (it i).n (it i).d (it i).mn (it i).mx 0 (restAt it y room i) (mostAt it i) (by omega) ixi (hel i hi) hk ixi (hel i hi) (by omega) ixi (hel i hi) hp (by omega)).post (dr _ _ _ _ (by kernel_rfl))) ih
      | false =>
        rw [hbd,Bool.false_and]at ih
        exact Loops.step ((rfl_N o N c ver off i v m f0 b (ints N y) (it i).k (it i).n (it i).d (it i).mn (it i).mx 0 (restAt it y room i) (mostAt it i) (by omega) ixi (hel i hi) hk ixi (hel i hi) (by omega) (by omega)).post (dr _ _ _ _ (by kernel_rfl))) ih
    · rw [restAt_out hk,mostAt_out hk,bndAt_out hk]at ih
      have hyi:=hy i hi
      exact Loops.step ((rfl_O o N c ver off i v m f0 b (ints N y) (it i).k (it i).n (it i).d (it i).mn (it i).mx (y i) (restAt it y room i) (mostAt it i) (bndAt it i) (by omega) ixi (hel i hi) hk ixs (vRow_el hi) (by omega) (by omega)).post (dr _ _ _ _ (by kernel_rfl))) ih
theorem fm_loop: ∀ (f i m:Nat),i+f=N→ ∃ m2,
    Loops Try.prog 2 88 (loopAt Try.prog 37 1) [(0,.slice o N c),(1,.slice (some ⟨1,v,0,0,1⟩) N N),(11,.int .i64 i)] (AHeap.rows 20 [(0,b),(1,vRow N (fun j=>if j<i then(if(it j).k=3 then(it j).mx else y j)else y j) v m f0)]) (.exit 2)
      [(1,.slice (some ⟨1,v,0,0,1⟩) N N)] (AHeap.rows 22 [(0,b),(1,vRow N (fun j=>if(it j).k=3 then(it j).mx else y j) v m2 f0)])
  | 0,i,m,e=>by
    obtain rfl:i=N:=by omega
    refine⟨m,?_⟩
    have ev:vRow i (fun j=>if j<i then(if(it j).k=3 then(it j).mx else y j)else y j) v m f0=vRow i (fun j=>if(it j).k=3 then(it j).mx else y j) v m f0:=vRow_congr fun j hj=>by rw [if_pos hj]
    rw [ev]
    refine(Loops.last (by simp) (rfm_end o i c ver off i v m f0 b _ 0 0 0 0 0 0 0 0 (by omega))).post ?_
    exact Ent.drop (by kernel_rfl) (by kernel_rfl) (by kernel_rfl) (by kernel_rfl) (by simp [All_cons,All_nil,Clo,Ids]) (by simp only [List.map,All_cons,All_nil,and_true];exact⟨hb.clo _,fun e he=>(ints_bare _ _ e he).clo _⟩)
  | f + 1,i,m,e=>by
    have hi:i<N:=by omega
    have hc:Clo (Ids [0,1]) (.slice o N c):=hs.clo (by simp [Ids])
    have ixi:aindexAddr env.D 26 (.slice o N c) (.int .i64 (i:Int))=some (.ptr (some ⟨0,ver,off+i,0,5⟩)):=ix_itS hs hi
    have ixs:aindexAddr env.D 27 (.slice (some ⟨1,v,0,0,1⟩) N N) (.int .i64 (i:Int))=some (.ptr (some ⟨1,v,i,0,1⟩)):=by
      have:=ix_intN (o:=some ⟨1,v,0,0,1⟩) (n:=N) (c:=N) (.inl rfl) (k:= .i64) hi
      rwa [Nat.zero_add]at this
    have fin: ∀ (K m2:Nat) (y2:List AVal) (hy2:y2=ints N (fun j=>if j<i+1 then(if(it j).k=3 then(it j).mx else y j)else y j))
        (hk: [(0,b),(1,(⟨y2,1,false,false,v,m2,f0⟩:ABlk))].map (fun p=>(AHeap.rows K [(0,b),(1,⟨y2,1,false,false,v,m2,f0⟩)]).get p.1)= [(0,b),(1,(⟨y2,1,false,false,v,m2,f0⟩:ABlk))].map (fun p=>some p.2)),
        Ent 2 88 [(0,.slice o N c),(1,.slice (some ⟨1,v,0,0,1⟩) N N),(11,.int .i64 (i+1:Nat))] (AHeap.rows K [(0,b),(1,⟨y2,1,false,false,v,m2,f0⟩)]) [(0,.slice o N c),(1,.slice (some ⟨1,v,0,0,1⟩) N N),(11,.int .i64 (i+1:Nat))] (AHeap.rows 20 [(0,b),(1,vRow N (fun j=>if j<i+1 then(if(it j).k=3 then(it j).mx else y j)else y j) v m2 f0)]):=by
      intro K m2 y2 hy2 hk
      subst hy2
      exact Ent.drop hk (by kernel_rfl) (by kernel_rfl) (by kernel_rfl) (by simp only [List.map,All_cons,All_nil,and_true];exact⟨hc,by simp [Clo,Ids],by simp [Clo]⟩) (by simp only [List.map,All_cons,All_nil,and_true];exact⟨hb.clo _,fun e he=>(ints_bare _ _ e he).clo _⟩)
    by_cases hk:(it i).k=3
    · obtain⟨m2,ih⟩:=fm_loop f (i+1) v (by omega)
      refine⟨m2,Loops.step ((rfm_F o N c ver off i v m f0 b _ (it i).k (it i).n (it i).d (it i).mn (it i).mx (y i) 0 0 (by omega) ixi (hel i hi) hk ixi (hel i hi) ixs ⟨rfl,by rw [ints_get hi];rw [if_neg (by omega)]⟩ (by omega)).post (fin _ v _ ?_ (by kernel_rfl))) ih⟩
      rw [ints_set]
      refine ints_congr fun j hj=> ?_
      by_cases c1:j=i
      · subst c1;rw [if_pos rfl,if_pos (show j<j+1 by omega),if_pos hk]
      · rw [if_neg c1]
        by_cases c2:j<i
        · rw [if_pos c2,if_pos (show j<i+1 by omega)]
        · rw [if_neg c2,if_neg (show ¬ j<i+1 by omega)]
    · obtain⟨m2,ih⟩:=fm_loop f (i+1) m (by omega)
      refine⟨m2,Loops.step ((rfm_O o N c ver off i v m f0 b _ (it i).k (it i).n (it i).d (it i).mn (it i).mx 0 0 0 (by omega) ixi (hel i hi) hk (by omega)).post (fin _ m _ ?_ (by kernel_rfl))) ih⟩
      refine ints_congr fun j hj=> ?_
      by_cases c1:j=i
      · subst c1;rw [if_neg (Nat.lt_irrefl j),if_pos (show j<j+1 by omega),if_neg hk]
      · by_cases c2:j<i
        · rw [if_pos c2,if_pos (show j<i+1 by omega)]
        · rw [if_neg c2,if_neg (show ¬ j<i+1 by omega)]
theorem filled_small(h1:1≤N){z:Nat→Int}(hz:FilledZ it N room y z)(m:Nat): ∃ m2 h',h'.get 0=some b∧h'.get 1=some (vRow N z v m2 f0) ∧
    FDoes Try.prog 37 [.slice o N c,.slice (some ⟨1,v,0,0,1⟩) N N,.int .i64 room] (AHeap.of [b,vRow N y v m f0]) (.slice (some ⟨1,v,0,0,1⟩) N N) h':=by
  have ho:o=some ⟨0,ver,off,0,5⟩:=by
    rcases hs with h | ⟨_,h,_⟩
    · exact h
    · omega
  subst ho
  have hc:Clo (Ids [0,1]) (.slice (some ⟨0,ver,off,0,5⟩) N c):=hs.clo (by simp [Ids])
  have l1:=fl_loop hN hs hb hel hit (v:=v) (f0:=f0) hy hroom m N 0 (by omega)
  have e0:restAt it y room 0=room:=by simp [restAt,sumL]
  have e1:mostAt it 0=0:=by simp [mostAt,opn,sumL]
  have e2:bndAt it 0=true:=by simp [bndAt,opn]
  rw [e0,e1,e2]at l1
  have pre1:Ent 2 88 [(0,.slice (some ⟨0,ver,off,0,5⟩) N c),(1,.slice (some ⟨1,v,0,0,1⟩) N N),(7,.int .i64 room),(8,.int .i64 0),(9,.bool true),(10,.int .i64 (0:Nat))] (AHeap.rows 8 [(0,b),(1,vRow N y v m f0)]) [(0,.slice (some ⟨0,ver,off,0,5⟩) N c),(1,.slice (some ⟨1,v,0,0,1⟩) N N),(7,.int .i64 room),(8,.int .i64 0),(9,.bool true),(10,.int .i64 (0:Nat))] (AHeap.rows 20 [(0,b),(1,vRow N y v m f0)]) :=
    Ent.drop (by kernel_rfl) (by kernel_rfl) (by kernel_rfl) (by kernel_rfl) (by simp only [List.map,All_cons,All_nil,and_true];exact⟨hc,by simp [Clo,Ids],by simp [Clo],by simp [Clo],by simp [Clo],by simp [Clo]⟩) (by simp only [List.map,All_cons,All_nil,and_true];exact⟨hb.clo _,fun e he=>(ints_bare _ _ e he).clo _⟩)
  have k1:=Runs.of_loops (Tri.pre l1 pre1)
  rcases hz with ⟨z1,z2,z3⟩ | ⟨z1,z2,z3,z4⟩
  · obtain⟨m2,l2⟩:=fm_loop hN hs hb hel hit (v:=v) (f0:=f0) hy hroom N 0 m (by omega)
    have ev0:vRow N (fun j=>if j<0 then(if(it j).k=3 then(it j).mx else y j)else y j) v m f0=vRow N y v m f0:=vRow_congr fun j _=>if_neg (by omega)
    have ev1:vRow N (fun j=>if(it j).k=3 then(it j).mx else y j) v m2 f0=vRow N z v m2 f0:=vRow_congr fun j hj=>(z3 j hj).symm
    rw [ev0,ev1]at l2
    have pre2:Ent 2 88 [(0,.slice (some ⟨0,ver,off,0,5⟩) N c),(1,.slice (some ⟨1,v,0,0,1⟩) N N),(11,.int .i64 (0:Nat))] (AHeap.rows 28 [(0,b),(1,vRow N y v m f0)]) [(0,.slice (some ⟨0,ver,off,0,5⟩) N c),(1,.slice (some ⟨1,v,0,0,1⟩) N N),(11,.int .i64 (0:Nat))] (AHeap.rows 20 [(0,b),(1,vRow N y v m f0)]) :=
      Ent.drop (by kernel_rfl) (by kernel_rfl) (by kernel_rfl) (by kernel_rfl) (by simp only [List.map,All_cons,All_nil,and_true];exact⟨hc,by simp [Clo,Ids],by simp [Clo]⟩) (by simp only [List.map,All_cons,All_nil,and_true];exact⟨hb.clo _,fun e he=>(ints_bare _ _ e he).clo _⟩)
    rw [z1]at k1
    exact⟨m2,_,by kernel_rfl,by kernel_rfl,filled_max (some ⟨0,ver,off,0,5⟩) N c v m f0 m2 f0 b (ints N y) (ints N z) room _ _ 0 0 k1 z2 (Runs.of_loops (Tri.pre l2 pre2))⟩
  · have rr:0≤restAt it y room N∧restAt it y room N≤4096:=⟨z2,(restAt_range (show N≤2^14 by omega) (fun j _ h=>(hit j).fill h) hy hroom (Nat.le_refl N)).2⟩
    obtain⟨p,q,sz,st⟩:=start_does (H:=AHeap.rows 35 [(0,b),(1,vRow N y v m f0)]) (o:=some ⟨0,ver,off,0,5⟩) (c:=c) ⟨hs,by kernel_rfl,by rw [AHeap.rows_next];omega,hb,hel⟩ hN hit rr (by simpa using z3)
    obtain⟨m2,h',g0,g1,rd⟩:=rounded_small hN hs hb hel hit sz.pq.hp sz.pq.hq (v:=v) (f0:=f0) rr h1 (fun j hj=>by have:=hy j hj;omega) (z4 p q sz) m
    have hsm:Clos (Ids [0,1]) [.slice (some ⟨0,ver,off,0,5⟩) N c,.slice (some ⟨1,v,0,0,1⟩) N N,.int .i64 (restAt it y room N),.int .i64 p,.int .i64 q]:=by simp only [Clos,and_true];exact⟨hc,by simp [Clo,Ids],by simp [Clo],by simp [Clo],by simp [Clo]⟩
    have u:=rd.fin [] [b,vRow N z v m2 f0] (.slice (some ⟨1,v,0,0,1⟩) N N) (by simp;exact⟨hb,vRow_bare _ _ _ _ _⟩) rfl (by simp [List.range_succ,finR,g0,g1]) rfl (by simp [Clo]) rfl (by simp)
    have u2:=u.upW (by simp;exact⟨hb,vRow_bare _ _ _ _ _⟩) (by simp;exact⟨hb,vRow_bare _ _ _ _ _⟩) (by simp) (by simp [Clos,Clo]) (H:=AHeap.rows 42 [(0,b),(1,vRow N y v m f0)]) [0,1] (by simp) (by rw [AHeap.rows_next];simp) (by kernel_rfl)
    cases hbd:bndAt it N with
    | true =>
      rw [hbd]at k1
      exact⟨m2,_,by kernel_rfl,by kernel_rfl,filled_T (some ⟨0,ver,off,0,5⟩) N c v m f0 m2 f0 b (ints N y) (ints N z) room _ _ p q k1 (fun c=>z1 ⟨hbd,c⟩) st (u2.to (by kernel_rfl))⟩
    | false =>
      rw [hbd]at k1
      exact⟨m2,_,by kernel_rfl,by kernel_rfl,filled_N (some ⟨0,ver,off,0,5⟩) N c v m f0 m2 f0 b (ints N y) (ints N z) room _ _ p q k1 st (u2.to (by kernel_rfl))⟩
end
end Go.Proofs.Ytgfkllnaeekjeaa
namespace Go.Proofs.Ytgfkllnaeekjeaa
open Go.Lift
set_option maxRecDepth 1000000
end Go.Proofs.Ytgfkllnaeekjeaa
namespace Go.Proofs.Ytgfkllnaeekjeaa
open Go.Lift
set_option maxRecDepth 1000000
def gRowI(f:Nat→It)(n1 v:Nat):ABlk:= {elems:=irows (n1+v) f,es:=5,exact:=false,ro:=false,ver:=v,minVer:=0,forkLen:=if v=0 then 0 else n1}
theorem irows_snoc(n:Nat)(f:Nat→It):irows n f++ [(f n).val]=irows (n+1) f:=by simp [irows,List.range_succ]
theorem irows_length(n:Nat)(f:Nat→It):(irows n f).length=n:=by simp [irows]
theorem gRowI_grow(f:Nat→It)(n1 v:Nat):(gRowI f n1 v).grow [(f (n1+v)).val]=gRowI f n1 (v+1):=by
  unfold ABlk.grow gRowI
  simp only [irows_length]
  rw [irows_snoc,show n1+v+1=n1+(v+1)by omega]
  by_cases h:v=0
  · subst h;simp
  · rw [if_neg (by omega),if_neg h,if_neg (by omega)]
    rw [show min n1 (n1+v)=n1 by omega]
theorem gRowI_bare(f:Nat→It)(n1 v:Nat):BareB (gRowI f n1 v):=by
  intro e he
  obtain⟨j,_,rfl⟩:=List.mem_map.1 (show e∈(List.range (n1+v)).map fun j=>(f j).val from he)
  exact It.bare _
theorem gRowI_el {f:Nat→It}{n1 v j:Nat}(hj:j<n1+v):(gRowI f n1 v).elem? v (0+j)=some (f j).val:=by
  simp only [ABlk.elem?,ABlk.lim,gRowI,if_true,irows_length,Nat.zero_add]
  rw [if_pos hj,irows_get hj]
theorem slItem:SlTy env.D 26 24 5 40:=by
  have h1:(env.D 24).isSome=true:=by kernel_rfl
  have h2:(env.D 24).map (fun x=>(x.size,x.bytes,x.zeroFits))=some (5,40,true):=by kernel_rfl
  obtain⟨xd,hx⟩:=Option.isSome_iff_exists.1 h1
  rw [hx]at h2
  simp only [Option.map_some,Option.some.injEq,Prod.mk.injEq]at h2
  exact⟨⟨⟨.slice 24,1,24,some (.slice none 0 0)⟩,xd,by kernel_rfl,rfl,hx,h2.1,h2.2.1,by omega,h2.2.2⟩⟩
section
variable {n:Nat}(hn:n≤2^42){o:Option AAddr}{c ver off:Nat}{b:ABlk}(hs:SlArg o n c 0 ver off 5)(hb:BareB b){src:Nat→It}(hel: ∀ j,j<n→b.elem? ver (off+j)=some (src j).val)
include hn hs hb hel
end
end Go.Proofs.Ytgfkllnaeekjeaa
