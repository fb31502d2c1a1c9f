/-
  Parts of the proof, one behind the other:
  The library's sort: symMerge, as trees.
  The library's sort: blocks, as trees.
  STABLE SORTING, plain: the steps of the library's merges on arrangements (functions from places to what stands there).
  The library's sort in a variable memory: what is sorted; ranges that change places; rotation; insertion.
  The library's sort in a variable memory: insertion, and the loops of symMerge.
  The library's sort in a variable memory: symMerge, blocks, the whole.
  The library's sort in a variable memory: slices.SortStableFunc sorts, and keeps what is alike in its order.
  Clone, By, the function that Sort hands on, Sort: as trees.
  The order of rows, plainly.
-/
import Derived.Test.YtjpfnbihopoeeaaGreatDoorKTableSortsD
set_option linter.unusedVariables false
set_option linter.unusedSimpArgs false
set_option linter.unusedSectionVars false
namespace Go.Proofs.YtjpfnbihopoeeaaGreatDoor
open Go.Lift
set_option maxRecDepth 1000000
theorem s0T_vp(H H1:AHeap)(B a i j c:Nat)(g:FuncId)(cs:List AVal)(dv x y:AVal)(p q:AAddr)(r:Int)(K0:AExit→Facts→AHeap→Prop)(vc:bif Nat.ble B (AHeap.next H) && true then some (AVal.bool (decide ((↑i:Int)<(↑j:Int))))=some (AVal.bool true)∧bif Nat.ble B (AHeap.next H+3) && true then(-9223372036854775808≤(↑i:Int)+(↑j:Int)∧(↑i:Int)+(↑j:Int)≤9223372036854775807)∧(0≤(↑i:Int)+(↑j:Int)∧(↑i:Int)+(↑j:Int)≤18446744073709551615)∧Int.NonNeg (1-0)∧aop env noCall (AHeap.next H+8) (getF [(38,AVal.int IntKind.u64 (ishr IntKind.u64 ((↑i:Int)+(↑j:Int)) (1))),(37,AVal.int IntKind.u64 ((↑i:Int)+(↑j:Int))),(36,AVal.int IntKind.i64 ((↑i:Int)+(↑j:Int))),(35,AVal.int IntKind.i64 (↑j:Int)),(34,AVal.int IntKind.i64 (↑i:Int)),(33,AVal.bool true),(32,AVal.int IntKind.i64 (↑j:Int)),(31,AVal.int IntKind.i64 (↑i:Int)),(0,dv),(1,AVal.int IntKind.i64 (↑a:Int)),(4,AVal.func (Fn.func g) [] cs),(10,AVal.int IntKind.i64 (↑i:Int)),(11,AVal.int IntKind.i64 (↑j:Int))]) (AHeap.mk (AHeap.next H+10) (H.2)) (Op.convert 108 3 (Operand.tmp 38))=some (AVal.int IntKind.i64 (↑c:Int),(AHeap.mk (AHeap.next H+10) (H.2)))∧bif Nat.ble B (AHeap.next H+10) && true then aindexAddr (AEnv.D env) 22 dv (AVal.int IntKind.i64 (↑c:Int))=some (AVal.ptr (some p))∧aload (AEnv.D env) 36 p (AHeap.mk (AHeap.next H+21) (H.2))=some x∧AAddr.id p<AHeap.next H+10∧aindexAddr (AEnv.D env) 22 dv (AVal.int IntKind.i64 (↑a:Int))=some (AVal.ptr (some q))∧aload (AEnv.D env) 36 q (AHeap.mk (AHeap.next H+21) (H.2))=some y∧AAddr.id q<AHeap.next H+10∧CallT Tryz.prog cnd g (x::y::cs) (AHeap.mk (AHeap.next H+21) (H.2)) (AVal.int IntKind.i64 r) H1∧some (AVal.bool (decide (r<0)))=some (AVal.bool true)∧bif Nat.ble B (AHeap.next H1) && true then(-9223372036854775808≤(↑c:Int)+1∧(↑c:Int)+1≤9223372036854775807)∧K0 AExit.normal [(0,dv),(1,AVal.int IntKind.i64 (↑a:Int)),(4,AVal.func (Fn.func g) [] cs),(10,AVal.int IntKind.i64 ((↑c:Int)+1)),(11,AVal.int IntKind.i64 (↑j:Int))] (AHeap.mk (AHeap.next H1+3) (AHeap.blks H1))else False else False else False else False) :
    ∃ e F1 h1,Runs Tryz.prog cnd B 220 (loopAt Tryz.prog 161 0) [(0,dv),(1,.int .i64 a),(4,.func (.func g) [] cs),(10,.int .i64 i),(11,.int .i64 j)] H e F1 h1∧K0 e F1 h1 :=
  tpath_runs env_ok mixed noSpecs_ok (hs:= .hint (.val 3002 (AVal.bool true)) (.hint (.go 4002) (.hint (.go 4003) (.hint (.go 4004) (.hint (.val 4005 (AVal.int IntKind.i64 (↑c:Int))) (.hint (.val 5003 (AVal.ptr (some p))) (.hint (.farV 5004 x) (.hint (.val 5007 (AVal.ptr (some q))) (.hint (.farV 5008 y) (.hint (.act 5009 (AVal.int IntKind.i64 r) fun x=>H1) (.hint (.val 5010 (AVal.bool true)) (.hint (.go 6001) .nil)))))))))))) (keep:= [0,1,4,10,11]) (by kernel_rfl) vc
theorem s0F_vp(H H1:AHeap)(B a i j c:Nat)(g:FuncId)(cs:List AVal)(dv x y:AVal)(p q:AAddr)(r:Int)(K0:AExit→Facts→AHeap→Prop)(vc:bif Nat.ble B (AHeap.next H) && true then some (AVal.bool (decide ((↑i:Int)<(↑j:Int))))=some (AVal.bool true)∧bif Nat.ble B (AHeap.next H+3) && true then(-9223372036854775808≤(↑i:Int)+(↑j:Int)∧(↑i:Int)+(↑j:Int)≤9223372036854775807)∧(0≤(↑i:Int)+(↑j:Int)∧(↑i:Int)+(↑j:Int)≤18446744073709551615)∧Int.NonNeg (1-0)∧aop env noCall (AHeap.next H+8) (getF [(38,AVal.int IntKind.u64 (ishr IntKind.u64 ((↑i:Int)+(↑j:Int)) (1))),(37,AVal.int IntKind.u64 ((↑i:Int)+(↑j:Int))),(36,AVal.int IntKind.i64 ((↑i:Int)+(↑j:Int))),(35,AVal.int IntKind.i64 (↑j:Int)),(34,AVal.int IntKind.i64 (↑i:Int)),(33,AVal.bool true),(32,AVal.int IntKind.i64 (↑j:Int)),(31,AVal.int IntKind.i64 (↑i:Int)),(0,dv),(1,AVal.int IntKind.i64 (↑a:Int)),(4,AVal.func (Fn.func g) [] cs),(10,AVal.int IntKind.i64 (↑i:Int)),(11,AVal.int IntKind.i64 (↑j:Int))]) (AHeap.mk (AHeap.next H+10) (H.2)) (Op.convert 108 3 (Operand.tmp 38))=some (AVal.int IntKind.i64 (↑c:Int),(AHeap.mk (AHeap.next H+10) (H.2)))∧bif Nat.ble B (AHeap.next H+10) && true then aindexAddr (AEnv.D env) 22 dv (AVal.int IntKind.i64 (↑c:Int))=some (AVal.ptr (some p))∧aload (AEnv.D env) 36 p (AHeap.mk (AHeap.next H+21) (H.2))=some x∧AAddr.id p<AHeap.next H+10∧aindexAddr (AEnv.D env) 22 dv (AVal.int IntKind.i64 (↑a:Int))=some (AVal.ptr (some q))∧aload (AEnv.D env) 36 q (AHeap.mk (AHeap.next H+21) (H.2))=some y∧AAddr.id q<AHeap.next H+10∧CallT Tryz.prog cnd g (x::y::cs) (AHeap.mk (AHeap.next H+21) (H.2)) (AVal.int IntKind.i64 r) H1∧some (AVal.bool (decide (r<0)))=some (AVal.bool false)∧bif Nat.ble B (AHeap.next H1) && true then K0 AExit.normal [(0,dv),(1,AVal.int IntKind.i64 (↑a:Int)),(4,AVal.func (Fn.func g) [] cs),(10,AVal.int IntKind.i64 (↑i:Int)),(11,AVal.int IntKind.i64 (↑c:Int))] (AHeap.mk (AHeap.next H1+2) (AHeap.blks H1))else False else False else False else False) :
    ∃ e F1 h1,Runs Tryz.prog cnd B 220 (loopAt Tryz.prog 161 0) [(0,dv),(1,.int .i64 a),(4,.func (.func g) [] cs),(10,.int .i64 i),(11,.int .i64 j)] H e F1 h1∧K0 e F1 h1 :=
  tpath_runs env_ok mixed noSpecs_ok (hs:= .hint (.val 3002 (AVal.bool true)) (.hint (.go 4002) (.hint (.go 4003) (.hint (.go 4004) (.hint (.val 4005 (AVal.int IntKind.i64 (↑c:Int))) (.hint (.val 5003 (AVal.ptr (some p))) (.hint (.farV 5004 x) (.hint (.val 5007 (AVal.ptr (some q))) (.hint (.farV 5008 y) (.hint (.act 5009 (AVal.int IntKind.i64 r) fun x=>H1) (.hint (.val 5010 (AVal.bool false)) .nil))))))))))) (keep:= [0,1,4,10,11]) (by kernel_rfl) vc
theorem s0E_vp(H:AHeap)(B a i j:Nat)(dv cv:AVal)(K0:AExit→Facts→AHeap→Prop)(vc:bif Nat.ble B (AHeap.next H) && true then some (AVal.bool (decide ((↑i:Int)<(↑j:Int))))=some (AVal.bool false)∧K0 (AExit.exit 0) [(0,dv),(1,AVal.int IntKind.i64 (↑a:Int)),(4,cv),(10,AVal.int IntKind.i64 (↑i:Int)),(11,AVal.int IntKind.i64 (↑j:Int))] (AHeap.mk (AHeap.next H+3) (AHeap.blks H))else False) :
    ∃ e F1 h1,Runs Tryz.prog cnd B 220 (loopAt Tryz.prog 161 0) [(0,dv),(1,.int .i64 a),(4,cv),(10,.int .i64 i),(11,.int .i64 j)] H e F1 h1∧K0 e F1 h1 :=
  tpath_runs env_ok mixed noSpecs_ok (hs:= .hint (.val 3002 (AVal.bool false)) .nil) (keep:= [0,1,4,10,11]) (by kernel_rfl) vc
theorem s1S_vp(H H1 H2:AHeap)(B i k:Nat)(dv x y:AVal)(p q:AAddr)(K0:AExit→Facts→AHeap→Prop)(vc:bif Nat.ble B (AHeap.next H) && true then(-9223372036854775808≤(↑i:Int)-1∧(↑i:Int)-1≤9223372036854775807)∧some (AVal.bool (decide ((↑k:Int)<(↑i:Int)-1)))=some (AVal.bool true)∧bif Nat.ble B (AHeap.next H+4) && true then(-9223372036854775808≤(↑k:Int)+1∧(↑k:Int)+1≤9223372036854775807)∧(-9223372036854775808≤(↑k:Int)+1∧(↑k:Int)+1≤9223372036854775807)∧aindexAddr (AEnv.D env) 22 dv (AVal.int IntKind.i64 ((↑k:Int)+1))=some (AVal.ptr (some q))∧aload (AEnv.D env) 36 q (AHeap.mk (AHeap.next H+22) (H.2))=some y∧AAddr.id q<AHeap.next H+4∧aindexAddr (AEnv.D env) 22 dv (AVal.int IntKind.i64 (↑k:Int))=some (AVal.ptr (some p))∧aload (AEnv.D env) 36 p (AHeap.mk (AHeap.next H+22) (H.2))=some x∧AAddr.id p<AHeap.next H+4∧aindexAddr (AEnv.D env) 22 dv (AVal.int IntKind.i64 (↑k:Int))=some (AVal.ptr (some p))∧aop env noCall (AHeap.next H+19) (getF [(75,AVal.ptr (some p)),(74,x),(73,AVal.ptr (some p)),(72,AVal.int IntKind.i64 (↑k:Int)),(71,dv),(70,y),(69,AVal.ptr (some q)),(68,AVal.int IntKind.i64 ((↑k:Int)+1)),(67,AVal.int IntKind.i64 (↑k:Int)),(66,dv),(65,AVal.int IntKind.i64 ((↑k:Int)+1)),(64,AVal.int IntKind.i64 (↑k:Int)),(63,dv),(62,AVal.int IntKind.i64 (↑k:Int)),(61,dv),(58,AVal.bool true),(57,AVal.int IntKind.i64 ((↑i:Int)-1)),(56,AVal.int IntKind.i64 (↑i:Int)),(55,AVal.int IntKind.i64 (↑k:Int)),(0,dv),(10,AVal.int IntKind.i64 (↑i:Int)),(13,AVal.int IntKind.i64 (↑k:Int))]) (AHeap.mk (AHeap.next H+22) (H.2)) (Op.store 36 (Operand.tmp 75) (Operand.tmp 70))=some (AVal.tuple [],H1)∧aindexAddr (AEnv.D env) 22 dv (AVal.int IntKind.i64 ((↑k:Int)+1))=some (AVal.ptr (some q))∧aop env noCall (AHeap.next H+21) (getF [(76,AVal.ptr (some q)),(75,AVal.ptr (some p)),(74,x),(73,AVal.ptr (some p)),(72,AVal.int IntKind.i64 (↑k:Int)),(71,dv),(70,y),(69,AVal.ptr (some q)),(68,AVal.int IntKind.i64 ((↑k:Int)+1)),(67,AVal.int IntKind.i64 (↑k:Int)),(66,dv),(65,AVal.int IntKind.i64 ((↑k:Int)+1)),(64,AVal.int IntKind.i64 (↑k:Int)),(63,dv),(62,AVal.int IntKind.i64 (↑k:Int)),(61,dv),(58,AVal.bool true),(57,AVal.int IntKind.i64 ((↑i:Int)-1)),(56,AVal.int IntKind.i64 (↑i:Int)),(55,AVal.int IntKind.i64 (↑k:Int)),(0,dv),(10,AVal.int IntKind.i64 (↑i:Int)),(13,AVal.int IntKind.i64 (↑k:Int))]) H1 (Op.store 36 (Operand.tmp 76) (Operand.tmp 74))=some (AVal.tuple [],H2)∧bif Nat.ble B (AHeap.next H2) && true then(-9223372036854775808≤(↑k:Int)+1∧(↑k:Int)+1≤9223372036854775807)∧K0 AExit.normal [(0,dv),(10,AVal.int IntKind.i64 (↑i:Int)),(13,AVal.int IntKind.i64 ((↑k:Int)+1))] (AHeap.mk (AHeap.next H2+3) (AHeap.blks H2))else False else False else False) :
    ∃ e F1 h1,Runs Tryz.prog cnd B 220 (loopAt Tryz.prog 161 1) [(0,dv),(10,.int .i64 i),(13,.int .i64 k)] H e F1 h1∧K0 e F1 h1 :=
  tpath_runs env_ok mixed noSpecs_ok (hs:= .hint (.go 9002) (.hint (.val 9003 (AVal.bool true)) (.hint (.go 11004) (.hint (.go 11007) (.hint (.val 11008 (AVal.ptr (some q))) (.hint (.farV 11009 y) (.hint (.val 11012 (AVal.ptr (some p))) (.hint (.farV 11013 x) (.hint (.val 11014 (AVal.ptr (some p))) (.hint (.act 11015 (AVal.tuple []) fun x=>H1) (.hint (.val 11016 (AVal.ptr (some q))) (.hint (.act 11017 (AVal.tuple []) fun x=>H2) (.hint (.go 10001) .nil))))))))))))) (keep:= [0,10,13]) (by kernel_rfl) vc
theorem s1E_vp(H:AHeap)(B i k:Nat)(dv:AVal)(K0:AExit→Facts→AHeap→Prop)(vc:bif Nat.ble B (AHeap.next H) && true then(-9223372036854775808≤(↑i:Int)-1∧(↑i:Int)-1≤9223372036854775807)∧some (AVal.bool (decide ((↑k:Int)<(↑i:Int)-1)))=some (AVal.bool false)∧K0 (AExit.exit 2) [(0,dv),(10,AVal.int IntKind.i64 (↑i:Int)),(13,AVal.int IntKind.i64 (↑k:Int))] (AHeap.mk (AHeap.next H+4) (AHeap.blks H))else False) :
    ∃ e F1 h1,Runs Tryz.prog cnd B 220 (loopAt Tryz.prog 161 1) [(0,dv),(10,.int .i64 i),(13,.int .i64 k)] H e F1 h1∧K0 e F1 h1 :=
  tpath_runs env_ok mixed noSpecs_ok (hs:= .hint (.go 9002) (.hint (.val 9003 (AVal.bool false)) .nil)) (keep:= [0,10,13]) (by kernel_rfl) vc
theorem s2T_vp(H H1:AHeap)(B m i j c:Nat)(g:FuncId)(cs:List AVal)(dv x y:AVal)(p q:AAddr)(r:Int)(K0:AExit→Facts→AHeap→Prop)(vc:bif Nat.ble B (AHeap.next H) && true then some (AVal.bool (decide ((↑i:Int)<(↑j:Int))))=some (AVal.bool true)∧bif Nat.ble B (AHeap.next H+3) && true then(-9223372036854775808≤(↑i:Int)+(↑j:Int)∧(↑i:Int)+(↑j:Int)≤9223372036854775807)∧(0≤(↑i:Int)+(↑j:Int)∧(↑i:Int)+(↑j:Int)≤18446744073709551615)∧Int.NonNeg (1-0)∧aop env noCall (AHeap.next H+8) (getF [(90,AVal.int IntKind.u64 (ishr IntKind.u64 ((↑i:Int)+(↑j:Int)) (1))),(89,AVal.int IntKind.u64 ((↑i:Int)+(↑j:Int))),(88,AVal.int IntKind.i64 ((↑i:Int)+(↑j:Int))),(87,AVal.int IntKind.i64 (↑j:Int)),(86,AVal.int IntKind.i64 (↑i:Int)),(85,AVal.bool true),(84,AVal.int IntKind.i64 (↑j:Int)),(83,AVal.int IntKind.i64 (↑i:Int)),(0,dv),(2,AVal.int IntKind.i64 (↑m:Int)),(4,AVal.func (Fn.func g) [] cs),(14,AVal.int IntKind.i64 (↑i:Int)),(15,AVal.int IntKind.i64 (↑j:Int))]) (AHeap.mk (AHeap.next H+10) (H.2)) (Op.convert 108 3 (Operand.tmp 90))=some (AVal.int IntKind.i64 (↑c:Int),(AHeap.mk (AHeap.next H+10) (H.2)))∧bif Nat.ble B (AHeap.next H+10) && true then aindexAddr (AEnv.D env) 22 dv (AVal.int IntKind.i64 (↑m:Int))=some (AVal.ptr (some p))∧aload (AEnv.D env) 36 p (AHeap.mk (AHeap.next H+22) (H.2))=some x∧AAddr.id p<AHeap.next H+10∧aindexAddr (AEnv.D env) 22 dv (AVal.int IntKind.i64 (↑c:Int))=some (AVal.ptr (some q))∧aload (AEnv.D env) 36 q (AHeap.mk (AHeap.next H+22) (H.2))=some y∧AAddr.id q<AHeap.next H+10∧CallT Tryz.prog cnd g (x::y::cs) (AHeap.mk (AHeap.next H+22) (H.2)) (AVal.int IntKind.i64 r) H1∧some (AVal.bool (decide (r<0)))=some (AVal.bool true)∧bif Nat.ble B (AHeap.next H1) && true then K0 AExit.normal [(0,dv),(2,AVal.int IntKind.i64 (↑m:Int)),(4,AVal.func (Fn.func g) [] cs),(14,AVal.int IntKind.i64 (↑i:Int)),(15,AVal.int IntKind.i64 (↑c:Int))] (AHeap.mk (AHeap.next H1+2) (AHeap.blks H1))else False else False else False else False) :
    ∃ e F1 h1,Runs Tryz.prog cnd B 220 (loopAt Tryz.prog 161 2) [(0,dv),(2,.int .i64 m),(4,.func (.func g) [] cs),(14,.int .i64 i),(15,.int .i64 j)] H e F1 h1∧K0 e F1 h1 :=
  tpath_runs env_ok mixed noSpecs_ok (hs:= .hint (.val 15002 (AVal.bool true)) (.hint (.go 16002) (.hint (.go 16003) (.hint (.go 16004) (.hint (.val 16005 (AVal.int IntKind.i64 (↑c:Int))) (.hint (.val 17003 (AVal.ptr (some p))) (.hint (.farV 17004 x) (.hint (.val 17007 (AVal.ptr (some q))) (.hint (.farV 17008 y) (.hint (.act 17009 (AVal.int IntKind.i64 r) fun x=>H1) (.hint (.val 17010 (AVal.bool true)) .nil))))))))))) (keep:= [0,2,4,14,15]) (by kernel_rfl) vc
theorem s2F_vp(H H1:AHeap)(B m i j c:Nat)(g:FuncId)(cs:List AVal)(dv x y:AVal)(p q:AAddr)(r:Int)(K0:AExit→Facts→AHeap→Prop)(vc:bif Nat.ble B (AHeap.next H) && true then some (AVal.bool (decide ((↑i:Int)<(↑j:Int))))=some (AVal.bool true)∧bif Nat.ble B (AHeap.next H+3) && true then(-9223372036854775808≤(↑i:Int)+(↑j:Int)∧(↑i:Int)+(↑j:Int)≤9223372036854775807)∧(0≤(↑i:Int)+(↑j:Int)∧(↑i:Int)+(↑j:Int)≤18446744073709551615)∧Int.NonNeg (1-0)∧aop env noCall (AHeap.next H+8) (getF [(90,AVal.int IntKind.u64 (ishr IntKind.u64 ((↑i:Int)+(↑j:Int)) (1))),(89,AVal.int IntKind.u64 ((↑i:Int)+(↑j:Int))),(88,AVal.int IntKind.i64 ((↑i:Int)+(↑j:Int))),(87,AVal.int IntKind.i64 (↑j:Int)),(86,AVal.int IntKind.i64 (↑i:Int)),(85,AVal.bool true),(84,AVal.int IntKind.i64 (↑j:Int)),(83,AVal.int IntKind.i64 (↑i:Int)),(0,dv),(2,AVal.int IntKind.i64 (↑m:Int)),(4,AVal.func (Fn.func g) [] cs),(14,AVal.int IntKind.i64 (↑i:Int)),(15,AVal.int IntKind.i64 (↑j:Int))]) (AHeap.mk (AHeap.next H+10) (H.2)) (Op.convert 108 3 (Operand.tmp 90))=some (AVal.int IntKind.i64 (↑c:Int),(AHeap.mk (AHeap.next H+10) (H.2)))∧bif Nat.ble B (AHeap.next H+10) && true then aindexAddr (AEnv.D env) 22 dv (AVal.int IntKind.i64 (↑m:Int))=some (AVal.ptr (some p))∧aload (AEnv.D env) 36 p (AHeap.mk (AHeap.next H+22) (H.2))=some x∧AAddr.id p<AHeap.next H+10∧aindexAddr (AEnv.D env) 22 dv (AVal.int IntKind.i64 (↑c:Int))=some (AVal.ptr (some q))∧aload (AEnv.D env) 36 q (AHeap.mk (AHeap.next H+22) (H.2))=some y∧AAddr.id q<AHeap.next H+10∧CallT Tryz.prog cnd g (x::y::cs) (AHeap.mk (AHeap.next H+22) (H.2)) (AVal.int IntKind.i64 r) H1∧some (AVal.bool (decide (r<0)))=some (AVal.bool false)∧bif Nat.ble B (AHeap.next H1) && true then(-9223372036854775808≤(↑c:Int)+1∧(↑c:Int)+1≤9223372036854775807)∧K0 AExit.normal [(0,dv),(2,AVal.int IntKind.i64 (↑m:Int)),(4,AVal.func (Fn.func g) [] cs),(14,AVal.int IntKind.i64 ((↑c:Int)+1)),(15,AVal.int IntKind.i64 (↑j:Int))] (AHeap.mk (AHeap.next H1+3) (AHeap.blks H1))else False else False else False else False) :
    ∃ e F1 h1,Runs Tryz.prog cnd B 220 (loopAt Tryz.prog 161 2) [(0,dv),(2,.int .i64 m),(4,.func (.func g) [] cs),(14,.int .i64 i),(15,.int .i64 j)] H e F1 h1∧K0 e F1 h1 :=
  tpath_runs env_ok mixed noSpecs_ok (hs:= .hint (.val 15002 (AVal.bool true)) (.hint (.go 16002) (.hint (.go 16003) (.hint (.go 16004) (.hint (.val 16005 (AVal.int IntKind.i64 (↑c:Int))) (.hint (.val 17003 (AVal.ptr (some p))) (.hint (.farV 17004 x) (.hint (.val 17007 (AVal.ptr (some q))) (.hint (.farV 17008 y) (.hint (.act 17009 (AVal.int IntKind.i64 r) fun x=>H1) (.hint (.val 17010 (AVal.bool false)) (.hint (.go 18001) .nil)))))))))))) (keep:= [0,2,4,14,15]) (by kernel_rfl) vc
theorem s2E_vp(H:AHeap)(B m i j:Nat)(dv cv:AVal)(K0:AExit→Facts→AHeap→Prop)(vc:bif Nat.ble B (AHeap.next H) && true then some (AVal.bool (decide ((↑i:Int)<(↑j:Int))))=some (AVal.bool false)∧K0 (AExit.exit 4) [(0,dv),(2,AVal.int IntKind.i64 (↑m:Int)),(4,cv),(14,AVal.int IntKind.i64 (↑i:Int)),(15,AVal.int IntKind.i64 (↑j:Int))] (AHeap.mk (AHeap.next H+3) (AHeap.blks H))else False) :
    ∃ e F1 h1,Runs Tryz.prog cnd B 220 (loopAt Tryz.prog 161 2) [(0,dv),(2,.int .i64 m),(4,cv),(14,.int .i64 i),(15,.int .i64 j)] H e F1 h1∧K0 e F1 h1 :=
  tpath_runs env_ok mixed noSpecs_ok (hs:= .hint (.val 15002 (AVal.bool false)) .nil) (keep:= [0,2,4,14,15]) (by kernel_rfl) vc
theorem s3S_vp(H H1 H2:AHeap)(B i k:Nat)(dv x y:AVal)(p q:AAddr)(K0:AExit→Facts→AHeap→Prop)(vc:bif Nat.ble B (AHeap.next H) && true then some (AVal.bool (decide ((↑k:Int)>(↑i:Int))))=some (AVal.bool true)∧bif Nat.ble B (AHeap.next H+3) && true then(-9223372036854775808≤(↑k:Int)-1∧(↑k:Int)-1≤9223372036854775807)∧(-9223372036854775808≤(↑k:Int)-1∧(↑k:Int)-1≤9223372036854775807)∧aindexAddr (AEnv.D env) 22 dv (AVal.int IntKind.i64 ((↑k:Int)-1))=some (AVal.ptr (some q))∧aload (AEnv.D env) 36 q (AHeap.mk (AHeap.next H+21) (H.2))=some y∧AAddr.id q<AHeap.next H+3∧aindexAddr (AEnv.D env) 22 dv (AVal.int IntKind.i64 (↑k:Int))=some (AVal.ptr (some p))∧aload (AEnv.D env) 36 p (AHeap.mk (AHeap.next H+21) (H.2))=some x∧AAddr.id p<AHeap.next H+3∧aindexAddr (AEnv.D env) 22 dv (AVal.int IntKind.i64 (↑k:Int))=some (AVal.ptr (some p))∧aop env noCall (AHeap.next H+18) (getF [(127,AVal.ptr (some p)),(126,x),(125,AVal.ptr (some p)),(124,AVal.int IntKind.i64 (↑k:Int)),(123,dv),(122,y),(121,AVal.ptr (some q)),(120,AVal.int IntKind.i64 ((↑k:Int)-1)),(119,AVal.int IntKind.i64 (↑k:Int)),(118,dv),(117,AVal.int IntKind.i64 ((↑k:Int)-1)),(116,AVal.int IntKind.i64 (↑k:Int)),(115,dv),(114,AVal.int IntKind.i64 (↑k:Int)),(113,dv),(110,AVal.bool true),(109,AVal.int IntKind.i64 (↑i:Int)),(108,AVal.int IntKind.i64 (↑k:Int)),(0,dv),(14,AVal.int IntKind.i64 (↑i:Int)),(17,AVal.int IntKind.i64 (↑k:Int))]) (AHeap.mk (AHeap.next H+21) (H.2)) (Op.store 36 (Operand.tmp 127) (Operand.tmp 122))=some (AVal.tuple [],H1)∧aindexAddr (AEnv.D env) 22 dv (AVal.int IntKind.i64 ((↑k:Int)-1))=some (AVal.ptr (some q))∧aop env noCall (AHeap.next H+20) (getF [(128,AVal.ptr (some q)),(127,AVal.ptr (some p)),(126,x),(125,AVal.ptr (some p)),(124,AVal.int IntKind.i64 (↑k:Int)),(123,dv),(122,y),(121,AVal.ptr (some q)),(120,AVal.int IntKind.i64 ((↑k:Int)-1)),(119,AVal.int IntKind.i64 (↑k:Int)),(118,dv),(117,AVal.int IntKind.i64 ((↑k:Int)-1)),(116,AVal.int IntKind.i64 (↑k:Int)),(115,dv),(114,AVal.int IntKind.i64 (↑k:Int)),(113,dv),(110,AVal.bool true),(109,AVal.int IntKind.i64 (↑i:Int)),(108,AVal.int IntKind.i64 (↑k:Int)),(0,dv),(14,AVal.int IntKind.i64 (↑i:Int)),(17,AVal.int IntKind.i64 (↑k:Int))]) H1 (Op.store 36 (Operand.tmp 128) (Operand.tmp 126))=some (AVal.tuple [],H2)∧bif Nat.ble B (AHeap.next H2) && true then(-9223372036854775808≤(↑k:Int)-1∧(↑k:Int)-1≤9223372036854775807)∧K0 AExit.normal [(0,dv),(14,AVal.int IntKind.i64 (↑i:Int)),(17,AVal.int IntKind.i64 ((↑k:Int)-1))] (AHeap.mk (AHeap.next H2+3) (AHeap.blks H2))else False else False else False) :
    ∃ e F1 h1,Runs Tryz.prog cnd B 220 (loopAt Tryz.prog 161 3) [(0,dv),(14,.int .i64 i),(17,.int .i64 k)] H e F1 h1∧K0 e F1 h1 :=
  tpath_runs env_ok mixed noSpecs_ok (hs:= .hint (.val 21002 (AVal.bool true)) (.hint (.go 23004) (.hint (.go 23007) (.hint (.val 23008 (AVal.ptr (some q))) (.hint (.farV 23009 y) (.hint (.val 23012 (AVal.ptr (some p))) (.hint (.farV 23013 x) (.hint (.val 23014 (AVal.ptr (some p))) (.hint (.act 23015 (AVal.tuple []) fun x=>H1) (.hint (.val 23016 (AVal.ptr (some q))) (.hint (.act 23017 (AVal.tuple []) fun x=>H2) (.hint (.go 22001) .nil)))))))))))) (keep:= [0,14,17]) (by kernel_rfl) vc
theorem s3E_vp(H:AHeap)(B i k:Nat)(dv:AVal)(K0:AExit→Facts→AHeap→Prop)(vc:bif Nat.ble B (AHeap.next H) && true then some (AVal.bool (decide ((↑k:Int)>(↑i:Int))))=some (AVal.bool false)∧K0 (AExit.exit 6) [(0,dv),(14,AVal.int IntKind.i64 (↑i:Int)),(17,AVal.int IntKind.i64 (↑k:Int))] (AHeap.mk (AHeap.next H+3) (AHeap.blks H))else False) :
    ∃ e F1 h1,Runs Tryz.prog cnd B 220 (loopAt Tryz.prog 161 3) [(0,dv),(14,.int .i64 i),(17,.int .i64 k)] H e F1 h1∧K0 e F1 h1 :=
  tpath_runs env_ok mixed noSpecs_ok (hs:= .hint (.val 21002 (AVal.bool false)) .nil) (keep:= [0,14,17]) (by kernel_rfl) vc
theorem s4T_vp(H H1:AHeap)(B a m z d n i j w c:Nat)(g:FuncId)(cs:List AVal)(dv x y:AVal)(p q:AAddr)(r:Int)(K0:AExit→Facts→AHeap→Prop)(vc:bif Nat.ble B (AHeap.next H) && true then some (AVal.bool (decide ((↑i:Int)<(↑j:Int))))=some (AVal.bool true)∧bif Nat.ble B (AHeap.next H+3) && true then(-9223372036854775808≤(↑i:Int)+(↑j:Int)∧(↑i:Int)+(↑j:Int)≤9223372036854775807)∧(0≤(↑i:Int)+(↑j:Int)∧(↑i:Int)+(↑j:Int)≤18446744073709551615)∧Int.NonNeg (1-0)∧aop env noCall (AHeap.next H+8) (getF [(156,AVal.int IntKind.u64 (ishr IntKind.u64 ((↑i:Int)+(↑j:Int)) (1))),(155,AVal.int IntKind.u64 ((↑i:Int)+(↑j:Int))),(154,AVal.int IntKind.i64 ((↑i:Int)+(↑j:Int))),(153,AVal.int IntKind.i64 (↑j:Int)),(152,AVal.int IntKind.i64 (↑i:Int)),(151,AVal.bool true),(150,AVal.int IntKind.i64 (↑j:Int)),(149,AVal.int IntKind.i64 (↑i:Int)),(0,dv),(1,AVal.int IntKind.i64 (↑a:Int)),(2,AVal.int IntKind.i64 (↑m:Int)),(3,AVal.int IntKind.i64 (↑z:Int)),(4,AVal.func (Fn.func g) [] cs),(18,AVal.int IntKind.i64 (↑d:Int)),(19,AVal.int IntKind.i64 (↑n:Int)),(20,AVal.int IntKind.i64 (↑i:Int)),(21,AVal.int IntKind.i64 (↑j:Int)),(22,AVal.int IntKind.i64 (↑w:Int))]) (AHeap.mk (AHeap.next H+10) (H.2)) (Op.convert 108 3 (Operand.tmp 156))=some (AVal.int IntKind.i64 (↑c:Int),(AHeap.mk (AHeap.next H+10) (H.2)))∧bif Nat.ble B (AHeap.next H+10) && true then(-9223372036854775808≤(↑w:Int)- (↑c:Int)∧(↑w:Int)- (↑c:Int)≤9223372036854775807)∧aindexAddr (AEnv.D env) 22 dv (AVal.int IntKind.i64 ((↑w:Int)- (↑c:Int)))=some (AVal.ptr (some p))∧aload (AEnv.D env) 36 p (AHeap.mk (AHeap.next H+24) (H.2))=some x∧AAddr.id p<AHeap.next H+10∧aindexAddr (AEnv.D env) 22 dv (AVal.int IntKind.i64 (↑c:Int))=some (AVal.ptr (some q))∧aload (AEnv.D env) 36 q (AHeap.mk (AHeap.next H+24) (H.2))=some y∧AAddr.id q<AHeap.next H+10∧CallT Tryz.prog cnd g (x::y::cs) (AHeap.mk (AHeap.next H+24) (H.2)) (AVal.int IntKind.i64 r) H1∧some (AVal.bool (decide (r<0)))=some (AVal.bool true)∧bif Nat.ble B (AHeap.next H1) && true then K0 AExit.normal [(0,dv),(1,AVal.int IntKind.i64 (↑a:Int)),(2,AVal.int IntKind.i64 (↑m:Int)),(3,AVal.int IntKind.i64 (↑z:Int)),(4,AVal.func (Fn.func g) [] cs),(18,AVal.int IntKind.i64 (↑d:Int)),(19,AVal.int IntKind.i64 (↑n:Int)),(20,AVal.int IntKind.i64 (↑i:Int)),(21,AVal.int IntKind.i64 (↑c:Int)),(22,AVal.int IntKind.i64 (↑w:Int))] (AHeap.mk (AHeap.next H1+2) (AHeap.blks H1))else False else False else False else False) :
    ∃ e F1 h1,Runs Tryz.prog cnd B 220 (loopAt Tryz.prog 161 4) [(0,dv),(1,.int .i64 a),(2,.int .i64 m),(3,.int .i64 z),(4,.func (.func g) [] cs),(18,.int .i64 d),(19,.int .i64 n),(20,.int .i64 i),(21,.int .i64 j),(22,.int .i64 w)] H e F1 h1∧K0 e F1 h1 :=
  tpath_runs env_ok mixed noSpecs_ok (hs:= .hint (.val 33002 (AVal.bool true)) (.hint (.go 34002) (.hint (.go 34003) (.hint (.go 34004) (.hint (.val 34005 (AVal.int IntKind.i64 (↑c:Int))) (.hint (.go 35004) (.hint (.val 35005 (AVal.ptr (some p))) (.hint (.farV 35006 x) (.hint (.val 35009 (AVal.ptr (some q))) (.hint (.farV 35010 y) (.hint (.act 35011 (AVal.int IntKind.i64 r) fun x=>H1) (.hint (.val 35012 (AVal.bool true)) .nil)))))))))))) (keep:= [0,1,2,3,4,18,19,20,21,22]) (by kernel_rfl) vc
theorem s4F_vp(H H1:AHeap)(B a m z d n i j w c:Nat)(g:FuncId)(cs:List AVal)(dv x y:AVal)(p q:AAddr)(r:Int)(K0:AExit→Facts→AHeap→Prop)(vc:bif Nat.ble B (AHeap.next H) && true then some (AVal.bool (decide ((↑i:Int)<(↑j:Int))))=some (AVal.bool true)∧bif Nat.ble B (AHeap.next H+3) && true then(-9223372036854775808≤(↑i:Int)+(↑j:Int)∧(↑i:Int)+(↑j:Int)≤9223372036854775807)∧(0≤(↑i:Int)+(↑j:Int)∧(↑i:Int)+(↑j:Int)≤18446744073709551615)∧Int.NonNeg (1-0)∧aop env noCall (AHeap.next H+8) (getF [(156,AVal.int IntKind.u64 (ishr IntKind.u64 ((↑i:Int)+(↑j:Int)) (1))),(155,AVal.int IntKind.u64 ((↑i:Int)+(↑j:Int))),(154,AVal.int IntKind.i64 ((↑i:Int)+(↑j:Int))),(153,AVal.int IntKind.i64 (↑j:Int)),(152,AVal.int IntKind.i64 (↑i:Int)),(151,AVal.bool true),(150,AVal.int IntKind.i64 (↑j:Int)),(149,AVal.int IntKind.i64 (↑i:Int)),(0,dv),(1,AVal.int IntKind.i64 (↑a:Int)),(2,AVal.int IntKind.i64 (↑m:Int)),(3,AVal.int IntKind.i64 (↑z:Int)),(4,AVal.func (Fn.func g) [] cs),(18,AVal.int IntKind.i64 (↑d:Int)),(19,AVal.int IntKind.i64 (↑n:Int)),(20,AVal.int IntKind.i64 (↑i:Int)),(21,AVal.int IntKind.i64 (↑j:Int)),(22,AVal.int IntKind.i64 (↑w:Int))]) (AHeap.mk (AHeap.next H+10) (H.2)) (Op.convert 108 3 (Operand.tmp 156))=some (AVal.int IntKind.i64 (↑c:Int),(AHeap.mk (AHeap.next H+10) (H.2)))∧bif Nat.ble B (AHeap.next H+10) && true then(-9223372036854775808≤(↑w:Int)- (↑c:Int)∧(↑w:Int)- (↑c:Int)≤9223372036854775807)∧aindexAddr (AEnv.D env) 22 dv (AVal.int IntKind.i64 ((↑w:Int)- (↑c:Int)))=some (AVal.ptr (some p))∧aload (AEnv.D env) 36 p (AHeap.mk (AHeap.next H+24) (H.2))=some x∧AAddr.id p<AHeap.next H+10∧aindexAddr (AEnv.D env) 22 dv (AVal.int IntKind.i64 (↑c:Int))=some (AVal.ptr (some q))∧aload (AEnv.D env) 36 q (AHeap.mk (AHeap.next H+24) (H.2))=some y∧AAddr.id q<AHeap.next H+10∧CallT Tryz.prog cnd g (x::y::cs) (AHeap.mk (AHeap.next H+24) (H.2)) (AVal.int IntKind.i64 r) H1∧some (AVal.bool (decide (r<0)))=some (AVal.bool false)∧bif Nat.ble B (AHeap.next H1) && true then(-9223372036854775808≤(↑c:Int)+1∧(↑c:Int)+1≤9223372036854775807)∧K0 AExit.normal [(0,dv),(1,AVal.int IntKind.i64 (↑a:Int)),(2,AVal.int IntKind.i64 (↑m:Int)),(3,AVal.int IntKind.i64 (↑z:Int)),(4,AVal.func (Fn.func g) [] cs),(18,AVal.int IntKind.i64 (↑d:Int)),(19,AVal.int IntKind.i64 (↑n:Int)),(20,AVal.int IntKind.i64 ((↑c:Int)+1)),(21,AVal.int IntKind.i64 (↑j:Int)),(22,AVal.int IntKind.i64 (↑w:Int))] (AHeap.mk (AHeap.next H1+3) (AHeap.blks H1))else False else False else False else False) :
    ∃ e F1 h1,Runs Tryz.prog cnd B 220 (loopAt Tryz.prog 161 4) [(0,dv),(1,.int .i64 a),(2,.int .i64 m),(3,.int .i64 z),(4,.func (.func g) [] cs),(18,.int .i64 d),(19,.int .i64 n),(20,.int .i64 i),(21,.int .i64 j),(22,.int .i64 w)] H e F1 h1∧K0 e F1 h1 :=
  tpath_runs env_ok mixed noSpecs_ok (hs:= .hint (.val 33002 (AVal.bool true)) (.hint (.go 34002) (.hint (.go 34003) (.hint (.go 34004) (.hint (.val 34005 (AVal.int IntKind.i64 (↑c:Int))) (.hint (.go 35004) (.hint (.val 35005 (AVal.ptr (some p))) (.hint (.farV 35006 x) (.hint (.val 35009 (AVal.ptr (some q))) (.hint (.farV 35010 y) (.hint (.act 35011 (AVal.int IntKind.i64 r) fun x=>H1) (.hint (.val 35012 (AVal.bool false)) (.hint (.go 36001) .nil))))))))))))) (keep:= [0,1,2,3,4,18,19,20,21,22]) (by kernel_rfl) vc
theorem s4E_vp(H:AHeap)(B a m z d n i j w:Nat)(dv cv:AVal)(K0:AExit→Facts→AHeap→Prop)(vc:bif Nat.ble B (AHeap.next H) && true then some (AVal.bool (decide ((↑i:Int)<(↑j:Int))))=some (AVal.bool false)∧K0 (AExit.exit 8) [(0,dv),(1,AVal.int IntKind.i64 (↑a:Int)),(2,AVal.int IntKind.i64 (↑m:Int)),(3,AVal.int IntKind.i64 (↑z:Int)),(4,cv),(18,AVal.int IntKind.i64 (↑d:Int)),(19,AVal.int IntKind.i64 (↑n:Int)),(20,AVal.int IntKind.i64 (↑i:Int)),(21,AVal.int IntKind.i64 (↑j:Int)),(22,AVal.int IntKind.i64 (↑w:Int))] (AHeap.mk (AHeap.next H+3) (AHeap.blks H))else False) :
    ∃ e F1 h1,Runs Tryz.prog cnd B 220 (loopAt Tryz.prog 161 4) [(0,dv),(1,.int .i64 a),(2,.int .i64 m),(3,.int .i64 z),(4,cv),(18,.int .i64 d),(19,.int .i64 n),(20,.int .i64 i),(21,.int .i64 j),(22,.int .i64 w)] H e F1 h1∧K0 e F1 h1 :=
  tpath_runs env_ok mixed noSpecs_ok (hs:= .hint (.val 33002 (AVal.bool false)) .nil) (keep:= [0,1,2,3,4,18,19,20,21,22]) (by kernel_rfl) vc
theorem smO_vc(H H1 H2:AHeap)(a m z i:Nat)(dv cv:AVal)(K0:AVal→AHeap→Prop)(vc:bif Nat.ble (AHeap.next H) (AHeap.next H) && true then(-9223372036854775808≤(↑m:Int)- (↑a:Int)∧(↑m:Int)- (↑a:Int)≤9223372036854775807)∧some (AVal.bool ((↑m:Int)- (↑a:Int) == 1))=some (AVal.bool true)∧bif Nat.ble (AHeap.next H) (AHeap.next H+4) && true then bif Nat.ble (AHeap.next H) (AHeap.next H+6) && true then Runs Tryz.prog cnd (AHeap.next H) 220 (Code.loop (loopAt Tryz.prog 161 0)) [(0,dv),(1,AVal.int IntKind.i64 (↑a:Int)),(4,cv),(10,AVal.int IntKind.i64 (↑m:Int)),(11,AVal.int IntKind.i64 (↑z:Int))] (AHeap.mk (AHeap.next H+6+2) (AHeap.blks (AHeap.mk (AHeap.next H+4+2) (AHeap.blks (AHeap.mk (AHeap.next H+4) (AHeap.blks H)))))) (AExit.exit 0) [(0,dv),(1,AVal.int IntKind.i64 (↑a:Int)),(10,AVal.int IntKind.i64 (↑i:Int))] H1∧bif Nat.ble (AHeap.next H) (AHeap.next H1) && true then Runs Tryz.prog cnd (AHeap.next H) 220 (Code.loop (loopAt Tryz.prog 161 1)) [(0,dv),(10,AVal.int IntKind.i64 (↑i:Int)),(13,AVal.int IntKind.i64 (↑a:Int))] (AHeap.mk (AHeap.next H1+2) (AHeap.blks H1)) (AExit.exit 2) [] H2∧bif Nat.ble (AHeap.next H) (AHeap.next H2)then K0 (AVal.tuple []) H2 else False else False else False else False else False) :
    ∃ v h1,FDoes Tryz.prog cnd 161 [dv,.int .i64 a,.int .i64 m,.int .i64 z,cv] H v h1∧K0 v h1 :=
  tcall_does env_ok mixed noSpecs_ok (hs:= .hint (.go 2) (.hint (.val 3 (AVal.bool true)) (.hint (.keep [0,1,4,10,11]) (.hint (.loop [(0,dv),(1,AVal.int IntKind.i64 (↑a:Int)),(10,AVal.int IntKind.i64 (↑i:Int))] H1 (AExit.exit 0)) (.hint (.keep [0,10,13]) (.hint (.loop [] H2 (AExit.exit 2)) .nil)))))) (by kernel_rfl) vc
theorem smL_vc(H H1 H2:AHeap)(a m z i:Nat)(dv cv:AVal)(K0:AVal→AHeap→Prop)(vc:bif Nat.ble (AHeap.next H) (AHeap.next H) && true then(-9223372036854775808≤(↑m:Int)- (↑a:Int)∧(↑m:Int)- (↑a:Int)≤9223372036854775807)∧some (AVal.bool ((↑m:Int)- (↑a:Int) == 1))=some (AVal.bool false)∧bif Nat.ble (AHeap.next H) (AHeap.next H+4) && true then(-9223372036854775808≤(↑z:Int)- (↑m:Int)∧(↑z:Int)- (↑m:Int)≤9223372036854775807)∧some (AVal.bool ((↑z:Int)- (↑m:Int) == 1))=some (AVal.bool true)∧bif Nat.ble (AHeap.next H) (AHeap.next H+8) && true then bif Nat.ble (AHeap.next H) (AHeap.next H+10) && true then Runs Tryz.prog cnd (AHeap.next H) 220 (Code.loop (loopAt Tryz.prog 161 2)) [(0,dv),(2,AVal.int IntKind.i64 (↑m:Int)),(4,cv),(14,AVal.int IntKind.i64 (↑a:Int)),(15,AVal.int IntKind.i64 (↑m:Int))] (AHeap.mk (AHeap.next H+10+2) (AHeap.blks (AHeap.mk (AHeap.next H+8+2) (AHeap.blks (AHeap.mk (AHeap.next H+4+4) (AHeap.blks (AHeap.mk (AHeap.next H+4) (AHeap.blks H)))))))) (AExit.exit 4) [(0,dv),(2,AVal.int IntKind.i64 (↑m:Int)),(14,AVal.int IntKind.i64 (↑i:Int))] H1∧bif Nat.ble (AHeap.next H) (AHeap.next H1) && true then Runs Tryz.prog cnd (AHeap.next H) 220 (Code.loop (loopAt Tryz.prog 161 3)) [(0,dv),(14,AVal.int IntKind.i64 (↑i:Int)),(17,AVal.int IntKind.i64 (↑m:Int))] (AHeap.mk (AHeap.next H1+2) (AHeap.blks H1)) (AExit.exit 6) [] H2∧bif Nat.ble (AHeap.next H) (AHeap.next H2)then K0 (AVal.tuple []) H2 else False else False else False else False else False else False) :
    ∃ v h1,FDoes Tryz.prog cnd 161 [dv,.int .i64 a,.int .i64 m,.int .i64 z,cv] H v h1∧K0 v h1 :=
  tcall_does env_ok mixed noSpecs_ok (hs:= .hint (.go 2) (.hint (.val 3 (AVal.bool false)) (.hint (.go 12002) (.hint (.val 12003 (AVal.bool true)) (.hint (.keep [0,2,4,14,15]) (.hint (.loop [(0,dv),(2,AVal.int IntKind.i64 (↑m:Int)),(14,AVal.int IntKind.i64 (↑i:Int))] H1 (AExit.exit 4)) (.hint (.keep [0,14,17]) (.hint (.loop [] H2 (AExit.exit 6)) .nil)))))))) (by kernel_rfl) vc
theorem smA_vc(H H1 H2 H3 H4:AHeap)(a m z d n s w i k:Nat)(dv cv:AVal)(K0:AVal→AHeap→Prop)(vc:bif Nat.ble (AHeap.next H) (AHeap.next H) && true then(-9223372036854775808≤(↑m:Int)- (↑a:Int)∧(↑m:Int)- (↑a:Int)≤9223372036854775807)∧some (AVal.bool ((↑m:Int)- (↑a:Int) == 1))=some (AVal.bool false)∧bif Nat.ble (AHeap.next H) (AHeap.next H+4) && true then(-9223372036854775808≤(↑z:Int)- (↑m:Int)∧(↑z:Int)- (↑m:Int)≤9223372036854775807)∧some (AVal.bool ((↑z:Int)- (↑m:Int) == 1))=some (AVal.bool false)∧bif Nat.ble (AHeap.next H) (AHeap.next H+8) && true then(-9223372036854775808≤(↑a:Int)+(↑z:Int)∧(↑a:Int)+(↑z:Int)≤9223372036854775807)∧(0≤(↑a:Int)+(↑z:Int)∧(↑a:Int)+(↑z:Int)≤18446744073709551615)∧Int.NonNeg (1-0)∧aop env noCall (AHeap.next H+13) (getF [(133,AVal.int IntKind.u64 (ishr IntKind.u64 ((↑a:Int)+(↑z:Int)) (1))),(132,AVal.int IntKind.u64 ((↑a:Int)+(↑z:Int))),(131,AVal.int IntKind.i64 ((↑a:Int)+(↑z:Int))),(130,AVal.int IntKind.i64 (↑z:Int)),(129,AVal.int IntKind.i64 (↑a:Int)),(80,AVal.bool false),(79,AVal.int IntKind.i64 ((↑z:Int)- (↑m:Int))),(78,AVal.int IntKind.i64 (↑m:Int)),(77,AVal.int IntKind.i64 (↑z:Int)),(28,AVal.bool false),(27,AVal.int IntKind.i64 ((↑m:Int)- (↑a:Int))),(26,AVal.int IntKind.i64 (↑a:Int)),(25,AVal.int IntKind.i64 (↑m:Int)),(0,dv),(1,AVal.int IntKind.i64 (↑a:Int)),(2,AVal.int IntKind.i64 (↑m:Int)),(3,AVal.int IntKind.i64 (↑z:Int)),(4,cv)]) (AHeap.mk (AHeap.next H+15) (H.2)) (Op.convert 108 3 (Operand.tmp 133))=some (AVal.int IntKind.i64 (↑d:Int),(AHeap.mk (AHeap.next H+15) (H.2)))∧bif Nat.ble (AHeap.next H) (AHeap.next H+15) && true then some (AVal.int IntKind.i64 (IntKind.wrap IntKind.i64 ((↑d:Int)+(↑m:Int))))=some (AVal.int IntKind.i64 (↑n:Int))∧bif Nat.ble (AHeap.next H) (AHeap.next H+19) && true then bif Nat.ble (AHeap.next H) (AHeap.next H+21) && true then some (AVal.bool (decide ((↑m:Int)>(↑d:Int))))=some (AVal.bool true)∧bif Nat.ble (AHeap.next H) (AHeap.next H+24) && true then some (AVal.int IntKind.i64 (IntKind.wrap IntKind.i64 ((↑n:Int)- (↑z:Int))))=some (AVal.int IntKind.i64 (↑s:Int))∧bif Nat.ble (AHeap.next H) (AHeap.next H+28) && true then bif Nat.ble (AHeap.next H) (AHeap.next H+30) && true then some (AVal.int IntKind.i64 (IntKind.wrap IntKind.i64 ((↑n:Int)-1)))=some (AVal.int IntKind.i64 (↑w:Int))∧Runs Tryz.prog cnd (AHeap.next H) 220 (Code.loop (loopAt Tryz.prog 161 4)) [(0,dv),(1,AVal.int IntKind.i64 (↑a:Int)),(2,AVal.int IntKind.i64 (↑m:Int)),(3,AVal.int IntKind.i64 (↑z:Int)),(4,cv),(18,AVal.int IntKind.i64 (↑d:Int)),(19,AVal.int IntKind.i64 (↑n:Int)),(20,AVal.int IntKind.i64 (↑s:Int)),(21,AVal.int IntKind.i64 (↑d:Int)),(22,AVal.int IntKind.i64 (↑w:Int))] (AHeap.mk (AHeap.next H+30+3) (AHeap.blks (AHeap.mk (AHeap.next H+28+2) (AHeap.blks (AHeap.mk (AHeap.next H+24+4) (AHeap.blks (AHeap.mk (AHeap.next H+21+3) (AHeap.blks (AHeap.mk (AHeap.next H+19+2) (AHeap.blks (AHeap.mk (AHeap.next H+15+4) (AHeap.blks (AHeap.mk (AHeap.next H+8+7) (AHeap.blks (AHeap.mk (AHeap.next H+4+4) (AHeap.blks (AHeap.mk (AHeap.next H+4) (AHeap.blks H)))))))))))))))))) (AExit.exit 8) [(0,dv),(1,AVal.int IntKind.i64 (↑a:Int)),(2,AVal.int IntKind.i64 (↑m:Int)),(3,AVal.int IntKind.i64 (↑z:Int)),(4,cv),(18,AVal.int IntKind.i64 (↑d:Int)),(19,AVal.int IntKind.i64 (↑n:Int)),(20,AVal.int IntKind.i64 (↑i:Int))] H1∧bif Nat.ble (AHeap.next H) (AHeap.next H1) && true then some (AVal.int IntKind.i64 (IntKind.wrap IntKind.i64 ((↑n:Int)- (↑i:Int))))=some (AVal.int IntKind.i64 (↑k:Int))∧bif Nat.ble (AHeap.next H) (AHeap.next H1+4) && true then some (AVal.bool (decide ((↑i:Int)<(↑m:Int))))=some (AVal.bool true)∧some (AVal.bool (decide ((↑m:Int)<(↑k:Int))))=some (AVal.bool false)∧bif Nat.ble (AHeap.next H) (AHeap.next H1+12) && true then some (AVal.bool (decide ((↑a:Int)<(↑i:Int))))=some (AVal.bool true)∧some (AVal.bool (decide ((↑i:Int)<(↑d:Int))))=some (AVal.bool false)∧bif Nat.ble (AHeap.next H) (AHeap.next H1+20) && true then some (AVal.bool (decide ((↑d:Int)<(↑k:Int))))=some (AVal.bool true)∧some (AVal.bool (decide ((↑k:Int)<(↑z:Int))))=some (AVal.bool true)∧bif Nat.ble (AHeap.next H) (AHeap.next H1+28) && true then CallT Tryz.prog cnd 161 [dv,AVal.int IntKind.i64 (↑d:Int),AVal.int IntKind.i64 (↑k:Int),AVal.int IntKind.i64 (↑z:Int),cv] (AHeap.mk (AHeap.next H1+34) (H1.2)) (AVal.tuple []) H4∧bif Nat.ble (AHeap.next H) (AHeap.next H4)then K0 (AVal.tuple []) H4 else False else False else False else False else False else False else False else False else False else False else False else False else False else False else False) :
    ∃ v h1,FDoes Tryz.prog cnd 161 [dv,.int .i64 a,.int .i64 m,.int .i64 z,cv] H v h1∧K0 v h1 :=
  tcall_does env_ok mixed noSpecs_ok (hs:= .hint (.go 2) (.hint (.val 3 (AVal.bool false)) (.hint (.go 12002) (.hint (.val 12003 (AVal.bool false)) (.hint (.go 24002) (.hint (.go 24003) (.hint (.go 24004) (.hint (.val 24005 (AVal.int IntKind.i64 (↑d:Int))) (.hint (.val 25002 (AVal.int IntKind.i64 (↑n:Int))) (.hint (.val 27002 (AVal.bool true)) (.hint (.val 28002 (AVal.int IntKind.i64 (↑s:Int))) (.hint (.val 32001 (AVal.int IntKind.i64 (↑w:Int))) (.hint (.keep [0,1,2,3,4,18,19,20,21,22]) (.hint (.loop [(0,dv),(1,AVal.int IntKind.i64 (↑a:Int)),(2,AVal.int IntKind.i64 (↑m:Int)),(3,AVal.int IntKind.i64 (↑z:Int)),(4,cv),(18,AVal.int IntKind.i64 (↑d:Int)),(19,AVal.int IntKind.i64 (↑n:Int)),(20,AVal.int IntKind.i64 (↑i:Int))] H1 (AExit.exit 8)) (.hint (.val 38002 (AVal.int IntKind.i64 (↑k:Int))) (.hint (.val 39002 (AVal.bool true)) (.hint (.val 39006 (AVal.bool false)) (.hint (.val 41002 (AVal.bool true)) (.hint (.val 41006 (AVal.bool false)) (.hint (.val 43002 (AVal.bool true)) (.hint (.val 43006 (AVal.bool true)) (.hint (.act 44005 (AVal.tuple []) fun x=>H4) .nil)))))))))))))))))))))) (by kernel_rfl) vc
theorem smB_vc(H H1 H2 H3 H4:AHeap)(a m z d n s w i k:Nat)(dv cv:AVal)(K0:AVal→AHeap→Prop)(vc:bif Nat.ble (AHeap.next H) (AHeap.next H) && true then(-9223372036854775808≤(↑m:Int)- (↑a:Int)∧(↑m:Int)- (↑a:Int)≤9223372036854775807)∧some (AVal.bool ((↑m:Int)- (↑a:Int) == 1))=some (AVal.bool false)∧bif Nat.ble (AHeap.next H) (AHeap.next H+4) && true then(-9223372036854775808≤(↑z:Int)- (↑m:Int)∧(↑z:Int)- (↑m:Int)≤9223372036854775807)∧some (AVal.bool ((↑z:Int)- (↑m:Int) == 1))=some (AVal.bool false)∧bif Nat.ble (AHeap.next H) (AHeap.next H+8) && true then(-9223372036854775808≤(↑a:Int)+(↑z:Int)∧(↑a:Int)+(↑z:Int)≤9223372036854775807)∧(0≤(↑a:Int)+(↑z:Int)∧(↑a:Int)+(↑z:Int)≤18446744073709551615)∧Int.NonNeg (1-0)∧aop env noCall (AHeap.next H+13) (getF [(133,AVal.int IntKind.u64 (ishr IntKind.u64 ((↑a:Int)+(↑z:Int)) (1))),(132,AVal.int IntKind.u64 ((↑a:Int)+(↑z:Int))),(131,AVal.int IntKind.i64 ((↑a:Int)+(↑z:Int))),(130,AVal.int IntKind.i64 (↑z:Int)),(129,AVal.int IntKind.i64 (↑a:Int)),(80,AVal.bool false),(79,AVal.int IntKind.i64 ((↑z:Int)- (↑m:Int))),(78,AVal.int IntKind.i64 (↑m:Int)),(77,AVal.int IntKind.i64 (↑z:Int)),(28,AVal.bool false),(27,AVal.int IntKind.i64 ((↑m:Int)- (↑a:Int))),(26,AVal.int IntKind.i64 (↑a:Int)),(25,AVal.int IntKind.i64 (↑m:Int)),(0,dv),(1,AVal.int IntKind.i64 (↑a:Int)),(2,AVal.int IntKind.i64 (↑m:Int)),(3,AVal.int IntKind.i64 (↑z:Int)),(4,cv)]) (AHeap.mk (AHeap.next H+15) (H.2)) (Op.convert 108 3 (Operand.tmp 133))=some (AVal.int IntKind.i64 (↑d:Int),(AHeap.mk (AHeap.next H+15) (H.2)))∧bif Nat.ble (AHeap.next H) (AHeap.next H+15) && true then some (AVal.int IntKind.i64 (IntKind.wrap IntKind.i64 ((↑d:Int)+(↑m:Int))))=some (AVal.int IntKind.i64 (↑n:Int))∧bif Nat.ble (AHeap.next H) (AHeap.next H+19) && true then bif Nat.ble (AHeap.next H) (AHeap.next H+21) && true then some (AVal.bool (decide ((↑m:Int)>(↑d:Int))))=some (AVal.bool true)∧bif Nat.ble (AHeap.next H) (AHeap.next H+24) && true then some (AVal.int IntKind.i64 (IntKind.wrap IntKind.i64 ((↑n:Int)- (↑z:Int))))=some (AVal.int IntKind.i64 (↑s:Int))∧bif Nat.ble (AHeap.next H) (AHeap.next H+28) && true then bif Nat.ble (AHeap.next H) (AHeap.next H+30) && true then some (AVal.int IntKind.i64 (IntKind.wrap IntKind.i64 ((↑n:Int)-1)))=some (AVal.int IntKind.i64 (↑w:Int))∧Runs Tryz.prog cnd (AHeap.next H) 220 (Code.loop (loopAt Tryz.prog 161 4)) [(0,dv),(1,AVal.int IntKind.i64 (↑a:Int)),(2,AVal.int IntKind.i64 (↑m:Int)),(3,AVal.int IntKind.i64 (↑z:Int)),(4,cv),(18,AVal.int IntKind.i64 (↑d:Int)),(19,AVal.int IntKind.i64 (↑n:Int)),(20,AVal.int IntKind.i64 (↑s:Int)),(21,AVal.int IntKind.i64 (↑d:Int)),(22,AVal.int IntKind.i64 (↑w:Int))] (AHeap.mk (AHeap.next H+30+3) (AHeap.blks (AHeap.mk (AHeap.next H+28+2) (AHeap.blks (AHeap.mk (AHeap.next H+24+4) (AHeap.blks (AHeap.mk (AHeap.next H+21+3) (AHeap.blks (AHeap.mk (AHeap.next H+19+2) (AHeap.blks (AHeap.mk (AHeap.next H+15+4) (AHeap.blks (AHeap.mk (AHeap.next H+8+7) (AHeap.blks (AHeap.mk (AHeap.next H+4+4) (AHeap.blks (AHeap.mk (AHeap.next H+4) (AHeap.blks H)))))))))))))))))) (AExit.exit 8) [(0,dv),(1,AVal.int IntKind.i64 (↑a:Int)),(2,AVal.int IntKind.i64 (↑m:Int)),(3,AVal.int IntKind.i64 (↑z:Int)),(4,cv),(18,AVal.int IntKind.i64 (↑d:Int)),(19,AVal.int IntKind.i64 (↑n:Int)),(20,AVal.int IntKind.i64 (↑i:Int))] H1∧bif Nat.ble (AHeap.next H) (AHeap.next H1) && true then some (AVal.int IntKind.i64 (IntKind.wrap IntKind.i64 ((↑n:Int)- (↑i:Int))))=some (AVal.int IntKind.i64 (↑k:Int))∧bif Nat.ble (AHeap.next H) (AHeap.next H1+4) && true then some (AVal.bool (decide ((↑i:Int)<(↑m:Int))))=some (AVal.bool true)∧some (AVal.bool (decide ((↑m:Int)<(↑k:Int))))=some (AVal.bool true)∧bif Nat.ble (AHeap.next H) (AHeap.next H1+12) && true then CallT Tryz.prog cnd 195 [dv,AVal.int IntKind.i64 (↑i:Int),AVal.int IntKind.i64 (↑m:Int),AVal.int IntKind.i64 (↑k:Int),cv] (AHeap.mk (AHeap.next H1+18) (H1.2)) (AVal.tuple []) H2∧bif Nat.ble (AHeap.next H) (AHeap.next H2) && true then some (AVal.bool (decide ((↑a:Int)<(↑i:Int))))=some (AVal.bool true)∧some (AVal.bool (decide ((↑i:Int)<(↑d:Int))))=some (AVal.bool true)∧bif Nat.ble (AHeap.next H) (AHeap.next H2+8) && true then CallT Tryz.prog cnd 161 [dv,AVal.int IntKind.i64 (↑a:Int),AVal.int IntKind.i64 (↑i:Int),AVal.int IntKind.i64 (↑d:Int),cv] (AHeap.mk (AHeap.next H2+14) (H2.2)) (AVal.tuple []) H3∧bif Nat.ble (AHeap.next H) (AHeap.next H3) && true then some (AVal.bool (decide ((↑d:Int)<(↑k:Int))))=some (AVal.bool true)∧some (AVal.bool (decide ((↑k:Int)<(↑z:Int))))=some (AVal.bool true)∧bif Nat.ble (AHeap.next H) (AHeap.next H3+8) && true then CallT Tryz.prog cnd 161 [dv,AVal.int IntKind.i64 (↑d:Int),AVal.int IntKind.i64 (↑k:Int),AVal.int IntKind.i64 (↑z:Int),cv] (AHeap.mk (AHeap.next H3+14) (H3.2)) (AVal.tuple []) H4∧bif Nat.ble (AHeap.next H) (AHeap.next H4)then K0 (AVal.tuple []) H4 else False else False else False else False else False else False else False else False else False else False else False else False else False else False else False else False else False) :
    ∃ v h1,FDoes Tryz.prog cnd 161 [dv,.int .i64 a,.int .i64 m,.int .i64 z,cv] H v h1∧K0 v h1 :=
  tcall_does env_ok mixed noSpecs_ok (hs:= .hint (.go 2) (.hint (.val 3 (AVal.bool false)) (.hint (.go 12002) (.hint (.val 12003 (AVal.bool false)) (.hint (.go 24002) (.hint (.go 24003) (.hint (.go 24004) (.hint (.val 24005 (AVal.int IntKind.i64 (↑d:Int))) (.hint (.val 25002 (AVal.int IntKind.i64 (↑n:Int))) (.hint (.val 27002 (AVal.bool true)) (.hint (.val 28002 (AVal.int IntKind.i64 (↑s:Int))) (.hint (.val 32001 (AVal.int IntKind.i64 (↑w:Int))) (.hint (.keep [0,1,2,3,4,18,19,20,21,22]) (.hint (.loop [(0,dv),(1,AVal.int IntKind.i64 (↑a:Int)),(2,AVal.int IntKind.i64 (↑m:Int)),(3,AVal.int IntKind.i64 (↑z:Int)),(4,cv),(18,AVal.int IntKind.i64 (↑d:Int)),(19,AVal.int IntKind.i64 (↑n:Int)),(20,AVal.int IntKind.i64 (↑i:Int))] H1 (AExit.exit 8)) (.hint (.val 38002 (AVal.int IntKind.i64 (↑k:Int))) (.hint (.val 39002 (AVal.bool true)) (.hint (.val 39006 (AVal.bool true)) (.hint (.act 40005 (AVal.tuple []) fun x=>H2) (.hint (.val 41002 (AVal.bool true)) (.hint (.val 41006 (AVal.bool true)) (.hint (.act 42005 (AVal.tuple []) fun x=>H3) (.hint (.val 43002 (AVal.bool true)) (.hint (.val 43006 (AVal.bool true)) (.hint (.act 44005 (AVal.tuple []) fun x=>H4) .nil)))))))))))))))))))))))) (by kernel_rfl) vc
theorem smC_vc(H H1 H2 H3 H4:AHeap)(a m z d n s w i k:Nat)(dv cv:AVal)(K0:AVal→AHeap→Prop)(vc:bif Nat.ble (AHeap.next H) (AHeap.next H) && true then(-9223372036854775808≤(↑m:Int)- (↑a:Int)∧(↑m:Int)- (↑a:Int)≤9223372036854775807)∧some (AVal.bool ((↑m:Int)- (↑a:Int) == 1))=some (AVal.bool false)∧bif Nat.ble (AHeap.next H) (AHeap.next H+4) && true then(-9223372036854775808≤(↑z:Int)- (↑m:Int)∧(↑z:Int)- (↑m:Int)≤9223372036854775807)∧some (AVal.bool ((↑z:Int)- (↑m:Int) == 1))=some (AVal.bool false)∧bif Nat.ble (AHeap.next H) (AHeap.next H+8) && true then(-9223372036854775808≤(↑a:Int)+(↑z:Int)∧(↑a:Int)+(↑z:Int)≤9223372036854775807)∧(0≤(↑a:Int)+(↑z:Int)∧(↑a:Int)+(↑z:Int)≤18446744073709551615)∧Int.NonNeg (1-0)∧aop env noCall (AHeap.next H+13) (getF [(133,AVal.int IntKind.u64 (ishr IntKind.u64 ((↑a:Int)+(↑z:Int)) (1))),(132,AVal.int IntKind.u64 ((↑a:Int)+(↑z:Int))),(131,AVal.int IntKind.i64 ((↑a:Int)+(↑z:Int))),(130,AVal.int IntKind.i64 (↑z:Int)),(129,AVal.int IntKind.i64 (↑a:Int)),(80,AVal.bool false),(79,AVal.int IntKind.i64 ((↑z:Int)- (↑m:Int))),(78,AVal.int IntKind.i64 (↑m:Int)),(77,AVal.int IntKind.i64 (↑z:Int)),(28,AVal.bool false),(27,AVal.int IntKind.i64 ((↑m:Int)- (↑a:Int))),(26,AVal.int IntKind.i64 (↑a:Int)),(25,AVal.int IntKind.i64 (↑m:Int)),(0,dv),(1,AVal.int IntKind.i64 (↑a:Int)),(2,AVal.int IntKind.i64 (↑m:Int)),(3,AVal.int IntKind.i64 (↑z:Int)),(4,cv)]) (AHeap.mk (AHeap.next H+15) (H.2)) (Op.convert 108 3 (Operand.tmp 133))=some (AVal.int IntKind.i64 (↑d:Int),(AHeap.mk (AHeap.next H+15) (H.2)))∧bif Nat.ble (AHeap.next H) (AHeap.next H+15) && true then some (AVal.int IntKind.i64 (IntKind.wrap IntKind.i64 ((↑d:Int)+(↑m:Int))))=some (AVal.int IntKind.i64 (↑n:Int))∧bif Nat.ble (AHeap.next H) (AHeap.next H+19) && true then bif Nat.ble (AHeap.next H) (AHeap.next H+21) && true then some (AVal.bool (decide ((↑m:Int)>(↑d:Int))))=some (AVal.bool true)∧bif Nat.ble (AHeap.next H) (AHeap.next H+24) && true then some (AVal.int IntKind.i64 (IntKind.wrap IntKind.i64 ((↑n:Int)- (↑z:Int))))=some (AVal.int IntKind.i64 (↑s:Int))∧bif Nat.ble (AHeap.next H) (AHeap.next H+28) && true then bif Nat.ble (AHeap.next H) (AHeap.next H+30) && true then some (AVal.int IntKind.i64 (IntKind.wrap IntKind.i64 ((↑n:Int)-1)))=some (AVal.int IntKind.i64 (↑w:Int))∧Runs Tryz.prog cnd (AHeap.next H) 220 (Code.loop (loopAt Tryz.prog 161 4)) [(0,dv),(1,AVal.int IntKind.i64 (↑a:Int)),(2,AVal.int IntKind.i64 (↑m:Int)),(3,AVal.int IntKind.i64 (↑z:Int)),(4,cv),(18,AVal.int IntKind.i64 (↑d:Int)),(19,AVal.int IntKind.i64 (↑n:Int)),(20,AVal.int IntKind.i64 (↑s:Int)),(21,AVal.int IntKind.i64 (↑d:Int)),(22,AVal.int IntKind.i64 (↑w:Int))] (AHeap.mk (AHeap.next H+30+3) (AHeap.blks (AHeap.mk (AHeap.next H+28+2) (AHeap.blks (AHeap.mk (AHeap.next H+24+4) (AHeap.blks (AHeap.mk (AHeap.next H+21+3) (AHeap.blks (AHeap.mk (AHeap.next H+19+2) (AHeap.blks (AHeap.mk (AHeap.next H+15+4) (AHeap.blks (AHeap.mk (AHeap.next H+8+7) (AHeap.blks (AHeap.mk (AHeap.next H+4+4) (AHeap.blks (AHeap.mk (AHeap.next H+4) (AHeap.blks H)))))))))))))))))) (AExit.exit 8) [(0,dv),(1,AVal.int IntKind.i64 (↑a:Int)),(2,AVal.int IntKind.i64 (↑m:Int)),(3,AVal.int IntKind.i64 (↑z:Int)),(4,cv),(18,AVal.int IntKind.i64 (↑d:Int)),(19,AVal.int IntKind.i64 (↑n:Int)),(20,AVal.int IntKind.i64 (↑i:Int))] H1∧bif Nat.ble (AHeap.next H) (AHeap.next H1) && true then some (AVal.int IntKind.i64 (IntKind.wrap IntKind.i64 ((↑n:Int)- (↑i:Int))))=some (AVal.int IntKind.i64 (↑k:Int))∧bif Nat.ble (AHeap.next H) (AHeap.next H1+4) && true then some (AVal.bool (decide ((↑i:Int)<(↑m:Int))))=some (AVal.bool true)∧some (AVal.bool (decide ((↑m:Int)<(↑k:Int))))=some (AVal.bool true)∧bif Nat.ble (AHeap.next H) (AHeap.next H1+12) && true then CallT Tryz.prog cnd 195 [dv,AVal.int IntKind.i64 (↑i:Int),AVal.int IntKind.i64 (↑m:Int),AVal.int IntKind.i64 (↑k:Int),cv] (AHeap.mk (AHeap.next H1+18) (H1.2)) (AVal.tuple []) H2∧bif Nat.ble (AHeap.next H) (AHeap.next H2) && true then some (AVal.bool (decide ((↑a:Int)<(↑i:Int))))=some (AVal.bool true)∧some (AVal.bool (decide ((↑i:Int)<(↑d:Int))))=some (AVal.bool true)∧bif Nat.ble (AHeap.next H) (AHeap.next H2+8) && true then CallT Tryz.prog cnd 161 [dv,AVal.int IntKind.i64 (↑a:Int),AVal.int IntKind.i64 (↑i:Int),AVal.int IntKind.i64 (↑d:Int),cv] (AHeap.mk (AHeap.next H2+14) (H2.2)) (AVal.tuple []) H3∧bif Nat.ble (AHeap.next H) (AHeap.next H3) && true then some (AVal.bool (decide ((↑d:Int)<(↑k:Int))))=some (AVal.bool true)∧some (AVal.bool (decide ((↑k:Int)<(↑z:Int))))=some (AVal.bool false)∧bif Nat.ble (AHeap.next H) (AHeap.next H3+8)then K0 (AVal.tuple []) (AHeap.mk (AHeap.next H3+8) (AHeap.blks H3))else False else False else False else False else False else False else False else False else False else False else False else False else False else False else False else False) :
    ∃ v h1,FDoes Tryz.prog cnd 161 [dv,.int .i64 a,.int .i64 m,.int .i64 z,cv] H v h1∧K0 v h1 :=
  tcall_does env_ok mixed noSpecs_ok (hs:= .hint (.go 2) (.hint (.val 3 (AVal.bool false)) (.hint (.go 12002) (.hint (.val 12003 (AVal.bool false)) (.hint (.go 24002) (.hint (.go 24003) (.hint (.go 24004) (.hint (.val 24005 (AVal.int IntKind.i64 (↑d:Int))) (.hint (.val 25002 (AVal.int IntKind.i64 (↑n:Int))) (.hint (.val 27002 (AVal.bool true)) (.hint (.val 28002 (AVal.int IntKind.i64 (↑s:Int))) (.hint (.val 32001 (AVal.int IntKind.i64 (↑w:Int))) (.hint (.keep [0,1,2,3,4,18,19,20,21,22]) (.hint (.loop [(0,dv),(1,AVal.int IntKind.i64 (↑a:Int)),(2,AVal.int IntKind.i64 (↑m:Int)),(3,AVal.int IntKind.i64 (↑z:Int)),(4,cv),(18,AVal.int IntKind.i64 (↑d:Int)),(19,AVal.int IntKind.i64 (↑n:Int)),(20,AVal.int IntKind.i64 (↑i:Int))] H1 (AExit.exit 8)) (.hint (.val 38002 (AVal.int IntKind.i64 (↑k:Int))) (.hint (.val 39002 (AVal.bool true)) (.hint (.val 39006 (AVal.bool true)) (.hint (.act 40005 (AVal.tuple []) fun x=>H2) (.hint (.val 41002 (AVal.bool true)) (.hint (.val 41006 (AVal.bool true)) (.hint (.act 42005 (AVal.tuple []) fun x=>H3) (.hint (.val 43002 (AVal.bool true)) (.hint (.val 43006 (AVal.bool false)) .nil))))))))))))))))))))))) (by kernel_rfl) vc
theorem smD_vc(H H1 H2 H3 H4:AHeap)(a m z d n s w i k:Nat)(dv cv:AVal)(K0:AVal→AHeap→Prop)(vc:bif Nat.ble (AHeap.next H) (AHeap.next H) && true then(-9223372036854775808≤(↑m:Int)- (↑a:Int)∧(↑m:Int)- (↑a:Int)≤9223372036854775807)∧some (AVal.bool ((↑m:Int)- (↑a:Int) == 1))=some (AVal.bool false)∧bif Nat.ble (AHeap.next H) (AHeap.next H+4) && true then(-9223372036854775808≤(↑z:Int)- (↑m:Int)∧(↑z:Int)- (↑m:Int)≤9223372036854775807)∧some (AVal.bool ((↑z:Int)- (↑m:Int) == 1))=some (AVal.bool false)∧bif Nat.ble (AHeap.next H) (AHeap.next H+8) && true then(-9223372036854775808≤(↑a:Int)+(↑z:Int)∧(↑a:Int)+(↑z:Int)≤9223372036854775807)∧(0≤(↑a:Int)+(↑z:Int)∧(↑a:Int)+(↑z:Int)≤18446744073709551615)∧Int.NonNeg (1-0)∧aop env noCall (AHeap.next H+13) (getF [(133,AVal.int IntKind.u64 (ishr IntKind.u64 ((↑a:Int)+(↑z:Int)) (1))),(132,AVal.int IntKind.u64 ((↑a:Int)+(↑z:Int))),(131,AVal.int IntKind.i64 ((↑a:Int)+(↑z:Int))),(130,AVal.int IntKind.i64 (↑z:Int)),(129,AVal.int IntKind.i64 (↑a:Int)),(80,AVal.bool false),(79,AVal.int IntKind.i64 ((↑z:Int)- (↑m:Int))),(78,AVal.int IntKind.i64 (↑m:Int)),(77,AVal.int IntKind.i64 (↑z:Int)),(28,AVal.bool false),(27,AVal.int IntKind.i64 ((↑m:Int)- (↑a:Int))),(26,AVal.int IntKind.i64 (↑a:Int)),(25,AVal.int IntKind.i64 (↑m:Int)),(0,dv),(1,AVal.int IntKind.i64 (↑a:Int)),(2,AVal.int IntKind.i64 (↑m:Int)),(3,AVal.int IntKind.i64 (↑z:Int)),(4,cv)]) (AHeap.mk (AHeap.next H+15) (H.2)) (Op.convert 108 3 (Operand.tmp 133))=some (AVal.int IntKind.i64 (↑d:Int),(AHeap.mk (AHeap.next H+15) (H.2)))∧bif Nat.ble (AHeap.next H) (AHeap.next H+15) && true then some (AVal.int IntKind.i64 (IntKind.wrap IntKind.i64 ((↑d:Int)+(↑m:Int))))=some (AVal.int IntKind.i64 (↑n:Int))∧bif Nat.ble (AHeap.next H) (AHeap.next H+19) && true then bif Nat.ble (AHeap.next H) (AHeap.next H+21) && true then some (AVal.bool (decide ((↑m:Int)>(↑d:Int))))=some (AVal.bool true)∧bif Nat.ble (AHeap.next H) (AHeap.next H+24) && true then some (AVal.int IntKind.i64 (IntKind.wrap IntKind.i64 ((↑n:Int)- (↑z:Int))))=some (AVal.int IntKind.i64 (↑s:Int))∧bif Nat.ble (AHeap.next H) (AHeap.next H+28) && true then bif Nat.ble (AHeap.next H) (AHeap.next H+30) && true then some (AVal.int IntKind.i64 (IntKind.wrap IntKind.i64 ((↑n:Int)-1)))=some (AVal.int IntKind.i64 (↑w:Int))∧Runs Tryz.prog cnd (AHeap.next H) 220 (Code.loop (loopAt Tryz.prog 161 4)) [(0,dv),(1,AVal.int IntKind.i64 (↑a:Int)),(2,AVal.int IntKind.i64 (↑m:Int)),(3,AVal.int IntKind.i64 (↑z:Int)),(4,cv),(18,AVal.int IntKind.i64 (↑d:Int)),(19,AVal.int IntKind.i64 (↑n:Int)),(20,AVal.int IntKind.i64 (↑s:Int)),(21,AVal.int IntKind.i64 (↑d:Int)),(22,AVal.int IntKind.i64 (↑w:Int))] (AHeap.mk (AHeap.next H+30+3) (AHeap.blks (AHeap.mk (AHeap.next H+28+2) (AHeap.blks (AHeap.mk (AHeap.next H+24+4) (AHeap.blks (AHeap.mk (AHeap.next H+21+3) (AHeap.blks (AHeap.mk (AHeap.next H+19+2) (AHeap.blks (AHeap.mk (AHeap.next H+15+4) (AHeap.blks (AHeap.mk (AHeap.next H+8+7) (AHeap.blks (AHeap.mk (AHeap.next H+4+4) (AHeap.blks (AHeap.mk (AHeap.next H+4) (AHeap.blks H)))))))))))))))))) (AExit.exit 8) [(0,dv),(1,AVal.int IntKind.i64 (↑a:Int)),(2,AVal.int IntKind.i64 (↑m:Int)),(3,AVal.int IntKind.i64 (↑z:Int)),(4,cv),(18,AVal.int IntKind.i64 (↑d:Int)),(19,AVal.int IntKind.i64 (↑n:Int)),(20,AVal.int IntKind.i64 (↑i:Int))] H1∧bif Nat.ble (AHeap.next H) (AHeap.next H1) && true then some (AVal.int IntKind.i64 (IntKind.wrap IntKind.i64 ((↑n:Int)- (↑i:Int))))=some (AVal.int IntKind.i64 (↑k:Int))∧bif Nat.ble (AHeap.next H) (AHeap.next H1+4) && true then some (AVal.bool (decide ((↑i:Int)<(↑m:Int))))=some (AVal.bool true)∧some (AVal.bool (decide ((↑m:Int)<(↑k:Int))))=some (AVal.bool true)∧bif Nat.ble (AHeap.next H) (AHeap.next H1+12) && true then CallT Tryz.prog cnd 195 [dv,AVal.int IntKind.i64 (↑i:Int),AVal.int IntKind.i64 (↑m:Int),AVal.int IntKind.i64 (↑k:Int),cv] (AHeap.mk (AHeap.next H1+18) (H1.2)) (AVal.tuple []) H2∧bif Nat.ble (AHeap.next H) (AHeap.next H2) && true then some (AVal.bool (decide ((↑a:Int)<(↑i:Int))))=some (AVal.bool false)∧bif Nat.ble (AHeap.next H) (AHeap.next H2+8) && true then some (AVal.bool (decide ((↑d:Int)<(↑k:Int))))=some (AVal.bool true)∧some (AVal.bool (decide ((↑k:Int)<(↑z:Int))))=some (AVal.bool true)∧bif Nat.ble (AHeap.next H) (AHeap.next H2+16) && true then CallT Tryz.prog cnd 161 [dv,AVal.int IntKind.i64 (↑d:Int),AVal.int IntKind.i64 (↑k:Int),AVal.int IntKind.i64 (↑z:Int),cv] (AHeap.mk (AHeap.next H2+22) (H2.2)) (AVal.tuple []) H4∧bif Nat.ble (AHeap.next H) (AHeap.next H4)then K0 (AVal.tuple []) H4 else False else False else False else False else False else False else False else False else False else False else False else False else False else False else False else False) :
    ∃ v h1,FDoes Tryz.prog cnd 161 [dv,.int .i64 a,.int .i64 m,.int .i64 z,cv] H v h1∧K0 v h1 :=
  tcall_does env_ok mixed noSpecs_ok (hs:= .hint (.go 2) (.hint (.val 3 (AVal.bool false)) (.hint (.go 12002) (.hint (.val 12003 (AVal.bool false)) (.hint (.go 24002) (.hint (.go 24003) (.hint (.go 24004) (.hint (.val 24005 (AVal.int IntKind.i64 (↑d:Int))) (.hint (.val 25002 (AVal.int IntKind.i64 (↑n:Int))) (.hint (.val 27002 (AVal.bool true)) (.hint (.val 28002 (AVal.int IntKind.i64 (↑s:Int))) (.hint (.val 32001 (AVal.int IntKind.i64 (↑w:Int))) (.hint (.keep [0,1,2,3,4,18,19,20,21,22]) (.hint (.loop [(0,dv),(1,AVal.int IntKind.i64 (↑a:Int)),(2,AVal.int IntKind.i64 (↑m:Int)),(3,AVal.int IntKind.i64 (↑z:Int)),(4,cv),(18,AVal.int IntKind.i64 (↑d:Int)),(19,AVal.int IntKind.i64 (↑n:Int)),(20,AVal.int IntKind.i64 (↑i:Int))] H1 (AExit.exit 8)) (.hint (.val 38002 (AVal.int IntKind.i64 (↑k:Int))) (.hint (.val 39002 (AVal.bool true)) (.hint (.val 39006 (AVal.bool true)) (.hint (.act 40005 (AVal.tuple []) fun x=>H2) (.hint (.val 41002 (AVal.bool false)) (.hint (.val 43002 (AVal.bool true)) (.hint (.val 43006 (AVal.bool true)) (.hint (.act 44005 (AVal.tuple []) fun x=>H4) .nil)))))))))))))))))))))) (by kernel_rfl) vc
theorem smE_vc(H H1 H2 H3 H4:AHeap)(a m z d n s w i k:Nat)(dv cv:AVal)(K0:AVal→AHeap→Prop)(vc:bif Nat.ble (AHeap.next H) (AHeap.next H) && true then(-9223372036854775808≤(↑m:Int)- (↑a:Int)∧(↑m:Int)- (↑a:Int)≤9223372036854775807)∧some (AVal.bool ((↑m:Int)- (↑a:Int) == 1))=some (AVal.bool false)∧bif Nat.ble (AHeap.next H) (AHeap.next H+4) && true then(-9223372036854775808≤(↑z:Int)- (↑m:Int)∧(↑z:Int)- (↑m:Int)≤9223372036854775807)∧some (AVal.bool ((↑z:Int)- (↑m:Int) == 1))=some (AVal.bool false)∧bif Nat.ble (AHeap.next H) (AHeap.next H+8) && true then(-9223372036854775808≤(↑a:Int)+(↑z:Int)∧(↑a:Int)+(↑z:Int)≤9223372036854775807)∧(0≤(↑a:Int)+(↑z:Int)∧(↑a:Int)+(↑z:Int)≤18446744073709551615)∧Int.NonNeg (1-0)∧aop env noCall (AHeap.next H+13) (getF [(133,AVal.int IntKind.u64 (ishr IntKind.u64 ((↑a:Int)+(↑z:Int)) (1))),(132,AVal.int IntKind.u64 ((↑a:Int)+(↑z:Int))),(131,AVal.int IntKind.i64 ((↑a:Int)+(↑z:Int))),(130,AVal.int IntKind.i64 (↑z:Int)),(129,AVal.int IntKind.i64 (↑a:Int)),(80,AVal.bool false),(79,AVal.int IntKind.i64 ((↑z:Int)- (↑m:Int))),(78,AVal.int IntKind.i64 (↑m:Int)),(77,AVal.int IntKind.i64 (↑z:Int)),(28,AVal.bool false),(27,AVal.int IntKind.i64 ((↑m:Int)- (↑a:Int))),(26,AVal.int IntKind.i64 (↑a:Int)),(25,AVal.int IntKind.i64 (↑m:Int)),(0,dv),(1,AVal.int IntKind.i64 (↑a:Int)),(2,AVal.int IntKind.i64 (↑m:Int)),(3,AVal.int IntKind.i64 (↑z:Int)),(4,cv)]) (AHeap.mk (AHeap.next H+15) (H.2)) (Op.convert 108 3 (Operand.tmp 133))=some (AVal.int IntKind.i64 (↑d:Int),(AHeap.mk (AHeap.next H+15) (H.2)))∧bif Nat.ble (AHeap.next H) (AHeap.next H+15) && true then some (AVal.int IntKind.i64 (IntKind.wrap IntKind.i64 ((↑d:Int)+(↑m:Int))))=some (AVal.int IntKind.i64 (↑n:Int))∧bif Nat.ble (AHeap.next H) (AHeap.next H+19) && true then bif Nat.ble (AHeap.next H) (AHeap.next H+21) && true then some (AVal.bool (decide ((↑m:Int)>(↑d:Int))))=some (AVal.bool true)∧bif Nat.ble (AHeap.next H) (AHeap.next H+24) && true then some (AVal.int IntKind.i64 (IntKind.wrap IntKind.i64 ((↑n:Int)- (↑z:Int))))=some (AVal.int IntKind.i64 (↑s:Int))∧bif Nat.ble (AHeap.next H) (AHeap.next H+28) && true then bif Nat.ble (AHeap.next H) (AHeap.next H+30) && true then some (AVal.int IntKind.i64 (IntKind.wrap IntKind.i64 ((↑n:Int)-1)))=some (AVal.int IntKind.i64 (↑w:Int))∧Runs Tryz.prog cnd (AHeap.next H) 220 (Code.loop (loopAt Tryz.prog 161 4)) [(0,dv),(1,AVal.int IntKind.i64 (↑a:Int)),(2,AVal.int IntKind.i64 (↑m:Int)),(3,AVal.int IntKind.i64 (↑z:Int)),(4,cv),(18,AVal.int IntKind.i64 (↑d:Int)),(19,AVal.int IntKind.i64 (↑n:Int)),(20,AVal.int IntKind.i64 (↑s:Int)),(21,AVal.int IntKind.i64 (↑d:Int)),(22,AVal.int IntKind.i64 (↑w:Int))] (AHeap.mk (AHeap.next H+30+3) (AHeap.blks (AHeap.mk (AHeap.next H+28+2) (AHeap.blks (AHeap.mk (AHeap.next H+24+4) (AHeap.blks (AHeap.mk (AHeap.next H+21+3) (AHeap.blks (AHeap.mk (AHeap.next H+19+2) (AHeap.blks (AHeap.mk (AHeap.next H+15+4) (AHeap.blks (AHeap.mk (AHeap.next H+8+7) (AHeap.blks (AHeap.mk (AHeap.next H+4+4) (AHeap.blks (AHeap.mk (AHeap.next H+4) (AHeap.blks H)))))))))))))))))) (AExit.exit 8) [(0,dv),(1,AVal.int IntKind.i64 (↑a:Int)),(2,AVal.int IntKind.i64 (↑m:Int)),(3,AVal.int IntKind.i64 (↑z:Int)),(4,cv),(18,AVal.int IntKind.i64 (↑d:Int)),(19,AVal.int IntKind.i64 (↑n:Int)),(20,AVal.int IntKind.i64 (↑i:Int))] H1∧bif Nat.ble (AHeap.next H) (AHeap.next H1) && true then some (AVal.int IntKind.i64 (IntKind.wrap IntKind.i64 ((↑n:Int)- (↑i:Int))))=some (AVal.int IntKind.i64 (↑k:Int))∧bif Nat.ble (AHeap.next H) (AHeap.next H1+4) && true then some (AVal.bool (decide ((↑i:Int)<(↑m:Int))))=some (AVal.bool true)∧some (AVal.bool (decide ((↑m:Int)<(↑k:Int))))=some (AVal.bool true)∧bif Nat.ble (AHeap.next H) (AHeap.next H1+12) && true then CallT Tryz.prog cnd 195 [dv,AVal.int IntKind.i64 (↑i:Int),AVal.int IntKind.i64 (↑m:Int),AVal.int IntKind.i64 (↑k:Int),cv] (AHeap.mk (AHeap.next H1+18) (H1.2)) (AVal.tuple []) H2∧bif Nat.ble (AHeap.next H) (AHeap.next H2) && true then some (AVal.bool (decide ((↑a:Int)<(↑i:Int))))=some (AVal.bool false)∧bif Nat.ble (AHeap.next H) (AHeap.next H2+8) && true then some (AVal.bool (decide ((↑d:Int)<(↑k:Int))))=some (AVal.bool true)∧some (AVal.bool (decide ((↑k:Int)<(↑z:Int))))=some (AVal.bool false)∧bif Nat.ble (AHeap.next H) (AHeap.next H2+16)then K0 (AVal.tuple []) (AHeap.mk (AHeap.next H2+8+8) (AHeap.blks (AHeap.mk (AHeap.next H2+8) (AHeap.blks H2))))else False else False else False else False else False else False else False else False else False else False else False else False else False else False else False) :
    ∃ v h1,FDoes Tryz.prog cnd 161 [dv,.int .i64 a,.int .i64 m,.int .i64 z,cv] H v h1∧K0 v h1 :=
  tcall_does env_ok mixed noSpecs_ok (hs:= .hint (.go 2) (.hint (.val 3 (AVal.bool false)) (.hint (.go 12002) (.hint (.val 12003 (AVal.bool false)) (.hint (.go 24002) (.hint (.go 24003) (.hint (.go 24004) (.hint (.val 24005 (AVal.int IntKind.i64 (↑d:Int))) (.hint (.val 25002 (AVal.int IntKind.i64 (↑n:Int))) (.hint (.val 27002 (AVal.bool true)) (.hint (.val 28002 (AVal.int IntKind.i64 (↑s:Int))) (.hint (.val 32001 (AVal.int IntKind.i64 (↑w:Int))) (.hint (.keep [0,1,2,3,4,18,19,20,21,22]) (.hint (.loop [(0,dv),(1,AVal.int IntKind.i64 (↑a:Int)),(2,AVal.int IntKind.i64 (↑m:Int)),(3,AVal.int IntKind.i64 (↑z:Int)),(4,cv),(18,AVal.int IntKind.i64 (↑d:Int)),(19,AVal.int IntKind.i64 (↑n:Int)),(20,AVal.int IntKind.i64 (↑i:Int))] H1 (AExit.exit 8)) (.hint (.val 38002 (AVal.int IntKind.i64 (↑k:Int))) (.hint (.val 39002 (AVal.bool true)) (.hint (.val 39006 (AVal.bool true)) (.hint (.act 40005 (AVal.tuple []) fun x=>H2) (.hint (.val 41002 (AVal.bool false)) (.hint (.val 43002 (AVal.bool true)) (.hint (.val 43006 (AVal.bool false)) .nil))))))))))))))))))))) (by kernel_rfl) vc
theorem smF_vc(H H1 H2 H3 H4:AHeap)(a m z d n s w i k:Nat)(dv cv:AVal)(K0:AVal→AHeap→Prop)(vc:bif Nat.ble (AHeap.next H) (AHeap.next H) && true then(-9223372036854775808≤(↑m:Int)- (↑a:Int)∧(↑m:Int)- (↑a:Int)≤9223372036854775807)∧some (AVal.bool ((↑m:Int)- (↑a:Int) == 1))=some (AVal.bool false)∧bif Nat.ble (AHeap.next H) (AHeap.next H+4) && true then(-9223372036854775808≤(↑z:Int)- (↑m:Int)∧(↑z:Int)- (↑m:Int)≤9223372036854775807)∧some (AVal.bool ((↑z:Int)- (↑m:Int) == 1))=some (AVal.bool false)∧bif Nat.ble (AHeap.next H) (AHeap.next H+8) && true then(-9223372036854775808≤(↑a:Int)+(↑z:Int)∧(↑a:Int)+(↑z:Int)≤9223372036854775807)∧(0≤(↑a:Int)+(↑z:Int)∧(↑a:Int)+(↑z:Int)≤18446744073709551615)∧Int.NonNeg (1-0)∧aop env noCall (AHeap.next H+13) (getF [(133,AVal.int IntKind.u64 (ishr IntKind.u64 ((↑a:Int)+(↑z:Int)) (1))),(132,AVal.int IntKind.u64 ((↑a:Int)+(↑z:Int))),(131,AVal.int IntKind.i64 ((↑a:Int)+(↑z:Int))),(130,AVal.int IntKind.i64 (↑z:Int)),(129,AVal.int IntKind.i64 (↑a:Int)),(80,AVal.bool false),(79,AVal.int IntKind.i64 ((↑z:Int)- (↑m:Int))),(78,AVal.int IntKind.i64 (↑m:Int)),(77,AVal.int IntKind.i64 (↑z:Int)),(28,AVal.bool false),(27,AVal.int IntKind.i64 ((↑m:Int)- (↑a:Int))),(26,AVal.int IntKind.i64 (↑a:Int)),(25,AVal.int IntKind.i64 (↑m:Int)),(0,dv),(1,AVal.int IntKind.i64 (↑a:Int)),(2,AVal.int IntKind.i64 (↑m:Int)),(3,AVal.int IntKind.i64 (↑z:Int)),(4,cv)]) (AHeap.mk (AHeap.next H+15) (H.2)) (Op.convert 108 3 (Operand.tmp 133))=some (AVal.int IntKind.i64 (↑d:Int),(AHeap.mk (AHeap.next H+15) (H.2)))∧bif Nat.ble (AHeap.next H) (AHeap.next H+15) && true then some (AVal.int IntKind.i64 (IntKind.wrap IntKind.i64 ((↑d:Int)+(↑m:Int))))=some (AVal.int IntKind.i64 (↑n:Int))∧bif Nat.ble (AHeap.next H) (AHeap.next H+19) && true then bif Nat.ble (AHeap.next H) (AHeap.next H+21) && true then some (AVal.bool (decide ((↑m:Int)>(↑d:Int))))=some (AVal.bool false)∧bif Nat.ble (AHeap.next H) (AHeap.next H+24) && true then bif Nat.ble (AHeap.next H) (AHeap.next H+26) && true then bif Nat.ble (AHeap.next H) (AHeap.next H+28) && true then some (AVal.int IntKind.i64 (IntKind.wrap IntKind.i64 ((↑n:Int)-1)))=some (AVal.int IntKind.i64 (↑w:Int))∧Runs Tryz.prog cnd (AHeap.next H) 220 (Code.loop (loopAt Tryz.prog 161 4)) [(0,dv),(1,AVal.int IntKind.i64 (↑a:Int)),(2,AVal.int IntKind.i64 (↑m:Int)),(3,AVal.int IntKind.i64 (↑z:Int)),(4,cv),(18,AVal.int IntKind.i64 (↑d:Int)),(19,AVal.int IntKind.i64 (↑n:Int)),(20,AVal.int IntKind.i64 (↑a:Int)),(21,AVal.int IntKind.i64 (↑m:Int)),(22,AVal.int IntKind.i64 (↑w:Int))] (AHeap.mk (AHeap.next H+28+3) (AHeap.blks (AHeap.mk (AHeap.next H+26+2) (AHeap.blks (AHeap.mk (AHeap.next H+24+2) (AHeap.blks (AHeap.mk (AHeap.next H+21+3) (AHeap.blks (AHeap.mk (AHeap.next H+19+2) (AHeap.blks (AHeap.mk (AHeap.next H+15+4) (AHeap.blks (AHeap.mk (AHeap.next H+8+7) (AHeap.blks (AHeap.mk (AHeap.next H+4+4) (AHeap.blks (AHeap.mk (AHeap.next H+4) (AHeap.blks H)))))))))))))))))) (AExit.exit 8) [(0,dv),(1,AVal.int IntKind.i64 (↑a:Int)),(2,AVal.int IntKind.i64 (↑m:Int)),(3,AVal.int IntKind.i64 (↑z:Int)),(4,cv),(18,AVal.int IntKind.i64 (↑d:Int)),(19,AVal.int IntKind.i64 (↑n:Int)),(20,AVal.int IntKind.i64 (↑i:Int))] H1∧bif Nat.ble (AHeap.next H) (AHeap.next H1) && true then some (AVal.int IntKind.i64 (IntKind.wrap IntKind.i64 ((↑n:Int)- (↑i:Int))))=some (AVal.int IntKind.i64 (↑k:Int))∧bif Nat.ble (AHeap.next H) (AHeap.next H1+4) && true then some (AVal.bool (decide ((↑i:Int)<(↑m:Int))))=some (AVal.bool true)∧some (AVal.bool (decide ((↑m:Int)<(↑k:Int))))=some (AVal.bool true)∧bif Nat.ble (AHeap.next H) (AHeap.next H1+12) && true then CallT Tryz.prog cnd 195 [dv,AVal.int IntKind.i64 (↑i:Int),AVal.int IntKind.i64 (↑m:Int),AVal.int IntKind.i64 (↑k:Int),cv] (AHeap.mk (AHeap.next H1+18) (H1.2)) (AVal.tuple []) H2∧bif Nat.ble (AHeap.next H) (AHeap.next H2) && true then some (AVal.bool (decide ((↑a:Int)<(↑i:Int))))=some (AVal.bool true)∧some (AVal.bool (decide ((↑i:Int)<(↑d:Int))))=some (AVal.bool true)∧bif Nat.ble (AHeap.next H) (AHeap.next H2+8) && true then CallT Tryz.prog cnd 161 [dv,AVal.int IntKind.i64 (↑a:Int),AVal.int IntKind.i64 (↑i:Int),AVal.int IntKind.i64 (↑d:Int),cv] (AHeap.mk (AHeap.next H2+14) (H2.2)) (AVal.tuple []) H3∧bif Nat.ble (AHeap.next H) (AHeap.next H3) && true then some (AVal.bool (decide ((↑d:Int)<(↑k:Int))))=some (AVal.bool true)∧some (AVal.bool (decide ((↑k:Int)<(↑z:Int))))=some (AVal.bool true)∧bif Nat.ble (AHeap.next H) (AHeap.next H3+8) && true then CallT Tryz.prog cnd 161 [dv,AVal.int IntKind.i64 (↑d:Int),AVal.int IntKind.i64 (↑k:Int),AVal.int IntKind.i64 (↑z:Int),cv] (AHeap.mk (AHeap.next H3+14) (H3.2)) (AVal.tuple []) H4∧bif Nat.ble (AHeap.next H) (AHeap.next H4)then K0 (AVal.tuple []) H4 else False else False else False else False else False else False else False else False else False else False else False else False else False else False else False else False else False) :
    ∃ v h1,FDoes Tryz.prog cnd 161 [dv,.int .i64 a,.int .i64 m,.int .i64 z,cv] H v h1∧K0 v h1 :=
  tcall_does env_ok mixed noSpecs_ok (hs:= .hint (.go 2) (.hint (.val 3 (AVal.bool false)) (.hint (.go 12002) (.hint (.val 12003 (AVal.bool false)) (.hint (.go 24002) (.hint (.go 24003) (.hint (.go 24004) (.hint (.val 24005 (AVal.int IntKind.i64 (↑d:Int))) (.hint (.val 25002 (AVal.int IntKind.i64 (↑n:Int))) (.hint (.val 27002 (AVal.bool false)) (.hint (.val 32001 (AVal.int IntKind.i64 (↑w:Int))) (.hint (.keep [0,1,2,3,4,18,19,20,21,22]) (.hint (.loop [(0,dv),(1,AVal.int IntKind.i64 (↑a:Int)),(2,AVal.int IntKind.i64 (↑m:Int)),(3,AVal.int IntKind.i64 (↑z:Int)),(4,cv),(18,AVal.int IntKind.i64 (↑d:Int)),(19,AVal.int IntKind.i64 (↑n:Int)),(20,AVal.int IntKind.i64 (↑i:Int))] H1 (AExit.exit 8)) (.hint (.val 38002 (AVal.int IntKind.i64 (↑k:Int))) (.hint (.val 39002 (AVal.bool true)) (.hint (.val 39006 (AVal.bool true)) (.hint (.act 40005 (AVal.tuple []) fun x=>H2) (.hint (.val 41002 (AVal.bool true)) (.hint (.val 41006 (AVal.bool true)) (.hint (.act 42005 (AVal.tuple []) fun x=>H3) (.hint (.val 43002 (AVal.bool true)) (.hint (.val 43006 (AVal.bool true)) (.hint (.act 44005 (AVal.tuple []) fun x=>H4) .nil))))))))))))))))))))))) (by kernel_rfl) vc
theorem smG_vc(H H1 H2 H3 H4:AHeap)(a m z d n s w i k:Nat)(dv cv:AVal)(K0:AVal→AHeap→Prop)(vc:bif Nat.ble (AHeap.next H) (AHeap.next H) && true then(-9223372036854775808≤(↑m:Int)- (↑a:Int)∧(↑m:Int)- (↑a:Int)≤9223372036854775807)∧some (AVal.bool ((↑m:Int)- (↑a:Int) == 1))=some (AVal.bool false)∧bif Nat.ble (AHeap.next H) (AHeap.next H+4) && true then(-9223372036854775808≤(↑z:Int)- (↑m:Int)∧(↑z:Int)- (↑m:Int)≤9223372036854775807)∧some (AVal.bool ((↑z:Int)- (↑m:Int) == 1))=some (AVal.bool false)∧bif Nat.ble (AHeap.next H) (AHeap.next H+8) && true then(-9223372036854775808≤(↑a:Int)+(↑z:Int)∧(↑a:Int)+(↑z:Int)≤9223372036854775807)∧(0≤(↑a:Int)+(↑z:Int)∧(↑a:Int)+(↑z:Int)≤18446744073709551615)∧Int.NonNeg (1-0)∧aop env noCall (AHeap.next H+13) (getF [(133,AVal.int IntKind.u64 (ishr IntKind.u64 ((↑a:Int)+(↑z:Int)) (1))),(132,AVal.int IntKind.u64 ((↑a:Int)+(↑z:Int))),(131,AVal.int IntKind.i64 ((↑a:Int)+(↑z:Int))),(130,AVal.int IntKind.i64 (↑z:Int)),(129,AVal.int IntKind.i64 (↑a:Int)),(80,AVal.bool false),(79,AVal.int IntKind.i64 ((↑z:Int)- (↑m:Int))),(78,AVal.int IntKind.i64 (↑m:Int)),(77,AVal.int IntKind.i64 (↑z:Int)),(28,AVal.bool false),(27,AVal.int IntKind.i64 ((↑m:Int)- (↑a:Int))),(26,AVal.int IntKind.i64 (↑a:Int)),(25,AVal.int IntKind.i64 (↑m:Int)),(0,dv),(1,AVal.int IntKind.i64 (↑a:Int)),(2,AVal.int IntKind.i64 (↑m:Int)),(3,AVal.int IntKind.i64 (↑z:Int)),(4,cv)]) (AHeap.mk (AHeap.next H+15) (H.2)) (Op.convert 108 3 (Operand.tmp 133))=some (AVal.int IntKind.i64 (↑d:Int),(AHeap.mk (AHeap.next H+15) (H.2)))∧bif Nat.ble (AHeap.next H) (AHeap.next H+15) && true then some (AVal.int IntKind.i64 (IntKind.wrap IntKind.i64 ((↑d:Int)+(↑m:Int))))=some (AVal.int IntKind.i64 (↑n:Int))∧bif Nat.ble (AHeap.next H) (AHeap.next H+19) && true then bif Nat.ble (AHeap.next H) (AHeap.next H+21) && true then some (AVal.bool (decide ((↑m:Int)>(↑d:Int))))=some (AVal.bool false)∧bif Nat.ble (AHeap.next H) (AHeap.next H+24) && true then bif Nat.ble (AHeap.next H) (AHeap.next H+26) && true then bif Nat.ble (AHeap.next H) (AHeap.next H+28) && true then some (AVal.int IntKind.i64 (IntKind.wrap IntKind.i64 ((↑n:Int)-1)))=some (AVal.int IntKind.i64 (↑w:Int))∧Runs Tryz.prog cnd (AHeap.next H) 220 (Code.loop (loopAt Tryz.prog 161 4)) [(0,dv),(1,AVal.int IntKind.i64 (↑a:Int)),(2,AVal.int IntKind.i64 (↑m:Int)),(3,AVal.int IntKind.i64 (↑z:Int)),(4,cv),(18,AVal.int IntKind.i64 (↑d:Int)),(19,AVal.int IntKind.i64 (↑n:Int)),(20,AVal.int IntKind.i64 (↑a:Int)),(21,AVal.int IntKind.i64 (↑m:Int)),(22,AVal.int IntKind.i64 (↑w:Int))] (AHeap.mk (AHeap.next H+28+3) (AHeap.blks (AHeap.mk (AHeap.next H+26+2) (AHeap.blks (AHeap.mk (AHeap.next H+24+2) (AHeap.blks (AHeap.mk (AHeap.next H+21+3) (AHeap.blks (AHeap.mk (AHeap.next H+19+2) (AHeap.blks (AHeap.mk (AHeap.next H+15+4) (AHeap.blks (AHeap.mk (AHeap.next H+8+7) (AHeap.blks (AHeap.mk (AHeap.next H+4+4) (AHeap.blks (AHeap.mk (AHeap.next H+4) (AHeap.blks H)))))))))))))))))) (AExit.exit 8) [(0,dv),(1,AVal.int IntKind.i64 (↑a:Int)),(2,AVal.int IntKind.i64 (↑m:Int)),(3,AVal.int IntKind.i64 (↑z:Int)),(4,cv),(18,AVal.int IntKind.i64 (↑d:Int)),(19,AVal.int IntKind.i64 (↑n:Int)),(20,AVal.int IntKind.i64 (↑i:Int))] H1∧bif Nat.ble (AHeap.next H) (AHeap.next H1) && true then some (AVal.int IntKind.i64 (IntKind.wrap IntKind.i64 ((↑n:Int)- (↑i:Int))))=some (AVal.int IntKind.i64 (↑k:Int))∧bif Nat.ble (AHeap.next H) (AHeap.next H1+4) && true then some (AVal.bool (decide ((↑i:Int)<(↑m:Int))))=some (AVal.bool true)∧some (AVal.bool (decide ((↑m:Int)<(↑k:Int))))=some (AVal.bool true)∧bif Nat.ble (AHeap.next H) (AHeap.next H1+12) && true then CallT Tryz.prog cnd 195 [dv,AVal.int IntKind.i64 (↑i:Int),AVal.int IntKind.i64 (↑m:Int),AVal.int IntKind.i64 (↑k:Int),cv] (AHeap.mk (AHeap.next H1+18) (H1.2)) (AVal.tuple []) H2∧bif Nat.ble (AHeap.next H) (AHeap.next H2) && true then some (AVal.bool (decide ((↑a:Int)<(↑i:Int))))=some (AVal.bool true)∧some (AVal.bool (decide ((↑i:Int)<(↑d:Int))))=some (AVal.bool true)∧bif Nat.ble (AHeap.next H) (AHeap.next H2+8) && true then CallT Tryz.prog cnd 161 [dv,AVal.int IntKind.i64 (↑a:Int),AVal.int IntKind.i64 (↑i:Int),AVal.int IntKind.i64 (↑d:Int),cv] (AHeap.mk (AHeap.next H2+14) (H2.2)) (AVal.tuple []) H3∧bif Nat.ble (AHeap.next H) (AHeap.next H3) && true then some (AVal.bool (decide ((↑d:Int)<(↑k:Int))))=some (AVal.bool true)∧some (AVal.bool (decide ((↑k:Int)<(↑z:Int))))=some (AVal.bool false)∧bif Nat.ble (AHeap.next H) (AHeap.next H3+8)then K0 (AVal.tuple []) (AHeap.mk (AHeap.next H3+8) (AHeap.blks H3))else False else False else False else False else False else False else False else False else False else False else False else False else False else False else False else False) :
    ∃ v h1,FDoes Tryz.prog cnd 161 [dv,.int .i64 a,.int .i64 m,.int .i64 z,cv] H v h1∧K0 v h1 :=
  tcall_does env_ok mixed noSpecs_ok (hs:= .hint (.go 2) (.hint (.val 3 (AVal.bool false)) (.hint (.go 12002) (.hint (.val 12003 (AVal.bool false)) (.hint (.go 24002) (.hint (.go 24003) (.hint (.go 24004) (.hint (.val 24005 (AVal.int IntKind.i64 (↑d:Int))) (.hint (.val 25002 (AVal.int IntKind.i64 (↑n:Int))) (.hint (.val 27002 (AVal.bool false)) (.hint (.val 32001 (AVal.int IntKind.i64 (↑w:Int))) (.hint (.keep [0,1,2,3,4,18,19,20,21,22]) (.hint (.loop [(0,dv),(1,AVal.int IntKind.i64 (↑a:Int)),(2,AVal.int IntKind.i64 (↑m:Int)),(3,AVal.int IntKind.i64 (↑z:Int)),(4,cv),(18,AVal.int IntKind.i64 (↑d:Int)),(19,AVal.int IntKind.i64 (↑n:Int)),(20,AVal.int IntKind.i64 (↑i:Int))] H1 (AExit.exit 8)) (.hint (.val 38002 (AVal.int IntKind.i64 (↑k:Int))) (.hint (.val 39002 (AVal.bool true)) (.hint (.val 39006 (AVal.bool true)) (.hint (.act 40005 (AVal.tuple []) fun x=>H2) (.hint (.val 41002 (AVal.bool true)) (.hint (.val 41006 (AVal.bool true)) (.hint (.act 42005 (AVal.tuple []) fun x=>H3) (.hint (.val 43002 (AVal.bool true)) (.hint (.val 43006 (AVal.bool false)) .nil)))))))))))))))))))))) (by kernel_rfl) vc
theorem smH_vc(H H1 H2 H3 H4:AHeap)(a m z d n s w i k:Nat)(dv cv:AVal)(K0:AVal→AHeap→Prop)(vc:bif Nat.ble (AHeap.next H) (AHeap.next H) && true then(-9223372036854775808≤(↑m:Int)- (↑a:Int)∧(↑m:Int)- (↑a:Int)≤9223372036854775807)∧some (AVal.bool ((↑m:Int)- (↑a:Int) == 1))=some (AVal.bool false)∧bif Nat.ble (AHeap.next H) (AHeap.next H+4) && true then(-9223372036854775808≤(↑z:Int)- (↑m:Int)∧(↑z:Int)- (↑m:Int)≤9223372036854775807)∧some (AVal.bool ((↑z:Int)- (↑m:Int) == 1))=some (AVal.bool false)∧bif Nat.ble (AHeap.next H) (AHeap.next H+8) && true then(-9223372036854775808≤(↑a:Int)+(↑z:Int)∧(↑a:Int)+(↑z:Int)≤9223372036854775807)∧(0≤(↑a:Int)+(↑z:Int)∧(↑a:Int)+(↑z:Int)≤18446744073709551615)∧Int.NonNeg (1-0)∧aop env noCall (AHeap.next H+13) (getF [(133,AVal.int IntKind.u64 (ishr IntKind.u64 ((↑a:Int)+(↑z:Int)) (1))),(132,AVal.int IntKind.u64 ((↑a:Int)+(↑z:Int))),(131,AVal.int IntKind.i64 ((↑a:Int)+(↑z:Int))),(130,AVal.int IntKind.i64 (↑z:Int)),(129,AVal.int IntKind.i64 (↑a:Int)),(80,AVal.bool false),(79,AVal.int IntKind.i64 ((↑z:Int)- (↑m:Int))),(78,AVal.int IntKind.i64 (↑m:Int)),(77,AVal.int IntKind.i64 (↑z:Int)),(28,AVal.bool false),(27,AVal.int IntKind.i64 ((↑m:Int)- (↑a:Int))),(26,AVal.int IntKind.i64 (↑a:Int)),(25,AVal.int IntKind.i64 (↑m:Int)),(0,dv),(1,AVal.int IntKind.i64 (↑a:Int)),(2,AVal.int IntKind.i64 (↑m:Int)),(3,AVal.int IntKind.i64 (↑z:Int)),(4,cv)]) (AHeap.mk (AHeap.next H+15) (H.2)) (Op.convert 108 3 (Operand.tmp 133))=some (AVal.int IntKind.i64 (↑d:Int),(AHeap.mk (AHeap.next H+15) (H.2)))∧bif Nat.ble (AHeap.next H) (AHeap.next H+15) && true then some (AVal.int IntKind.i64 (IntKind.wrap IntKind.i64 ((↑d:Int)+(↑m:Int))))=some (AVal.int IntKind.i64 (↑n:Int))∧bif Nat.ble (AHeap.next H) (AHeap.next H+19) && true then bif Nat.ble (AHeap.next H) (AHeap.next H+21) && true then some (AVal.bool (decide ((↑m:Int)>(↑d:Int))))=some (AVal.bool false)∧bif Nat.ble (AHeap.next H) (AHeap.next H+24) && true then bif Nat.ble (AHeap.next H) (AHeap.next H+26) && true then bif Nat.ble (AHeap.next H) (AHeap.next H+28) && true then some (AVal.int IntKind.i64 (IntKind.wrap IntKind.i64 ((↑n:Int)-1)))=some (AVal.int IntKind.i64 (↑w:Int))∧Runs Tryz.prog cnd (AHeap.next H) 220 (Code.loop (loopAt Tryz.prog 161 4)) [(0,dv),(1,AVal.int IntKind.i64 (↑a:Int)),(2,AVal.int IntKind.i64 (↑m:Int)),(3,AVal.int IntKind.i64 (↑z:Int)),(4,cv),(18,AVal.int IntKind.i64 (↑d:Int)),(19,AVal.int IntKind.i64 (↑n:Int)),(20,AVal.int IntKind.i64 (↑a:Int)),(21,AVal.int IntKind.i64 (↑m:Int)),(22,AVal.int IntKind.i64 (↑w:Int))] (AHeap.mk (AHeap.next H+28+3) (AHeap.blks (AHeap.mk (AHeap.next H+26+2) (AHeap.blks (AHeap.mk (AHeap.next H+24+2) (AHeap.blks (AHeap.mk (AHeap.next H+21+3) (AHeap.blks (AHeap.mk (AHeap.next H+19+2) (AHeap.blks (AHeap.mk (AHeap.next H+15+4) (AHeap.blks (AHeap.mk (AHeap.next H+8+7) (AHeap.blks (AHeap.mk (AHeap.next H+4+4) (AHeap.blks (AHeap.mk (AHeap.next H+4) (AHeap.blks H)))))))))))))))))) (AExit.exit 8) [(0,dv),(1,AVal.int IntKind.i64 (↑a:Int)),(2,AVal.int IntKind.i64 (↑m:Int)),(3,AVal.int IntKind.i64 (↑z:Int)),(4,cv),(18,AVal.int IntKind.i64 (↑d:Int)),(19,AVal.int IntKind.i64 (↑n:Int)),(20,AVal.int IntKind.i64 (↑i:Int))] H1∧bif Nat.ble (AHeap.next H) (AHeap.next H1) && true then some (AVal.int IntKind.i64 (IntKind.wrap IntKind.i64 ((↑n:Int)- (↑i:Int))))=some (AVal.int IntKind.i64 (↑k:Int))∧bif Nat.ble (AHeap.next H) (AHeap.next H1+4) && true then some (AVal.bool (decide ((↑i:Int)<(↑m:Int))))=some (AVal.bool true)∧some (AVal.bool (decide ((↑m:Int)<(↑k:Int))))=some (AVal.bool true)∧bif Nat.ble (AHeap.next H) (AHeap.next H1+12) && true then CallT Tryz.prog cnd 195 [dv,AVal.int IntKind.i64 (↑i:Int),AVal.int IntKind.i64 (↑m:Int),AVal.int IntKind.i64 (↑k:Int),cv] (AHeap.mk (AHeap.next H1+18) (H1.2)) (AVal.tuple []) H2∧bif Nat.ble (AHeap.next H) (AHeap.next H2) && true then some (AVal.bool (decide ((↑a:Int)<(↑i:Int))))=some (AVal.bool false)∧bif Nat.ble (AHeap.next H) (AHeap.next H2+8) && true then some (AVal.bool (decide ((↑d:Int)<(↑k:Int))))=some (AVal.bool true)∧some (AVal.bool (decide ((↑k:Int)<(↑z:Int))))=some (AVal.bool true)∧bif Nat.ble (AHeap.next H) (AHeap.next H2+16) && true then CallT Tryz.prog cnd 161 [dv,AVal.int IntKind.i64 (↑d:Int),AVal.int IntKind.i64 (↑k:Int),AVal.int IntKind.i64 (↑z:Int),cv] (AHeap.mk (AHeap.next H2+22) (H2.2)) (AVal.tuple []) H4∧bif Nat.ble (AHeap.next H) (AHeap.next H4)then K0 (AVal.tuple []) H4 else False else False else False else False else False else False else False else False else False else False else False else False else False else False else False else False) :
    ∃ v h1,FDoes Tryz.prog cnd 161 [dv,.int .i64 a,.int .i64 m,.int .i64 z,cv] H v h1∧K0 v h1 :=
  tcall_does env_ok mixed noSpecs_ok (hs:= .hint (.go 2) (.hint (.val 3 (AVal.bool false)) (.hint (.go 12002) (.hint (.val 12003 (AVal.bool false)) (.hint (.go 24002) (.hint (.go 24003) (.hint (.go 24004) (.hint (.val 24005 (AVal.int IntKind.i64 (↑d:Int))) (.hint (.val 25002 (AVal.int IntKind.i64 (↑n:Int))) (.hint (.val 27002 (AVal.bool false)) (.hint (.val 32001 (AVal.int IntKind.i64 (↑w:Int))) (.hint (.keep [0,1,2,3,4,18,19,20,21,22]) (.hint (.loop [(0,dv),(1,AVal.int IntKind.i64 (↑a:Int)),(2,AVal.int IntKind.i64 (↑m:Int)),(3,AVal.int IntKind.i64 (↑z:Int)),(4,cv),(18,AVal.int IntKind.i64 (↑d:Int)),(19,AVal.int IntKind.i64 (↑n:Int)),(20,AVal.int IntKind.i64 (↑i:Int))] H1 (AExit.exit 8)) (.hint (.val 38002 (AVal.int IntKind.i64 (↑k:Int))) (.hint (.val 39002 (AVal.bool true)) (.hint (.val 39006 (AVal.bool true)) (.hint (.act 40005 (AVal.tuple []) fun x=>H2) (.hint (.val 41002 (AVal.bool false)) (.hint (.val 43002 (AVal.bool true)) (.hint (.val 43006 (AVal.bool true)) (.hint (.act 44005 (AVal.tuple []) fun x=>H4) .nil))))))))))))))))))))) (by kernel_rfl) vc
theorem smI_vc(H H1 H2 H3 H4:AHeap)(a m z d n s w i k:Nat)(dv cv:AVal)(K0:AVal→AHeap→Prop)(vc:bif Nat.ble (AHeap.next H) (AHeap.next H) && true then(-9223372036854775808≤(↑m:Int)- (↑a:Int)∧(↑m:Int)- (↑a:Int)≤9223372036854775807)∧some (AVal.bool ((↑m:Int)- (↑a:Int) == 1))=some (AVal.bool false)∧bif Nat.ble (AHeap.next H) (AHeap.next H+4) && true then(-9223372036854775808≤(↑z:Int)- (↑m:Int)∧(↑z:Int)- (↑m:Int)≤9223372036854775807)∧some (AVal.bool ((↑z:Int)- (↑m:Int) == 1))=some (AVal.bool false)∧bif Nat.ble (AHeap.next H) (AHeap.next H+8) && true then(-9223372036854775808≤(↑a:Int)+(↑z:Int)∧(↑a:Int)+(↑z:Int)≤9223372036854775807)∧(0≤(↑a:Int)+(↑z:Int)∧(↑a:Int)+(↑z:Int)≤18446744073709551615)∧Int.NonNeg (1-0)∧aop env noCall (AHeap.next H+13) (getF [(133,AVal.int IntKind.u64 (ishr IntKind.u64 ((↑a:Int)+(↑z:Int)) (1))),(132,AVal.int IntKind.u64 ((↑a:Int)+(↑z:Int))),(131,AVal.int IntKind.i64 ((↑a:Int)+(↑z:Int))),(130,AVal.int IntKind.i64 (↑z:Int)),(129,AVal.int IntKind.i64 (↑a:Int)),(80,AVal.bool false),(79,AVal.int IntKind.i64 ((↑z:Int)- (↑m:Int))),(78,AVal.int IntKind.i64 (↑m:Int)),(77,AVal.int IntKind.i64 (↑z:Int)),(28,AVal.bool false),(27,AVal.int IntKind.i64 ((↑m:Int)- (↑a:Int))),(26,AVal.int IntKind.i64 (↑a:Int)),(25,AVal.int IntKind.i64 (↑m:Int)),(0,dv),(1,AVal.int IntKind.i64 (↑a:Int)),(2,AVal.int IntKind.i64 (↑m:Int)),(3,AVal.int IntKind.i64 (↑z:Int)),(4,cv)]) (AHeap.mk (AHeap.next H+15) (H.2)) (Op.convert 108 3 (Operand.tmp 133))=some (AVal.int IntKind.i64 (↑d:Int),(AHeap.mk (AHeap.next H+15) (H.2)))∧bif Nat.ble (AHeap.next H) (AHeap.next H+15) && true then some (AVal.int IntKind.i64 (IntKind.wrap IntKind.i64 ((↑d:Int)+(↑m:Int))))=some (AVal.int IntKind.i64 (↑n:Int))∧bif Nat.ble (AHeap.next H) (AHeap.next H+19) && true then bif Nat.ble (AHeap.next H) (AHeap.next H+21) && true then some (AVal.bool (decide ((↑m:Int)>(↑d:Int))))=some (AVal.bool false)∧bif Nat.ble (AHeap.next H) (AHeap.next H+24) && true then bif Nat.ble (AHeap.next H) (AHeap.next H+26) && true then bif Nat.ble (AHeap.next H) (AHeap.next H+28) && true then some (AVal.int IntKind.i64 (IntKind.wrap IntKind.i64 ((↑n:Int)-1)))=some (AVal.int IntKind.i64 (↑w:Int))∧Runs Tryz.prog cnd (AHeap.next H) 220 (Code.loop (loopAt Tryz.prog 161 4)) [(0,dv),(1,AVal.int IntKind.i64 (↑a:Int)),(2,AVal.int IntKind.i64 (↑m:Int)),(3,AVal.int IntKind.i64 (↑z:Int)),(4,cv),(18,AVal.int IntKind.i64 (↑d:Int)),(19,AVal.int IntKind.i64 (↑n:Int)),(20,AVal.int IntKind.i64 (↑a:Int)),(21,AVal.int IntKind.i64 (↑m:Int)),(22,AVal.int IntKind.i64 (↑w:Int))] (AHeap.mk (AHeap.next H+28+3) (AHeap.blks (AHeap.mk (AHeap.next H+26+2) (AHeap.blks (AHeap.mk (AHeap.next H+24+2) (AHeap.blks (AHeap.mk (AHeap.next H+21+3) (AHeap.blks (AHeap.mk (AHeap.next H+19+2) (AHeap.blks (AHeap.mk (AHeap.next H+15+4) (AHeap.blks (AHeap.mk (AHeap.next H+8+7) (AHeap.blks (AHeap.mk (AHeap.next H+4+4) (AHeap.blks (AHeap.mk (AHeap.next H+4) (AHeap.blks H)))))))))))))))))) (AExit.exit 8) [(0,dv),(1,AVal.int IntKind.i64 (↑a:Int)),(2,AVal.int IntKind.i64 (↑m:Int)),(3,AVal.int IntKind.i64 (↑z:Int)),(4,cv),(18,AVal.int IntKind.i64 (↑d:Int)),(19,AVal.int IntKind.i64 (↑n:Int)),(20,AVal.int IntKind.i64 (↑i:Int))] H1∧bif Nat.ble (AHeap.next H) (AHeap.next H1) && true then some (AVal.int IntKind.i64 (IntKind.wrap IntKind.i64 ((↑n:Int)- (↑i:Int))))=some (AVal.int IntKind.i64 (↑k:Int))∧bif Nat.ble (AHeap.next H) (AHeap.next H1+4) && true then some (AVal.bool (decide ((↑i:Int)<(↑m:Int))))=some (AVal.bool true)∧some (AVal.bool (decide ((↑m:Int)<(↑k:Int))))=some (AVal.bool true)∧bif Nat.ble (AHeap.next H) (AHeap.next H1+12) && true then CallT Tryz.prog cnd 195 [dv,AVal.int IntKind.i64 (↑i:Int),AVal.int IntKind.i64 (↑m:Int),AVal.int IntKind.i64 (↑k:Int),cv] (AHeap.mk (AHeap.next H1+18) (H1.2)) (AVal.tuple []) H2∧bif Nat.ble (AHeap.next H) (AHeap.next H2) && true then some (AVal.bool (decide ((↑a:Int)<(↑i:Int))))=some (AVal.bool false)∧bif Nat.ble (AHeap.next H) (AHeap.next H2+8) && true then some (AVal.bool (decide ((↑d:Int)<(↑k:Int))))=some (AVal.bool true)∧some (AVal.bool (decide ((↑k:Int)<(↑z:Int))))=some (AVal.bool false)∧bif Nat.ble (AHeap.next H) (AHeap.next H2+16)then K0 (AVal.tuple []) (AHeap.mk (AHeap.next H2+8+8) (AHeap.blks (AHeap.mk (AHeap.next H2+8) (AHeap.blks H2))))else False else False else False else False else False else False else False else False else False else False else False else False else False else False else False) :
    ∃ v h1,FDoes Tryz.prog cnd 161 [dv,.int .i64 a,.int .i64 m,.int .i64 z,cv] H v h1∧K0 v h1 :=
  tcall_does env_ok mixed noSpecs_ok (hs:= .hint (.go 2) (.hint (.val 3 (AVal.bool false)) (.hint (.go 12002) (.hint (.val 12003 (AVal.bool false)) (.hint (.go 24002) (.hint (.go 24003) (.hint (.go 24004) (.hint (.val 24005 (AVal.int IntKind.i64 (↑d:Int))) (.hint (.val 25002 (AVal.int IntKind.i64 (↑n:Int))) (.hint (.val 27002 (AVal.bool false)) (.hint (.val 32001 (AVal.int IntKind.i64 (↑w:Int))) (.hint (.keep [0,1,2,3,4,18,19,20,21,22]) (.hint (.loop [(0,dv),(1,AVal.int IntKind.i64 (↑a:Int)),(2,AVal.int IntKind.i64 (↑m:Int)),(3,AVal.int IntKind.i64 (↑z:Int)),(4,cv),(18,AVal.int IntKind.i64 (↑d:Int)),(19,AVal.int IntKind.i64 (↑n:Int)),(20,AVal.int IntKind.i64 (↑i:Int))] H1 (AExit.exit 8)) (.hint (.val 38002 (AVal.int IntKind.i64 (↑k:Int))) (.hint (.val 39002 (AVal.bool true)) (.hint (.val 39006 (AVal.bool true)) (.hint (.act 40005 (AVal.tuple []) fun x=>H2) (.hint (.val 41002 (AVal.bool false)) (.hint (.val 43002 (AVal.bool true)) (.hint (.val 43006 (AVal.bool false)) .nil)))))))))))))))))))) (by kernel_rfl) vc
theorem smJ_vc(H H1 H2 H3 H4:AHeap)(a m z d n s w i k:Nat)(dv cv:AVal)(K0:AVal→AHeap→Prop)(vc:bif Nat.ble (AHeap.next H) (AHeap.next H) && true then(-9223372036854775808≤(↑m:Int)- (↑a:Int)∧(↑m:Int)- (↑a:Int)≤9223372036854775807)∧some (AVal.bool ((↑m:Int)- (↑a:Int) == 1))=some (AVal.bool false)∧bif Nat.ble (AHeap.next H) (AHeap.next H+4) && true then(-9223372036854775808≤(↑z:Int)- (↑m:Int)∧(↑z:Int)- (↑m:Int)≤9223372036854775807)∧some (AVal.bool ((↑z:Int)- (↑m:Int) == 1))=some (AVal.bool false)∧bif Nat.ble (AHeap.next H) (AHeap.next H+8) && true then(-9223372036854775808≤(↑a:Int)+(↑z:Int)∧(↑a:Int)+(↑z:Int)≤9223372036854775807)∧(0≤(↑a:Int)+(↑z:Int)∧(↑a:Int)+(↑z:Int)≤18446744073709551615)∧Int.NonNeg (1-0)∧aop env noCall (AHeap.next H+13) (getF [(133,AVal.int IntKind.u64 (ishr IntKind.u64 ((↑a:Int)+(↑z:Int)) (1))),(132,AVal.int IntKind.u64 ((↑a:Int)+(↑z:Int))),(131,AVal.int IntKind.i64 ((↑a:Int)+(↑z:Int))),(130,AVal.int IntKind.i64 (↑z:Int)),(129,AVal.int IntKind.i64 (↑a:Int)),(80,AVal.bool false),(79,AVal.int IntKind.i64 ((↑z:Int)- (↑m:Int))),(78,AVal.int IntKind.i64 (↑m:Int)),(77,AVal.int IntKind.i64 (↑z:Int)),(28,AVal.bool false),(27,AVal.int IntKind.i64 ((↑m:Int)- (↑a:Int))),(26,AVal.int IntKind.i64 (↑a:Int)),(25,AVal.int IntKind.i64 (↑m:Int)),(0,dv),(1,AVal.int IntKind.i64 (↑a:Int)),(2,AVal.int IntKind.i64 (↑m:Int)),(3,AVal.int IntKind.i64 (↑z:Int)),(4,cv)]) (AHeap.mk (AHeap.next H+15) (H.2)) (Op.convert 108 3 (Operand.tmp 133))=some (AVal.int IntKind.i64 (↑d:Int),(AHeap.mk (AHeap.next H+15) (H.2)))∧bif Nat.ble (AHeap.next H) (AHeap.next H+15) && true then some (AVal.int IntKind.i64 (IntKind.wrap IntKind.i64 ((↑d:Int)+(↑m:Int))))=some (AVal.int IntKind.i64 (↑n:Int))∧bif Nat.ble (AHeap.next H) (AHeap.next H+19) && true then bif Nat.ble (AHeap.next H) (AHeap.next H+21) && true then some (AVal.bool (decide ((↑m:Int)>(↑d:Int))))=some (AVal.bool false)∧bif Nat.ble (AHeap.next H) (AHeap.next H+24) && true then bif Nat.ble (AHeap.next H) (AHeap.next H+26) && true then bif Nat.ble (AHeap.next H) (AHeap.next H+28) && true then some (AVal.int IntKind.i64 (IntKind.wrap IntKind.i64 ((↑n:Int)-1)))=some (AVal.int IntKind.i64 (↑w:Int))∧Runs Tryz.prog cnd (AHeap.next H) 220 (Code.loop (loopAt Tryz.prog 161 4)) [(0,dv),(1,AVal.int IntKind.i64 (↑a:Int)),(2,AVal.int IntKind.i64 (↑m:Int)),(3,AVal.int IntKind.i64 (↑z:Int)),(4,cv),(18,AVal.int IntKind.i64 (↑d:Int)),(19,AVal.int IntKind.i64 (↑n:Int)),(20,AVal.int IntKind.i64 (↑a:Int)),(21,AVal.int IntKind.i64 (↑m:Int)),(22,AVal.int IntKind.i64 (↑w:Int))] (AHeap.mk (AHeap.next H+28+3) (AHeap.blks (AHeap.mk (AHeap.next H+26+2) (AHeap.blks (AHeap.mk (AHeap.next H+24+2) (AHeap.blks (AHeap.mk (AHeap.next H+21+3) (AHeap.blks (AHeap.mk (AHeap.next H+19+2) (AHeap.blks (AHeap.mk (AHeap.next H+15+4) (AHeap.blks (AHeap.mk (AHeap.next H+8+7) (AHeap.blks (AHeap.mk (AHeap.next H+4+4) (AHeap.blks (AHeap.mk (AHeap.next H+4) (AHeap.blks H)))))))))))))))))) (AExit.exit 8) [(0,dv),(1,AVal.int IntKind.i64 (↑a:Int)),(2,AVal.int IntKind.i64 (↑m:Int)),(3,AVal.int IntKind.i64 (↑z:Int)),(4,cv),(18,AVal.int IntKind.i64 (↑d:Int)),(19,AVal.int IntKind.i64 (↑n:Int)),(20,AVal.int IntKind.i64 (↑i:Int))] H1∧bif Nat.ble (AHeap.next H) (AHeap.next H1) && true then some (AVal.int IntKind.i64 (IntKind.wrap IntKind.i64 ((↑n:Int)- (↑i:Int))))=some (AVal.int IntKind.i64 (↑k:Int))∧bif Nat.ble (AHeap.next H) (AHeap.next H1+4) && true then some (AVal.bool (decide ((↑i:Int)<(↑m:Int))))=some (AVal.bool false)∧bif Nat.ble (AHeap.next H) (AHeap.next H1+12) && true then some (AVal.bool (decide ((↑a:Int)<(↑i:Int))))=some (AVal.bool true)∧some (AVal.bool (decide ((↑i:Int)<(↑d:Int))))=some (AVal.bool true)∧bif Nat.ble (AHeap.next H) (AHeap.next H1+20) && true then CallT Tryz.prog cnd 161 [dv,AVal.int IntKind.i64 (↑a:Int),AVal.int IntKind.i64 (↑i:Int),AVal.int IntKind.i64 (↑d:Int),cv] (AHeap.mk (AHeap.next H1+26) (H1.2)) (AVal.tuple []) H3∧bif Nat.ble (AHeap.next H) (AHeap.next H3) && true then some (AVal.bool (decide ((↑d:Int)<(↑k:Int))))=some (AVal.bool false)∧bif Nat.ble (AHeap.next H) (AHeap.next H3+8)then K0 (AVal.tuple []) (AHeap.mk (AHeap.next H3+8) (AHeap.blks H3))else False else False else False else False else False else False else False else False else False else False else False else False else False else False else False) :
    ∃ v h1,FDoes Tryz.prog cnd 161 [dv,.int .i64 a,.int .i64 m,.int .i64 z,cv] H v h1∧K0 v h1 :=
  tcall_does env_ok mixed noSpecs_ok (hs:= .hint (.go 2) (.hint (.val 3 (AVal.bool false)) (.hint (.go 12002) (.hint (.val 12003 (AVal.bool false)) (.hint (.go 24002) (.hint (.go 24003) (.hint (.go 24004) (.hint (.val 24005 (AVal.int IntKind.i64 (↑d:Int))) (.hint (.val 25002 (AVal.int IntKind.i64 (↑n:Int))) (.hint (.val 27002 (AVal.bool false)) (.hint (.val 32001 (AVal.int IntKind.i64 (↑w:Int))) (.hint (.keep [0,1,2,3,4,18,19,20,21,22]) (.hint (.loop [(0,dv),(1,AVal.int IntKind.i64 (↑a:Int)),(2,AVal.int IntKind.i64 (↑m:Int)),(3,AVal.int IntKind.i64 (↑z:Int)),(4,cv),(18,AVal.int IntKind.i64 (↑d:Int)),(19,AVal.int IntKind.i64 (↑n:Int)),(20,AVal.int IntKind.i64 (↑i:Int))] H1 (AExit.exit 8)) (.hint (.val 38002 (AVal.int IntKind.i64 (↑k:Int))) (.hint (.val 39002 (AVal.bool false)) (.hint (.val 41002 (AVal.bool true)) (.hint (.val 41006 (AVal.bool true)) (.hint (.act 42005 (AVal.tuple []) fun x=>H3) (.hint (.val 43002 (AVal.bool false)) .nil))))))))))))))))))) (by kernel_rfl) vc
theorem smK_vc(H H1 H2 H3 H4:AHeap)(a m z d n s w i k:Nat)(dv cv:AVal)(K0:AVal→AHeap→Prop)(vc:bif Nat.ble (AHeap.next H) (AHeap.next H) && true then(-9223372036854775808≤(↑m:Int)- (↑a:Int)∧(↑m:Int)- (↑a:Int)≤9223372036854775807)∧some (AVal.bool ((↑m:Int)- (↑a:Int) == 1))=some (AVal.bool false)∧bif Nat.ble (AHeap.next H) (AHeap.next H+4) && true then(-9223372036854775808≤(↑z:Int)- (↑m:Int)∧(↑z:Int)- (↑m:Int)≤9223372036854775807)∧some (AVal.bool ((↑z:Int)- (↑m:Int) == 1))=some (AVal.bool false)∧bif Nat.ble (AHeap.next H) (AHeap.next H+8) && true then(-9223372036854775808≤(↑a:Int)+(↑z:Int)∧(↑a:Int)+(↑z:Int)≤9223372036854775807)∧(0≤(↑a:Int)+(↑z:Int)∧(↑a:Int)+(↑z:Int)≤18446744073709551615)∧Int.NonNeg (1-0)∧aop env noCall (AHeap.next H+13) (getF [(133,AVal.int IntKind.u64 (ishr IntKind.u64 ((↑a:Int)+(↑z:Int)) (1))),(132,AVal.int IntKind.u64 ((↑a:Int)+(↑z:Int))),(131,AVal.int IntKind.i64 ((↑a:Int)+(↑z:Int))),(130,AVal.int IntKind.i64 (↑z:Int)),(129,AVal.int IntKind.i64 (↑a:Int)),(80,AVal.bool false),(79,AVal.int IntKind.i64 ((↑z:Int)- (↑m:Int))),(78,AVal.int IntKind.i64 (↑m:Int)),(77,AVal.int IntKind.i64 (↑z:Int)),(28,AVal.bool false),(27,AVal.int IntKind.i64 ((↑m:Int)- (↑a:Int))),(26,AVal.int IntKind.i64 (↑a:Int)),(25,AVal.int IntKind.i64 (↑m:Int)),(0,dv),(1,AVal.int IntKind.i64 (↑a:Int)),(2,AVal.int IntKind.i64 (↑m:Int)),(3,AVal.int IntKind.i64 (↑z:Int)),(4,cv)]) (AHeap.mk (AHeap.next H+15) (H.2)) (Op.convert 108 3 (Operand.tmp 133))=some (AVal.int IntKind.i64 (↑d:Int),(AHeap.mk (AHeap.next H+15) (H.2)))∧bif Nat.ble (AHeap.next H) (AHeap.next H+15) && true then some (AVal.int IntKind.i64 (IntKind.wrap IntKind.i64 ((↑d:Int)+(↑m:Int))))=some (AVal.int IntKind.i64 (↑n:Int))∧bif Nat.ble (AHeap.next H) (AHeap.next H+19) && true then bif Nat.ble (AHeap.next H) (AHeap.next H+21) && true then some (AVal.bool (decide ((↑m:Int)>(↑d:Int))))=some (AVal.bool false)∧bif Nat.ble (AHeap.next H) (AHeap.next H+24) && true then bif Nat.ble (AHeap.next H) (AHeap.next H+26) && true then bif Nat.ble (AHeap.next H) (AHeap.next H+28) && true then some (AVal.int IntKind.i64 (IntKind.wrap IntKind.i64 ((↑n:Int)-1)))=some (AVal.int IntKind.i64 (↑w:Int))∧Runs Tryz.prog cnd (AHeap.next H) 220 (Code.loop (loopAt Tryz.prog 161 4)) [(0,dv),(1,AVal.int IntKind.i64 (↑a:Int)),(2,AVal.int IntKind.i64 (↑m:Int)),(3,AVal.int IntKind.i64 (↑z:Int)),(4,cv),(18,AVal.int IntKind.i64 (↑d:Int)),(19,AVal.int IntKind.i64 (↑n:Int)),(20,AVal.int IntKind.i64 (↑a:Int)),(21,AVal.int IntKind.i64 (↑m:Int)),(22,AVal.int IntKind.i64 (↑w:Int))] (AHeap.mk (AHeap.next H+28+3) (AHeap.blks (AHeap.mk (AHeap.next H+26+2) (AHeap.blks (AHeap.mk (AHeap.next H+24+2) (AHeap.blks (AHeap.mk (AHeap.next H+21+3) (AHeap.blks (AHeap.mk (AHeap.next H+19+2) (AHeap.blks (AHeap.mk (AHeap.next H+15+4) (AHeap.blks (AHeap.mk (AHeap.next H+8+7) (AHeap.blks (AHeap.mk (AHeap.next H+4+4) (AHeap.blks (AHeap.mk (AHeap.next H+4) (AHeap.blks H)))))))))))))))))) (AExit.exit 8) [(0,dv),(1,AVal.int IntKind.i64 (↑a:Int)),(2,AVal.int IntKind.i64 (↑m:Int)),(3,AVal.int IntKind.i64 (↑z:Int)),(4,cv),(18,AVal.int IntKind.i64 (↑d:Int)),(19,AVal.int IntKind.i64 (↑n:Int)),(20,AVal.int IntKind.i64 (↑i:Int))] H1∧bif Nat.ble (AHeap.next H) (AHeap.next H1) && true then some (AVal.int IntKind.i64 (IntKind.wrap IntKind.i64 ((↑n:Int)- (↑i:Int))))=some (AVal.int IntKind.i64 (↑k:Int))∧bif Nat.ble (AHeap.next H) (AHeap.next H1+4) && true then some (AVal.bool (decide ((↑i:Int)<(↑m:Int))))=some (AVal.bool false)∧bif Nat.ble (AHeap.next H) (AHeap.next H1+12) && true then some (AVal.bool (decide ((↑a:Int)<(↑i:Int))))=some (AVal.bool true)∧some (AVal.bool (decide ((↑i:Int)<(↑d:Int))))=some (AVal.bool false)∧bif Nat.ble (AHeap.next H) (AHeap.next H1+20) && true then some (AVal.bool (decide ((↑d:Int)<(↑k:Int))))=some (AVal.bool false)∧bif Nat.ble (AHeap.next H) (AHeap.next H1+28)then K0 (AVal.tuple []) (AHeap.mk (AHeap.next H1+20+8) (AHeap.blks (AHeap.mk (AHeap.next H1+12+8) (AHeap.blks (AHeap.mk (AHeap.next H1+4+8) (AHeap.blks (AHeap.mk (AHeap.next H1+4) (AHeap.blks H1))))))))else False else False else False else False else False else False else False else False else False else False else False else False else False else False) :
    ∃ v h1,FDoes Tryz.prog cnd 161 [dv,.int .i64 a,.int .i64 m,.int .i64 z,cv] H v h1∧K0 v h1 :=
  tcall_does env_ok mixed noSpecs_ok (hs:= .hint (.go 2) (.hint (.val 3 (AVal.bool false)) (.hint (.go 12002) (.hint (.val 12003 (AVal.bool false)) (.hint (.go 24002) (.hint (.go 24003) (.hint (.go 24004) (.hint (.val 24005 (AVal.int IntKind.i64 (↑d:Int))) (.hint (.val 25002 (AVal.int IntKind.i64 (↑n:Int))) (.hint (.val 27002 (AVal.bool false)) (.hint (.val 32001 (AVal.int IntKind.i64 (↑w:Int))) (.hint (.keep [0,1,2,3,4,18,19,20,21,22]) (.hint (.loop [(0,dv),(1,AVal.int IntKind.i64 (↑a:Int)),(2,AVal.int IntKind.i64 (↑m:Int)),(3,AVal.int IntKind.i64 (↑z:Int)),(4,cv),(18,AVal.int IntKind.i64 (↑d:Int)),(19,AVal.int IntKind.i64 (↑n:Int)),(20,AVal.int IntKind.i64 (↑i:Int))] H1 (AExit.exit 8)) (.hint (.val 38002 (AVal.int IntKind.i64 (↑k:Int))) (.hint (.val 39002 (AVal.bool false)) (.hint (.val 41002 (AVal.bool true)) (.hint (.val 41006 (AVal.bool false)) (.hint (.val 43002 (AVal.bool false)) .nil)))))))))))))))))) (by kernel_rfl) vc
end Go.Proofs.YtjpfnbihopoeeaaGreatDoor
namespace Go.Proofs.YtjpfnbihopoeeaaGreatDoor
open Go.Lift
set_option maxRecDepth 1000000
theorem t0S_vp(H H1:AHeap)(B n s a i:Nat)(dv cv:AVal)(K0:AExit→Facts→AHeap→Prop)(vc:bif Nat.ble B (AHeap.next H) && true then some (AVal.bool (decide ((↑i:Int)≤(↑n:Int))))=some (AVal.bool true)∧bif Nat.ble B (AHeap.next H+3) && true then CallT Tryz.prog cnd 160 [dv,AVal.int IntKind.i64 (↑a:Int),AVal.int IntKind.i64 (↑i:Int),cv] (AHeap.mk (AHeap.next H+8) (H.2)) (AVal.tuple []) H1∧bif Nat.ble B (AHeap.next H1) && true then bif Nat.ble B (AHeap.next H1+2) && true then(-9223372036854775808≤(↑i:Int)+(↑s:Int)∧(↑i:Int)+(↑s:Int)≤9223372036854775807)∧K0 AExit.normal [(0,dv),(1,AVal.int IntKind.i64 (↑n:Int)),(2,cv),(6,AVal.int IntKind.i64 (↑s:Int)),(7,AVal.int IntKind.i64 (↑i:Int)),(8,AVal.int IntKind.i64 ((↑i:Int)+(↑s:Int)))] (AHeap.mk (AHeap.next H1+2+4) (AHeap.blks (AHeap.mk (AHeap.next H1+2) (AHeap.blks H1))))else False else False else False else False) :
    ∃ e F1 h1,Runs Tryz.prog cnd B 63 (loopAt Tryz.prog 122 0) [(0,dv),(1,.int .i64 n),(2,cv),(6,.int .i64 s),(7,.int .i64 a),(8,.int .i64 i)] H e F1 h1∧K0 e F1 h1 :=
  tpath_runs env_ok mixed noSpecs_ok (hs:= .hint (.val 2002 (AVal.bool true)) (.hint (.act 3004 (AVal.tuple []) fun x=>H1) (.hint (.go 5002) .nil))) (keep:= [0,1,2,6,7,8]) (by kernel_rfl) vc
theorem t0E_vp(H:AHeap)(B n s a i:Nat)(dv cv:AVal)(K0:AExit→Facts→AHeap→Prop)(vc:bif Nat.ble B (AHeap.next H) && true then some (AVal.bool (decide ((↑i:Int)≤(↑n:Int))))=some (AVal.bool false)∧K0 (AExit.exit 0) [(0,dv),(1,AVal.int IntKind.i64 (↑n:Int)),(2,cv),(6,AVal.int IntKind.i64 (↑s:Int)),(7,AVal.int IntKind.i64 (↑a:Int)),(8,AVal.int IntKind.i64 (↑i:Int))] (AHeap.mk (AHeap.next H+3) (AHeap.blks H))else False) :
    ∃ e F1 h1,Runs Tryz.prog cnd B 63 (loopAt Tryz.prog 122 0) [(0,dv),(1,.int .i64 n),(2,cv),(6,.int .i64 s),(7,.int .i64 a),(8,.int .i64 i)] H e F1 h1∧K0 e F1 h1 :=
  tpath_runs env_ok mixed noSpecs_ok (hs:= .hint (.val 2002 (AVal.bool false)) .nil) (keep:= [0,1,2,6,7,8]) (by kernel_rfl) vc
theorem t2S_vp(H H1:AHeap)(B n s a i:Nat)(dv cv:AVal)(K0:AExit→Facts→AHeap→Prop)(vc:bif Nat.ble B (AHeap.next H) && true then some (AVal.bool (decide ((↑i:Int)≤(↑n:Int))))=some (AVal.bool true)∧bif Nat.ble B (AHeap.next H+3) && true then(-9223372036854775808≤(↑a:Int)+(↑s:Int)∧(↑a:Int)+(↑s:Int)≤9223372036854775807)∧CallT Tryz.prog cnd 161 [dv,AVal.int IntKind.i64 (↑a:Int),AVal.int IntKind.i64 ((↑a:Int)+(↑s:Int)),AVal.int IntKind.i64 (↑i:Int),cv] (AHeap.mk (AHeap.next H+11) (H.2)) (AVal.tuple []) H1∧bif Nat.ble B (AHeap.next H1) && true then bif Nat.ble B (AHeap.next H1+2) && true then(-9223372036854775808≤2* (↑s:Int)∧2* (↑s:Int)≤9223372036854775807)∧(-9223372036854775808≤(↑i:Int)+2* (↑s:Int)∧(↑i:Int)+2* (↑s:Int)≤9223372036854775807)∧K0 AExit.normal [(0,dv),(1,AVal.int IntKind.i64 (↑n:Int)),(2,cv),(6,AVal.int IntKind.i64 (↑s:Int)),(7,AVal.int IntKind.i64 (↑i:Int)),(8,AVal.int IntKind.i64 ((↑i:Int)+2* (↑s:Int)))] (AHeap.mk (AHeap.next H1+2+5) (AHeap.blks (AHeap.mk (AHeap.next H1+2) (AHeap.blks H1))))else False else False else False else False) :
    ∃ e F1 h1,Runs Tryz.prog cnd B 63 (loopAt Tryz.prog 122 2) [(0,dv),(1,.int .i64 n),(2,cv),(6,.int .i64 s),(7,.int .i64 a),(8,.int .i64 i)] H e F1 h1∧K0 e F1 h1 :=
  tpath_runs env_ok mixed noSpecs_ok (hs:= .hint (.val 9002 (AVal.bool true)) (.hint (.go 10004) (.hint (.act 10007 (AVal.tuple []) fun x=>H1) (.hint (.go 12002) (.hint (.go 12003) .nil))))) (keep:= [0,1,2,6,7,8]) (by kernel_rfl) vc
theorem t2E_vp(H:AHeap)(B n s a i:Nat)(dv cv:AVal)(K0:AExit→Facts→AHeap→Prop)(vc:bif Nat.ble B (AHeap.next H) && true then some (AVal.bool (decide ((↑i:Int)≤(↑n:Int))))=some (AVal.bool false)∧K0 (AExit.exit 4) [(0,dv),(1,AVal.int IntKind.i64 (↑n:Int)),(2,cv),(6,AVal.int IntKind.i64 (↑s:Int)),(7,AVal.int IntKind.i64 (↑a:Int)),(8,AVal.int IntKind.i64 (↑i:Int))] (AHeap.mk (AHeap.next H+3) (AHeap.blks H))else False) :
    ∃ e F1 h1,Runs Tryz.prog cnd B 63 (loopAt Tryz.prog 122 2) [(0,dv),(1,.int .i64 n),(2,cv),(6,.int .i64 s),(7,.int .i64 a),(8,.int .i64 i)] H e F1 h1∧K0 e F1 h1 :=
  tpath_runs env_ok mixed noSpecs_ok (hs:= .hint (.val 9002 (AVal.bool false)) .nil) (keep:= [0,1,2,6,7,8]) (by kernel_rfl) vc
theorem t1S_vp(H H1 H2:AHeap)(B n s a:Nat)(dv cv:AVal)(K0:AExit→Facts→AHeap→Prop)(vc:bif Nat.ble B (AHeap.next H) && true then some (AVal.bool (decide ((↑s:Int)<(↑n:Int))))=some (AVal.bool true)∧bif Nat.ble B (AHeap.next H+3) && true then(-9223372036854775808≤2* (↑s:Int)∧2* (↑s:Int)≤9223372036854775807)∧Runs Tryz.prog cnd B 63 (Code.loop (loopAt Tryz.prog 122 2)) [(0,dv),(1,AVal.int IntKind.i64 (↑n:Int)),(2,cv),(6,AVal.int IntKind.i64 (↑s:Int)),(7,AVal.int IntKind.i64 (0)),(8,AVal.int IntKind.i64 (2* (↑s:Int)))] (AHeap.mk (AHeap.next H+3+4) (AHeap.blks (AHeap.mk (AHeap.next H+3) (AHeap.blks H)))) (AExit.exit 4) [(0,dv),(1,AVal.int IntKind.i64 (↑n:Int)),(2,cv),(6,AVal.int IntKind.i64 (↑s:Int)),(7,AVal.int IntKind.i64 (↑a:Int))] H1∧bif Nat.ble B (AHeap.next H1) && true then(-9223372036854775808≤(↑a:Int)+(↑s:Int)∧(↑a:Int)+(↑s:Int)≤9223372036854775807)∧bif Nat.ble B (AHeap.next H1+4) && true then some (AVal.bool (decide ((↑a:Int)+(↑s:Int)<(↑n:Int))))=some (AVal.bool true)∧bif Nat.ble B (AHeap.next H1+7) && true then CallT Tryz.prog cnd 161 [dv,AVal.int IntKind.i64 (↑a:Int),AVal.int IntKind.i64 ((↑a:Int)+(↑s:Int)),AVal.int IntKind.i64 (↑n:Int),cv] (AHeap.mk (AHeap.next H1+13) (H1.2)) (AVal.tuple []) H2∧bif Nat.ble B (AHeap.next H2) && true then(-9223372036854775808≤(↑s:Int)*2∧(↑s:Int)*2≤9223372036854775807)∧K0 AExit.normal [(0,dv),(1,AVal.int IntKind.i64 (↑n:Int)),(2,cv),(6,AVal.int IntKind.i64 ((↑s:Int)*2))] (AHeap.mk (AHeap.next H2+3) (AHeap.blks H2))else False else False else False else False else False else False) :
    ∃ e F1 h1,Runs Tryz.prog cnd B 63 (loopAt Tryz.prog 122 1) [(0,dv),(1,.int .i64 n),(2,cv),(6,.int .i64 s)] H e F1 h1∧K0 e F1 h1 :=
  tpath_runs env_ok mixed noSpecs_ok (hs:= .hint (.val 7002 (AVal.bool true)) (.hint (.go 8001) (.hint (.keep [0,1,2,6,7,8]) (.hint (.loop [(0,dv),(1,AVal.int IntKind.i64 (↑n:Int)),(2,cv),(6,AVal.int IntKind.i64 (↑s:Int)),(7,AVal.int IntKind.i64 (↑a:Int))] H1 (AExit.exit 4)) (.hint (.go 13002) (.hint (.val 14002 (AVal.bool true)) (.hint (.act 15005 (AVal.tuple []) fun x=>H2) (.hint (.go 16001) .nil)))))))) (keep:= [0,1,2,6]) (by kernel_rfl) vc
theorem t1N_vp(H H1:AHeap)(B n s a:Nat)(dv cv:AVal)(K0:AExit→Facts→AHeap→Prop)(vc:bif Nat.ble B (AHeap.next H) && true then some (AVal.bool (decide ((↑s:Int)<(↑n:Int))))=some (AVal.bool true)∧bif Nat.ble B (AHeap.next H+3) && true then(-9223372036854775808≤2* (↑s:Int)∧2* (↑s:Int)≤9223372036854775807)∧Runs Tryz.prog cnd B 63 (Code.loop (loopAt Tryz.prog 122 2)) [(0,dv),(1,AVal.int IntKind.i64 (↑n:Int)),(2,cv),(6,AVal.int IntKind.i64 (↑s:Int)),(7,AVal.int IntKind.i64 (0)),(8,AVal.int IntKind.i64 (2* (↑s:Int)))] (AHeap.mk (AHeap.next H+3+4) (AHeap.blks (AHeap.mk (AHeap.next H+3) (AHeap.blks H)))) (AExit.exit 4) [(0,dv),(1,AVal.int IntKind.i64 (↑n:Int)),(2,cv),(6,AVal.int IntKind.i64 (↑s:Int)),(7,AVal.int IntKind.i64 (↑a:Int))] H1∧bif Nat.ble B (AHeap.next H1) && true then(-9223372036854775808≤(↑a:Int)+(↑s:Int)∧(↑a:Int)+(↑s:Int)≤9223372036854775807)∧bif Nat.ble B (AHeap.next H1+4) && true then some (AVal.bool (decide ((↑a:Int)+(↑s:Int)<(↑n:Int))))=some (AVal.bool false)∧bif Nat.ble B (AHeap.next H1+7) && true then(-9223372036854775808≤(↑s:Int)*2∧(↑s:Int)*2≤9223372036854775807)∧K0 AExit.normal [(0,dv),(1,AVal.int IntKind.i64 (↑n:Int)),(2,cv),(6,AVal.int IntKind.i64 ((↑s:Int)*2))] (AHeap.mk (AHeap.next H1+7+3) (AHeap.blks (AHeap.mk (AHeap.next H1+4+3) (AHeap.blks (AHeap.mk (AHeap.next H1+4) (AHeap.blks H1))))))else False else False else False else False else False) :
    ∃ e F1 h1,Runs Tryz.prog cnd B 63 (loopAt Tryz.prog 122 1) [(0,dv),(1,.int .i64 n),(2,cv),(6,.int .i64 s)] H e F1 h1∧K0 e F1 h1 :=
  tpath_runs env_ok mixed noSpecs_ok (hs:= .hint (.val 7002 (AVal.bool true)) (.hint (.go 8001) (.hint (.keep [0,1,2,6,7,8]) (.hint (.loop [(0,dv),(1,AVal.int IntKind.i64 (↑n:Int)),(2,cv),(6,AVal.int IntKind.i64 (↑s:Int)),(7,AVal.int IntKind.i64 (↑a:Int))] H1 (AExit.exit 4)) (.hint (.go 13002) (.hint (.val 14002 (AVal.bool false)) (.hint (.go 16001) .nil))))))) (keep:= [0,1,2,6]) (by kernel_rfl) vc
theorem t1E_vp(H:AHeap)(B n s:Nat)(dv cv:AVal)(K0:AExit→Facts→AHeap→Prop)(vc:bif Nat.ble B (AHeap.next H) && true then some (AVal.bool (decide ((↑s:Int)<(↑n:Int))))=some (AVal.bool false)∧K0 (AExit.exit 2) [(0,dv),(1,AVal.int IntKind.i64 (↑n:Int)),(2,cv),(6,AVal.int IntKind.i64 (↑s:Int))] (AHeap.mk (AHeap.next H+3) (AHeap.blks H))else False) :
    ∃ e F1 h1,Runs Tryz.prog cnd B 63 (loopAt Tryz.prog 122 1) [(0,dv),(1,.int .i64 n),(2,cv),(6,.int .i64 s)] H e F1 h1∧K0 e F1 h1 :=
  tpath_runs env_ok mixed noSpecs_ok (hs:= .hint (.val 7002 (AVal.bool false)) .nil) (keep:= [0,1,2,6]) (by kernel_rfl) vc
theorem st_vc(H H1 H2 H3:AHeap)(n a:Nat)(dv cv:AVal)(K0:AVal→AHeap→Prop)(vc:bif Nat.ble (AHeap.next H) (AHeap.next H) && true then bif Nat.ble (AHeap.next H) (AHeap.next H+1) && true then Runs Tryz.prog cnd (AHeap.next H) 63 (Code.loop (loopAt Tryz.prog 122 0)) [(0,dv),(1,AVal.int IntKind.i64 (↑n:Int)),(2,cv),(6,AVal.int IntKind.i64 (20)),(7,AVal.int IntKind.i64 (0)),(8,AVal.int IntKind.i64 (20))] (AHeap.mk (AHeap.next H+1+3) (AHeap.blks (AHeap.mk (AHeap.next H+1) (AHeap.blks H)))) (AExit.exit 0) [(0,dv),(1,AVal.int IntKind.i64 (↑n:Int)),(2,cv),(6,AVal.int IntKind.i64 20),(7,AVal.int IntKind.i64 (↑a:Int))] H1∧bif Nat.ble (AHeap.next H) (AHeap.next H1) && true then CallT Tryz.prog cnd 160 [dv,AVal.int IntKind.i64 (↑a:Int),AVal.int IntKind.i64 (↑n:Int),cv] (AHeap.mk (AHeap.next H1+5) (H1.2)) (AVal.tuple []) H2∧Runs Tryz.prog cnd (AHeap.next H) 63 (Code.loop (loopAt Tryz.prog 122 1)) [(0,dv),(1,AVal.int IntKind.i64 (↑n:Int)),(2,cv),(6,AVal.int IntKind.i64 (20))] H2 (AExit.exit 2) [] H3∧bif Nat.ble (AHeap.next H) (AHeap.next H3)then K0 (AVal.tuple []) H3 else False else False else False else False) :
    ∃ v h1,FDoes Tryz.prog cnd 122 [dv,.int .i64 n,cv] H v h1∧K0 v h1 :=
  tcall_does env_ok mixed noSpecs_ok (hs:= .hint (.keep [0,1,2,6,7,8]) (.hint (.loop [(0,dv),(1,AVal.int IntKind.i64 (↑n:Int)),(2,cv),(6,AVal.int IntKind.i64 20),(7,AVal.int IntKind.i64 (↑a:Int))] H1 (AExit.exit 0)) (.hint (.act 6004 (AVal.tuple []) fun x=>H2) (.hint (.keep [0,1,2,6]) (.hint (.loop [] H3 (AExit.exit 2)) .nil))))) (by kernel_rfl) vc
theorem ss_vc(H H1:AHeap)(n c:Nat)(o:Option AAddr)(cv:AVal)(K0:AVal→AHeap→Prop)(vc:bif Nat.ble (AHeap.next H) (AHeap.next H) && true then CallT Tryz.prog cnd 122 [AVal.slice o n c,AVal.int IntKind.i64 (↑n:Int),cv] (AHeap.mk (AHeap.next H+5) (H.2)) (AVal.tuple []) H1∧bif Nat.ble (AHeap.next H) (AHeap.next H1)then K0 (AVal.tuple []) H1 else False else False) :
    ∃ v h1,FDoes Tryz.prog cnd 72 [.slice o n c,cv] H v h1∧K0 v h1 :=
  tcall_does env_ok mixed noSpecs_ok (hs:= .hint (.act 4 (AVal.tuple []) fun x=>H1) .nil) (by kernel_rfl) vc
end Go.Proofs.YtjpfnbihopoeeaaGreatDoor
namespace Go.Lift
def swapR(π:Nat→Nat)(x y n k:Nat):Nat:=if x≤k∧k<x+n then π (k-x+y)else if y≤k∧k<y+n then π (k-y+x)else π k
def rotF(π:Nat→Nat)(a m b k:Nat):Nat:=if a≤k∧k<a+(b-m)then π (k+(m-a))else if a+(b-m)≤k∧k<b then π (k- (b-m))else π k
theorem rot_long(π:Nat→Nat){i j m:Nat}(hi:i≤m)(hj:j<i):rotF (swapR π (m-i) m j) (m- (i-j)) m (m+j)=rotF π (m-i) m (m+j):=by
  funext k
  unfold rotF swapR
  repeat' split
  all_goals first | rfl | (exfalso;omega) | (congr 1;omega)
theorem rot_short(π:Nat→Nat){i j m:Nat}(hi:i≤m)(hj:i<j):rotF (swapR π (m-i) (m+j-i) i) (m-i) m (m+(j-i))=rotF π (m-i) m (m+j):=by
  funext k
  unfold rotF swapR
  repeat' split
  all_goals first | rfl | (exfalso;omega) | (congr 1;omega)
theorem rot_same(π:Nat→Nat){i m:Nat}(hi:i≤m):swapR π (m-i) m i=rotF π (m-i) m (m+i):=by
  funext k
  unfold rotF swapR
  repeat' split
  all_goals first | rfl | (exfalso;omega) | (congr 1;omega)
structure Weak(less:Nat→Nat→Bool):Prop where
  asym: ∀ p q,less p q=true→less q p=false
  trans: ∀ p q r,less q p=false→less r q=false→less r p=false
def Lt(less:Nat→Nat→Bool)(p q:Nat):Prop:=less p q=true∨(less q p=false∧p<q)
theorem Lt.trans {less:Nat→Nat→Bool} (w:Weak less) {p q r:Nat} (h:Lt less p q) (k:Lt less q r):Lt less p r:=by
  unfold Lt at *
  have hqp:less q p=false:=by rcases h with h | h;exact w.asym _ _ h;exact h.1
  have hrq:less r q=false:=by rcases k with k | k;exact w.asym _ _ k;exact k.1
  have hrp:=w.trans p q r hqp hrq
  by_cases c:less p r=true
  · exact .inl c
  · have c:less p r=false:=by simpa using c
    rcases h with h | h
    ·
      have:=w.trans q r p hrq c
      rw [h]at this;cases this
    · rcases k with k | k
      · have:=w.trans r p q c hqp
        rw [k]at this;cases this
      · exact .inr ⟨hrp,by omega⟩
structure Same(π ρ:Nat→Nat)(a b:Nat):Prop where
  out: ∀ k,k<a∨b≤k→ρ k=π k
  perm:((List.range' a (b-a)).map ρ).Perm ((List.range' a (b-a)).map π)
theorem Same.refl(π:Nat→Nat)(a b:Nat):Same π π a b:=⟨fun _ _=>rfl,.refl _⟩
theorem Same.trans {π ρ σ:Nat→Nat}{a b:Nat}(h:Same π ρ a b)(k:Same ρ σ a b):Same π σ a b :=
  ⟨fun i hi=>(k.out i hi).trans (h.out i hi),k.perm.trans h.perm⟩
theorem Same.wide {π ρ:Nat→Nat}{a b c d:Nat}(h:Same π ρ a b)(h1:c≤a)(h2:b≤d)(h3:a≤b):Same π ρ c d:=by
  refine⟨fun k hk=>h.out k (by omega),?_⟩
  have e:List.range' c (d-c)=List.range' c (a-c)++(List.range' a (b-a)++List.range' b (d-b)):=by
    rw [show List.range' a (b-a)++List.range' b (d-b)=List.range' a (d-a)by
      have:=List.range'_append_1 (s:=a) (m:=b-a) (n:=d-b)
      rw [show a+(b-a)=b by omega]at this
      rw [this];congr 1;omega]
    have:=List.range'_append_1 (s:=c) (m:=a-c) (n:=d-a)
    rw [show c+(a-c)=a by omega]at this
    rw [this];congr 1;omega
  rw [e]
  simp only [List.map_append]
  have e1:(List.range' c (a-c)).map ρ=(List.range' c (a-c)).map π:=List.map_congr_left fun k hk=>h.out k (by have:=List.mem_range'_1.1 hk;omega)
  have e2:(List.range' b (d-b)).map ρ=(List.range' b (d-b)).map π:=List.map_congr_left fun k hk=>h.out k (by have:=List.mem_range'_1.1 hk;omega)
  rw [e1,e2]
  exact(List.Perm.refl _).append (h.perm.append (.refl _))
theorem Same.from {π ρ:Nat→Nat}{a b k:Nat}(h:Same π ρ a b)(h1:a≤k)(h2:k<b): ∃ j,a≤j∧j<b∧ρ k=π j:=by
  have hm:ρ k∈(List.range' a (b-a)).map ρ:=List.mem_map.2 ⟨k,List.mem_range'_1.2 ⟨h1,by omega⟩,rfl⟩
  obtain⟨j,hj,e⟩:=List.mem_map.1 (h.perm.mem_iff.1 hm)
  have:=List.mem_range'_1.1 hj
  exact⟨j,this.1,by omega,e.symm⟩
def swap1(π:Nat→Nat)(i k:Nat):Nat:=if k=i then π (i+1)else if k=i+1 then π i else π k
theorem rotF_same(π:Nat→Nat){a m b:Nat}(h1:a≤m)(h2:m≤b):Same π (rotF π a m b) a b:=by
  refine⟨fun k hk=>by unfold rotF;rw [if_neg (by omega),if_neg (by omega)],?_⟩
  have e1:List.range' a (b-a)=List.range' a (b-m)++List.range' (a+(b-m)) (m-a):=by
    rw [List.range'_append_1];congr 1;omega
  have e2:List.range' a (b-a)=List.range' a (m-a)++List.range' m (b-m):=by
    have:=List.range'_append_1 (s:=a) (m:=m-a) (n:=b-m)
    rw [show a+(m-a)=m by omega]at this
    rw [this];congr 1;omega
  have f1:(List.range' a (b-m)).map (rotF π a m b)=(List.range' m (b-m)).map π:=by
    apply List.ext_getElem (by simp)
    intro i h3 h4
    simp only [List.length_map,List.length_range']at h3
    simp only [List.getElem_map,List.getElem_range',Nat.one_mul]
    unfold rotF
    rw [if_pos (by omega)];congr 1;omega
  have f2:(List.range' (a+(b-m)) (m-a)).map (rotF π a m b)=(List.range' a (m-a)).map π:=by
    apply List.ext_getElem (by simp)
    intro i h3 h4
    simp only [List.length_map,List.length_range']at h3
    simp only [List.getElem_map,List.getElem_range',Nat.one_mul]
    unfold rotF
    rw [if_neg (by omega),if_pos (by omega)];congr 1;omega
  rw [show(List.range' a (b-a)).map (rotF π a m b)=(List.range' m (b-m)).map π++(List.range' a (m-a)).map π by rw [e1,List.map_append,f1,f2],
    show(List.range' a (b-a)).map π=(List.range' a (m-a)).map π++(List.range' m (b-m)).map π by rw [e2,List.map_append]]
  exact List.perm_append_comm
def Srt(less:Nat→Nat→Bool)(π:Nat→Nat)(a b:Nat):Prop:= ∀ i j,a≤i→i<j→j<b→Lt less (π i) (π j)
structure Parts(less:Nat→Nat→Bool)(π:Nat→Nat)(a m b:Nat):Prop where
  one:Srt less π a m
  two:Srt less π m b
  cross: ∀ i j,a≤i→i<m→m≤j→j<b→π i<π j
section
variable {less:Nat→Nat→Bool}(w:Weak less)
include w
theorem Lt.le {p q:Nat}(h:Lt less p q):less q p=false:=by
  rcases h with h | h
  · exact w.asym _ _ h
  · exact h.1
theorem less_le {p q r:Nat}(h:less p q=true)(k:less r q=false):less p r=true:=by
  cases c:less p r with
  | true=>rfl
  | false =>
    have:=w.trans q r p k c
    rw [h]at this;cases this
theorem le_less {p q r:Nat}(h:less q p=false)(k:less q r=true):less p r=true:=by
  cases c:less p r with
  | true=>rfl
  | false =>
    have:=w.trans r p q c h
    rw [k]at this;cases this
omit w in
def insAt(π:Nat→Nat)(j i k:Nat):Nat:=if k=j then π i else if j<k∧k≤i then π (k-1)else π k
omit w in
theorem insAt_self(π:Nat→Nat)(i:Nat):insAt π i i=π:=by
  funext k;unfold insAt
  repeat' split
  all_goals first | rfl | (exfalso;omega) | (congr 1;omega)
omit w in
theorem insAt_step(π:Nat→Nat){j i:Nat}(h0:0<j)(h:j≤i):swap1 (insAt π j i) (j-1)=insAt π (j-1) i:=by
  funext k;unfold swap1 insAt
  repeat' split
  all_goals first | rfl | (exfalso;omega) | (congr 1;omega)
omit w in
theorem insAt_rot(π:Nat→Nat){j i:Nat}(h:j≤i):insAt π j i=rotF π j i (i+1):=by
  funext k;unfold rotF insAt
  repeat' split
  all_goals first | rfl | (exfalso;omega) | (congr 1;omega)
theorem ins_done {π:Nat→Nat} {a i j:Nat} (h1:Srt less π a i) (he: ∀ k,a≤k→k<i→π k<π i) (hj:a≤j) (hji:j≤i) (hr: ∀ k,j≤k→k<i→less (π i) (π k)=true) (hl:j=a∨less (π i) (π (j-1))=false):Srt less (insAt π j i) a (i+1):=by
  have before: ∀ k,a≤k→k<j→Lt less (π k) (π i):=by
    intro k hk hkj
    rcases hl with rfl | hl
    · omega
    · refine .inr ⟨?_,he k hk (by omega)⟩
      by_cases e:k=j-1
      · subst e;exact hl
      · exact w.trans _ _ _ (Lt.le w (h1 k (j-1) hk (by omega) (by omega))) hl
  intro x y hx hxy hy
  unfold insAt
  by_cases c1:x=j
  · rw [if_pos c1,if_neg (by omega),if_pos ⟨by omega,by omega⟩]
    exact .inl (hr _ (by omega) (by omega))
  · rw [if_neg c1]
    by_cases c2:j<x∧x≤i
    · rw [if_pos c2,if_neg (by omega),if_pos ⟨by omega,by omega⟩]
      exact h1 _ _ (by omega) (by omega) (by omega)
    · rw [if_neg c2]
      by_cases c3:y=j
      · rw [if_pos c3];exact before x hx (by omega)
      · rw [if_neg c3]
        by_cases c4:j<y∧y≤i
        · rw [if_pos c4]
          exact h1 _ _ hx (by omega) (by omega)
        · rw [if_neg c4];exact h1 _ _ hx hxy (by omega)
omit w in
theorem rot1_zero(π:Nat→Nat)(a:Nat):rotF π a (a+1) (a+1)=π:=by
  funext k;unfold rotF
  repeat' split
  all_goals first | rfl | (exfalso;omega) | (congr 1;omega)
omit w in
theorem rot1_step(π:Nat→Nat){a k:Nat}(h:a≤k):swap1 (rotF π a (a+1) (k+1)) k=rotF π a (a+1) (k+2):=by
  funext x;unfold swap1 rotF
  repeat' split
  all_goals first | rfl | (exfalso;omega) | (congr 1;omega)
theorem merge_one {π:Nat→Nat} {a b i:Nat} (h:Parts less π a (a+1) b) (hi:a+1≤i) (hb:i≤b) (hl:i=a+1∨less (π (i-1)) (π a)=true) (hr:i=b∨less (π i) (π a)=false):Srt less (rotF π a (a+1) i) a b:=by
  have before: ∀ k,a+1≤k→k<i→less (π k) (π a)=true:=by
    intro k hk hki
    rcases hl with rfl | hl
    · omega
    · by_cases e:k=i-1
      · subst e;exact hl
      · exact le_less w (Lt.le w (h.two k (i-1) hk (by omega) (by omega))) hl
  have behind: ∀ k,i≤k→k<b→Lt less (π a) (π k):=by
    intro k hk hkb
    rcases hr with rfl | hr
    · omega
    · refine .inr ⟨?_,h.cross a k (by omega) (by omega) (by omega) hkb⟩
      by_cases e:k=i
      · subst e;exact hr
      · exact w.trans _ _ _ hr (Lt.le w (h.two i k (by omega) (by omega) hkb))
  intro x y hx hxy hy
  unfold rotF
  by_cases c1:a≤x∧x<a+(i- (a+1))
  · rw [if_pos c1]
    by_cases c2:a≤y∧y<a+(i- (a+1))
    · rw [if_pos c2];exact h.two _ _ (by omega) (by omega) (by omega)
    · rw [if_neg c2]
      by_cases c3:a+(i- (a+1))≤y∧y<i
      · rw [if_pos c3,show y- (i- (a+1))=a by omega]
        exact .inl (before _ (by omega) (by omega))
      · rw [if_neg c3];exact h.two _ _ (by omega) (by omega) (by omega)
  · rw [if_neg c1]
    by_cases c2:a+(i- (a+1))≤x∧x<i
    · rw [if_pos c2,if_neg (by omega),if_neg (by omega),show x- (i- (a+1))=a by omega]
      exact behind y (by omega) hy
    · rw [if_neg c2,if_neg (by omega),if_neg (by omega)]
      exact h.two _ _ (by omega) hxy hy
omit w in
theorem rotL_zero(π:Nat→Nat)(m:Nat):rotF π m m (m+1)=π:=by
  funext k;unfold rotF
  repeat' split
  all_goals first | rfl | (exfalso;omega) | (congr 1;omega)
omit w in
theorem rotL_step(π:Nat→Nat){k m:Nat}(h:k≤m)(h0:0<k):swap1 (rotF π k m (m+1)) (k-1)=rotF π (k-1) m (m+1):=by
  funext x;unfold swap1 rotF
  repeat' split
  all_goals first | rfl | (exfalso;omega) | (congr 1;omega)
theorem merge_last {π:Nat→Nat}{a m i:Nat}(h:Parts less π a m (m+1))(hi:a≤i)(hm:i≤m)(hl:i=a∨less (π m) (π (i-1))=false)(hr:i=m∨less (π m) (π i)=true):Srt less (rotF π i m (m+1)) a (m+1):=by
  rw [← insAt_rot π hm]
  refine ins_done w h.one (fun k h1 h2=>h.cross k m h1 h2 (Nat.le_refl _) (by omega)) hi hm ?_ hl
  intro k hk hkm
  rcases hr with rfl | hr
  · omega
  · by_cases e:k=i
    · subst e;exact hr
    · exact less_le w hr (Lt.le w (h.one i k hi (by omega) hkm))
theorem merge_split {π:Nat→Nat} {a m b mid start:Nat} (h:Parts less π a m b) (hm1:a<m) (hm2:m<b) (hmid:mid=(a+b) / 2)
    (hs1:(if mid<m then mid+m-b else a)≤start) (hs2:start≤(if mid<m then mid else m))
    (hl:start=(if mid<m then mid+m-b else a)∨less (π (mid+m-1- (start-1))) (π (start-1))=false) (hr:start=(if mid<m then mid else m)∨less (π (mid+m-1-start)) (π start)=true) :
    Parts less (rotF π start m (mid+m-start)) a start mid∧Parts less (rotF π start m (mid+m-start)) mid (mid+m-start) b ∧
    ∀ i j,a≤i→i<mid→mid≤j→j<b→Lt less (rotF π start m (mid+m-start) i) (rotF π start m (mid+m-start) j):=by
  have b1:a≤start∧start≤m∧start≤mid∧m≤mid+m-start∧mid+m-start≤b:=by
    split at hs1<;>split at hs2<;>omega
  have vA: ∀ k,a≤k→k<start→rotF π start m (mid+m-start) k=π k:=fun k h1 h2=>by unfold rotF;rw [if_neg (by omega),if_neg (by omega)]
  have vB: ∀ k,start≤k→k<mid→rotF π start m (mid+m-start) k=π (k+(m-start)):=fun k h1 h2=>by unfold rotF;rw [if_pos (by omega)]
  have vC: ∀ k,mid≤k→k<mid+m-start→rotF π start m (mid+m-start) k=π (k- (mid-start)):=fun k h1 h2=>by unfold rotF;rw [if_neg (by omega),if_pos (by omega)];congr 1;omega
  have vD: ∀ k,mid+m-start≤k→k<b→rotF π start m (mid+m-start) k=π k:=fun k h1 h2=>by unfold rotF;rw [if_neg (by omega),if_neg (by omega)]
  have ad : ∀ i j,a≤i→i<start→mid+m-start≤j→j<b→Lt less (π i) (π j):=by
    intro i j h1 h2 h3 h4
    refine .inr ⟨?_,h.cross i j h1 (by omega) (by omega) h4⟩
    rcases hl with hl | hl
    · split at hl<;>omega
    · have e:mid+m-1- (start-1)=mid+m-start:=by omega
      rw [e]at hl
      have k1:less (π (start-1)) (π i)=false:=by
        by_cases c:i=start-1
        · subst c
          cases hq:less (π (start-1)) (π (start-1))with
          | false=>rfl
          | true=>rw [w.asym _ _ hq]at hq;cases hq
        · exact Lt.le w (h.one i (start-1) h1 (by omega) (by omega))
      have k2:less (π j) (π (mid+m-start))=false:=by
        by_cases c:j=mid+m-start
        · subst c
          cases hq:less (π (mid+m-start)) (π (mid+m-start))with
          | false=>rfl
          | true=>rw [w.asym _ _ hq]at hq;cases hq
        · exact Lt.le w (h.two _ j (by omega) (by omega) h4)
      exact w.trans _ _ _ (w.trans _ _ _ k1 hl) k2
  have bc : ∀ i j,m≤i→i<mid+m-start→start≤j→j<m→Lt less (π i) (π j):=by
    intro i j h1 h2 h3 h4
    rcases hr with hr | hr
    · split at hr<;>omega
    · refine .inl ?_
      have k1:less (π (mid+m-1-start)) (π i)=false:=by
        by_cases c:i=mid+m-1-start
        · subst c
          cases hq:less (π (mid+m-1-start)) (π (mid+m-1-start))with
          | false=>rfl
          | true=>rw [w.asym _ _ hq]at hq;cases hq
        · exact Lt.le w (h.two i _ h1 (by omega) (by omega))
      have k2:less (π j) (π start)=false:=by
        by_cases c:j=start
        · subst c
          cases hq:less (π j) (π j)with
          | false=>rfl
          | true=>rw [w.asym _ _ hq]at hq;cases hq
        · exact Lt.le w (h.one start j (by omega) (by omega) h4)
      exact less_le w (le_less w k1 hr) k2
  refine⟨⟨?_,?_,?_⟩,⟨?_,?_,?_⟩,?_⟩
  · intro i j h1 h2 h3
    rw [vA i h1 (by omega),vA j (by omega) h3];exact h.one i j h1 h2 (by omega)
  · intro i j h1 h2 h3
    rw [vB i h1 (by omega),vB j (by omega) h3];exact h.two _ _ (by omega) (by omega) (by omega)
  · intro i j h1 h2 h3 h4
    rw [vA i h1 h2,vB j h3 h4];exact h.cross _ _ h1 (by omega) (by omega) (by omega)
  · intro i j h1 h2 h3
    rw [vC i h1 (by omega),vC j (by omega) h3];exact h.one _ _ (by omega) (by omega) (by omega)
  · intro i j h1 h2 h3
    rw [vD i h1 (by omega),vD j (by omega) h3];exact h.two _ _ (by omega) h2 h3
  · intro i j h1 h2 h3 h4
    rw [vC i h1 h2,vD j h3 h4];exact h.cross _ _ (by omega) (by omega) (by omega) h4
  · intro i j h1 h2 h3 h4
    by_cases c1:i<start<;>by_cases c2:j<mid+m-start
    · rw [vA i h1 c1,vC j h3 c2];exact h.one _ _ h1 (by omega) (by omega)
    · rw [vA i h1 c1,vD j (by omega) h4];exact ad _ _ h1 c1 (by omega) h4
    · rw [vB i (by omega) h2,vC j h3 c2];exact bc _ _ (by omega) (by omega) (by omega) (by omega)
    · rw [vB i (by omega) h2,vD j (by omega) h4];exact h.two _ _ (by omega) (by omega) h4
omit w in
theorem merge_join {ρ σ:Nat→Nat}{a mid b:Nat}(h1:a≤mid)(h2:mid≤b)(s1:Same ρ σ a mid)(k1:Srt less σ a mid){τ:Nat→Nat}(s2:Same σ τ mid b)(k2:Srt less τ mid b)
    (hc: ∀ i j,a≤i→i<mid→mid≤j→j<b→Lt less (ρ i) (ρ j)):Srt less τ a b:=by
  intro i j hi hij hj
  by_cases c1:j<mid
  · rw [s2.out i (.inl (by omega)),s2.out j (.inl c1)];exact k1 i j hi hij c1
  · by_cases c2:mid≤i
    · exact k2 i j c2 hij hj
    · rw [s2.out i (.inl (by omega))]
      obtain⟨x,x1,x2,ex⟩:=s1.from (k:=i) hi (by omega)
      obtain⟨y,y1,y2,ey⟩:=s2.from (k:=j) (by omega) hj
      rw [ex,ey,s1.out y (.inr y1)]
      exact hc x y x1 x2 y1 y2
end
end Go.Lift
namespace Go.Proofs.YtjpfnbihopoeeaaGreatDoor
open Go.Lift
set_option maxRecDepth 1000000
structure SC where
  Q:Nat
  V:Nat
  O:Nat
  N:Nat
  cap:Nat
  it:Nat→AVal
  pre:List AVal
  post:List AVal
  C:AHeap→Prop
structure SC.Ok(S:SC):Prop where
  n:S.N<2^44
  o:S.pre.length=S.O
  sv: ∀ k,Sv (S.it k)
  keep: ∀ H H',S.C H→Fr H H' [S.Q]→S.C H'
abbrev SC.dv(S:SC):AVal:= .slice (some ⟨S.Q,S.V,S.O,0,1⟩) S.N S.cap
abbrev SC.ad(S:SC)(i:Nat):AAddr:=⟨S.Q,S.V,S.O+i,0,1⟩
def SC.WS(S:SC)(H:AHeap)(π:Nat→Nat):Prop :=
  S.Q<H.next∧(∃ b,H.get S.Q=some b∧b.ver=S.V∧b.ro=false∧b.exact=true∧b.elems=S.pre++(List.range S.N).map (fun k=>S.it (π k))++S.post)∧S.C H
theorem SC.WS.fr {S:SC}(ok:S.Ok){H H':AHeap}{π:Nat→Nat}(h:S.WS H π)(m:Fr H H' []):S.WS H' π:=by
  obtain⟨h1,⟨b,h2,h3⟩,h4⟩:=h
  exact⟨Nat.lt_of_lt_of_le h1 m.next,⟨b,(m.get _ h1 (by simp)).trans h2,h3⟩,ok.keep _ _ h4 (m.sub (by simp))⟩
theorem SC.WS.congr {S:SC}{H:AHeap}{π σ:Nat→Nat}(h:S.WS H π)(e: ∀ k,k<S.N→σ k=π k):S.WS H σ:=by
  obtain⟨h1,⟨b,h2,h3,h4,hx,h5⟩,h6⟩:=h
  refine⟨h1,⟨b,h2,h3,h4,hx,?_⟩,h6⟩
  rw [h5]
  congr 2
  exact List.map_congr_left fun k hk=>by rw [e k (List.mem_range.1 hk)]
theorem SC.ix(S:SC){e:Int}{i:Nat}(he:e=i)(hi:i<S.N):aindexAddr (AEnv.D env) 22 S.dv (.int .i64 e)=some (.ptr (some (S.ad i))):=by
  subst he
  obtain⟨d,x,d1,d2,x1,x2,_⟩:=elR.sl.ty
  have d1:AEnv.D env 22=some d:=d1
  have x1:AEnv.D env 36=some x:=x1
  unfold aindexAddr
  simp only [d1,d2,x1]
  rw [if_pos ⟨by omega,by omega,by rw [x2],by trivial⟩]
  simp
theorem mid_get {pre post:List AVal}{f:Nat→AVal}{N i:Nat}(hi:i<N):(pre++(List.range N).map f++post)[pre.length+i]? =some (f i):=by
  rw [List.getElem?_append_left (by simp;omega),List.getElem?_append_right (by omega),Nat.add_sub_cancel_left,List.getElem?_map,List.getElem?_range hi]
  rfl
theorem mid_set {pre post:List AVal}{f:Nat→AVal}{N i:Nat}{x:AVal}(hi:i<N):(pre++(List.range N).map f++post).set (pre.length+i) x=pre++(List.range N).map (fun k=>if k=i then x else f k)++post:=by
  rw [List.set_append_left _ _ (by simp;omega),List.set_append_right _ _ (by omega),Nat.add_sub_cancel_left]
  congr 2
  apply List.ext_getElem (by simp)
  intro k h1 h2
  simp only [List.length_set,List.length_map,List.length_range]at h1
  rw [List.getElem_set]
  by_cases e:i=k
  · subst e;simp
  · rw [if_neg e];simp [Ne.symm e,fun h=>e (Eq.symm h)]
theorem agF:(AEnv.D env 36).map (fun d=>(d.kind.isAgg,d.size))=some (false,1):=by kernel_rfl
theorem SC.WS.ld {S:SC}(ok:S.Ok){H:AHeap}{π:Nat→Nat}(h:S.WS H π){i:Nat}(hi:i<S.N)(n:Nat):aload (AEnv.D env) 36 (S.ad i) ⟨n,H.blks⟩=some (S.it (π i)):=by
  obtain⟨h1,⟨b,h2,h3,h4,hx,h5⟩,h6⟩:=h
  obtain⟨d,d1,d2⟩:=Option.map_eq_some_iff.1 agF
  simp only [Prod.mk.injEq]at d2
  have hel:b.elem? S.V (S.O+i)=some (S.it (π i)):=by
    unfold ABlk.elem? ABlk.lim
    rw [if_pos h3.symm,h5,← ok.o,if_pos (by simp;omega)]
    exact mid_get hi
  unfold aload
  have hg:AHeap.get ⟨n,H.blks⟩ S.Q=some b:=h2
  simp only [d1,hg,hel,d2.1,d2.2]
  exact load_sv (ok.sv _)
theorem st_row {S:SC}(ok:S.Ok){H:AHeap}{f:Nat→AVal}{b:ABlk}{i:Nat}{x:AVal}(h2:H.get S.Q=some b)(h3:b.ver=S.V)(h4:b.ro=false)(h5:b.elems=S.pre++(List.range S.N).map f++S.post)(hi:i<S.N)(hf:Sv (f i))(hx:Sv x) :
    astore (AEnv.D env) 36 (S.ad i) x H=some (H.set S.Q {b with elems:=S.pre++(List.range S.N).map (fun k=>if k=i then x else f k)++S.post,minVer:=b.ver}):=by
  obtain⟨d,d1,d2⟩:=Option.map_eq_some_iff.1 agF
  simp only [Prod.mk.injEq]at d2
  have hfx:x.fits d.kind.isAgg d.size=true:=by
    rw [d2.1,d2.2]
    cases x<;>first | rfl | cases hx
  have hg:b.elems[S.O+i]? =some (f i):=by rw [h5,← ok.o];exact mid_get hi
  unfold astore
  simp only [d1,h2,hfx,h4,h3,hg,store_sv hf hx]
  rw [h5,← ok.o,mid_set hi]
  simp
theorem SC.WS.swap {S:SC}(ok:S.Ok){H:AHeap}{π:Nat→Nat}(h:S.WS H π){i j:Nat}(hi:i<S.N)(hj:j<S.N)(hij:i≠j)(n:Nat) :
    ∃ H2 H3,astore (AEnv.D env) 36 (S.ad i) (S.it (π j)) (up H n)=some H2∧astore (AEnv.D env) 36 (S.ad j) (S.it (π i)) H2=some H3∧(∀ σ:Nat→Nat,(∀ k,k<S.N→σ k=if k=j then π i else if k=i then π j else π k)→S.WS H3 σ)∧Fr H H3 [S.Q]∧H2.next=H.next+n∧H3.next=H.next+n:=by
  obtain⟨h1,⟨b,h2,h3,h4,hx,h5⟩,h6⟩:=h
  have e1:=st_row (H:=up H n) ok h2 h3 h4 h5 hi (ok.sv _) (ok.sv (π j))
  let b1:ABlk:= {b with elems:=S.pre++(List.range S.N).map (fun k=>if k=i then S.it (π j)else S.it (π k))++S.post,minVer:=b.ver}
  let H2:=(up H n).set S.Q b1
  have e2:=st_row (H:=H2) (b:=b1) (i:=j) (x:=S.it (π i)) ok (AHeap.get_set_self _ _ _) h3 h4 rfl hj (by
    show Sv (if j=i then S.it (π j)else S.it (π j))
    rw [ite_self];exact ok.sv _) (ok.sv (π i))
  have fr:Fr H (H2.set S.Q {b1 with elems:=S.pre++(List.range S.N).map (fun k=>if k=j then S.it (π i)else if k=i then S.it (π j)else S.it (π k))++S.post,minVer:=b1.ver}) [S.Q]:=((Fr.up H n [S.Q]).trans (Fr.set (L:= [S.Q]) (up H n) _ b1 (by simp)) (fun x hx _=>hx)).trans (Fr.set (L:= [S.Q]) H2 _ _ (by simp)) (fun x hx _=>hx)
  refine⟨H2,_,e1,e2,fun σ hσ=>⟨by show S.Q<H.next+n;omega,⟨_,AHeap.get_set_self _ _ _,h3,h4,hx,?_⟩,ok.keep _ _ h6 fr⟩,fr,rfl,rfl⟩
  show S.pre++_++S.post=S.pre++_++S.post
  congr 2
  refine List.map_congr_left fun k hk=> ?_
  rw [hσ k (List.mem_range.1 hk)]
  split
  · rfl
  · split<;>rfl
def SC.Do(S:SC)(f:FuncId)(args:List AVal)(π σ:Nat→Nat):Prop:= ∀ H,S.WS H π→ ∃ H',FDoes Tryz.prog cnd f args H (.tuple []) H'∧S.WS H' σ∧Fr H H' [S.Q]
theorem swr_loop {S:SC} (ok:S.Ok) {B:Nat} (π:Nat→Nat) {a b n:Nat} (hab:a+n≤b) (hb:b+n≤S.N): ∀ (k i:Nat) (H:AHeap),i+k=n→B≤H.next→S.WS H (swapR π a b i) →
    ∃ H',Loops Tryz.prog cnd B 38 (loopAt Tryz.prog 221 0) [(0,S.dv),(1,.int .i64 (a:Nat)),(2,.int .i64 (b:Nat)),(3,.int .i64 (n:Nat)),(10,.int .i64 (i:Nat))] H (.exit 0) [] H'∧S.WS H' (swapR π a b n)∧Fr H H' [S.Q]:=by
  have hN:=ok.n
  intro k
  induction k with
  | zero =>
    intro i H e hB w
    obtain rfl:i=n:=by omega
    obtain⟨e,F1,h1,hr,rfl,rfl,rfl⟩:=swE_vp H B a b i i S.dv (fun e F1 h1=>e= .exit 0∧F1= [(0,S.dv),(1,.int .i64 (a:Nat)),(2,.int .i64 (b:Nat)),(3,.int .i64 (i:Nat)),(10,.int .i64 (i:Nat))]∧h1=up H 3) (bifL hB ⟨boolF (by omega),rfl,rfl,rfl⟩)
    exact⟨_,(Loops.last (by simp) hr).post (Ent.facts (fle [] (by kernel_rfl))),w.fr ok (Fr.up H 3 []),Fr.up H 3 _⟩
  | succ k ih =>
    intro i H e hB w
    have ea:swapR π a b i (a+i)=π (a+i):=by unfold swapR;rw [if_neg (by omega),if_neg (by omega)]
    have eb:swapR π a b i (b+i)=π (b+i):=by unfold swapR;rw [if_neg (by omega),if_neg (by omega)]
    obtain⟨H1,H2,s1,s2,w2,f2,n1,n2⟩:=w.swap ok (i:=a+i) (j:=b+i) (by omega) (by omega) (by omega) 27
    obtain⟨e',F1,h1,hr,rfl,rfl,rfl⟩:=swS_vp H H1 H2 B a b n i S.dv (S.it (swapR π a b i (a+i))) (S.it (swapR π a b i (b+i))) (S.ad (a+i)) (S.ad (b+i)) (fun e F1 h1=>e= .normal∧F1= [(0,S.dv),(1,.int .i64 (a:Nat)),(2,.int .i64 (b:Nat)),(3,.int .i64 (n:Nat)),(10,.int .i64 ((i+1:Nat):Int))]∧h1=up H2 3)
      (bifL hB ⟨boolT (by omega),bifL (by omega) ⟨⟨by omega,by omega⟩,⟨by omega,by omega⟩,⟨by omega,by omega⟩,S.ix (by omega) (by omega),w.ld ok (by omega) _,by have:=w.1;show S.Q<H.next+3;omega,⟨by omega,by omega⟩,S.ix (by omega) (by omega),w.ld ok (by omega) _,by have:=w.1;show S.Q<H.next+3;omega,S.ix (by omega) (by omega),aop_storeG rfl rfl s1,S.ix (by omega) (by omega),aop_storeG rfl rfl s2,bifL (by omega) ⟨⟨by omega,by omega⟩,rfl,by rw [succI],rfl⟩⟩⟩)
    have w3 :=w2 (swapR π a b (i+1)) (fun k hk=>by
      rw [ea,eb]
      unfold swapR
      by_cases h1:k=b+i
      · subst h1
        rw [if_pos rfl,if_neg (by omega),if_pos (by omega),show b+i-b+a=a+i by omega]
      · rw [if_neg h1]
        by_cases h2:k=a+i
        · subst h2
          rw [if_pos rfl,if_pos (by omega),show a+i-a+b=b+i by omega]
        · rw [if_neg h2]
          by_cases h3:a≤k∧k<a+i
          · rw [if_pos h3,if_pos (by omega)]
          · rw [if_neg h3,if_neg (show ¬ (a≤k∧k<a+(i+1))by omega)]
            by_cases h4:b≤k∧k<b+i
            · rw [if_pos h4,if_pos (by omega)]
            · rw [if_neg h4,if_neg (by omega)])
    have f3:=f2.trans (Fr.up H2 3 []) (by simp)
    obtain⟨H',L,w',f'⟩:=ih (i+1) (up H2 3) (by omega) (by show B≤H2.next+3;omega) (w3.fr ok (Fr.up H2 3 []))
    exact⟨H',Loops.round hr (Ent.refl _ _ _ _) L,w',f3.trans f' (fun x hx _=>hx)⟩
theorem swr_does {S:SC}(ok:S.Ok)(π:Nat→Nat){a b n:Nat}(hab:a+n≤b)(hb:b+n≤S.N){ea eb en:Int}(ha:ea=a)(hb':eb=b)(hn:en=n)(cv:AVal):S.Do 221 [S.dv,.int .i64 ea,.int .i64 eb,.int .i64 en,cv] π (swapR π a b n):=by
  subst ha hb' hn
  intro H w
  obtain⟨H1,L,w1,f1⟩:=swr_loop ok (B:=H.next) π hab hb n 0 (up H 1) (by omega) (by show H.next≤H.next+1;omega) ((w.congr (fun k _=>by unfold swapR;rw [if_neg (by omega),if_neg (by omega)])).fr ok (Fr.up H 1 []))
  have n1:H.next+1≤H1.next:=f1.next
  obtain⟨v,h1,hd,rfl,rfl⟩:=swr_vc H H1 a b n S.dv cv (fun v h1=>v= .tuple []∧h1=H1) (bifL (Nat.le_refl _) ⟨Runs.of_loops L,condL (by omega) ⟨rfl,rfl⟩⟩)
  exact⟨_,hd,w1,(Fr.up H 1 [S.Q]).trans f1 (fun x hx _=>hx)⟩
theorem rot_loop {S:SC} (ok:S.Ok) {B m:Nat} (cv:AVal) (hmN:m≤S.N): ∀ (fuel i j:Nat) (π:Nat→Nat) (H:AHeap),i+j≤fuel→0<i→0<j→i≤m→m+j≤S.N→B≤H.next→S.WS H π →
    ∃ (k:Nat) (ρ:Nat→Nat) (H':AHeap),0<k∧k≤m∧m+k≤S.N∧rotF ρ (m-k) m (m+k)=rotF π (m-i) m (m+j) ∧
    Loops Tryz.prog cnd B 58 (loopAt Tryz.prog 195 0) [(0,S.dv),(2,.int .i64 (m:Nat)),(4,cv),(10,.int .i64 (i:Nat)),(11,.int .i64 (j:Nat))] H (.exit 0) [(0,S.dv),(2,.int .i64 (m:Nat)),(4,cv),(10,.int .i64 (k:Nat))] H'∧S.WS H' ρ∧Fr H H' [S.Q]:=by
  have hN:=ok.n
  intro fuel
  induction fuel with
  | zero=>intro i j π H h hi hj;omega
  | succ fuel ih =>
    intro i j π H h hi hj him hjm hB w
    by_cases hij:i=j
    · subst hij
      obtain⟨e,F1,h1,hr,rfl,rfl,rfl⟩:=roE_vp H B m i i S.dv cv (fun e F1 h1=>e= .exit 0∧F1= [(0,S.dv),(2,.int .i64 (m:Nat)),(4,cv),(10,.int .i64 (i:Nat)),(11,.int .i64 (i:Nat))]∧h1=up H 3) (bifL hB ⟨by simp,rfl,rfl,rfl⟩)
      exact⟨i,π,_,hi,him,hjm,rfl,(Loops.last (by simp) hr).post (Ent.facts (fle [0,2,4,10] (by kernel_rfl))),w.fr ok (Fr.up H 3 []),Fr.up H 3 _⟩
    · have hne:some (AVal.bool ((i:Int) != (j:Int)))=some (AVal.bool true):=by
        have:((i:Int) != (j:Int))=true:=by simp;omega
        rw [this]
      by_cases hgt:j<i
      · obtain⟨H1,D,w1,f1⟩:=swr_does ok π (a:=m-i) (b:=m) (n:=j) (ea:=(m:Int)-i) (eb:=m) (en:=j) (by omega) (by omega) (by omega) rfl rfl cv (up H 14) (w.fr ok (Fr.up H 14 []))
        have n1:H.next+14≤H1.next:=f1.next
        have f01:Fr H (up H1 4) [S.Q]:=((Fr.up H 14 [S.Q]).trans f1 (fun x hx _=>hx)).trans (Fr.up H1 4 []) (by simp)
        obtain⟨k,ρ,H',k1,k2,k3,k4,L,w',f'⟩:=ih (i-j) j (swapR π (m-i) m j) (up H1 4) (by omega) (by omega) hj (by omega) hjm (by show B≤H1.next+4;omega) (w1.fr ok (Fr.up H1 4 []))
        obtain⟨e,F1,h1,hr,rfl,rfl,rfl⟩:=roA_vp H H1 B m i j S.dv cv (fun e F1 h1=>e= .normal∧F1= [(0,S.dv),(2,.int .i64 (m:Nat)),(4,cv),(10,.int .i64 ((i-j:Nat):Int)),(11,.int .i64 (j:Nat))]∧h1=up H1 4)
          (bifL hB ⟨hne,bifL (by omega) ⟨boolT (by omega),bifL (by omega) ⟨⟨by omega,by omega⟩,⟨D⟩,bifL (by omega) ⟨⟨by omega,by omega⟩,rfl,by rw [show(i:Int)- (j:Int)=((i-j:Nat):Int)by omega],rfl⟩⟩⟩⟩)
        exact⟨k,ρ,H',k1,k2,k3,k4.trans (rot_long π him hgt),Loops.round hr (Ent.refl _ _ _ _) L,w',f01.trans f' (fun x hx _=>hx)⟩
      · obtain⟨H1,D,w1,f1⟩:=swr_does ok π (a:=m-i) (b:=m+j-i) (n:=i) (ea:=(m:Int)-i) (eb:=(m:Int)+j-i) (en:=i) (by omega) (by omega) (by omega) (by omega) rfl cv (up H 18) (w.fr ok (Fr.up H 18 []))
        have n1:H.next+18≤H1.next:=f1.next
        have f01:Fr H (up H1 4) [S.Q]:=((Fr.up H 18 [S.Q]).trans f1 (fun x hx _=>hx)).trans (Fr.up H1 4 []) (by simp)
        obtain⟨k,ρ,H',k1,k2,k3,k4,L,w',f'⟩:=ih i (j-i) (swapR π (m-i) (m+j-i) i) (up H1 4) (by omega) hi (by omega) him (by omega) (by show B≤H1.next+4;omega) (w1.fr ok (Fr.up H1 4 []))
        obtain⟨e,F1,h1,hr,rfl,rfl,rfl⟩:=roB_vp H H1 B m i j S.dv cv (fun e F1 h1=>e= .normal∧F1= [(0,S.dv),(2,.int .i64 (m:Nat)),(4,cv),(10,.int .i64 (i:Nat)),(11,.int .i64 ((j-i:Nat):Int))]∧h1=up H1 4)
          (bifL hB ⟨hne,bifL (by omega) ⟨boolF (by omega),bifL (by omega) ⟨⟨by omega,by omega⟩,⟨by omega,by omega⟩,⟨by omega,by omega⟩,⟨D⟩,bifL (by omega) ⟨⟨by omega,by omega⟩,rfl,by rw [show(j:Int)- (i:Int)=((j-i:Nat):Int)by omega],rfl⟩⟩⟩⟩)
        exact⟨k,ρ,H',k1,k2,k3,k4.trans (rot_short π him (by omega)),Loops.round hr (Ent.refl _ _ _ _) L,w',f01.trans f' (fun x hx _=>hx)⟩
theorem rot_does {S:SC}(ok:S.Ok)(π:Nat→Nat){a m b:Nat}(ham:a<m)(hmb:m<b)(hb:b≤S.N)(cv:AVal):S.Do 195 [S.dv,.int .i64 (a:Nat),.int .i64 (m:Nat),.int .i64 (b:Nat),cv] π (rotF π a m b):=by
  have hN:=ok.n
  intro H w
  obtain⟨k,ρ,H1,k1,k2,k3,k4,L,w1,f1⟩:=rot_loop ok (B:=H.next) (m:=m) cv (by omega) (m-a+(b-m)) (m-a) (b-m) π (up H 8) (Nat.le_refl _) (by omega) (by omega) (by omega) (by omega) (by show H.next≤H.next+8;omega) (w.fr ok (Fr.up H 8 []))
  rw [show m- (m-a)=a by omega,show m+(b-m)=b by omega]at k4
  have n1:H.next+8≤H1.next:=f1.next
  obtain⟨H2,D,w2,f2⟩:=swr_does ok ρ (a:=m-k) (b:=m) (n:=k) (ea:=(m:Int)-k) (eb:=m) (en:=k) (by omega) (by omega) (by omega) rfl rfl cv (up H1 8) (w1.fr ok (Fr.up H1 8 []))
  have n2:H1.next+8≤H2.next:=f2.next
  rw [rot_same ρ k2,k4]at w2
  rw [show((m-a:Nat):Int)=(m:Int)- (a:Int)by omega,show((b-m:Nat):Int)=(b:Int)- (m:Int)by omega]at L
  obtain⟨v,h1,hd,rfl,rfl⟩:=rot_vc H H1 H2 a m b k S.dv cv (fun v h1=>v= .tuple []∧h1=H2) (bifL (Nat.le_refl _) ⟨⟨by omega,by omega⟩,bifL (by omega) ⟨⟨by omega,by omega⟩,Runs.of_loops L,bifL (by omega) ⟨⟨by omega,by omega⟩,⟨D⟩,condL (by omega) ⟨rfl,rfl⟩⟩⟩⟩)
  exact⟨_,hd,w2,(((Fr.up H 8 [S.Q]).trans f1 (fun x hx _=>hx)).trans (Fr.up H1 8 []) (by simp)).trans f2 (fun x hx _=>hx)⟩
end Go.Proofs.YtjpfnbihopoeeaaGreatDoor
namespace Go.Proofs.YtjpfnbihopoeeaaGreatDoor
open Go.Lift
set_option maxRecDepth 1000000
structure SC.Cmp(S:SC)(g:FuncId)(cs:List AVal)(less:Nat→Nat→Bool):Prop where
  call: ∀ H p q,S.C H→p<S.N→q<S.N→ ∃ n r,H.next≤n∧FDoes Tryz.prog cnd g (S.it p::S.it q::cs) H (.int .i64 r) ⟨n,H.blks⟩∧(r<0↔less p q=true)
def InN(N:Nat)(π:Nat→Nat):Prop:= ∀ k,k<N→π k<N
theorem InN.same {N:Nat}{π ρ:Nat→Nat}{a b:Nat}(h:InN N π)(k:Same π ρ a b)(hb:b≤N):InN N ρ:=by
  intro j hj
  by_cases c:a≤j∧j<b
  · obtain⟨i,h1,h2,h3⟩:=k.from c.1 c.2
    rw [h3];exact h i (by omega)
  · rw [k.out j (by omega)];exact h j hj
theorem wrap64 {n:Int}(h1: -9223372036854775808≤n)(h2:n≤9223372036854775807):IntKind.wrap .i64 n=n:=by
  show(if(true && decide (n % 18446744073709551616≥9223372036854775808))=true then n % 18446744073709551616-18446744073709551616 else n % 18446744073709551616)=n
  split
  · rename_i h;simp at h;omega
  · rename_i h;simp at h;omega
theorem midW {i j c:Nat}(h:(i+j) / 2=c)(hl:i+j<2^60):IntKind.wrap .i64 (ishr .u64 ((i:Int)+(j:Int)) 1)=(c:Int):=by
  have e:ishr .u64 ((i:Int)+(j:Int)) 1=(c:Int):=by
    show Int.fdiv ((i:Int)+(j:Int)) 2=c
    rw [Int.fdiv_eq_ediv_of_nonneg _ (by omega)]
    omega
  rw [e]
  exact wrap64 (by omega) (by omega)
theorem cvM {F:Facts}{k nid:Nat}{κ:IntKind}{n m:Int}{H:AHeap}(hF:getF F (.tmp k)= .int κ n)(hm:IntKind.wrap .i64 n=m):aop env noCall nid (getF F) H (Op.convert 108 3 (Operand.tmp k))=some (.int .i64 m,H):=by
  subst hm
  have:aop env noCall nid (getF F) H (Op.convert 108 3 (Operand.tmp k))=(aconvert (AEnv.D env) 108 3 (.int κ n)).map fun v=>(v,H):=by rw [← hF];rfl
  exact this.trans (by kernel_rfl)
section
variable {S:SC}(ok:S.Ok){g:FuncId}{cs:List AVal}{less:Nat→Nat→Bool}(hw:Weak less)(hc:S.Cmp g cs less)
include ok hw hc
abbrev cvF(g:FuncId)(cs:List AVal):AVal:= .func (.func g) [] cs
theorem SC.WS.cmp {H:AHeap}{π:Nat→Nat}(w:S.WS H π){i j:Nat}(hi:π i<S.N)(hj:π j<S.N)(m:Nat): ∃ n r,H.next+m≤n∧FDoes Tryz.prog cnd g (S.it (π i)::S.it (π j)::cs) (up H m) (.int .i64 r) ⟨n,H.blks⟩∧(r<0↔less (π i) (π j)=true)∧S.WS ⟨n,H.blks⟩ π∧Fr H ⟨n,H.blks⟩ []:=by
  obtain⟨n,r,h1,h2,h3⟩:=hc.call (up H m) (π i) (π j) (w.fr ok (Fr.up H m [])).2.2 hi hj
  have h1:H.next+m≤n:=h1
  have f:Fr H ⟨n,H.blks⟩ []:=⟨by show H.next≤n;omega,fun _ _ _=>rfl⟩
  exact⟨n,r,h1,h2,h3,w.fr ok f,f⟩
theorem ins_in {a b i:Nat} (ρ:Nat→Nat) (hρ:InN S.N ρ) (hai:a≤i) (hi:i<S.N): ∀ (j:Nat),a≤j→j≤i→(∀ k,j≤k→k<i→less (ρ i) (ρ k)=true) →
    ∃ j',a≤j'∧j'≤i∧(∀ k,j'≤k→k<i→less (ρ i) (ρ k)=true)∧(j'=a∨less (ρ i) (ρ (j'-1))=false)∧ ∀ (B:Nat) (H:AHeap),B≤H.next→S.WS H (insAt ρ j i) →
    ∃ H',Loops Tryz.prog cnd B 53 (loopAt Tryz.prog 160 1) [(0,S.dv),(1,.int .i64 (a:Nat)),(2,.int .i64 (b:Nat)),(3,cvF g cs),(8,.int .i64 (i:Nat)),(9,.int .i64 (j:Nat))] H
      (.exit 2) [(0,S.dv),(1,.int .i64 (a:Nat)),(2,.int .i64 (b:Nat)),(3,cvF g cs),(8,.int .i64 (i:Nat))] H'∧S.WS H' (insAt ρ j' i)∧Fr H H' [S.Q]:=by
  have hN:=ok.n
  have stop: ∀ (j B:Nat) (H:AHeap),B≤H.next→S.WS H (insAt ρ j i)→ ¬ a<j→ ∃ H',Loops Tryz.prog cnd B 53 (loopAt Tryz.prog 160 1) [(0,S.dv),(1,.int .i64 (a:Nat)),(2,.int .i64 (b:Nat)),(3,cvF g cs),(8,.int .i64 (i:Nat)),(9,.int .i64 (j:Nat))] H
      (.exit 2) [(0,S.dv),(1,.int .i64 (a:Nat)),(2,.int .i64 (b:Nat)),(3,cvF g cs),(8,.int .i64 (i:Nat))] H'∧S.WS H' (insAt ρ j i)∧Fr H H' [S.Q]:=by
    intro j B H hB w hj
    obtain⟨e,F1,h1,hr,rfl,rfl,rfl⟩:=inE_vp H B a b i j S.dv (cvF g cs) (fun e F1 h1=>e= .exit 2∧F1= [(0,S.dv),(1,.int .i64 (a:Nat)),(2,.int .i64 (b:Nat)),(3,cvF g cs),(8,.int .i64 (i:Nat)),(9,.int .i64 (j:Nat))]∧h1=up H 17) (bifL hB ⟨boolF (by omega),rfl,rfl,rfl⟩)
    exact⟨_,(Loops.last (by simp) hr).post (Ent.facts (fle [0,1,2,3,8] (by kernel_rfl))),w.fr ok (Fr.up H 17 []),Fr.up H 17 _⟩
  intro j
  induction j with
  | zero =>
    intro h1 h2 h3
    exact⟨0,h1,h2,h3,.inl (by omega),fun B H hB w=>stop 0 B H hB w (by omega)⟩
  | succ j ih =>
    intro h1 h2 h3
    by_cases ha:a=j+1
    · exact⟨j+1,h1,h2,h3,.inl ha.symm,fun B H hB w=>stop (j+1) B H hB w (by omega)⟩
    · have ex:insAt ρ (j+1) i (j+1)=ρ i:=by unfold insAt;rw [if_pos rfl]
      have ey:insAt ρ (j+1) i j=ρ j:=by unfold insAt;rw [if_neg (by omega),if_neg (by omega)]
      by_cases hl:less (ρ i) (ρ j)=true
      · obtain⟨j',q1,q2,q3,q4,q5⟩:=ih (by omega) (by omega) (fun k hk hki=>by
          by_cases e:k=j
          · subst e;exact hl
          · exact h3 k (by omega) hki)
        refine⟨j',q1,q2,q3,q4,fun B H hB w=> ?_⟩
        obtain⟨n,r,n1,D,hr',w1,f1⟩:=w.cmp ok hw hc (i:=j+1) (j:=j) (by rw [ex];exact hρ i hi) (by rw [ey];exact hρ j (by omega)) 17
        rw [ex,ey]at hr'
        obtain⟨H2,H3,s1,s2,w3,f3,n2,n3⟩:=w1.swap ok (i:=j+1) (j:=j) (by omega) (by omega) (by omega) 18
        have n2:H2.next=n+18:=n2
        have n3:H3.next=n+18:=n3
        have w4:=w3 (insAt ρ j i) (fun k hk=>by
          have h:=congrFun (insAt_step ρ (j:=j+1) (i:=i) (by omega) (by omega)) k
          rw [show j+1-1=j by omega]at h
          rw [← h]
          unfold swap1
          by_cases e1:k=j
          · rw [if_pos e1]
          · rw [if_neg e1])
        obtain⟨H',L,w',f'⟩:=q5 B (up H3 3) (by show B≤H3.next+3;omega) (w4.fr ok (Fr.up H3 3 []))
        have lt:=w.1
        obtain⟨e,F1,h1',hr,rfl,rfl,rfl⟩:=inS_vp H ⟨n,H.blks⟩ H2 H3 B a b i (j+1) g cs S.dv (S.it (insAt ρ (j+1) i (j+1))) (S.it (insAt ρ (j+1) i j)) (S.ad (j+1)) (S.ad j) r (fun e F1 h1=>e= .normal∧F1= [(0,S.dv),(1,.int .i64 (a:Nat)),(2,.int .i64 (b:Nat)),(3,cvF g cs),(8,.int .i64 (i:Nat)),(9,.int .i64 (j:Nat))]∧h1=up H3 3)
          (bifL hB ⟨boolT (by omega),S.ix rfl (by omega),w.ld ok (by omega) _,lt,⟨by omega,by omega⟩,S.ix (by omega) (by omega),w.ld ok (by omega) _,lt,⟨D⟩,boolT (hr'.2 hl),bifL (by show B≤n;omega) ⟨⟨by omega,by omega⟩,⟨by omega,by omega⟩,S.ix (by omega) (by omega),w1.ld ok (by omega) _,by show S.Q<n;omega,S.ix rfl (by omega),w1.ld ok (by omega) _,by show S.Q<n;omega,S.ix rfl (by omega),aop_storeG rfl rfl s1,S.ix (by omega) (by omega),aop_storeG rfl rfl s2,bifL (by omega) ⟨⟨by omega,by omega⟩,rfl,by rw [show((j+1:Nat):Int)-1=(j:Int)by omega],rfl⟩⟩⟩)
        exact⟨H',Loops.round hr (Ent.refl _ _ _ _) L,w',((((f1.sub (M:= [S.Q]) (by simp)).trans f3 (fun x hx _=>hx)).trans (Fr.up H3 3 []) (by simp)).trans f' (fun x hx _=>hx))⟩
      · have hl:less (ρ i) (ρ j)=false:=by simpa using hl
        refine⟨j+1,by omega,h2,h3,.inr (by rw [show j+1-1=j by omega];exact hl),fun B H hB w=> ?_⟩
        obtain⟨n,r,n1,D,hr',w1,f1⟩:=w.cmp ok hw hc (i:=j+1) (j:=j) (by rw [ex];exact hρ i hi) (by rw [ey];exact hρ j (by omega)) 17
        rw [ex,ey,hl]at hr'
        have lt:=w.1
        obtain⟨e,F1,h1',hr,rfl,rfl,rfl⟩:=inB_vp H ⟨n,H.blks⟩ B a b i (j+1) g cs S.dv (S.it (insAt ρ (j+1) i (j+1))) (S.it (insAt ρ (j+1) i j)) (S.ad (j+1)) (S.ad j) r (fun e F1 h1=>e= .exit 2∧F1= [(0,S.dv),(1,.int .i64 (a:Nat)),(2,.int .i64 (b:Nat)),(3,cvF g cs),(8,.int .i64 (i:Nat)),(9,.int .i64 ((j+1:Nat):Int))]∧h1=⟨n,H.blks⟩)
          (bifL hB ⟨boolT (by omega),S.ix rfl (by omega),w.ld ok (by omega) _,lt,⟨by omega,by omega⟩,S.ix (by omega) (by omega),w.ld ok (by omega) _,lt,⟨D⟩,boolF (fun h=>by have:=hr'.1 h;cases this),rfl,rfl,rfl⟩)
        exact⟨_,(Loops.last (by simp) hr).post (Ent.facts (fle [0,1,2,3,8] (by kernel_rfl))),w1,f1.sub (by simp)⟩
theorem ins_out {a b:Nat}(π:Nat→Nat)(hπ:InN S.N π)(hab:a<b)(hb:b≤S.N)(hinc: ∀ i j,a≤i→i<j→j<b→π i<π j): ∀ (fuel i:Nat) (ρ:Nat→Nat),i+fuel=b→a<i→Same π ρ a i→Srt less ρ a i →
    ∃ σ,Same π σ a b∧Srt less σ a b∧ ∀ (B:Nat) (H:AHeap),B≤H.next→S.WS H ρ→ ∃ H',Loops Tryz.prog cnd B 53 (loopAt Tryz.prog 160 0) [(0,S.dv),(1,.int .i64 (a:Nat)),(2,.int .i64 (b:Nat)),(3,cvF g cs),(8,.int .i64 (i:Nat))] H (.exit 0) [] H'∧S.WS H' σ∧Fr H H' [S.Q]:=by
  have hN:=ok.n
  intro fuel
  induction fuel with
  | zero =>
    intro i ρ e h1 h2 h3
    obtain rfl:i=b:=by omega
    refine⟨ρ,h2,h3,fun B H hB w=> ?_⟩
    obtain⟨e,F1,h1,hr,rfl,rfl,rfl⟩:=ioE_vp H B a i i S.dv (cvF g cs) (fun e F1 h1=>e= .exit 0∧F1= [(0,S.dv),(1,.int .i64 (a:Nat)),(2,.int .i64 (i:Nat)),(3,cvF g cs),(8,.int .i64 (i:Nat))]∧h1=up H 3) (bifL hB ⟨boolF (by omega),rfl,rfl,rfl⟩)
    exact⟨_,(Loops.last (by simp) hr).post (Ent.facts (fle [] (by kernel_rfl))),w.fr ok (Fr.up H 3 []),Fr.up H 3 _⟩
  | succ fuel ih =>
    intro i ρ e h1 h2 h3
    have hρ:InN S.N ρ:=hπ.same h2 (by omega)
    obtain⟨j,q1,q2,q3,q4,q5⟩:=ins_in ok hw hc (a:=a) (b:=b) ρ hρ (by omega) (by omega:i<S.N) i (by omega) (by omega) (fun k _ _=>by omega)
    rw [insAt_self]at q5
    have hi:ρ i=π i:=h2.out i (by omega)
    have hlt: ∀ k,a≤k→k<i→ρ k<ρ i:=by
      intro k hk hki
      obtain⟨m,m1,m2,m3⟩:=h2.from hk hki
      rw [m3,hi];exact hinc m i m1 m2 (by omega)
    have hs:=ins_done hw h3 hlt q1 q2 q3 q4
    have hsame:Same π (insAt ρ j i) a (i+1):=(h2.wide (by omega) (by omega) (by omega)).trans (by
      rw [insAt_rot ρ q2]
      exact(rotF_same ρ q2 (by omega)).wide (by omega) (by omega) (by omega))
    obtain⟨σ,r1,r2,r3⟩:=ih (i+1) (insAt ρ j i) (by omega) (by omega) hsame hs
    refine⟨σ,r1,r2,fun B H hB w=> ?_⟩
    obtain⟨H1,L1,w1,f1⟩:=q5 B (up H 5) (by show B≤H.next+5;omega) (w.fr ok (Fr.up H 5 []))
    have n1:H.next+5≤H1.next:=f1.next
    obtain⟨H',L,w',f'⟩:=r3 B (up H1 3) (by show B≤H1.next+3;omega) (w1.fr ok (Fr.up H1 3 []))
    obtain⟨e,F1,h1,hr,rfl,rfl,rfl⟩:=ioS_vp H H1 B a b i S.dv (cvF g cs) (fun e F1 h1=>e= .normal∧F1= [(0,S.dv),(1,.int .i64 (a:Nat)),(2,.int .i64 (b:Nat)),(3,cvF g cs),(8,.int .i64 ((i+1:Nat):Int))]∧h1=up H1 3)
      (bifL hB ⟨boolT (by omega),bifL (by omega) ⟨Runs.of_loops L1,bifL (by omega) ⟨⟨by omega,by omega⟩,rfl,by rw [succI],rfl⟩⟩⟩)
    exact⟨H',Loops.round hr (Ent.refl _ _ _ _) L,w',(((Fr.up H 5 [S.Q]).trans f1 (fun x hx _=>hx)).trans (Fr.up H1 3 []) (by simp)).trans f' (fun x hx _=>hx)⟩
theorem ins_does {a b:Nat}(π:Nat→Nat)(hπ:InN S.N π)(hab:a≤b)(hb:b≤S.N)(hinc: ∀ i j,a≤i→i<j→j<b→π i<π j) :
    ∃ σ,Same π σ a b∧Srt less σ a b∧S.Do 160 [S.dv,.int .i64 (a:Nat),.int .i64 (b:Nat),cvF g cs] π σ:=by
  have hN:=ok.n
  have fin: ∀ σ,(∀ (B:Nat) (H:AHeap),B≤H.next→S.WS H π→ ∃ H',Loops Tryz.prog cnd B 53 (loopAt Tryz.prog 160 0) [(0,S.dv),(1,.int .i64 (a:Nat)),(2,.int .i64 (b:Nat)),(3,cvF g cs),(8,.int .i64 ((a+1:Nat):Int))] H (.exit 0) [] H'∧S.WS H' σ∧Fr H H' [S.Q]) →
      S.Do 160 [S.dv,.int .i64 (a:Nat),.int .i64 (b:Nat),cvF g cs] π σ:=by
    intro σ l H w
    obtain⟨H1,L,w1,f1⟩:=l H.next (up H 3) (by show H.next≤H.next+3;omega) (w.fr ok (Fr.up H 3 []))
    have n1:H.next+3≤H1.next:=f1.next
    rw [← succI]at L
    obtain⟨v,h1,hd,rfl,rfl⟩:=ins_vc H H1 a b 0 S.dv (cvF g cs) (fun v h1=>v= .tuple []∧h1=H1) (bifL (Nat.le_refl _) ⟨⟨by omega,by omega⟩,Runs.of_loops L,condL (by omega) ⟨rfl,rfl⟩⟩)
    exact⟨_,hd,w1,(Fr.up H 3 [S.Q]).trans f1 (fun x hx _=>hx)⟩
  by_cases h:a<b
  · obtain⟨σ,r1,r2,r3⟩:=ins_out ok hw hc π hπ h hb hinc (b- (a+1)) (a+1) π (by omega) (by omega) (Same.refl _ _ _) (fun i j h1 h2 h3=>by omega)
    exact⟨σ,r1,r2,fin σ r3⟩
  · obtain rfl:a=b:=by omega
    refine⟨π,Same.refl _ _ _,fun i j h1 h2 h3=>by omega,fin π fun B H hB w=> ?_⟩
    obtain⟨e,F1,h1,hr,rfl,rfl,rfl⟩:=ioE_vp H B a a (a+1) S.dv (cvF g cs) (fun e F1 h1=>e= .exit 0∧F1= [(0,S.dv),(1,.int .i64 (a:Nat)),(2,.int .i64 (a:Nat)),(3,cvF g cs),(8,.int .i64 ((a+1:Nat):Int))]∧h1=up H 3) (bifL hB ⟨boolF (by omega),rfl,rfl,rfl⟩)
    exact⟨_,(Loops.last (by simp) hr).post (Ent.facts (fle [] (by kernel_rfl))),w.fr ok (Fr.up H 3 []),Fr.up H 3 _⟩
theorem sm0_loop {a b:Nat} (π:Nat→Nat) (hπ:InN S.N π) (hab:a<b) (hb:b≤S.N): ∀ (fuel i j:Nat),j-i≤fuel→a+1≤i→i≤j→j≤b→(i=a+1∨less (π (i-1)) (π a)=true)→(j=b∨less (π j) (π a)=false) →
    ∃ k,a+1≤k∧k≤b∧(k=a+1∨less (π (k-1)) (π a)=true)∧(k=b∨less (π k) (π a)=false)∧ ∀ (B:Nat) (H:AHeap),B≤H.next→S.WS H π →
    ∃ H',Loops Tryz.prog cnd B 220 (loopAt Tryz.prog 161 0) [(0,S.dv),(1,.int .i64 (a:Nat)),(4,cvF g cs),(10,.int .i64 (i:Nat)),(11,.int .i64 (j:Nat))] H
      (.exit 0) [(0,S.dv),(1,.int .i64 (a:Nat)),(10,.int .i64 (k:Nat))] H'∧S.WS H' π∧Fr H H' [S.Q]:=by
  have hN:=ok.n
  intro fuel
  induction fuel with
  | zero =>
    intro i j hf h1 h2 h3 hl hr
    obtain rfl:i=j:=by omega
    refine⟨i,h1,h3,hl,hr,fun B H hB w=> ?_⟩
    obtain⟨e,F1,h1,hr,rfl,rfl,rfl⟩:=s0E_vp H B a i i S.dv (cvF g cs) (fun e F1 h1=>e= .exit 0∧F1= [(0,S.dv),(1,.int .i64 (a:Nat)),(4,cvF g cs),(10,.int .i64 (i:Nat)),(11,.int .i64 (i:Nat))]∧h1=up H 3) (bifL hB ⟨boolF (by omega),rfl,rfl,rfl⟩)
    exact⟨_,(Loops.last (by simp) hr).post (Ent.facts (fle [0,1,10] (by kernel_rfl))),w.fr ok (Fr.up H 3 []),Fr.up H 3 _⟩
  | succ fuel ih =>
    intro i j hf h1 h2 h3 hl hr
    by_cases hij:i=j
    · exact ih i j (by omega) h1 h2 h3 hl hr
    · have hh:i≤(i+j) / 2∧(i+j) / 2<j:=by omega
      generalize hhd:(i+j) / 2=h at hh
      by_cases hls:less (π h) (π a)=true
      · obtain⟨k,k1,k2,k3,k4,k5⟩:=ih (h+1) j (by omega) (by omega) (by omega) h3 (.inr (by rw [show h+1-1=h by omega];exact hls)) hr
        refine⟨k,k1,k2,k3,k4,fun B H hB w=> ?_⟩
        obtain⟨n,r,n1,D,hr',w1,f1⟩:=w.cmp ok hw hc (i:=h) (j:=a) (hπ h (by omega)) (hπ a (by omega)) 21
        obtain⟨H',L,w',f'⟩:=k5 B ⟨n+3,H.blks⟩ (by show B≤n+3;omega) (w1.fr ok (Fr.up ⟨n,H.blks⟩ 3 []))
        have lt:=w.1
        obtain⟨e,F1,h1',hr,rfl,rfl,rfl⟩:=s0T_vp H ⟨n,H.blks⟩ B a i j h g cs S.dv (S.it (π h)) (S.it (π a)) (S.ad h) (S.ad a) r (fun e F1 h1=>e= .normal∧F1= [(0,S.dv),(1,.int .i64 (a:Nat)),(4,cvF g cs),(10,.int .i64 ((h+1:Nat):Int)),(11,.int .i64 (j:Nat))]∧h1=⟨n+3,H.blks⟩)
          (bifL hB ⟨boolT (by omega),bifL (by omega) ⟨⟨by omega,by omega⟩,⟨by omega,by omega⟩,.mk 1,cvM rfl (midW hhd (by omega)),bifL (by omega) ⟨S.ix rfl (by omega),w.ld ok (by omega) _,by show S.Q<H.next+10;omega,S.ix rfl (by omega),w.ld ok (by omega) _,by show S.Q<H.next+10;omega,⟨D⟩,boolT (hr'.2 hls),bifL (by show B≤n;omega) ⟨⟨by omega,by omega⟩,rfl,by rw [succI],rfl⟩⟩⟩⟩)
        exact⟨H',Loops.round hr (Ent.refl _ _ _ _) L,w',((f1.sub (M:= [S.Q]) (by simp)).trans (Fr.up ⟨n,H.blks⟩ 3 []) (by simp)).trans f' (fun x hx _=>hx)⟩
      · have hls:less (π h) (π a)=false:=by simpa using hls
        obtain⟨k,k1,k2,k3,k4,k5⟩:=ih i h (by omega) h1 (by omega) (by omega) hl (.inr hls)
        refine⟨k,k1,k2,k3,k4,fun B H hB w=> ?_⟩
        obtain⟨n,r,n1,D,hr',w1,f1⟩:=w.cmp ok hw hc (i:=h) (j:=a) (hπ h (by omega)) (hπ a (by omega)) 21
        rw [hls]at hr'
        obtain⟨H',L,w',f'⟩:=k5 B ⟨n+2,H.blks⟩ (by show B≤n+2;omega) (w1.fr ok (Fr.up ⟨n,H.blks⟩ 2 []))
        have lt:=w.1
        obtain⟨e,F1,h1',hr,rfl,rfl,rfl⟩:=s0F_vp H ⟨n,H.blks⟩ B a i j h g cs S.dv (S.it (π h)) (S.it (π a)) (S.ad h) (S.ad a) r (fun e F1 h1=>e= .normal∧F1= [(0,S.dv),(1,.int .i64 (a:Nat)),(4,cvF g cs),(10,.int .i64 (i:Nat)),(11,.int .i64 (h:Nat))]∧h1=⟨n+2,H.blks⟩)
          (bifL hB ⟨boolT (by omega),bifL (by omega) ⟨⟨by omega,by omega⟩,⟨by omega,by omega⟩,.mk 1,cvM rfl (midW hhd (by omega)),bifL (by omega) ⟨S.ix rfl (by omega),w.ld ok (by omega) _,by show S.Q<H.next+10;omega,S.ix rfl (by omega),w.ld ok (by omega) _,by show S.Q<H.next+10;omega,⟨D⟩,boolF (fun h=>by have:=hr'.1 h;cases this),bifL (by show B≤n;omega) ⟨rfl,rfl,rfl⟩⟩⟩⟩)
        exact⟨H',Loops.round hr (Ent.refl _ _ _ _) L,w',((f1.sub (M:= [S.Q]) (by simp)).trans (Fr.up ⟨n,H.blks⟩ 2 []) (by simp)).trans f' (fun x hx _=>hx)⟩
theorem sm1_loop {a i:Nat} (π:Nat→Nat) (hi:i≤S.N): ∀ (f k:Nat),k+1+f=i→a≤k→ ∀ (B:Nat) (H:AHeap),B≤H.next→S.WS H (rotF π a (a+1) (k+1)) →
    ∃ H',Loops Tryz.prog cnd B 220 (loopAt Tryz.prog 161 1) [(0,S.dv),(10,.int .i64 (i:Nat)),(13,.int .i64 (k:Nat))] H (.exit 2) [] H'∧S.WS H' (rotF π a (a+1) i)∧Fr H H' [S.Q]:=by
  have hN:=ok.n
  intro f
  induction f with
  | zero =>
    intro k e h B H hB w
    obtain rfl:i=k+1:=by omega
    obtain⟨e,F1,h1,hr,rfl,rfl,rfl⟩:=s1E_vp H B (k+1) k S.dv (fun e F1 h1=>e= .exit 2∧F1= [(0,S.dv),(10,.int .i64 ((k+1:Nat):Int)),(13,.int .i64 (k:Nat))]∧h1=up H 4) (bifL hB ⟨⟨by omega,by omega⟩,boolF (by omega),rfl,rfl,rfl⟩)
    exact⟨_,(Loops.last (by simp) hr).post (Ent.facts (fle [] (by kernel_rfl))),w.fr ok (Fr.up H 4 []),Fr.up H 4 _⟩
  | succ f ih =>
    intro k e h B H hB w
    obtain⟨H1,H2,s1,s2,w2,f2,n1,n2⟩:=w.swap ok (i:=k) (j:=k+1) (by omega) (by omega) (by omega) 22
    have w3:=w2 (rotF π a (a+1) (k+2)) (fun q hq=>by
      rw [← rot1_step π h]
      unfold swap1
      by_cases e1:q=k
      · subst e1;rw [if_pos rfl,if_neg (by omega),if_pos rfl]
      · rw [if_neg e1]
        by_cases e2:q=k+1
        · rw [if_pos e2,if_pos e2]
        · rw [if_neg e2,if_neg e2,if_neg e1])
    obtain⟨H',L,w',f'⟩:=ih (k+1) (by omega) (by omega) B (up H2 3) (by show B≤H2.next+3;omega) (w3.fr ok (Fr.up H2 3 []))
    have lt:=w.1
    obtain⟨e,F1,h1',hr,rfl,rfl,rfl⟩:=s1S_vp H H1 H2 B i k S.dv (S.it (rotF π a (a+1) (k+1) k)) (S.it (rotF π a (a+1) (k+1) (k+1))) (S.ad k) (S.ad (k+1)) (fun e F1 h1=>e= .normal∧F1= [(0,S.dv),(10,.int .i64 (i:Nat)),(13,.int .i64 ((k+1:Nat):Int))]∧h1=up H2 3)
      (bifL hB ⟨⟨by omega,by omega⟩,boolT (by omega),bifL (by omega) ⟨⟨by omega,by omega⟩,⟨by omega,by omega⟩,S.ix (by omega) (by omega),w.ld ok (by omega) _,by show S.Q<H.next+4;omega,S.ix rfl (by omega),w.ld ok (by omega) _,by show S.Q<H.next+4;omega,S.ix rfl (by omega),aop_storeG rfl rfl s1,S.ix (by omega) (by omega),aop_storeG rfl rfl s2,bifL (by omega) ⟨⟨by omega,by omega⟩,rfl,by rw [succI],rfl⟩⟩⟩)
    exact⟨H',Loops.round hr (Ent.refl _ _ _ _) L,w',(f2.trans (Fr.up H2 3 []) (by simp)).trans f' (fun x hx _=>hx)⟩
theorem sm2_loop {a m:Nat} (π:Nat→Nat) (hπ:InN S.N π) (ham:a<m) (hm:m<S.N): ∀ (fuel i j:Nat),j-i≤fuel→a≤i→i≤j→j≤m→(i=a∨less (π m) (π (i-1))=false)→(j=m∨less (π m) (π j)=true) →
    ∃ k,a≤k∧k≤m∧(k=a∨less (π m) (π (k-1))=false)∧(k=m∨less (π m) (π k)=true)∧ ∀ (B:Nat) (H:AHeap),B≤H.next→S.WS H π →
    ∃ H',Loops Tryz.prog cnd B 220 (loopAt Tryz.prog 161 2) [(0,S.dv),(2,.int .i64 (m:Nat)),(4,cvF g cs),(14,.int .i64 (i:Nat)),(15,.int .i64 (j:Nat))] H
      (.exit 4) [(0,S.dv),(2,.int .i64 (m:Nat)),(14,.int .i64 (k:Nat))] H'∧S.WS H' π∧Fr H H' [S.Q]:=by
  have hN:=ok.n
  intro fuel
  induction fuel with
  | zero =>
    intro i j hf h1 h2 h3 hl hr
    obtain rfl:i=j:=by omega
    refine⟨i,h1,h3,hl,hr,fun B H hB w=> ?_⟩
    obtain⟨e,F1,h1,hr,rfl,rfl,rfl⟩:=s2E_vp H B m i i S.dv (cvF g cs) (fun e F1 h1=>e= .exit 4∧F1= [(0,S.dv),(2,.int .i64 (m:Nat)),(4,cvF g cs),(14,.int .i64 (i:Nat)),(15,.int .i64 (i:Nat))]∧h1=up H 3) (bifL hB ⟨boolF (by omega),rfl,rfl,rfl⟩)
    exact⟨_,(Loops.last (by simp) hr).post (Ent.facts (fle [0,2,14] (by kernel_rfl))),w.fr ok (Fr.up H 3 []),Fr.up H 3 _⟩
  | succ fuel ih =>
    intro i j hf h1 h2 h3 hl hr
    by_cases hij:i=j
    · exact ih i j (by omega) h1 h2 h3 hl hr
    · have hh:i≤(i+j) / 2∧(i+j) / 2<j:=by omega
      generalize hhd:(i+j) / 2=h at hh
      by_cases hls:less (π m) (π h)=true
      · obtain⟨k,k1,k2,k3,k4,k5⟩:=ih i h (by omega) h1 (by omega) (by omega) hl (.inr hls)
        refine⟨k,k1,k2,k3,k4,fun B H hB w=> ?_⟩
        obtain⟨n,r,n1,D,hr',w1,f1⟩:=w.cmp ok hw hc (i:=m) (j:=h) (hπ m (by omega)) (hπ h (by omega)) 22
        obtain⟨H',L,w',f'⟩:=k5 B ⟨n+2,H.blks⟩ (by show B≤n+2;omega) (w1.fr ok (Fr.up ⟨n,H.blks⟩ 2 []))
        have lt:=w.1
        obtain⟨e,F1,h1',hr,rfl,rfl,rfl⟩:=s2T_vp H ⟨n,H.blks⟩ B m i j h g cs S.dv (S.it (π m)) (S.it (π h)) (S.ad m) (S.ad h) r (fun e F1 h1=>e= .normal∧F1= [(0,S.dv),(2,.int .i64 (m:Nat)),(4,cvF g cs),(14,.int .i64 (i:Nat)),(15,.int .i64 (h:Nat))]∧h1=⟨n+2,H.blks⟩)
          (bifL hB ⟨boolT (by omega),bifL (by omega) ⟨⟨by omega,by omega⟩,⟨by omega,by omega⟩,.mk 1,cvM rfl (midW hhd (by omega)),bifL (by omega) ⟨S.ix rfl (by omega),w.ld ok (by omega) _,by show S.Q<H.next+10;omega,S.ix rfl (by omega),w.ld ok (by omega) _,by show S.Q<H.next+10;omega,⟨D⟩,boolT (hr'.2 hls),bifL (by show B≤n;omega) ⟨rfl,rfl,rfl⟩⟩⟩⟩)
        exact⟨H',Loops.round hr (Ent.refl _ _ _ _) L,w',((f1.sub (M:= [S.Q]) (by simp)).trans (Fr.up ⟨n,H.blks⟩ 2 []) (by simp)).trans f' (fun x hx _=>hx)⟩
      · have hls:less (π m) (π h)=false:=by simpa using hls
        obtain⟨k,k1,k2,k3,k4,k5⟩:=ih (h+1) j (by omega) (by omega) (by omega) h3 (.inr (by rw [show h+1-1=h by omega];exact hls)) hr
        refine⟨k,k1,k2,k3,k4,fun B H hB w=> ?_⟩
        obtain⟨n,r,n1,D,hr',w1,f1⟩:=w.cmp ok hw hc (i:=m) (j:=h) (hπ m (by omega)) (hπ h (by omega)) 22
        rw [hls]at hr'
        obtain⟨H',L,w',f'⟩:=k5 B ⟨n+3,H.blks⟩ (by show B≤n+3;omega) (w1.fr ok (Fr.up ⟨n,H.blks⟩ 3 []))
        have lt:=w.1
        obtain⟨e,F1,h1',hr,rfl,rfl,rfl⟩:=s2F_vp H ⟨n,H.blks⟩ B m i j h g cs S.dv (S.it (π m)) (S.it (π h)) (S.ad m) (S.ad h) r (fun e F1 h1=>e= .normal∧F1= [(0,S.dv),(2,.int .i64 (m:Nat)),(4,cvF g cs),(14,.int .i64 ((h+1:Nat):Int)),(15,.int .i64 (j:Nat))]∧h1=⟨n+3,H.blks⟩)
          (bifL hB ⟨boolT (by omega),bifL (by omega) ⟨⟨by omega,by omega⟩,⟨by omega,by omega⟩,.mk 1,cvM rfl (midW hhd (by omega)),bifL (by omega) ⟨S.ix rfl (by omega),w.ld ok (by omega) _,by show S.Q<H.next+10;omega,S.ix rfl (by omega),w.ld ok (by omega) _,by show S.Q<H.next+10;omega,⟨D⟩,boolF (fun h=>by have:=hr'.1 h;cases this),bifL (by show B≤n;omega) ⟨⟨by omega,by omega⟩,rfl,by rw [succI],rfl⟩⟩⟩⟩)
        exact⟨H',Loops.round hr (Ent.refl _ _ _ _) L,w',((f1.sub (M:= [S.Q]) (by simp)).trans (Fr.up ⟨n,H.blks⟩ 3 []) (by simp)).trans f' (fun x hx _=>hx)⟩
theorem sm3_loop {m i:Nat}(π:Nat→Nat)(hm:m<S.N): ∀ (f k:Nat),i+f=k→k≤m→ ∀ (B:Nat) (H:AHeap),B≤H.next→S.WS H (rotF π k m (m+1)) →
    ∃ H',Loops Tryz.prog cnd B 220 (loopAt Tryz.prog 161 3) [(0,S.dv),(14,.int .i64 (i:Nat)),(17,.int .i64 (k:Nat))] H (.exit 6) [] H'∧S.WS H' (rotF π i m (m+1))∧Fr H H' [S.Q]:=by
  have hN:=ok.n
  intro f
  induction f with
  | zero =>
    intro k e h B H hB w
    obtain rfl:i=k:=by omega
    obtain⟨e,F1,h1,hr,rfl,rfl,rfl⟩:=s3E_vp H B i i S.dv (fun e F1 h1=>e= .exit 6∧F1= [(0,S.dv),(14,.int .i64 (i:Nat)),(17,.int .i64 (i:Nat))]∧h1=up H 3) (bifL hB ⟨boolF (by omega),rfl,rfl,rfl⟩)
    exact⟨_,(Loops.last (by simp) hr).post (Ent.facts (fle [] (by kernel_rfl))),w.fr ok (Fr.up H 3 []),Fr.up H 3 _⟩
  | succ f ih =>
    intro k e h B H hB w
    obtain⟨q,rfl⟩: ∃ q,k=q+1:=⟨k-1,by omega⟩
    obtain⟨H1,H2,s1,s2,w2,f2,n1,n2⟩:=w.swap ok (i:=q+1) (j:=q) (by omega) (by omega) (by omega) 21
    have w3:=w2 (rotF π q m (m+1)) (fun x hx=>by
      have r:=rotL_step π h (by omega)
      rw [show q+1-1=q by omega]at r
      rw [← r]
      unfold swap1
      by_cases e1:x=q
      · rw [if_pos e1]
      · rw [if_neg e1])
    obtain⟨H',L,w',f'⟩:=ih q (by omega) (by omega) B (up H2 3) (by show B≤H2.next+3;omega) (w3.fr ok (Fr.up H2 3 []))
    have lt:=w.1
    obtain⟨e,F1,h1',hr,rfl,rfl,rfl⟩:=s3S_vp H H1 H2 B i (q+1) S.dv (S.it (rotF π (q+1) m (m+1) (q+1))) (S.it (rotF π (q+1) m (m+1) q)) (S.ad (q+1)) (S.ad q) (fun e F1 h1=>e= .normal∧F1= [(0,S.dv),(14,.int .i64 (i:Nat)),(17,.int .i64 (q:Nat))]∧h1=up H2 3)
      (bifL hB ⟨boolT (by omega),bifL (by omega) ⟨⟨by omega,by omega⟩,⟨by omega,by omega⟩,S.ix (by omega) (by omega),w.ld ok (by omega) _,by show S.Q<H.next+3;omega,S.ix rfl (by omega),w.ld ok (by omega) _,by show S.Q<H.next+3;omega,S.ix rfl (by omega),aop_storeG rfl rfl s1,S.ix (by omega) (by omega),aop_storeG rfl rfl s2,bifL (by omega) ⟨⟨by omega,by omega⟩,rfl,by rw [show((q+1:Nat):Int)-1=(q:Int)by omega],rfl⟩⟩⟩)
    exact⟨H',Loops.round hr (Ent.refl _ _ _ _) L,w',(f2.trans (Fr.up H2 3 []) (by simp)).trans f' (fun x hx _=>hx)⟩
theorem sm4_loop {a m b d n p s0 r0:Nat} (π:Nat→Nat) (hπ:InN S.N π) (hp: ∀ h,s0≤h→h<r0→h≤p∧p-h<S.N∧h<S.N) (hpN:p<2^50) (hr0:r0≤S.N): ∀ (fuel i j:Nat),j-i≤fuel→s0≤i→i≤j→j≤r0→(i=s0∨less (π (p- (i-1))) (π (i-1))=false)→(j=r0∨less (π (p-j)) (π j)=true) →
    ∃ k,s0≤k∧k≤r0∧(k=s0∨less (π (p- (k-1))) (π (k-1))=false)∧(k=r0∨less (π (p-k)) (π k)=true)∧ ∀ (B:Nat) (H:AHeap),B≤H.next→S.WS H π →
    ∃ H',Loops Tryz.prog cnd B 220 (loopAt Tryz.prog 161 4) [(0,S.dv),(1,.int .i64 (a:Nat)),(2,.int .i64 (m:Nat)),(3,.int .i64 (b:Nat)),(4,cvF g cs),(18,.int .i64 (d:Nat)),(19,.int .i64 (n:Nat)),(20,.int .i64 (i:Nat)),(21,.int .i64 (j:Nat)),(22,.int .i64 (p:Nat))] H
      (.exit 8) [(0,S.dv),(1,.int .i64 (a:Nat)),(2,.int .i64 (m:Nat)),(3,.int .i64 (b:Nat)),(4,cvF g cs),(18,.int .i64 (d:Nat)),(19,.int .i64 (n:Nat)),(20,.int .i64 (k:Nat))] H'∧S.WS H' π∧Fr H H' [S.Q]:=by
  have hN:=ok.n
  intro fuel
  induction fuel with
  | zero =>
    intro i j hf h1 h2 h3 hl hr
    obtain rfl:i=j:=by omega
    refine⟨i,h1,h3,hl,hr,fun B H hB w=> ?_⟩
    obtain⟨e,F1,h1,hr,rfl,rfl,rfl⟩:=s4E_vp H B a m b d n i i p S.dv (cvF g cs) (fun e F1 h1=>e= .exit 8∧F1= [(0,S.dv),(1,.int .i64 (a:Nat)),(2,.int .i64 (m:Nat)),(3,.int .i64 (b:Nat)),(4,cvF g cs),(18,.int .i64 (d:Nat)),(19,.int .i64 (n:Nat)),(20,.int .i64 (i:Nat)),(21,.int .i64 (i:Nat)),(22,.int .i64 (p:Nat))]∧h1=up H 3) (bifL hB ⟨boolF (by omega),rfl,rfl,rfl⟩)
    exact⟨_,(Loops.last (by simp) hr).post (Ent.facts (fle [0,1,2,3,4,18,19,20] (by kernel_rfl))),w.fr ok (Fr.up H 3 []),Fr.up H 3 _⟩
  | succ fuel ih =>
    intro i j hf h1 h2 h3 hl hr
    by_cases hij:i=j
    · exact ih i j (by omega) h1 h2 h3 hl hr
    · have hh:i≤(i+j) / 2∧(i+j) / 2<j:=by omega
      generalize hhd:(i+j) / 2=h at hh
      obtain⟨p1,p2,p3⟩:=hp h (by omega) (by omega)
      by_cases hls:less (π (p-h)) (π h)=true
      · obtain⟨k,k1,k2,k3,k4,k5⟩:=ih i h (by omega) h1 (by omega) (by omega) hl (.inr hls)
        refine⟨k,k1,k2,k3,k4,fun B H hB w=> ?_⟩
        obtain⟨n',r,n1,D,hr',w1,f1⟩:=w.cmp ok hw hc (i:=p-h) (j:=h) (hπ (p-h) p2) (hπ h p3) 24
        obtain⟨H',L,w',f'⟩:=k5 B ⟨n'+2,H.blks⟩ (by show B≤n'+2;omega) (w1.fr ok (Fr.up ⟨n',H.blks⟩ 2 []))
        have lt:=w.1
        obtain⟨e,F1,h1',hr,rfl,rfl,rfl⟩:=s4T_vp H ⟨n',H.blks⟩ B a m b d n i j p h g cs S.dv (S.it (π (p-h))) (S.it (π h)) (S.ad (p-h)) (S.ad h) r (fun e F1 h1=>e= .normal∧F1= [(0,S.dv),(1,.int .i64 (a:Nat)),(2,.int .i64 (m:Nat)),(3,.int .i64 (b:Nat)),(4,cvF g cs),(18,.int .i64 (d:Nat)),(19,.int .i64 (n:Nat)),(20,.int .i64 (i:Nat)),(21,.int .i64 (h:Nat)),(22,.int .i64 (p:Nat))]∧h1=⟨n'+2,H.blks⟩)
          (bifL hB ⟨boolT (by omega),bifL (by omega) ⟨⟨by omega,by omega⟩,⟨by omega,by omega⟩,.mk 1,cvM rfl (midW hhd (by omega)),bifL (by omega) ⟨⟨by omega,by omega⟩,S.ix (by omega) p2,w.ld ok p2 _,by show S.Q<H.next+10;omega,S.ix rfl p3,w.ld ok p3 _,by show S.Q<H.next+10;omega,⟨D⟩,boolT (hr'.2 hls),bifL (by show B≤n';omega) ⟨rfl,rfl,rfl⟩⟩⟩⟩)
        exact⟨H',Loops.round hr (Ent.refl _ _ _ _) L,w',((f1.sub (M:= [S.Q]) (by simp)).trans (Fr.up ⟨n',H.blks⟩ 2 []) (by simp)).trans f' (fun x hx _=>hx)⟩
      · have hls:less (π (p-h)) (π h)=false:=by simpa using hls
        obtain⟨k,k1,k2,k3,k4,k5⟩:=ih (h+1) j (by omega) (by omega) (by omega) h3 (.inr (by rw [show h+1-1=h by omega];exact hls)) hr
        refine⟨k,k1,k2,k3,k4,fun B H hB w=> ?_⟩
        obtain⟨n',r,n1,D,hr',w1,f1⟩:=w.cmp ok hw hc (i:=p-h) (j:=h) (hπ (p-h) p2) (hπ h p3) 24
        rw [hls]at hr'
        obtain⟨H',L,w',f'⟩:=k5 B ⟨n'+3,H.blks⟩ (by show B≤n'+3;omega) (w1.fr ok (Fr.up ⟨n',H.blks⟩ 3 []))
        have lt:=w.1
        obtain⟨e,F1,h1',hr,rfl,rfl,rfl⟩:=s4F_vp H ⟨n',H.blks⟩ B a m b d n i j p h g cs S.dv (S.it (π (p-h))) (S.it (π h)) (S.ad (p-h)) (S.ad h) r (fun e F1 h1=>e= .normal∧F1= [(0,S.dv),(1,.int .i64 (a:Nat)),(2,.int .i64 (m:Nat)),(3,.int .i64 (b:Nat)),(4,cvF g cs),(18,.int .i64 (d:Nat)),(19,.int .i64 (n:Nat)),(20,.int .i64 ((h+1:Nat):Int)),(21,.int .i64 (j:Nat)),(22,.int .i64 (p:Nat))]∧h1=⟨n'+3,H.blks⟩)
          (bifL hB ⟨boolT (by omega),bifL (by omega) ⟨⟨by omega,by omega⟩,⟨by omega,by omega⟩,.mk 1,cvM rfl (midW hhd (by omega)),bifL (by omega) ⟨⟨by omega,by omega⟩,S.ix (by omega) p2,w.ld ok p2 _,by show S.Q<H.next+10;omega,S.ix rfl p3,w.ld ok p3 _,by show S.Q<H.next+10;omega,⟨D⟩,boolF (fun h=>by have:=hr'.1 h;cases this),bifL (by show B≤n';omega) ⟨⟨by omega,by omega⟩,rfl,by rw [succI],rfl⟩⟩⟩⟩)
        exact⟨H',Loops.round hr (Ent.refl _ _ _ _) L,w',((f1.sub (M:= [S.Q]) (by simp)).trans (Fr.up ⟨n',H.blks⟩ 3 []) (by simp)).trans f' (fun x hx _=>hx)⟩
end
end Go.Proofs.YtjpfnbihopoeeaaGreatDoor
namespace Go.Proofs.YtjpfnbihopoeeaaGreatDoor
open Go.Lift
set_option maxRecDepth 1000000
theorem eqI {n:Int}{c:Nat}(h:n=c)(hc:c<2^62):some (AVal.int .i64 (IntKind.wrap .i64 n))=some (AVal.int .i64 (c:Int)):=by
  rw [h,wrap64 (by omega) (by omega)]
theorem eqF1 {n:Int}(h: ¬ n=1):some (AVal.bool (n == 1))=some (AVal.bool false):=by
  rw [beq_eq_false_iff_ne.2 h]
theorem eqT1 {n:Int}(h:n=1):some (AVal.bool (n == 1))=some (AVal.bool true):=by
  rw [h];rfl
theorem rotF_id1(π:Nat→Nat){m b:Nat}(h:m≤b):rotF π m m b=π:=by
  funext k
  unfold rotF
  by_cases c:m≤k∧k<m+(b-m)
  · rw [if_pos c];congr 1;omega
  · rw [if_neg c,if_neg (by omega)]
theorem rotF_id2(π:Nat→Nat){a m:Nat}(h:a≤m):rotF π a m m=π:=by
  funext k
  unfold rotF
  rw [if_neg (by omega)]
  by_cases c:a+(m-m)≤k∧k<m
  · rw [if_pos c];congr 1;omega
  · rw [if_neg c]
theorem Parts.congr {less:Nat→Nat→Bool}{π σ:Nat→Nat}{a m b:Nat}(h:Parts less π a m b)(ham:a≤m)(hmb:m≤b)(e: ∀ k,a≤k→k<b→σ k=π k):Parts less σ a m b :=
  ⟨fun i j h1 h2 h3=>by rw [e i (by omega) (by omega),e j (by omega) (by omega)];exact h.one i j h1 h2 h3,
   fun i j h1 h2 h3=>by rw [e i (by omega) (by omega),e j (by omega) (by omega)];exact h.two i j h1 h2 h3,
   fun i j h1 h2 h3 h4=>by rw [e i (by omega) (by omega),e j (by omega) (by omega)];exact h.cross i j h1 h2 h3 h4⟩
section
variable {S:SC}(ok:S.Ok){g:FuncId}{cs:List AVal}{less:Nat→Nat→Bool}(hw:Weak less)(hc:S.Cmp g cs less)
include ok
theorem smc_big {a m b k mid e:Nat} (π ρ σ τ:Nat→Nat) (hmid:mid=(a+b) / 2) (he:e=mid+m-k) (hk1:k≤m) (hk2:k≤mid) (hak:a≤k) (heb:e≤b) (ham:a<m) (ha1:m≠a+1) (hmb:m<b) (hb1:b≠m+1) (hb:b≤S.N) (ht:mid<m)
    (hloop: ∀ (B:Nat) (H:AHeap),B≤H.next→S.WS H π→ ∃ H',Loops Tryz.prog cnd B 220 (loopAt Tryz.prog 161 4) [(0,S.dv),(1,.int .i64 (a:Nat)),(2,.int .i64 (m:Nat)),(3,.int .i64 (b:Nat)),(4,cvF g cs),(18,.int .i64 (mid:Nat)),(19,.int .i64 ((mid+m:Nat):Int)),(20,.int .i64 ((mid+m-b:Nat):Int)),(21,.int .i64 ((mid:Nat):Int)),(22,.int .i64 ((mid+m-1:Nat):Int))] H
      (.exit 8) [(0,S.dv),(1,.int .i64 (a:Nat)),(2,.int .i64 (m:Nat)),(3,.int .i64 (b:Nat)),(4,cvF g cs),(18,.int .i64 (mid:Nat)),(19,.int .i64 ((mid+m:Nat):Int)),(20,.int .i64 (k:Nat))] H'∧S.WS H' π∧Fr H H' [S.Q])
    (hr:(k<m∧m<e∧S.Do 195 [S.dv,.int .i64 (k:Nat),.int .i64 (m:Nat),.int .i64 (e:Nat),cvF g cs] π ρ)∨(k<m∧ ¬ m<e∧π=ρ)∨(¬ k<m∧π=ρ))
    (hl:(a<k∧k<mid∧S.Do 161 [S.dv,.int .i64 (a:Nat),.int .i64 (k:Nat),.int .i64 (mid:Nat),cvF g cs] ρ σ)∨(a<k∧ ¬ k<mid∧ρ=σ)∨(¬ a<k∧ρ=σ))
    (hd:(mid<e∧e<b∧S.Do 161 [S.dv,.int .i64 (mid:Nat),.int .i64 (e:Nat),.int .i64 (b:Nat),cvF g cs] σ τ)∨(mid<e∧ ¬ e<b∧σ=τ)∨(¬ mid<e∧σ=τ)) :
    S.Do 161 [S.dv,.int .i64 (a:Nat),.int .i64 (m:Nat),.int .i64 (b:Nat),cvF g cs] π τ:=by
  have hN:=ok.n
  intro H w
  obtain⟨H1,L,w1,g1⟩:=hloop H.next (up H 33) (by show H.next≤H.next+33;omega) (w.fr ok (Fr.up H 33 []))
  have n1:H.next+33≤H1.next:=g1.next
  have f01:Fr H H1 [S.Q]:=(Fr.up H 33 [S.Q]).trans g1 (fun x hx _=>hx)
  rcases hr with ⟨r1,r2,dr⟩ | ⟨r1,r2,rfl⟩ | ⟨r1,rfl⟩
  · rcases hl with ⟨l1,l2,dl⟩ | ⟨l1,l2,rfl⟩ | ⟨l1,rfl⟩
    · rcases hd with ⟨d1,d2,dd⟩ | ⟨d1,d2,rfl⟩ | ⟨d1,rfl⟩
      · obtain⟨H2,DH2,wH2,gH2⟩:=dr (up H1 18) (w1.fr ok (Fr.up H1 18 []))
        have nH2:H1.next+18≤H2.next:=gH2.next
        have fH2:Fr H H2 [S.Q]:=(f01.trans (Fr.up H1 18 []) (by simp)).trans gH2 (fun x hx _=>hx)
        obtain⟨H3,DH3,wH3,gH3⟩:=dl (up H2 14) (wH2.fr ok (Fr.up H2 14 []))
        have nH3:H2.next+14≤H3.next:=gH3.next
        have fH3:Fr H H3 [S.Q]:=(fH2.trans (Fr.up H2 14 []) (by simp)).trans gH3 (fun x hx _=>hx)
        obtain⟨H4,DH4,wH4,gH4⟩:=dd (up H3 14) (wH3.fr ok (Fr.up H3 14 []))
        have nH4:H3.next+14≤H4.next:=gH4.next
        have fH4:Fr H H4 [S.Q]:=(fH3.trans (Fr.up H3 14 []) (by simp)).trans gH4 (fun x hx _=>hx)
        obtain⟨v,h1,hd,rfl,rfl⟩:=smB_vc H H1 H2 H3 H4 a m b mid (mid+m) (mid+m-b) (mid+m-1) k e S.dv (cvF g cs) (fun v h1=>v= .tuple []∧h1=H4)
          (bifL (Nat.le_refl _) ⟨⟨by omega,by omega⟩,eqF1 (by omega),bifL (by omega) ⟨⟨by omega,by omega⟩,eqF1 (by omega),bifL (by omega) ⟨⟨by omega,by omega⟩,⟨by omega,by omega⟩,.mk 1,cvM rfl (midW hmid.symm (by omega)),bifL (by omega) ⟨eqI (by omega) (by omega),bifL (by omega) (bifL (by omega) ⟨boolT (by omega),bifL (by omega) ⟨eqI (by omega) (by omega),bifL (by omega) (bifL (by omega) ⟨eqI (by omega) (by omega),⟨Runs.of_loops L,bifL (by omega) ⟨eqI (by omega) (by omega),bifL (by omega) ⟨boolT (by omega),⟨boolT (by omega),bifL (by omega) ⟨⟨DH2⟩,bifL (by omega) ⟨boolT (by omega),⟨boolT (by omega),bifL (by omega) ⟨⟨DH3⟩,bifL (by omega) ⟨boolT (by omega),⟨boolT (by omega),bifL (by omega) ⟨⟨DH4⟩,condL (by omega) ⟨rfl,rfl⟩⟩⟩⟩⟩⟩⟩⟩⟩⟩⟩⟩⟩)⟩⟩)⟩⟩⟩⟩)
        exact⟨_,hd,wH4,fH4⟩
      · obtain⟨H2,DH2,wH2,gH2⟩:=dr (up H1 18) (w1.fr ok (Fr.up H1 18 []))
        have nH2:H1.next+18≤H2.next:=gH2.next
        have fH2:Fr H H2 [S.Q]:=(f01.trans (Fr.up H1 18 []) (by simp)).trans gH2 (fun x hx _=>hx)
        obtain⟨H3,DH3,wH3,gH3⟩:=dl (up H2 14) (wH2.fr ok (Fr.up H2 14 []))
        have nH3:H2.next+14≤H3.next:=gH3.next
        have fH3:Fr H H3 [S.Q]:=(fH2.trans (Fr.up H2 14 []) (by simp)).trans gH3 (fun x hx _=>hx)
        obtain⟨v,h1,hd,rfl,rfl⟩:=smC_vc H H1 H2 H3 H a m b mid (mid+m) (mid+m-b) (mid+m-1) k e S.dv (cvF g cs) (fun v h1=>v= .tuple []∧h1=up H3 8)
          (bifL (Nat.le_refl _) ⟨⟨by omega,by omega⟩,eqF1 (by omega),bifL (by omega) ⟨⟨by omega,by omega⟩,eqF1 (by omega),bifL (by omega) ⟨⟨by omega,by omega⟩,⟨by omega,by omega⟩,.mk 1,cvM rfl (midW hmid.symm (by omega)),bifL (by omega) ⟨eqI (by omega) (by omega),bifL (by omega) (bifL (by omega) ⟨boolT (by omega),bifL (by omega) ⟨eqI (by omega) (by omega),bifL (by omega) (bifL (by omega) ⟨eqI (by omega) (by omega),⟨Runs.of_loops L,bifL (by omega) ⟨eqI (by omega) (by omega),bifL (by omega) ⟨boolT (by omega),⟨boolT (by omega),bifL (by omega) ⟨⟨DH2⟩,bifL (by omega) ⟨boolT (by omega),⟨boolT (by omega),bifL (by omega) ⟨⟨DH3⟩,bifL (by omega) ⟨boolT (by omega),⟨boolF (by omega),condL (by show H.next≤H3.next+8;omega) ⟨rfl,rfl⟩⟩⟩⟩⟩⟩⟩⟩⟩⟩⟩⟩)⟩⟩)⟩⟩⟩⟩)
        exact⟨_,hd,wH3.fr ok (Fr.up H3 8 []),fH3.trans (Fr.up H3 8 []) (by simp)⟩
      · omega
    · omega
    · rcases hd with ⟨d1,d2,dd⟩ | ⟨d1,d2,rfl⟩ | ⟨d1,rfl⟩
      · obtain⟨H2,DH2,wH2,gH2⟩:=dr (up H1 18) (w1.fr ok (Fr.up H1 18 []))
        have nH2:H1.next+18≤H2.next:=gH2.next
        have fH2:Fr H H2 [S.Q]:=(f01.trans (Fr.up H1 18 []) (by simp)).trans gH2 (fun x hx _=>hx)
        obtain⟨H4,DH4,wH4,gH4⟩:=dd (up H2 22) (wH2.fr ok (Fr.up H2 22 []))
        have nH4:H2.next+22≤H4.next:=gH4.next
        have fH4:Fr H H4 [S.Q]:=(fH2.trans (Fr.up H2 22 []) (by simp)).trans gH4 (fun x hx _=>hx)
        obtain⟨v,h1,hd,rfl,rfl⟩:=smD_vc H H1 H2 H H4 a m b mid (mid+m) (mid+m-b) (mid+m-1) k e S.dv (cvF g cs) (fun v h1=>v= .tuple []∧h1=H4)
          (bifL (Nat.le_refl _) ⟨⟨by omega,by omega⟩,eqF1 (by omega),bifL (by omega) ⟨⟨by omega,by omega⟩,eqF1 (by omega),bifL (by omega) ⟨⟨by omega,by omega⟩,⟨by omega,by omega⟩,.mk 1,cvM rfl (midW hmid.symm (by omega)),bifL (by omega) ⟨eqI (by omega) (by omega),bifL (by omega) (bifL (by omega) ⟨boolT (by omega),bifL (by omega) ⟨eqI (by omega) (by omega),bifL (by omega) (bifL (by omega) ⟨eqI (by omega) (by omega),⟨Runs.of_loops L,bifL (by omega) ⟨eqI (by omega) (by omega),bifL (by omega) ⟨boolT (by omega),⟨boolT (by omega),bifL (by omega) ⟨⟨DH2⟩,bifL (by omega) ⟨boolF (by omega),bifL (by omega) ⟨boolT (by omega),⟨boolT (by omega),bifL (by omega) ⟨⟨DH4⟩,condL (by omega) ⟨rfl,rfl⟩⟩⟩⟩⟩⟩⟩⟩⟩⟩⟩)⟩⟩)⟩⟩⟩⟩)
        exact⟨_,hd,wH4,fH4⟩
      · obtain⟨H2,DH2,wH2,gH2⟩:=dr (up H1 18) (w1.fr ok (Fr.up H1 18 []))
        have nH2:H1.next+18≤H2.next:=gH2.next
        have fH2:Fr H H2 [S.Q]:=(f01.trans (Fr.up H1 18 []) (by simp)).trans gH2 (fun x hx _=>hx)
        obtain⟨v,h1,hd,rfl,rfl⟩:=smE_vc H H1 H2 H H a m b mid (mid+m) (mid+m-b) (mid+m-1) k e S.dv (cvF g cs) (fun v h1=>v= .tuple []∧h1=up H2 16)
          (bifL (Nat.le_refl _) ⟨⟨by omega,by omega⟩,eqF1 (by omega),bifL (by omega) ⟨⟨by omega,by omega⟩,eqF1 (by omega),bifL (by omega) ⟨⟨by omega,by omega⟩,⟨by omega,by omega⟩,.mk 1,cvM rfl (midW hmid.symm (by omega)),bifL (by omega) ⟨eqI (by omega) (by omega),bifL (by omega) (bifL (by omega) ⟨boolT (by omega),bifL (by omega) ⟨eqI (by omega) (by omega),bifL (by omega) (bifL (by omega) ⟨eqI (by omega) (by omega),⟨Runs.of_loops L,bifL (by omega) ⟨eqI (by omega) (by omega),bifL (by omega) ⟨boolT (by omega),⟨boolT (by omega),bifL (by omega) ⟨⟨DH2⟩,bifL (by omega) ⟨boolF (by omega),bifL (by omega) ⟨boolT (by omega),⟨boolF (by omega),condL (by show H.next≤H2.next+16;omega) ⟨rfl,rfl⟩⟩⟩⟩⟩⟩⟩⟩⟩⟩)⟩⟩)⟩⟩⟩⟩)
        exact⟨_,hd,wH2.fr ok (Fr.up H2 16 []),fH2.trans (Fr.up H2 16 []) (by simp)⟩
      · omega
  · rcases hl with ⟨l1,l2,dl⟩ | ⟨l1,l2,rfl⟩ | ⟨l1,rfl⟩
    · omega
    · rcases hd with ⟨d1,d2,dd⟩ | ⟨d1,d2,rfl⟩ | ⟨d1,rfl⟩
      · obtain⟨H4,DH4,wH4,gH4⟩:=dd (up H1 34) (w1.fr ok (Fr.up H1 34 []))
        have nH4:H1.next+34≤H4.next:=gH4.next
        have fH4:Fr H H4 [S.Q]:=(f01.trans (Fr.up H1 34 []) (by simp)).trans gH4 (fun x hx _=>hx)
        obtain⟨v,h1,hd,rfl,rfl⟩:=smA_vc H H1 H H H4 a m b mid (mid+m) (mid+m-b) (mid+m-1) k e S.dv (cvF g cs) (fun v h1=>v= .tuple []∧h1=H4)
          (bifL (Nat.le_refl _) ⟨⟨by omega,by omega⟩,eqF1 (by omega),bifL (by omega) ⟨⟨by omega,by omega⟩,eqF1 (by omega),bifL (by omega) ⟨⟨by omega,by omega⟩,⟨by omega,by omega⟩,.mk 1,cvM rfl (midW hmid.symm (by omega)),bifL (by omega) ⟨eqI (by omega) (by omega),bifL (by omega) (bifL (by omega) ⟨boolT (by omega),bifL (by omega) ⟨eqI (by omega) (by omega),bifL (by omega) (bifL (by omega) ⟨eqI (by omega) (by omega),⟨Runs.of_loops L,bifL (by omega) ⟨eqI (by omega) (by omega),bifL (by omega) ⟨boolT (by omega),⟨boolF (by omega),bifL (by omega) ⟨boolT (by omega),⟨boolF (by omega),bifL (by omega) ⟨boolT (by omega),⟨boolT (by omega),bifL (by omega) ⟨⟨DH4⟩,condL (by omega) ⟨rfl,rfl⟩⟩⟩⟩⟩⟩⟩⟩⟩⟩⟩)⟩⟩)⟩⟩⟩⟩)
        exact⟨_,hd,wH4,fH4⟩
      · omega
      · omega
    · omega
  · omega
theorem smc_small {a m b k mid e:Nat} (π ρ σ τ:Nat→Nat) (hmid:mid=(a+b) / 2) (he:e=mid+m-k) (hk1:k≤m) (hk2:k≤mid) (hak:a≤k) (heb:e≤b) (ham:a<m) (ha1:m≠a+1) (hmb:m<b) (hb1:b≠m+1) (hb:b≤S.N) (ht: ¬ mid<m)
    (hloop: ∀ (B:Nat) (H:AHeap),B≤H.next→S.WS H π→ ∃ H',Loops Tryz.prog cnd B 220 (loopAt Tryz.prog 161 4) [(0,S.dv),(1,.int .i64 (a:Nat)),(2,.int .i64 (m:Nat)),(3,.int .i64 (b:Nat)),(4,cvF g cs),(18,.int .i64 (mid:Nat)),(19,.int .i64 ((mid+m:Nat):Int)),(20,.int .i64 ((a:Nat):Int)),(21,.int .i64 ((m:Nat):Int)),(22,.int .i64 ((mid+m-1:Nat):Int))] H
      (.exit 8) [(0,S.dv),(1,.int .i64 (a:Nat)),(2,.int .i64 (m:Nat)),(3,.int .i64 (b:Nat)),(4,cvF g cs),(18,.int .i64 (mid:Nat)),(19,.int .i64 ((mid+m:Nat):Int)),(20,.int .i64 (k:Nat))] H'∧S.WS H' π∧Fr H H' [S.Q])
    (hr:(k<m∧m<e∧S.Do 195 [S.dv,.int .i64 (k:Nat),.int .i64 (m:Nat),.int .i64 (e:Nat),cvF g cs] π ρ)∨(k<m∧ ¬ m<e∧π=ρ)∨(¬ k<m∧π=ρ))
    (hl:(a<k∧k<mid∧S.Do 161 [S.dv,.int .i64 (a:Nat),.int .i64 (k:Nat),.int .i64 (mid:Nat),cvF g cs] ρ σ)∨(a<k∧ ¬ k<mid∧ρ=σ)∨(¬ a<k∧ρ=σ))
    (hd:(mid<e∧e<b∧S.Do 161 [S.dv,.int .i64 (mid:Nat),.int .i64 (e:Nat),.int .i64 (b:Nat),cvF g cs] σ τ)∨(mid<e∧ ¬ e<b∧σ=τ)∨(¬ mid<e∧σ=τ)) :
    S.Do 161 [S.dv,.int .i64 (a:Nat),.int .i64 (m:Nat),.int .i64 (b:Nat),cvF g cs] π τ:=by
  have hN:=ok.n
  intro H w
  obtain⟨H1,L,w1,g1⟩:=hloop H.next (up H 31) (by show H.next≤H.next+31;omega) (w.fr ok (Fr.up H 31 []))
  have n1:H.next+31≤H1.next:=g1.next
  have f01:Fr H H1 [S.Q]:=(Fr.up H 31 [S.Q]).trans g1 (fun x hx _=>hx)
  rcases hr with ⟨r1,r2,dr⟩ | ⟨r1,r2,rfl⟩ | ⟨r1,rfl⟩
  · rcases hl with ⟨l1,l2,dl⟩ | ⟨l1,l2,rfl⟩ | ⟨l1,rfl⟩
    · rcases hd with ⟨d1,d2,dd⟩ | ⟨d1,d2,rfl⟩ | ⟨d1,rfl⟩
      · obtain⟨H2,DH2,wH2,gH2⟩:=dr (up H1 18) (w1.fr ok (Fr.up H1 18 []))
        have nH2:H1.next+18≤H2.next:=gH2.next
        have fH2:Fr H H2 [S.Q]:=(f01.trans (Fr.up H1 18 []) (by simp)).trans gH2 (fun x hx _=>hx)
        obtain⟨H3,DH3,wH3,gH3⟩:=dl (up H2 14) (wH2.fr ok (Fr.up H2 14 []))
        have nH3:H2.next+14≤H3.next:=gH3.next
        have fH3:Fr H H3 [S.Q]:=(fH2.trans (Fr.up H2 14 []) (by simp)).trans gH3 (fun x hx _=>hx)
        obtain⟨H4,DH4,wH4,gH4⟩:=dd (up H3 14) (wH3.fr ok (Fr.up H3 14 []))
        have nH4:H3.next+14≤H4.next:=gH4.next
        have fH4:Fr H H4 [S.Q]:=(fH3.trans (Fr.up H3 14 []) (by simp)).trans gH4 (fun x hx _=>hx)
        obtain⟨v,h1,hd,rfl,rfl⟩:=smF_vc H H1 H2 H3 H4 a m b mid (mid+m) (mid+m-b) (mid+m-1) k e S.dv (cvF g cs) (fun v h1=>v= .tuple []∧h1=H4)
          (bifL (Nat.le_refl _) ⟨⟨by omega,by omega⟩,eqF1 (by omega),bifL (by omega) ⟨⟨by omega,by omega⟩,eqF1 (by omega),bifL (by omega) ⟨⟨by omega,by omega⟩,⟨by omega,by omega⟩,.mk 1,cvM rfl (midW hmid.symm (by omega)),bifL (by omega) ⟨eqI (by omega) (by omega),bifL (by omega) (bifL (by omega) ⟨boolF (by omega),bifL (by omega) (bifL (by omega) (bifL (by omega) ⟨eqI (by omega) (by omega),⟨Runs.of_loops L,bifL (by omega) ⟨eqI (by omega) (by omega),bifL (by omega) ⟨boolT (by omega),⟨boolT (by omega),bifL (by omega) ⟨⟨DH2⟩,bifL (by omega) ⟨boolT (by omega),⟨boolT (by omega),bifL (by omega) ⟨⟨DH3⟩,bifL (by omega) ⟨boolT (by omega),⟨boolT (by omega),bifL (by omega) ⟨⟨DH4⟩,condL (by omega) ⟨rfl,rfl⟩⟩⟩⟩⟩⟩⟩⟩⟩⟩⟩⟩⟩))⟩)⟩⟩⟩⟩)
        exact⟨_,hd,wH4,fH4⟩
      · obtain⟨H2,DH2,wH2,gH2⟩:=dr (up H1 18) (w1.fr ok (Fr.up H1 18 []))
        have nH2:H1.next+18≤H2.next:=gH2.next
        have fH2:Fr H H2 [S.Q]:=(f01.trans (Fr.up H1 18 []) (by simp)).trans gH2 (fun x hx _=>hx)
        obtain⟨H3,DH3,wH3,gH3⟩:=dl (up H2 14) (wH2.fr ok (Fr.up H2 14 []))
        have nH3:H2.next+14≤H3.next:=gH3.next
        have fH3:Fr H H3 [S.Q]:=(fH2.trans (Fr.up H2 14 []) (by simp)).trans gH3 (fun x hx _=>hx)
        obtain⟨v,h1,hd,rfl,rfl⟩:=smG_vc H H1 H2 H3 H a m b mid (mid+m) (mid+m-b) (mid+m-1) k e S.dv (cvF g cs) (fun v h1=>v= .tuple []∧h1=up H3 8)
          (bifL (Nat.le_refl _) ⟨⟨by omega,by omega⟩,eqF1 (by omega),bifL (by omega) ⟨⟨by omega,by omega⟩,eqF1 (by omega),bifL (by omega) ⟨⟨by omega,by omega⟩,⟨by omega,by omega⟩,.mk 1,cvM rfl (midW hmid.symm (by omega)),bifL (by omega) ⟨eqI (by omega) (by omega),bifL (by omega) (bifL (by omega) ⟨boolF (by omega),bifL (by omega) (bifL (by omega) (bifL (by omega) ⟨eqI (by omega) (by omega),⟨Runs.of_loops L,bifL (by omega) ⟨eqI (by omega) (by omega),bifL (by omega) ⟨boolT (by omega),⟨boolT (by omega),bifL (by omega) ⟨⟨DH2⟩,bifL (by omega) ⟨boolT (by omega),⟨boolT (by omega),bifL (by omega) ⟨⟨DH3⟩,bifL (by omega) ⟨boolT (by omega),⟨boolF (by omega),condL (by show H.next≤H3.next+8;omega) ⟨rfl,rfl⟩⟩⟩⟩⟩⟩⟩⟩⟩⟩⟩⟩))⟩)⟩⟩⟩⟩)
        exact⟨_,hd,wH3.fr ok (Fr.up H3 8 []),fH3.trans (Fr.up H3 8 []) (by simp)⟩
      · omega
    · omega
    · rcases hd with ⟨d1,d2,dd⟩ | ⟨d1,d2,rfl⟩ | ⟨d1,rfl⟩
      · obtain⟨H2,DH2,wH2,gH2⟩:=dr (up H1 18) (w1.fr ok (Fr.up H1 18 []))
        have nH2:H1.next+18≤H2.next:=gH2.next
        have fH2:Fr H H2 [S.Q]:=(f01.trans (Fr.up H1 18 []) (by simp)).trans gH2 (fun x hx _=>hx)
        obtain⟨H4,DH4,wH4,gH4⟩:=dd (up H2 22) (wH2.fr ok (Fr.up H2 22 []))
        have nH4:H2.next+22≤H4.next:=gH4.next
        have fH4:Fr H H4 [S.Q]:=(fH2.trans (Fr.up H2 22 []) (by simp)).trans gH4 (fun x hx _=>hx)
        obtain⟨v,h1,hd,rfl,rfl⟩:=smH_vc H H1 H2 H H4 a m b mid (mid+m) (mid+m-b) (mid+m-1) k e S.dv (cvF g cs) (fun v h1=>v= .tuple []∧h1=H4)
          (bifL (Nat.le_refl _) ⟨⟨by omega,by omega⟩,eqF1 (by omega),bifL (by omega) ⟨⟨by omega,by omega⟩,eqF1 (by omega),bifL (by omega) ⟨⟨by omega,by omega⟩,⟨by omega,by omega⟩,.mk 1,cvM rfl (midW hmid.symm (by omega)),bifL (by omega) ⟨eqI (by omega) (by omega),bifL (by omega) (bifL (by omega) ⟨boolF (by omega),bifL (by omega) (bifL (by omega) (bifL (by omega) ⟨eqI (by omega) (by omega),⟨Runs.of_loops L,bifL (by omega) ⟨eqI (by omega) (by omega),bifL (by omega) ⟨boolT (by omega),⟨boolT (by omega),bifL (by omega) ⟨⟨DH2⟩,bifL (by omega) ⟨boolF (by omega),bifL (by omega) ⟨boolT (by omega),⟨boolT (by omega),bifL (by omega) ⟨⟨DH4⟩,condL (by omega) ⟨rfl,rfl⟩⟩⟩⟩⟩⟩⟩⟩⟩⟩⟩))⟩)⟩⟩⟩⟩)
        exact⟨_,hd,wH4,fH4⟩
      · obtain⟨H2,DH2,wH2,gH2⟩:=dr (up H1 18) (w1.fr ok (Fr.up H1 18 []))
        have nH2:H1.next+18≤H2.next:=gH2.next
        have fH2:Fr H H2 [S.Q]:=(f01.trans (Fr.up H1 18 []) (by simp)).trans gH2 (fun x hx _=>hx)
        obtain⟨v,h1,hd,rfl,rfl⟩:=smI_vc H H1 H2 H H a m b mid (mid+m) (mid+m-b) (mid+m-1) k e S.dv (cvF g cs) (fun v h1=>v= .tuple []∧h1=up H2 16)
          (bifL (Nat.le_refl _) ⟨⟨by omega,by omega⟩,eqF1 (by omega),bifL (by omega) ⟨⟨by omega,by omega⟩,eqF1 (by omega),bifL (by omega) ⟨⟨by omega,by omega⟩,⟨by omega,by omega⟩,.mk 1,cvM rfl (midW hmid.symm (by omega)),bifL (by omega) ⟨eqI (by omega) (by omega),bifL (by omega) (bifL (by omega) ⟨boolF (by omega),bifL (by omega) (bifL (by omega) (bifL (by omega) ⟨eqI (by omega) (by omega),⟨Runs.of_loops L,bifL (by omega) ⟨eqI (by omega) (by omega),bifL (by omega) ⟨boolT (by omega),⟨boolT (by omega),bifL (by omega) ⟨⟨DH2⟩,bifL (by omega) ⟨boolF (by omega),bifL (by omega) ⟨boolT (by omega),⟨boolF (by omega),condL (by show H.next≤H2.next+16;omega) ⟨rfl,rfl⟩⟩⟩⟩⟩⟩⟩⟩⟩⟩))⟩)⟩⟩⟩⟩)
        exact⟨_,hd,wH2.fr ok (Fr.up H2 16 []),fH2.trans (Fr.up H2 16 []) (by simp)⟩
      · omega
  · omega
  · rcases hl with ⟨l1,l2,dl⟩ | ⟨l1,l2,rfl⟩ | ⟨l1,rfl⟩
    · rcases hd with ⟨d1,d2,dd⟩ | ⟨d1,d2,rfl⟩ | ⟨d1,rfl⟩
      · omega
      · omega
      · obtain⟨H3,DH3,wH3,gH3⟩:=dl (up H1 26) (w1.fr ok (Fr.up H1 26 []))
        have nH3:H1.next+26≤H3.next:=gH3.next
        have fH3:Fr H H3 [S.Q]:=(f01.trans (Fr.up H1 26 []) (by simp)).trans gH3 (fun x hx _=>hx)
        obtain⟨v,h1,hd,rfl,rfl⟩:=smJ_vc H H1 H H3 H a m b mid (mid+m) (mid+m-b) (mid+m-1) k e S.dv (cvF g cs) (fun v h1=>v= .tuple []∧h1=up H3 8)
          (bifL (Nat.le_refl _) ⟨⟨by omega,by omega⟩,eqF1 (by omega),bifL (by omega) ⟨⟨by omega,by omega⟩,eqF1 (by omega),bifL (by omega) ⟨⟨by omega,by omega⟩,⟨by omega,by omega⟩,.mk 1,cvM rfl (midW hmid.symm (by omega)),bifL (by omega) ⟨eqI (by omega) (by omega),bifL (by omega) (bifL (by omega) ⟨boolF (by omega),bifL (by omega) (bifL (by omega) (bifL (by omega) ⟨eqI (by omega) (by omega),⟨Runs.of_loops L,bifL (by omega) ⟨eqI (by omega) (by omega),bifL (by omega) ⟨boolF (by omega),bifL (by omega) ⟨boolT (by omega),⟨boolT (by omega),bifL (by omega) ⟨⟨DH3⟩,bifL (by omega) ⟨boolF (by omega),condL (by show H.next≤H3.next+8;omega) ⟨rfl,rfl⟩⟩⟩⟩⟩⟩⟩⟩⟩))⟩)⟩⟩⟩⟩)
        exact⟨_,hd,wH3.fr ok (Fr.up H3 8 []),fH3.trans (Fr.up H3 8 []) (by simp)⟩
    · rcases hd with ⟨d1,d2,dd⟩ | ⟨d1,d2,rfl⟩ | ⟨d1,rfl⟩
      · omega
      · omega
      · obtain⟨v,h1,hd,rfl,rfl⟩:=smK_vc H H1 H H H a m b mid (mid+m) (mid+m-b) (mid+m-1) k e S.dv (cvF g cs) (fun v h1=>v= .tuple []∧h1=up H1 28)
          (bifL (Nat.le_refl _) ⟨⟨by omega,by omega⟩,eqF1 (by omega),bifL (by omega) ⟨⟨by omega,by omega⟩,eqF1 (by omega),bifL (by omega) ⟨⟨by omega,by omega⟩,⟨by omega,by omega⟩,.mk 1,cvM rfl (midW hmid.symm (by omega)),bifL (by omega) ⟨eqI (by omega) (by omega),bifL (by omega) (bifL (by omega) ⟨boolF (by omega),bifL (by omega) (bifL (by omega) (bifL (by omega) ⟨eqI (by omega) (by omega),⟨Runs.of_loops L,bifL (by omega) ⟨eqI (by omega) (by omega),bifL (by omega) ⟨boolF (by omega),bifL (by omega) ⟨boolT (by omega),⟨boolF (by omega),bifL (by omega) ⟨boolF (by omega),condL (by show H.next≤H1.next+28;omega) ⟨rfl,rfl⟩⟩⟩⟩⟩⟩⟩⟩))⟩)⟩⟩⟩⟩)
        exact⟨_,hd,w1.fr ok (Fr.up H1 28 []),f01.trans (Fr.up H1 28 []) (by simp)⟩
    · omega
include hw hc
theorem sm_one {a m b:Nat}(π:Nat→Nat)(hπ:InN S.N π)(hm:m=a+1)(hmb:m<b)(hb:b≤S.N)(hp:Parts less π a m b) :
    ∃ σ,Same π σ a b∧Srt less σ a b∧S.Do 161 [S.dv,.int .i64 (a:Nat),.int .i64 (m:Nat),.int .i64 (b:Nat),cvF g cs] π σ:=by
  have hN:=ok.n
  subst hm
  obtain⟨k,k1,k2,k3,k4,k5⟩:=sm0_loop ok hw hc π hπ (by omega:a<b) hb (b- (a+1)) (a+1) b (by omega) (by omega) (by omega) (by omega) (.inl rfl) (.inl rfl)
  refine⟨_,(rotF_same π (by omega) (by omega)).wide (Nat.le_refl a) k2 (by omega),merge_one hw hp k1 k2 k3 k4,fun H w=> ?_⟩
  obtain⟨H1,L1,w1,f1⟩:=k5 H.next (up H 8) (by show H.next≤H.next+8;omega) (w.fr ok (Fr.up H 8 []))
  have n1:H.next+8≤H1.next:=f1.next
  obtain⟨H2,L2,w2,f2⟩:=sm1_loop ok hw hc (a:=a) (i:=k) π (by omega) (k- (a+1)) a (by omega) (by omega) H.next (up H1 2) (by show H.next≤H1.next+2;omega) (by rw [rot1_zero];exact w1.fr ok (Fr.up H1 2 []))
  have n2:H1.next+2≤H2.next:=f2.next
  obtain⟨v,h1,hd,rfl,rfl⟩:=smO_vc H H1 H2 a (a+1) b k S.dv (cvF g cs) (fun v h1=>v= .tuple []∧h1=H2) (bifL (Nat.le_refl _) ⟨⟨by omega,by omega⟩,eqT1 (by omega),bifL (by omega) (bifL (by omega) ⟨Runs.of_loops L1,bifL (by omega) ⟨Runs.of_loops L2,condL (by omega) ⟨rfl,rfl⟩⟩⟩)⟩)
  exact⟨_,hd,w2,(((Fr.up H 8 [S.Q]).trans f1 (fun x hx _=>hx)).trans (Fr.up H1 2 []) (by simp)).trans f2 (fun x hx _=>hx)⟩
theorem sm_last {a m b:Nat}(π:Nat→Nat)(hπ:InN S.N π)(ham:a<m)(ham2:m≠a+1)(hbm:b=m+1)(hb:b≤S.N)(hp:Parts less π a m b) :
    ∃ σ,Same π σ a b∧Srt less σ a b∧S.Do 161 [S.dv,.int .i64 (a:Nat),.int .i64 (m:Nat),.int .i64 (b:Nat),cvF g cs] π σ:=by
  have hN:=ok.n
  subst hbm
  obtain⟨k,k1,k2,k3,k4,k5⟩:=sm2_loop ok hw hc π hπ ham (by omega) (m-a) a m (by omega) (by omega) (by omega) (by omega) (.inl rfl) (.inl rfl)
  refine⟨_,(rotF_same π k2 (by omega)).wide k1 (Nat.le_refl _) (by omega),merge_last hw hp k1 k2 k3 k4,fun H w=> ?_⟩
  obtain⟨H1,L1,w1,f1⟩:=k5 H.next (up H 12) (by show H.next≤H.next+12;omega) (w.fr ok (Fr.up H 12 []))
  have n1:H.next+12≤H1.next:=f1.next
  obtain⟨H2,L2,w2,f2⟩:=sm3_loop ok hw hc (i:=k) π (by omega:m<S.N) (m-k) m (by omega) (by omega) H.next (up H1 2) (by show H.next≤H1.next+2;omega) (by rw [rotL_zero];exact w1.fr ok (Fr.up H1 2 []))
  have n2:H1.next+2≤H2.next:=f2.next
  obtain⟨v,h1,hd,rfl,rfl⟩:=smL_vc H H1 H2 a m (m+1) k S.dv (cvF g cs) (fun v h1=>v= .tuple []∧h1=H2) (bifL (Nat.le_refl _) ⟨⟨by omega,by omega⟩,eqF1 (by omega),bifL (by omega) ⟨⟨by omega,by omega⟩,eqT1 (by omega),bifL (by omega) (bifL (by omega) ⟨Runs.of_loops L1,bifL (by omega) ⟨Runs.of_loops L2,condL (by omega) ⟨rfl,rfl⟩⟩⟩)⟩⟩)
  exact⟨_,hd,w2,(((Fr.up H 12 [S.Q]).trans f1 (fun x hx _=>hx)).trans (Fr.up H1 2 []) (by simp)).trans f2 (fun x hx _=>hx)⟩
theorem sm_does: ∀ (f a m b:Nat) (π:Nat→Nat),b-a≤f→InN S.N π→a<m→m<b→b≤S.N→Parts less π a m b →
    ∃ σ,Same π σ a b∧Srt less σ a b∧S.Do 161 [S.dv,.int .i64 (a:Nat),.int .i64 (m:Nat),.int .i64 (b:Nat),cvF g cs] π σ:=by
  have hN:=ok.n
  intro f
  induction f with
  | zero=>intro a m b π hf;omega
  | succ f ih =>
    intro a m b π hf hπ ham hmb hb hp
    by_cases e1:m=a+1
    · exact sm_one ok hw hc π hπ e1 hmb hb hp
    by_cases e2:b=m+1
    · exact sm_last ok hw hc π hπ ham e1 e2 hb hp
    obtain⟨mid,hmid⟩: ∃ mid,mid=(a+b) / 2:=⟨_,rfl⟩
    obtain⟨k,k1,k2,k3,k4,k5⟩:=sm4_loop ok hw hc (a:=a) (m:=m) (b:=b) (d:=mid) (n:=mid+m) (p:=mid+m-1) (s0:=if mid<m then mid+m-b else a) (r0:=if mid<m then mid else m) π hπ
      (fun h h1 h2=>by split at h1<;>split at h2<;>omega) (by omega) (by split<;>omega) b (if mid<m then mid+m-b else a) (if mid<m then mid else m) (by split<;>omega) (by omega) (by split<;>omega) (by omega) (.inl rfl) (.inl rfl)
    obtain⟨P1,P2,hX⟩:=merge_split hw hp ham hmb hmid k1 k2 k3 k4
    have bd:a≤k∧k≤m∧k≤mid∧m≤mid+m-k∧mid+m-k≤b:=by split at k1<;>split at k2<;>omega
    obtain⟨e,he⟩: ∃ e,e=mid+m-k:=⟨_,rfl⟩
    rw [← he]at P1 P2 hX bd
    obtain⟨ρ,hρ⟩: ∃ ρ,ρ=rotF π k m e:=⟨_,rfl⟩
    rw [← hρ]at P1 P2 hX
    have hs1:Same π ρ k e:=by rw [hρ];exact rotF_same π (by omega) (by omega)
    have hρN:InN S.N ρ:=hπ.same hs1 (by omega)
    have hr:(k<m∧m<e∧S.Do 195 [S.dv,.int .i64 (k:Nat),.int .i64 (m:Nat),.int .i64 (e:Nat),cvF g cs] π ρ)∨(k<m∧ ¬ m<e∧π=ρ)∨(¬ k<m∧π=ρ):=by
      by_cases q1:k<m
      · by_cases q2:m<e
        · exact .inl ⟨q1,q2,by rw [hρ];exact rot_does ok π q1 q2 (by omega) _⟩
        · exact .inr (.inl ⟨q1,q2,by rw [hρ,show e=m by omega,rotF_id2 π (by omega)]⟩)
      · exact .inr (.inr ⟨q1,by rw [hρ,show k=m by omega,rotF_id1 π (by omega)]⟩)
    have hl: ∃ σ,Same ρ σ a mid∧Srt less σ a mid∧((a<k∧k<mid∧S.Do 161 [S.dv,.int .i64 (a:Nat),.int .i64 (k:Nat),.int .i64 (mid:Nat),cvF g cs] ρ σ)∨(a<k∧ ¬ k<mid∧ρ=σ)∨(¬ a<k∧ρ=σ)):=by
      by_cases q1:a<k
      · by_cases q2:k<mid
        · obtain⟨σ,r1,r2,r3⟩:=ih a k mid ρ (by omega) hρN q1 q2 (by omega) P1
          exact⟨σ,r1,r2,.inl ⟨q1,q2,r3⟩⟩
        · refine⟨ρ,Same.refl _ _ _,?_,.inr (.inl ⟨q1,q2,rfl⟩)⟩
          have:=P1.one
          rwa [show k=mid by omega]at this
      · refine⟨ρ,Same.refl _ _ _,?_,.inr (.inr ⟨q1,rfl⟩)⟩
        have:=P1.two
        rwa [show k=a by omega]at this
    obtain⟨σ,l1,l2,l3⟩:=hl
    have hσN:InN S.N σ:=hρN.same l1 (by omega)
    have P3:Parts less σ mid e b:=Parts.congr P2 (by omega) (by omega) fun k h1 h2=>l1.out k (.inr h1)
    have hd: ∃ τ,Same σ τ mid b∧Srt less τ mid b∧((mid<e∧e<b∧S.Do 161 [S.dv,.int .i64 (mid:Nat),.int .i64 (e:Nat),.int .i64 (b:Nat),cvF g cs] σ τ)∨(mid<e∧ ¬ e<b∧σ=τ)∨(¬ mid<e∧σ=τ)):=by
      by_cases q1:mid<e
      · by_cases q2:e<b
        · obtain⟨τ,r1,r2,r3⟩:=ih mid e b σ (by omega) hσN q1 q2 hb P3
          exact⟨τ,r1,r2,.inl ⟨q1,q2,r3⟩⟩
        · refine⟨σ,Same.refl _ _ _,?_,.inr (.inl ⟨q1,q2,rfl⟩)⟩
          have:=P3.one
          rwa [show e=b by omega]at this
      · refine⟨σ,Same.refl _ _ _,?_,.inr (.inr ⟨q1,rfl⟩)⟩
        have:=P3.two
        rwa [show e=mid by omega]at this
    obtain⟨τ,d1,d2,d3⟩:=hd
    refine⟨τ,(hs1.wide (by omega) (by omega) (by omega)).trans ((l1.wide (Nat.le_refl _) (by omega) (by omega)).trans (d1.wide (by omega) (Nat.le_refl _) (by omega))),merge_join (by omega) (by omega) l1 l2 d1 d2 hX,?_⟩
    by_cases ht:mid<m
    · simp only [if_pos ht]at k5
      exact smc_big ok π ρ σ τ hmid he bd.2.1 bd.2.2.1 bd.1 bd.2.2.2.2 ham e1 hmb e2 hb ht k5 hr l3 d3
    · simp only [if_neg ht]at k5
      exact smc_small ok π ρ σ τ hmid he bd.2.1 bd.2.2.1 bd.1 bd.2.2.2.2 ham e1 hmb e2 hb ht k5 hr l3 d3
end
end Go.Proofs.YtjpfnbihopoeeaaGreatDoor
namespace Go.Proofs.YtjpfnbihopoeeaaGreatDoor
open Go.Lift
set_option maxRecDepth 1000000
def Cell(less:Nat→Nat→Bool)(π ρ:Nat→Nat)(lo hi:Nat):Prop:=Srt less ρ lo hi∧ ∀ j,lo≤j→j<hi→ ∃ i,lo≤i∧i<hi∧ρ j=π i
theorem Cell.congr {less:Nat→Nat→Bool}{π ρ σ:Nat→Nat}{lo hi:Nat}(h:Cell less π ρ lo hi)(e: ∀ k,lo≤k→k<hi→σ k=ρ k):Cell less π σ lo hi :=
  ⟨fun i j h1 h2 h3=>by rw [e i h1 (by omega),e j (by omega) h3];exact h.1 i j h1 h2 h3,fun j h1 h2=>by rw [e j h1 h2];exact h.2 j h1 h2⟩
theorem Cell.parts {less:Nat→Nat→Bool}{π ρ:Nat→Nat}{a m b N:Nat}(h:Cell less π ρ a m)(k:Cell less π ρ m b)(hb:b≤N)(hinc: ∀ i j,i<j→j<N→π i<π j):Parts less ρ a m b :=
  ⟨h.1,k.1,fun i j h1 h2 h3 h4=>by
    obtain⟨x,x1,x2,x3⟩:=h.2 i h1 h2
    obtain⟨y,y1,y2,y3⟩:=k.2 j h3 h4
    rw [x3,y3];exact hinc x y (by omega) (by omega)⟩
theorem Cell.merge {less:Nat→Nat→Bool}{π ρ σ:Nat→Nat}{a m b:Nat}(h:Cell less π ρ a m)(k:Cell less π ρ m b)(ham:a≤m)(hmb:m≤b)(s:Same ρ σ a b)(t:Srt less σ a b):Cell less π σ a b :=
  ⟨t, fun j h1 h2=>by
    obtain⟨x,x1,x2,x3⟩:=s.from h1 h2
    by_cases c:x<m
    · obtain⟨y,y1,y2,y3⟩:=h.2 x x1 c
      exact⟨y,y1,by omega,by rw [x3,y3]⟩
    · obtain⟨y,y1,y2,y3⟩:=k.2 x (by omega) x2
      exact⟨y,by omega,y2,by rw [x3,y3]⟩⟩
section
variable {S:SC}(ok:S.Ok){g:FuncId}{cs:List AVal}{less:Nat→Nat→Bool}(hw:Weak less)(hc:S.Cmp g cs less){π:Nat→Nat}(hπ:InN S.N π)(hinc: ∀ i j,i<j→j<S.N→π i<π j)
include ok hw hc hπ hinc
theorem st0_loop: ∀ (f a:Nat) (ρ:Nat→Nat),S.N-a≤f→a≤S.N→20∣a→Same π ρ 0 a→(∀ lo,20∣lo→lo<a→Cell less π ρ lo (lo+20)) →
    ∃ k σ,k≤S.N∧S.N<k+20∧20∣k∧Same π σ 0 k∧(∀ lo,20∣lo→lo<k→Cell less π σ lo (lo+20))∧ ∀ (B:Nat) (H:AHeap),B≤H.next→S.WS H ρ→ ∃ H',
    Loops Tryz.prog cnd B 63 (loopAt Tryz.prog 122 0) [(0,S.dv),(1,.int .i64 (S.N:Nat)),(2,cvF g cs),(6,.int .i64 (20:Nat)),(7,.int .i64 (a:Nat)),(8,.int .i64 ((a+20:Nat):Int))] H
      (.exit 0) [(0,S.dv),(1,.int .i64 (S.N:Nat)),(2,cvF g cs),(6,.int .i64 (20:Nat)),(7,.int .i64 (k:Nat))] H'∧S.WS H' σ∧Fr H H' [S.Q]:=by
  have hN:=ok.n
  intro f
  induction f with
  | zero =>
    intro a ρ hf ha h20 hs hcl
    refine⟨a,ρ,ha,by omega,h20,hs,hcl,fun B H hB w=> ?_⟩
    obtain⟨e,F1,h1,hr,rfl,rfl,rfl⟩:=t0E_vp H B S.N 20 a (a+20) S.dv (cvF g cs) (fun e F1 h1=>e= .exit 0∧F1= [(0,S.dv),(1,.int .i64 (S.N:Nat)),(2,cvF g cs),(6,.int .i64 (20:Nat)),(7,.int .i64 (a:Nat)),(8,.int .i64 ((a+20:Nat):Int))]∧h1=up H 3) (bifL hB ⟨boolF (by omega),rfl,rfl,rfl⟩)
    exact⟨_,(Loops.last (by simp) hr).post (Ent.facts (fle [0,1,2,6,7] (by kernel_rfl))),w.fr ok (Fr.up H 3 []),Fr.up H 3 _⟩
  | succ f ih =>
    intro a ρ hf ha h20 hs hcl
    by_cases hb:a+20≤S.N
    · have hρ:InN S.N ρ:=hπ.same hs ha
      have hout: ∀ k,a≤k→ρ k=π k:=fun k hk=>hs.out k (.inr hk)
      obtain⟨σ,s1,s2,s3⟩:=ins_does ok hw hc (a:=a) (b:=a+20) ρ hρ (by omega) hb (fun i j h1 h2 h3=>by rw [hout i h1,hout j (by omega)];exact hinc i j h2 (by omega))
      have hs':Same π σ 0 (a+20):=(hs.wide (Nat.le_refl _) (by omega) (by omega)).trans (s1.wide (by omega) (Nat.le_refl _) (by omega))
      have hc': ∀ lo,20∣lo→lo<a+20→Cell less π σ lo (lo+20):=by
        intro lo hd hlt
        by_cases c:lo<a
        · exact(hcl lo hd c).congr fun k h1 h2=>s1.out k (.inl (by omega))
        · obtain rfl:lo=a:=by omega
          refine⟨s2,fun j h1 h2=> ?_⟩
          obtain⟨x,x1,x2,x3⟩:=s1.from h1 h2
          exact⟨x,x1,x2,by rw [x3,hout x x1]⟩
      obtain⟨k,τ,k1,k2,k3,k4,k5,k6⟩:=ih (a+20) σ (by omega) hb (by omega) hs' hc'
      refine⟨k,τ,k1,k2,k3,k4,k5,fun B H hB w=> ?_⟩
      obtain⟨H1,D,w1,f1⟩:=s3 (up H 8) (w.fr ok (Fr.up H 8 []))
      have n1:H.next+8≤H1.next:=f1.next
      obtain⟨H',L,w',f'⟩:=k6 B (up H1 6) (by show B≤H1.next+6;omega) (w1.fr ok (Fr.up H1 6 []))
      obtain⟨e,F1,h1,hr,rfl,rfl,rfl⟩:=t0S_vp H H1 B S.N 20 a (a+20) S.dv (cvF g cs) (fun e F1 h1=>e= .normal∧F1= [(0,S.dv),(1,.int .i64 (S.N:Nat)),(2,cvF g cs),(6,.int .i64 (20:Nat)),(7,.int .i64 ((a+20:Nat):Int)),(8,.int .i64 ((a+20+20:Nat):Int))]∧h1=up H1 6)
        (bifL hB ⟨boolT (by omega),bifL (by omega) ⟨⟨D⟩,bifL (by omega) (bifL (by omega) ⟨⟨by omega,by omega⟩,rfl,by rw [show((a+20:Nat):Int)+((20:Nat):Int)=((a+20+20:Nat):Int)by omega],rfl⟩)⟩⟩)
      exact⟨H',Loops.round hr (Ent.refl _ _ _ _) L,w',(((Fr.up H 8 [S.Q]).trans f1 (fun x hx _=>hx)).trans (Fr.up H1 6 []) (by simp)).trans f' (fun x hx _=>hx)⟩
    · refine⟨a,ρ,ha,by omega,h20,hs,hcl,fun B H hB w=> ?_⟩
      obtain⟨e,F1,h1,hr,rfl,rfl,rfl⟩:=t0E_vp H B S.N 20 a (a+20) S.dv (cvF g cs) (fun e F1 h1=>e= .exit 0∧F1= [(0,S.dv),(1,.int .i64 (S.N:Nat)),(2,cvF g cs),(6,.int .i64 (20:Nat)),(7,.int .i64 (a:Nat)),(8,.int .i64 ((a+20:Nat):Int))]∧h1=up H 3) (bifL hB ⟨boolF (by omega),rfl,rfl,rfl⟩)
      exact⟨_,(Loops.last (by simp) hr).post (Ent.facts (fle [0,1,2,6,7] (by kernel_rfl))),w.fr ok (Fr.up H 3 []),Fr.up H 3 _⟩
theorem st2_loop {s:Nat} (hs0:0<s) (hsN:s<S.N): ∀ (f a:Nat) (ρ:Nat→Nat),S.N-a≤f→a≤S.N→2*s∣a→Same π ρ 0 S.N→(∀ lo,2*s∣lo→lo<a→Cell less π ρ lo (lo+2*s))→(∀ lo,s∣lo→a≤lo→lo<S.N→Cell less π ρ lo (min (lo+s) S.N)) →
    ∃ k σ,k≤S.N∧S.N<k+2*s∧2*s∣k∧Same π σ 0 S.N∧(∀ lo,2*s∣lo→lo<k→Cell less π σ lo (lo+2*s))∧(∀ lo,s∣lo→k≤lo→lo<S.N→Cell less π σ lo (min (lo+s) S.N))∧ ∀ (B:Nat) (H:AHeap),B≤H.next→S.WS H ρ→ ∃ H',
    Loops Tryz.prog cnd B 63 (loopAt Tryz.prog 122 2) [(0,S.dv),(1,.int .i64 (S.N:Nat)),(2,cvF g cs),(6,.int .i64 (s:Nat)),(7,.int .i64 (a:Nat)),(8,.int .i64 ((a+2*s:Nat):Int))] H
      (.exit 4) [(0,S.dv),(1,.int .i64 (S.N:Nat)),(2,cvF g cs),(6,.int .i64 (s:Nat)),(7,.int .i64 (k:Nat))] H'∧S.WS H' σ∧Fr H H' [S.Q]:=by
  have hN:=ok.n
  intro f
  have stop: ∀ (a:Nat) (ρ:Nat→Nat) (B:Nat) (H:AHeap),B≤H.next→S.WS H ρ→ ¬ a+2*s≤S.N→ ∃ H',Loops Tryz.prog cnd B 63 (loopAt Tryz.prog 122 2) [(0,S.dv),(1,.int .i64 (S.N:Nat)),(2,cvF g cs),(6,.int .i64 (s:Nat)),(7,.int .i64 (a:Nat)),(8,.int .i64 ((a+2*s:Nat):Int))] H
      (.exit 4) [(0,S.dv),(1,.int .i64 (S.N:Nat)),(2,cvF g cs),(6,.int .i64 (s:Nat)),(7,.int .i64 (a:Nat))] H'∧S.WS H' ρ∧Fr H H' [S.Q]:=by
    intro a ρ B H hB w hn
    obtain⟨e,F1,h1,hr,rfl,rfl,rfl⟩:=t2E_vp H B S.N s a (a+2*s) S.dv (cvF g cs) (fun e F1 h1=>e= .exit 4∧F1= [(0,S.dv),(1,.int .i64 (S.N:Nat)),(2,cvF g cs),(6,.int .i64 (s:Nat)),(7,.int .i64 (a:Nat)),(8,.int .i64 ((a+2*s:Nat):Int))]∧h1=up H 3) (bifL hB ⟨boolF (by omega),rfl,rfl,rfl⟩)
    exact⟨_,(Loops.last (by simp) hr).post (Ent.facts (fle [0,1,2,6,7] (by kernel_rfl))),w.fr ok (Fr.up H 3 []),Fr.up H 3 _⟩
  induction f with
  | zero =>
    intro a ρ hf ha hd hs hcl hr
    exact⟨a,ρ,ha,by omega,hd,hs,hcl,hr,fun B H hB w=>stop a ρ B H hB w (by omega)⟩
  | succ f ih =>
    intro a ρ hf ha hd hs hcl hr
    by_cases hb:a+2*s≤S.N
    · have hρ:InN S.N ρ:=hπ.same hs (Nat.le_refl _)
      have hsa:s∣a:=Nat.dvd_trans ⟨2,by omega⟩ hd
      have q1:=hr a hsa (Nat.le_refl _) (by omega)
      have q2:=hr (a+s) (Nat.dvd_add hsa (Nat.dvd_refl s)) (by omega) (by omega)
      rw [show min (a+s) S.N=a+s by omega]at q1
      rw [show min (a+s+s) S.N=a+2*s by omega]at q2
      obtain⟨σ,s1,s2,s3⟩:=sm_does ok hw hc (a+2*s-a) a (a+s) (a+2*s) ρ (Nat.le_refl _) hρ (by omega) (by omega) hb (q1.parts q2 hb hinc)
      have hcell:=q1.merge q2 (by omega) (by omega) s1 s2
      have hs':Same π σ 0 S.N:=hs.trans (s1.wide (by omega) hb (by omega))
      have hc': ∀ lo,2*s∣lo→lo<a+2*s→Cell less π σ lo (lo+2*s):=by
        intro lo hdl hlt
        by_cases c:lo<a
        · have:2*s≤a-lo:=Nat.le_of_dvd (by omega) (Nat.dvd_sub hd hdl)
          exact(hcl lo hdl c).congr fun k h1 h2=>s1.out k (.inl (by omega))
        · by_cases c2:lo=a
          · subst c2;exact hcell
          · have:2*s≤lo-a:=Nat.le_of_dvd (by omega) (Nat.dvd_sub hdl hd)
            omega
      have hr': ∀ lo,s∣lo→a+2*s≤lo→lo<S.N→Cell less π σ lo (min (lo+s) S.N):=fun lo h1 h2 h3=>(hr lo h1 (by omega) h3).congr fun k h4 h5=>s1.out k (.inr (by omega))
      obtain⟨k,τ,k1,k2,k3,k4,k5,k6,k7⟩:=ih (a+2*s) σ (by omega) hb (Nat.dvd_add hd (Nat.dvd_refl _)) hs' hc' hr'
      refine⟨k,τ,k1,k2,k3,k4,k5,k6,fun B H hB w=> ?_⟩
      obtain⟨H1,D,w1,f1⟩:=s3 (up H 11) (w.fr ok (Fr.up H 11 []))
      have n1:H.next+11≤H1.next:=f1.next
      obtain⟨H',L,w',f'⟩:=k7 B (up H1 7) (by show B≤H1.next+7;omega) (w1.fr ok (Fr.up H1 7 []))
      obtain⟨e,F1,h1,hr,rfl,rfl,rfl⟩:=t2S_vp H H1 B S.N s a (a+2*s) S.dv (cvF g cs) (fun e F1 h1=>e= .normal∧F1= [(0,S.dv),(1,.int .i64 (S.N:Nat)),(2,cvF g cs),(6,.int .i64 (s:Nat)),(7,.int .i64 ((a+2*s:Nat):Int)),(8,.int .i64 ((a+2*s+2*s:Nat):Int))]∧h1=up H1 7)
        (bifL hB ⟨boolT (by omega),bifL (by omega) ⟨⟨by omega,by omega⟩,⟨by rw [show(a:Int)+(s:Int)=((a+s:Nat):Int)by omega];exact D⟩,bifL (by omega) (bifL (by omega) ⟨⟨by omega,by omega⟩,⟨by omega,by omega⟩,rfl,by rw [show((a+2*s:Nat):Int)+2* (s:Int)=((a+2*s+2*s:Nat):Int)by omega],rfl⟩)⟩⟩)
      exact⟨H',Loops.round hr (Ent.refl _ _ _ _) L,w',(((Fr.up H 11 [S.Q]).trans f1 (fun x hx _=>hx)).trans (Fr.up H1 7 []) (by simp)).trans f' (fun x hx _=>hx)⟩
    · exact⟨a,ρ,ha,by omega,hd,hs,hcl,hr,fun B H hB w=>stop a ρ B H hB w (by omega)⟩
theorem st1_loop: ∀ (f s:Nat) (ρ:Nat→Nat),S.N-s≤f→0<s→s<2^46→Same π ρ 0 S.N→(∀ lo,s∣lo→lo<S.N→Cell less π ρ lo (min (lo+s) S.N)) →
    ∃ σ,Same π σ 0 S.N∧Srt less σ 0 S.N∧ ∀ (B:Nat) (H:AHeap),B≤H.next→S.WS H ρ→ ∃ H',
    Loops Tryz.prog cnd B 63 (loopAt Tryz.prog 122 1) [(0,S.dv),(1,.int .i64 (S.N:Nat)),(2,cvF g cs),(6,.int .i64 (s:Nat))] H (.exit 2) [] H'∧S.WS H' σ∧Fr H H' [S.Q]:=by
  have hN:=ok.n
  intro f
  induction f with
  | zero =>
    intro s ρ hf hs0 hsb hs hcl
    refine⟨ρ,hs,?_,fun B H hB w=> ?_⟩
    · by_cases h0:S.N=0
      · intro i j h1 h2 h3;omega
      · have:=(hcl 0 ⟨0,rfl⟩ (by omega)).1
        rwa [show min (0+s) S.N=S.N by omega]at this
    · obtain⟨e,F1,h1,hr,rfl,rfl,rfl⟩:=t1E_vp H B S.N s S.dv (cvF g cs) (fun e F1 h1=>e= .exit 2∧F1= [(0,S.dv),(1,.int .i64 (S.N:Nat)),(2,cvF g cs),(6,.int .i64 (s:Nat))]∧h1=up H 3) (bifL hB ⟨boolF (by omega),rfl,rfl,rfl⟩)
      exact⟨_,(Loops.last (by simp) hr).post (Ent.facts (fle [] (by kernel_rfl))),w.fr ok (Fr.up H 3 []),Fr.up H 3 _⟩
  | succ f ih =>
    intro s ρ hf hs0 hsb hs hcl
    by_cases hsN:s<S.N
    · obtain⟨k,σ,k1,k2,k3,k4,k5,k6,k7⟩:=st2_loop ok hw hc hπ hinc hs0 hsN S.N 0 ρ (by omega) (by omega) ⟨0,rfl⟩ hs (fun lo _ h=>by omega) (fun lo h1 _ h2=>hcl lo h1 h2)
      have hsk:s∣k:=Nat.dvd_trans ⟨2,by omega⟩ k3
      have fin: ∀ τ:Nat→Nat,(∀ j,j<k→τ j=σ j)→(k<S.N→Cell less π τ k S.N)→ ∀ lo,s*2∣lo→lo<S.N→Cell less π τ lo (min (lo+s*2) S.N):=by
        intro τ e1 e2 lo hd hlt
        rw [Nat.mul_comm]at hd
        by_cases c:lo<k
        · have:2*s≤k-lo:=Nat.le_of_dvd (by omega) (Nat.dvd_sub k3 hd)
          rw [show min (lo+s*2) S.N=lo+2*s by omega]
          exact(k5 lo hd c).congr fun j h1 h2=>e1 j (by omega)
        · by_cases c2:lo=k
          · subst c2
            rw [show min (lo+s*2) S.N=S.N by omega]
            exact e2 hlt
          · have:2*s≤lo-k:=Nat.le_of_dvd (by omega) (Nat.dvd_sub hd k3)
            omega
      by_cases hk:k+s<S.N
      · have hσ:InN S.N σ:=hπ.same k4 (Nat.le_refl _)
        have q1:=k6 k hsk (Nat.le_refl _) (by omega)
        have q2:=k6 (k+s) (Nat.dvd_add hsk (Nat.dvd_refl s)) (by omega) (by omega)
        rw [show min (k+s) S.N=k+s by omega]at q1
        rw [show min (k+s+s) S.N=S.N by omega]at q2
        obtain⟨τ,t1,t2,t3⟩:=sm_does ok hw hc (S.N-k) k (k+s) S.N σ (Nat.le_refl _) hσ (by omega) (by omega) (Nat.le_refl _) (q1.parts q2 (Nat.le_refl _) hinc)
        obtain⟨υ,u1,u2,u3⟩:=ih (s*2) τ (by omega) (by omega) (by omega) (k4.trans (t1.wide (by omega) (Nat.le_refl _) (by omega))) (fin τ (fun j hj=>t1.out j (.inl hj)) fun _=>q1.merge q2 (by omega) (by omega) t1 t2)
        refine⟨υ,u1,u2,fun B H hB w=> ?_⟩
        obtain⟨H1,L1,w1,f1⟩:=k7 B (up H 7) (by show B≤H.next+7;omega) (w.fr ok (Fr.up H 7 []))
        have n1:H.next+7≤H1.next:=f1.next
        rw [show((0+2*s:Nat):Int)=2* (s:Int)by omega]at L1
        obtain⟨H2,D,w2,f2⟩:=t3 (up H1 13) (w1.fr ok (Fr.up H1 13 []))
        have n2:H1.next+13≤H2.next:=f2.next
        obtain⟨H',L,w',f'⟩:=u3 B (up H2 3) (by show B≤H2.next+3;omega) (w2.fr ok (Fr.up H2 3 []))
        obtain⟨e,F1,h1,hr,rfl,rfl,rfl⟩:=t1S_vp H H1 H2 B S.N s k S.dv (cvF g cs) (fun e F1 h1=>e= .normal∧F1= [(0,S.dv),(1,.int .i64 (S.N:Nat)),(2,cvF g cs),(6,.int .i64 ((s*2:Nat):Int))]∧h1=up H2 3)
          (bifL hB ⟨boolT (by omega),bifL (by omega) ⟨⟨by omega,by omega⟩,Runs.of_loops L1,bifL (by omega) ⟨⟨by omega,by omega⟩,bifL (by omega) ⟨boolT (by omega),bifL (by omega) ⟨⟨by rw [show(k:Int)+(s:Int)=((k+s:Nat):Int)by omega];exact D⟩,bifL (by omega) ⟨⟨by omega,by omega⟩,rfl,by rw [show(s:Int)*2=((s*2:Nat):Int)by omega],rfl⟩⟩⟩⟩⟩⟩)
        exact⟨H',Loops.round hr (Ent.refl _ _ _ _) L,w',(((((Fr.up H 7 [S.Q]).trans f1 (fun x hx _=>hx)).trans (Fr.up H1 13 []) (by simp)).trans f2 (fun x hx _=>hx)).trans (Fr.up H2 3 []) (by simp)).trans f' (fun x hx _=>hx)⟩
      · obtain⟨υ,u1,u2,u3⟩:=ih (s*2) σ (by omega) (by omega) (by omega) k4 (fin σ (fun j hj=>rfl) fun h=>by
          have q1:=k6 k hsk (Nat.le_refl _) h
          rwa [show min (k+s) S.N=S.N by omega]at q1)
        refine⟨υ,u1,u2,fun B H hB w=> ?_⟩
        obtain⟨H1,L1,w1,f1⟩:=k7 B (up H 7) (by show B≤H.next+7;omega) (w.fr ok (Fr.up H 7 []))
        have n1:H.next+7≤H1.next:=f1.next
        rw [show((0+2*s:Nat):Int)=2* (s:Int)by omega]at L1
        obtain⟨H',L,w',f'⟩:=u3 B (up H1 10) (by show B≤H1.next+10;omega) (w1.fr ok (Fr.up H1 10 []))
        obtain⟨e,F1,h1,hr,rfl,rfl,rfl⟩:=t1N_vp H H1 B S.N s k S.dv (cvF g cs) (fun e F1 h1=>e= .normal∧F1= [(0,S.dv),(1,.int .i64 (S.N:Nat)),(2,cvF g cs),(6,.int .i64 ((s*2:Nat):Int))]∧h1=up H1 10)
          (bifL hB ⟨boolT (by omega),bifL (by omega) ⟨⟨by omega,by omega⟩,Runs.of_loops L1,bifL (by omega) ⟨⟨by omega,by omega⟩,bifL (by omega) ⟨boolF (by omega),bifL (by omega) ⟨⟨by omega,by omega⟩,rfl,by rw [show(s:Int)*2=((s*2:Nat):Int)by omega],rfl⟩⟩⟩⟩⟩)
        exact⟨H',Loops.round hr (Ent.refl _ _ _ _) L,w',(((Fr.up H 7 [S.Q]).trans f1 (fun x hx _=>hx)).trans (Fr.up H1 10 []) (by simp)).trans f' (fun x hx _=>hx)⟩
    · refine⟨ρ,hs,?_,fun B H hB w=> ?_⟩
      · by_cases h0:S.N=0
        · intro i j h1 h2 h3;omega
        · have:=(hcl 0 ⟨0,rfl⟩ (by omega)).1
          rwa [show min (0+s) S.N=S.N by omega]at this
      · obtain⟨e,F1,h1,hr,rfl,rfl,rfl⟩:=t1E_vp H B S.N s S.dv (cvF g cs) (fun e F1 h1=>e= .exit 2∧F1= [(0,S.dv),(1,.int .i64 (S.N:Nat)),(2,cvF g cs),(6,.int .i64 (s:Nat))]∧h1=up H 3) (bifL hB ⟨boolF (by omega),rfl,rfl,rfl⟩)
        exact⟨_,(Loops.last (by simp) hr).post (Ent.facts (fle [] (by kernel_rfl))),w.fr ok (Fr.up H 3 []),Fr.up H 3 _⟩
theorem sort_does: ∃ σ,Same π σ 0 S.N∧Srt less σ 0 S.N∧S.Do 72 [S.dv,cvF g cs] π σ:=by
  have hN:=ok.n
  obtain⟨k,ρ,k1,k2,k3,k4,k5,k6⟩:=st0_loop ok hw hc hπ hinc S.N 0 π (by omega) (by omega) ⟨0,rfl⟩ (Same.refl _ _ _) (fun lo _ h=>by omega)
  have hρ:InN S.N ρ:=hπ.same k4 k1
  have hout: ∀ j,k≤j→ρ j=π j:=fun j hj=>k4.out j (.inr hj)
  obtain⟨σ,s1,s2,s3⟩:=ins_does ok hw hc (a:=k) (b:=S.N) ρ hρ k1 (Nat.le_refl _) (fun i j h1 h2 h3=>by rw [hout i h1,hout j (by omega)];exact hinc i j h2 h3)
  have hs':Same π σ 0 S.N:=(k4.wide (Nat.le_refl _) k1 (by omega)).trans (s1.wide (by omega) (Nat.le_refl _) (by omega))
  have hc': ∀ lo,20∣lo→lo<S.N→Cell less π σ lo (min (lo+20) S.N):=by
    intro lo hd hlt
    by_cases c:lo<k
    · rw [show min (lo+20) S.N=lo+20 by omega]
      exact(k5 lo hd c).congr fun j h1 h2=>s1.out j (.inl (by omega))
    · obtain rfl:lo=k:=by omega
      rw [show min (lo+20) S.N=S.N by omega]
      refine⟨s2,fun j h1 h2=> ?_⟩
      obtain⟨x,x1,x2,x3⟩:=s1.from h1 h2
      exact⟨x,x1,x2,by rw [x3,hout x x1]⟩
  obtain⟨τ,t1,t2,t3⟩:=st1_loop ok hw hc hπ hinc S.N 20 σ (by omega) (by omega) (by omega) hs' hc'
  refine⟨τ,t1,t2,fun H w=> ?_⟩
  obtain⟨H1,L1,w1,f1⟩:=k6 (H.next+5) (up H 9) (by show H.next+5≤H.next+9;omega) (w.fr ok (Fr.up H 9 []))
  have n1:H.next+9≤H1.next:=f1.next
  obtain⟨H2,D,w2,f2⟩:=s3 (up H1 5) (w1.fr ok (Fr.up H1 5 []))
  have n2:H1.next+5≤H2.next:=f2.next
  obtain⟨H3,L3,w3,f3⟩:=t3 (H.next+5) H2 (by omega) w2
  have n3:H2.next≤H3.next:=f3.next
  obtain⟨v,h1,hd,rfl,e1⟩:=st_vc (up H 5) H1 H2 H3 S.N k S.dv (cvF g cs) (fun v h1=>v= .tuple []∧h1=H3) (bifL (Nat.le_refl _) (bifL (by show H.next+5≤H.next+5+1;omega) ⟨Runs.of_loops L1,bifL (by show H.next+5≤H1.next;omega) ⟨⟨D⟩,Runs.of_loops L3,condL (by show H.next+5≤H3.next;omega) ⟨rfl,rfl⟩⟩⟩))
  rw [e1]at hd
  obtain⟨v,h1,hd2,rfl,rfl⟩:=ss_vc H H3 S.N S.cap (some ⟨S.Q,S.V,S.O,0,1⟩) (cvF g cs) (fun v h1=>v= .tuple []∧h1=H3) (bifL (Nat.le_refl _) ⟨⟨hd⟩,condL (by omega) ⟨rfl,rfl⟩⟩)
  exact⟨_,hd2,w3,((((Fr.up H 9 [S.Q]).trans f1 (fun x hx _=>hx)).trans (Fr.up H1 5 []) (by simp)).trans f2 (fun x hx _=>hx)).trans f3 (fun x hx _=>hx)⟩
end
end Go.Proofs.YtjpfnbihopoeeaaGreatDoor
namespace Go.Proofs.YtjpfnbihopoeeaaGreatDoor
open Go.Lift
set_option maxRecDepth 1000000
theorem clN_vc(H:AHeap)(c:Nat)(K0:AVal→AHeap→Prop)(vc:bif Nat.ble (AHeap.next H) (AHeap.next H) && true then bif Nat.ble (AHeap.next H) (AHeap.next H+1) && true then bif Nat.ble (AHeap.next H) (AHeap.next H+3) && true then bif Nat.ble (AHeap.next H) (AHeap.next H+4)then K0 (AVal.slice none 0 0) (AHeap.mk (AHeap.next H+3+1) (AHeap.blks (AHeap.mk (AHeap.next H+1+2) (AHeap.blks (AHeap.mk (AHeap.next H+1) (AHeap.blks H))))))else False else False else False else False) :
    ∃ v h1,FDoes Tryz.prog cnd 71 [.slice none 0 c] H v h1∧K0 v h1 :=
  tcall_does env_ok mixed noSpecs_ok (hs:= .nil) (by kernel_rfl) vc
theorem clS_vc(H H1 H2:AHeap)(a:AAddr)(n c q:Nat)(v2:AVal)(K0:AVal→AHeap→Prop)(vc:bif Nat.ble (AHeap.next H) (AHeap.next H) && true then bif Nat.ble (AHeap.next H) (AHeap.next H+1) && true then bif Nat.ble (AHeap.next H) (AHeap.next H+3) && true then aop env noCall (AHeap.next H+3) (getF [(4,AVal.bool false),(3,AVal.slice (some a) n c),(2,AVal.slice none 0 0),(0,AVal.slice (some a) n c)]) (AHeap.mk (AHeap.next H+7) (H.2)) (Op.buildSlice 36 0 {toList:= []})=some (AVal.slice (some ⟨q,0,0,0,1⟩) 0 0,H1)∧abuiltin env Builtin.append {toList:= [36,36]} [AVal.slice (some ⟨q,0,0,0,1⟩) 0 0,AVal.slice (some a) n c] (AHeap.next H+5) H1=some (v2,H2)∧bif Nat.ble (AHeap.next H) (AHeap.next H2)then K0 v2 H2 else False else False else False else False) :
    ∃ v h1,FDoes Tryz.prog cnd 71 [.slice (some a) n c] H v h1∧K0 v h1 :=
  tcall_does env_ok mixed noSpecs_ok (hs:= .hint (.act 3000 (AVal.slice (some ⟨q,0,0,0,1⟩) 0 0) fun x=>H1) (.hint (.act 3002 v2 fun x=>H2) .nil)) (by kernel_rfl) vc
theorem byM_vc(H H1 H2:AHeap)(k:Int)(d:Bool)(p q:Nat)(K0:AVal→AHeap→Prop)(vc:bif Nat.ble (AHeap.next H) (AHeap.next H) && true then aop env noCall (AHeap.next H+0) (getF [(0,AVal.int IntKind.i64 k),(1,AVal.bool d)]) (AHeap.mk (AHeap.next H+3) (H.2)) (Op.box 3 (Operand.tmp 0))=some (AVal.ptr (some ⟨q,0,0,0,1⟩),H1)∧aop env noCall (AHeap.next H+1) (getF [(2,AVal.ptr (some ⟨q,0,0,0,1⟩)),(0,AVal.int IntKind.i64 k),(1,AVal.bool d)]) H1 (Op.box 4 (Operand.tmp 1))=some (AVal.ptr (some ⟨p,0,0,0,1⟩),H2)∧bif Nat.ble (AHeap.next H) (AHeap.next H2) && true then bif Nat.ble (AHeap.next H) (AHeap.next H2+2)then K0 (AVal.func (Fn.func 64) [] [AVal.ptr (some ⟨p,0,0,0,1⟩),AVal.ptr (some ⟨q,0,0,0,1⟩)]) (AHeap.mk (AHeap.next H2+2) (AHeap.blks H2))else False else False else False) :
    ∃ v h1,FDoes Tryz.prog cnd 32 [.int .i64 k,.bool d] H v h1∧K0 v h1 :=
  tcall_does env_ok mixed noSpecs_ok (hs:= .hint (.act 0 (AVal.ptr (some ⟨q,0,0,0,1⟩)) fun x=>H1) (.hint (.act 1 (AVal.ptr (some ⟨p,0,0,0,1⟩)) fun x=>H2) .nil)) (by kernel_rfl) vc
theorem s1S_vpK(H H1:AHeap)(B i n:Nat)(va vb fs:AVal)(a:AAddr)(p q:Nat)(r:Int)(K0:AExit→Facts→AHeap→Prop)(vc:bif Nat.ble B (AHeap.next H) && true then some (AVal.bool (decide ((↑i:Int)<(↑n:Int))))=some (AVal.bool true)∧bif Nat.ble B (AHeap.next H+1) && true then aindexAddr (AEnv.D env) 46 fs (AVal.int IntKind.i64 (↑i:Int))=some (AVal.ptr (some a))∧aload (AEnv.D env) 41 a (AHeap.mk (AHeap.next H+4) (H.2))=some (AVal.func (Fn.func 64) [] [AVal.ptr (some ⟨p,0,0,0,1⟩),AVal.ptr (some ⟨q,0,0,0,1⟩)])∧bif Nat.ble B (AHeap.next H+4) && true then some (AVal.bool false)=some (AVal.bool false)∧bif Nat.ble B (AHeap.next H+6) && true then CallT Tryz.prog cnd 64 [va,vb,AVal.ptr (some ⟨p,0,0,0,1⟩),AVal.ptr (some ⟨q,0,0,0,1⟩)] (AHeap.mk (AHeap.next H+11) (H.2)) (AVal.int IntKind.i64 r) H1∧bif Nat.ble B (AHeap.next H1) && true then some (AVal.bool (r != 0))=some (AVal.bool false)∧bif Nat.ble B (AHeap.next H1+2) && true then(-9223372036854775808≤(↑i:Int)+1∧(↑i:Int)+1≤9223372036854775807)∧K0 AExit.normal [(0,va),(1,vb),(9,fs),(10,AVal.int IntKind.i64 (↑n:Int)),(11,AVal.int IntKind.i64 ((↑i:Int)+1))] (AHeap.mk (AHeap.next H1+2+2) (AHeap.blks (AHeap.mk (AHeap.next H1+2) (AHeap.blks H1))))else False else False else False else False else False else False) :
    ∃ e F1 h1,Runs Tryz.prog cnd B 25 (loopAt Tryz.prog 73 0) [(0,va),(1,vb),(9,fs),(10,.int .i64 n),(11,.int .i64 i)] H e F1 h1∧K0 e F1 h1 :=
  tpath_runs env_ok mixed noSpecs_ok (hs:= .hint (.val 2000 (AVal.bool true)) (.hint (.val 3000 (AVal.ptr (some a))) (.hint (.val 3001 (AVal.func (Fn.func 64) [] [AVal.ptr (some ⟨p,0,0,0,1⟩),AVal.ptr (some ⟨q,0,0,0,1⟩)])) (.hint (.val 4001 (AVal.bool false)) (.hint (.act 5003 (AVal.int IntKind.i64 r) fun x=>H1) (.hint (.val 6001 (AVal.bool false)) (.hint (.go 8000) .nil))))))) (keep:= [0,1,9,10,11]) (by kernel_rfl) vc
theorem s1R_vpK(H H1:AHeap)(B i n:Nat)(va vb fs:AVal)(a:AAddr)(p q:Nat)(r:Int)(K0:AExit→Facts→AHeap→Prop)(vc:bif Nat.ble B (AHeap.next H) && true then some (AVal.bool (decide ((↑i:Int)<(↑n:Int))))=some (AVal.bool true)∧bif Nat.ble B (AHeap.next H+1) && true then aindexAddr (AEnv.D env) 46 fs (AVal.int IntKind.i64 (↑i:Int))=some (AVal.ptr (some a))∧aload (AEnv.D env) 41 a (AHeap.mk (AHeap.next H+4) (H.2))=some (AVal.func (Fn.func 64) [] [AVal.ptr (some ⟨p,0,0,0,1⟩),AVal.ptr (some ⟨q,0,0,0,1⟩)])∧bif Nat.ble B (AHeap.next H+4) && true then some (AVal.bool false)=some (AVal.bool false)∧bif Nat.ble B (AHeap.next H+6) && true then CallT Tryz.prog cnd 64 [va,vb,AVal.ptr (some ⟨p,0,0,0,1⟩),AVal.ptr (some ⟨q,0,0,0,1⟩)] (AHeap.mk (AHeap.next H+11) (H.2)) (AVal.int IntKind.i64 r) H1∧bif Nat.ble B (AHeap.next H1) && true then some (AVal.bool (r != 0))=some (AVal.bool true)∧bif Nat.ble B (AHeap.next H1+2) && true then K0 AExit.ret [(5,AVal.int IntKind.i64 r)] (AHeap.mk (AHeap.next H1+2+2) (AHeap.blks (AHeap.mk (AHeap.next H1+2) (AHeap.blks H1))))else False else False else False else False else False else False) :
    ∃ e F1 h1,Runs Tryz.prog cnd B 25 (loopAt Tryz.prog 73 0) [(0,va),(1,vb),(9,fs),(10,.int .i64 n),(11,.int .i64 i)] H e F1 h1∧K0 e F1 h1 :=
  tpath_runs env_ok mixed noSpecs_ok (hs:= .hint (.val 2000 (AVal.bool true)) (.hint (.val 3000 (AVal.ptr (some a))) (.hint (.val 3001 (AVal.func (Fn.func 64) [] [AVal.ptr (some ⟨p,0,0,0,1⟩),AVal.ptr (some ⟨q,0,0,0,1⟩)])) (.hint (.val 4001 (AVal.bool false)) (.hint (.act 5003 (AVal.int IntKind.i64 r) fun x=>H1) (.hint (.val 6001 (AVal.bool true)) .nil)))))) (keep:= [5]) (by kernel_rfl) vc
theorem s1N_vpK(H:AHeap)(B i n:Nat)(va vb fs:AVal)(a:AAddr)(K0:AExit→Facts→AHeap→Prop)(vc:bif Nat.ble B (AHeap.next H) && true then some (AVal.bool (decide ((↑i:Int)<(↑n:Int))))=some (AVal.bool true)∧bif Nat.ble B (AHeap.next H+1) && true then aindexAddr (AEnv.D env) 46 fs (AVal.int IntKind.i64 (↑i:Int))=some (AVal.ptr (some a))∧aload (AEnv.D env) 41 a (AHeap.mk (AHeap.next H+4) (H.2))=some AVal.nilFunc∧bif Nat.ble B (AHeap.next H+4) && true then bif Nat.ble B (AHeap.next H+6) && true then(-9223372036854775808≤(↑i:Int)+1∧(↑i:Int)+1≤9223372036854775807)∧K0 AExit.normal [(0,va),(1,vb),(9,fs),(10,AVal.int IntKind.i64 (↑n:Int)),(11,AVal.int IntKind.i64 ((↑i:Int)+1))] (AHeap.mk (AHeap.next H+6+2) (AHeap.blks (AHeap.mk (AHeap.next H+4+2) (AHeap.blks (AHeap.mk (AHeap.next H+1+3) (AHeap.blks (AHeap.mk (AHeap.next H+1) (AHeap.blks H))))))))else False else False else False else False) :
    ∃ e F1 h1,Runs Tryz.prog cnd B 25 (loopAt Tryz.prog 73 0) [(0,va),(1,vb),(9,fs),(10,.int .i64 n),(11,.int .i64 i)] H e F1 h1∧K0 e F1 h1 :=
  tpath_runs env_ok mixed noSpecs_ok (hs:= .hint (.val 2000 (AVal.bool true)) (.hint (.val 3000 (AVal.ptr (some a))) (.hint (.val 3001 AVal.nilFunc) (.hint (.go 8000) .nil)))) (keep:= [0,1,9,10,11]) (by kernel_rfl) vc
theorem s1E_vpK(H:AHeap)(B i n:Nat)(va vb fs:AVal)(K0:AExit→Facts→AHeap→Prop)(vc:bif Nat.ble B (AHeap.next H) && true then some (AVal.bool (decide ((↑i:Int)<(↑n:Int))))=some (AVal.bool false)∧K0 (AExit.exit 0) [(0,va),(1,vb),(9,fs),(10,AVal.int IntKind.i64 (↑n:Int)),(11,AVal.int IntKind.i64 (↑i:Int))] (AHeap.mk (AHeap.next H+1) (AHeap.blks H))else False) :
    ∃ e F1 h1,Runs Tryz.prog cnd B 25 (loopAt Tryz.prog 73 0) [(0,va),(1,vb),(9,fs),(10,.int .i64 n),(11,.int .i64 i)] H e F1 h1∧K0 e F1 h1 :=
  tpath_runs env_ok mixed noSpecs_ok (hs:= .hint (.val 2000 (AVal.bool false)) .nil) (keep:= [0,1,9,10,11]) (by kernel_rfl) vc
theorem s1Z_vc(H H1:AHeap)(z n fc:Nat)(fo:Option AAddr)(va vb:AVal)(K0:AVal→AHeap→Prop)(vc:bif Nat.ble (AHeap.next H) (AHeap.next H) && true then bif Nat.ble (AHeap.next H) (AHeap.next H+1) && true then aload (AEnv.D env) 46 ⟨z,0,0,0,1⟩ (AHeap.mk (AHeap.next H+4) (H.2))=some (AVal.slice fo n fc)∧Runs Tryz.prog cnd (AHeap.next H) 25 (Code.loop (loopAt Tryz.prog 73 0)) [(0,va),(1,vb),(9,AVal.slice fo n fc),(10,AVal.int IntKind.i64 (↑n:Int)),(11,AVal.int IntKind.i64 (0))] (AHeap.mk (AHeap.next H+1+3) (AHeap.blks (AHeap.mk (AHeap.next H+1) (AHeap.blks H)))) (AExit.exit 0) [] H1∧bif Nat.ble (AHeap.next H) (AHeap.next H1) && true then bif Nat.ble (AHeap.next H) (AHeap.next H1+1)then K0 (AVal.int IntKind.i64 (0)) (AHeap.mk (AHeap.next H1+1) (AHeap.blks H1))else False else False else False else False) :
    ∃ v h1,FDoes Tryz.prog cnd 73 [va,vb,.ptr (some ⟨z,0,0,0,1⟩)] H v h1∧K0 v h1 :=
  tcall_does env_ok mixed noSpecs_ok (hs:= .hint (.val 1000 (AVal.slice fo n fc)) (.hint (.keep [0,1,9,10,11]) (.hint (.loop [] H1 (AExit.exit 0)) .nil))) (by kernel_rfl) vc
theorem s1V_vc(H H1:AHeap)(z n fc:Nat)(fo:Option AAddr)(va vb:AVal)(r:Int)(K0:AVal→AHeap→Prop)(vc:bif Nat.ble (AHeap.next H) (AHeap.next H) && true then bif Nat.ble (AHeap.next H) (AHeap.next H+1) && true then aload (AEnv.D env) 46 ⟨z,0,0,0,1⟩ (AHeap.mk (AHeap.next H+4) (H.2))=some (AVal.slice fo n fc)∧Runs Tryz.prog cnd (AHeap.next H) 25 (Code.loop (loopAt Tryz.prog 73 0)) [(0,va),(1,vb),(9,AVal.slice fo n fc),(10,AVal.int IntKind.i64 (↑n:Int)),(11,AVal.int IntKind.i64 (0))] (AHeap.mk (AHeap.next H+1+3) (AHeap.blks (AHeap.mk (AHeap.next H+1) (AHeap.blks H)))) AExit.ret [(5,AVal.int IntKind.i64 r)] H1∧bif Nat.ble (AHeap.next H) (AHeap.next H1)then K0 (AVal.int IntKind.i64 r) H1 else False else False else False) :
    ∃ v h1,FDoes Tryz.prog cnd 73 [va,vb,.ptr (some ⟨z,0,0,0,1⟩)] H v h1∧K0 v h1 :=
  tcall_does env_ok mixed noSpecs_ok (hs:= .hint (.val 1000 (AVal.slice fo n fc)) (.hint (.keep [0,1,9,10,11]) (.hint (.loop [(5,AVal.int IntKind.i64 r)] H1 AExit.ret) .nil))) (by kernel_rfl) vc
theorem so0_vp(H H1 H2 H3:AHeap)(B i N q:Nat)(hv:Bool)(z:Nat)(out rv xv cv out2:AVal)(a:AAddr)(K0:AExit→Facts→AHeap→Prop)(vc:bif Nat.ble B (AHeap.next H) && true then some (AVal.bool (decide ((↑i:Int)<(↑N:Int))))=some (AVal.bool true)∧bif Nat.ble B (AHeap.next H+1) && true then aindexAddr (AEnv.D env) 22 rv (AVal.int IntKind.i64 (↑i:Int))=some (AVal.ptr (some a))∧aload (AEnv.D env) 36 a (AHeap.mk (AHeap.next H+4) (H.2))=some xv∧bif Nat.ble B (AHeap.next H+4) && true then CallT Tryz.prog cnd 71 [xv] (AHeap.mk (AHeap.next H+10) (H.2)) cv H1∧aop env noCall (AHeap.next H+7) (getF [(22,cv),(21,xv),(20,out),(9,xv),(19,xv),(18,AVal.ptr (some a)),(17,AVal.bool true),(1,AVal.bool hv),(5,AVal.ptr (some ⟨z,0,0,0,1⟩)),(7,out),(14,rv),(15,AVal.int IntKind.i64 (↑N:Int)),(16,AVal.int IntKind.i64 (↑i:Int))]) H1 (Op.buildSlice 22 1 {toList:= [(0,Operand.tmp 22)]})=some (AVal.slice (some ⟨q,0,0,0,1⟩) 1 1,H2)∧abuiltin env Builtin.append {toList:= [22,22]} [out,AVal.slice (some ⟨q,0,0,0,1⟩) 1 1] (AHeap.next H+8) H2=some (out2,H3)∧bif Nat.ble B (AHeap.next H3) && true then(-9223372036854775808≤(↑i:Int)+1∧(↑i:Int)+1≤9223372036854775807)∧K0 AExit.normal [(1,AVal.bool hv),(5,AVal.ptr (some ⟨z,0,0,0,1⟩)),(7,out2),(14,rv),(15,AVal.int IntKind.i64 (↑N:Int)),(16,AVal.int IntKind.i64 ((↑i:Int)+1))] (AHeap.mk (AHeap.next H3+2) (AHeap.blks H3))else False else False else False else False) :
    ∃ e F1 h1,Runs Tryz.prog cnd B 39 (loopAt Tryz.prog 35 0) [(1,.bool hv),(5,.ptr (some ⟨z,0,0,0,1⟩)),(7,out),(14,rv),(15,.int .i64 N),(16,.int .i64 i)] H e F1 h1∧K0 e F1 h1 :=
  tpath_runs env_ok mixed noSpecs_ok (hs:= .hint (.val 3000 (AVal.bool true)) (.hint (.val 4000 (AVal.ptr (some a))) (.hint (.val 4001 xv) (.hint (.act 5002 cv fun x=>H1) (.hint (.act 5003 (AVal.slice (some ⟨q,0,0,0,1⟩) 1 1) fun x=>H2) (.hint (.act 5004 out2 fun x=>H3) (.hint (.go 6000) .nil))))))) (keep:= [1,5,7,14,15,16]) (by kernel_rfl) vc
theorem so0E_vp(H:AHeap)(B i N:Nat)(hv:Bool)(z:Nat)(out rv:AVal)(K0:AExit→Facts→AHeap→Prop)(vc:bif Nat.ble B (AHeap.next H) && true then some (AVal.bool (decide ((↑i:Int)<(↑N:Int))))=some (AVal.bool false)∧K0 (AExit.exit 0) [(1,AVal.bool hv),(5,AVal.ptr (some ⟨z,0,0,0,1⟩)),(7,out),(14,rv),(15,AVal.int IntKind.i64 (↑N:Int)),(16,AVal.int IntKind.i64 (↑i:Int))] (AHeap.mk (AHeap.next H+1) (AHeap.blks H))else False) :
    ∃ e F1 h1,Runs Tryz.prog cnd B 39 (loopAt Tryz.prog 35 0) [(1,.bool hv),(5,.ptr (some ⟨z,0,0,0,1⟩)),(7,out),(14,rv),(15,.int .i64 N),(16,.int .i64 i)] H e F1 h1∧K0 e F1 h1 :=
  tpath_runs env_ok mixed noSpecs_ok (hs:= .hint (.val 3000 (AVal.bool false)) .nil) (keep:= [1,5,7,14,15,16]) (by kernel_rfl) vc
theorem soA_vc(H H1 H2 H3 H4:AHeap)(N rc z q:Nat)(ro:Option AAddr)(ov bv:AVal)(K0:AVal→AHeap→Prop)(vc:bif Nat.ble (AHeap.next H) (AHeap.next H) && true then aop env noCall (AHeap.next H+0) (getF [(0,AVal.slice ro N rc),(1,AVal.bool true),(2,ov)]) (AHeap.mk (AHeap.next H+2) (H.2)) (Op.box 46 (Operand.tmp 2))=some (AVal.ptr (some ⟨z,0,0,0,1⟩),H1)∧bif Nat.ble (AHeap.next H) (AHeap.next H1) && true then aop env noCall (AHeap.next H1+2) (getF [(12,AVal.int IntKind.i64 (↑N:Int)),(11,AVal.slice ro N rc),(6,AVal.slice none 0 0),(5,AVal.ptr (some ⟨z,0,0,0,1⟩)),(0,AVal.slice ro N rc),(1,AVal.bool true),(2,ov)]) (AHeap.mk (AHeap.next H1+4) (H1.2)) (Op.makeSlice 22 (Operand.const (Value.int IntKind.i64 (0))) (Operand.tmp 12))=some (AVal.slice (some ⟨q,0,0,0,1⟩) 0 N,H2)∧bif Nat.ble (AHeap.next H) (AHeap.next H2) && true then Runs Tryz.prog cnd (AHeap.next H) 39 (Code.loop (loopAt Tryz.prog 35 0)) [(1,AVal.bool true),(5,AVal.ptr (some ⟨z,0,0,0,1⟩)),(7,AVal.slice (some ⟨q,0,0,0,1⟩) 0 N),(14,AVal.slice ro N rc),(15,AVal.int IntKind.i64 (↑N:Int)),(16,AVal.int IntKind.i64 (0))] (AHeap.mk (AHeap.next H2+3) (AHeap.blks H2)) (AExit.exit 0) [(1,AVal.bool true),(5,AVal.ptr (some ⟨z,0,0,0,1⟩)),(7,AVal.slice (some ⟨q,0,0,0,1⟩) N N)] H3∧bif Nat.ble (AHeap.next H) (AHeap.next H3) && true then bif Nat.ble (AHeap.next H) (AHeap.next H3+2) && true then some (AVal.bool (decide ((↑N:Int)>0)))=some (AVal.bool true)∧bif Nat.ble (AHeap.next H) (AHeap.next H3+8) && true then aslice (AEnv.D env) 22 (AVal.slice (some ⟨q,0,0,0,1⟩) N N) (some (AVal.int IntKind.i64 (1))) none none=some bv∧bif Nat.ble (AHeap.next H) (AHeap.next H3+11) && true then CallT Tryz.prog cnd 72 [bv,AVal.func (Fn.func 73) [] [AVal.ptr (some ⟨z,0,0,0,1⟩)]] (AHeap.mk (AHeap.next H3+14) (H3.2)) (AVal.tuple []) H4∧bif Nat.ble (AHeap.next H) (AHeap.next H4) && true then bif Nat.ble (AHeap.next H) (AHeap.next H4+2)then K0 (AVal.slice (some ⟨q,0,0,0,1⟩) N N) (AHeap.mk (AHeap.next H4+2) (AHeap.blks H4))else False else False else False else False else False else False else False else False else False) :
    ∃ v h1,FDoes Tryz.prog cnd 35 [.slice ro N rc,.bool true,ov] H v h1∧K0 v h1 :=
  tcall_does env_ok mixed noSpecs_ok (hs:= .hint (.act 0 (AVal.ptr (some ⟨z,0,0,0,1⟩)) fun x=>H1) (.hint (.act 1002 (AVal.slice (some ⟨q,0,0,0,1⟩) 0 N) fun x=>H2) (.hint (.keep [1,5,7,14,15,16]) (.hint (.loop [(1,AVal.bool true),(5,AVal.ptr (some ⟨z,0,0,0,1⟩)),(7,AVal.slice (some ⟨q,0,0,0,1⟩) N N)] H3 (AExit.exit 0)) (.hint (.val 8004 (AVal.bool true)) (.hint (.val 9001 bv) (.hint (.act 10002 (AVal.tuple []) fun x=>H4) .nil))))))) (by kernel_rfl) vc
theorem soB_vc(H H1 H2 H3 H4:AHeap)(N rc z q:Nat)(ro:Option AAddr)(ov:AVal)(K0:AVal→AHeap→Prop)(vc:bif Nat.ble (AHeap.next H) (AHeap.next H) && true then aop env noCall (AHeap.next H+0) (getF [(0,AVal.slice ro N rc),(1,AVal.bool true),(2,ov)]) (AHeap.mk (AHeap.next H+2) (H.2)) (Op.box 46 (Operand.tmp 2))=some (AVal.ptr (some ⟨z,0,0,0,1⟩),H1)∧bif Nat.ble (AHeap.next H) (AHeap.next H1) && true then aop env noCall (AHeap.next H1+2) (getF [(12,AVal.int IntKind.i64 (↑N:Int)),(11,AVal.slice ro N rc),(6,AVal.slice none 0 0),(5,AVal.ptr (some ⟨z,0,0,0,1⟩)),(0,AVal.slice ro N rc),(1,AVal.bool true),(2,ov)]) (AHeap.mk (AHeap.next H1+4) (H1.2)) (Op.makeSlice 22 (Operand.const (Value.int IntKind.i64 (0))) (Operand.tmp 12))=some (AVal.slice (some ⟨q,0,0,0,1⟩) 0 N,H2)∧bif Nat.ble (AHeap.next H) (AHeap.next H2) && true then Runs Tryz.prog cnd (AHeap.next H) 39 (Code.loop (loopAt Tryz.prog 35 0)) [(1,AVal.bool true),(5,AVal.ptr (some ⟨z,0,0,0,1⟩)),(7,AVal.slice (some ⟨q,0,0,0,1⟩) 0 N),(14,AVal.slice ro N rc),(15,AVal.int IntKind.i64 (↑N:Int)),(16,AVal.int IntKind.i64 (0))] (AHeap.mk (AHeap.next H2+3) (AHeap.blks H2)) (AExit.exit 0) [(1,AVal.bool true),(5,AVal.ptr (some ⟨z,0,0,0,1⟩)),(7,AVal.slice (some ⟨q,0,0,0,1⟩) N N)] H3∧bif Nat.ble (AHeap.next H) (AHeap.next H3) && true then bif Nat.ble (AHeap.next H) (AHeap.next H3+2) && true then some (AVal.bool (decide ((↑N:Int)>0)))=some (AVal.bool false)∧bif Nat.ble (AHeap.next H) (AHeap.next H3+8) && true then CallT Tryz.prog cnd 72 [AVal.slice (some ⟨q,0,0,0,1⟩) N N,AVal.func (Fn.func 73) [] [AVal.ptr (some ⟨z,0,0,0,1⟩)]] (AHeap.mk (AHeap.next H3+11) (H3.2)) (AVal.tuple []) H4∧bif Nat.ble (AHeap.next H) (AHeap.next H4) && true then bif Nat.ble (AHeap.next H) (AHeap.next H4+2)then K0 (AVal.slice (some ⟨q,0,0,0,1⟩) N N) (AHeap.mk (AHeap.next H4+2) (AHeap.blks H4))else False else False else False else False else False else False else False else False) :
    ∃ v h1,FDoes Tryz.prog cnd 35 [.slice ro N rc,.bool true,ov] H v h1∧K0 v h1 :=
  tcall_does env_ok mixed noSpecs_ok (hs:= .hint (.act 0 (AVal.ptr (some ⟨z,0,0,0,1⟩)) fun x=>H1) (.hint (.act 1002 (AVal.slice (some ⟨q,0,0,0,1⟩) 0 N) fun x=>H2) (.hint (.keep [1,5,7,14,15,16]) (.hint (.loop [(1,AVal.bool true),(5,AVal.ptr (some ⟨z,0,0,0,1⟩)),(7,AVal.slice (some ⟨q,0,0,0,1⟩) N N)] H3 (AExit.exit 0)) (.hint (.val 8004 (AVal.bool false)) (.hint (.act 10002 (AVal.tuple []) fun x=>H4) .nil)))))) (by kernel_rfl) vc
theorem soC_vc(H H1 H2 H3 H4:AHeap)(N rc z q:Nat)(ro:Option AAddr)(ov:AVal)(K0:AVal→AHeap→Prop)(vc:bif Nat.ble (AHeap.next H) (AHeap.next H) && true then aop env noCall (AHeap.next H+0) (getF [(0,AVal.slice ro N rc),(1,AVal.bool false),(2,ov)]) (AHeap.mk (AHeap.next H+2) (H.2)) (Op.box 46 (Operand.tmp 2))=some (AVal.ptr (some ⟨z,0,0,0,1⟩),H1)∧bif Nat.ble (AHeap.next H) (AHeap.next H1) && true then aop env noCall (AHeap.next H1+2) (getF [(12,AVal.int IntKind.i64 (↑N:Int)),(11,AVal.slice ro N rc),(6,AVal.slice none 0 0),(5,AVal.ptr (some ⟨z,0,0,0,1⟩)),(0,AVal.slice ro N rc),(1,AVal.bool false),(2,ov)]) (AHeap.mk (AHeap.next H1+4) (H1.2)) (Op.makeSlice 22 (Operand.const (Value.int IntKind.i64 (0))) (Operand.tmp 12))=some (AVal.slice (some ⟨q,0,0,0,1⟩) 0 N,H2)∧bif Nat.ble (AHeap.next H) (AHeap.next H2) && true then Runs Tryz.prog cnd (AHeap.next H) 39 (Code.loop (loopAt Tryz.prog 35 0)) [(1,AVal.bool false),(5,AVal.ptr (some ⟨z,0,0,0,1⟩)),(7,AVal.slice (some ⟨q,0,0,0,1⟩) 0 N),(14,AVal.slice ro N rc),(15,AVal.int IntKind.i64 (↑N:Int)),(16,AVal.int IntKind.i64 (0))] (AHeap.mk (AHeap.next H2+3) (AHeap.blks H2)) (AExit.exit 0) [(1,AVal.bool false),(5,AVal.ptr (some ⟨z,0,0,0,1⟩)),(7,AVal.slice (some ⟨q,0,0,0,1⟩) N N)] H3∧bif Nat.ble (AHeap.next H) (AHeap.next H3) && true then bif Nat.ble (AHeap.next H) (AHeap.next H3+2) && true then bif Nat.ble (AHeap.next H) (AHeap.next H3+8) && true then CallT Tryz.prog cnd 72 [AVal.slice (some ⟨q,0,0,0,1⟩) N N,AVal.func (Fn.func 73) [] [AVal.ptr (some ⟨z,0,0,0,1⟩)]] (AHeap.mk (AHeap.next H3+11) (H3.2)) (AVal.tuple []) H4∧bif Nat.ble (AHeap.next H) (AHeap.next H4) && true then bif Nat.ble (AHeap.next H) (AHeap.next H4+2)then K0 (AVal.slice (some ⟨q,0,0,0,1⟩) N N) (AHeap.mk (AHeap.next H4+2) (AHeap.blks H4))else False else False else False else False else False else False else False else False) :
    ∃ v h1,FDoes Tryz.prog cnd 35 [.slice ro N rc,.bool false,ov] H v h1∧K0 v h1 :=
  tcall_does env_ok mixed noSpecs_ok (hs:= .hint (.act 0 (AVal.ptr (some ⟨z,0,0,0,1⟩)) fun x=>H1) (.hint (.act 1002 (AVal.slice (some ⟨q,0,0,0,1⟩) 0 N) fun x=>H2) (.hint (.keep [1,5,7,14,15,16]) (.hint (.loop [(1,AVal.bool false),(5,AVal.ptr (some ⟨z,0,0,0,1⟩)),(7,AVal.slice (some ⟨q,0,0,0,1⟩) N N)] H3 (AExit.exit 0)) (.hint (.act 10002 (AVal.tuple []) fun x=>H4) .nil))))) (by kernel_rfl) vc
end Go.Proofs.YtjpfnbihopoeeaaGreatDoor
namespace Go.Proofs.YtjpfnbihopoeeaaGreatDoor
open Go.Lift
set_option maxRecDepth 1000000
theorem cb_trans: ∀ x y z:Bytes,Lib.compareBytes x y≤0→Lib.compareBytes y z≤0→Lib.compareBytes x z≤0:=by
  intro x
  induction x with
  | nil=>intro y z _ _;cases z<;>simp [Lib.compareBytes]
  | cons a x ih =>
    intro y z h1 h2
    cases y with
    | nil=>simp [Lib.compareBytes]at h1
    | cons b y =>
      cases z with
      | nil=>simp [Lib.compareBytes]at h2
      | cons c z =>
        simp only [Lib.compareBytes]at h1 h2 ⊢
        by_cases e1:a<b
        · by_cases e2:b<c
          · rw [if_pos (UInt8.lt_trans e1 e2)];decide
          · rw [if_neg e2]at h2
            by_cases e3:c<b
            · rw [if_pos e3]at h2;exact absurd h2 (by decide)
            · have:b=c:=UInt8.le_antisymm (UInt8.not_lt.1 e3) (UInt8.not_lt.1 e2)
              subst this
              rw [if_pos e1];decide
        · rw [if_neg e1]at h1
          by_cases e2:b<a
          · rw [if_pos e2]at h1;exact absurd h1 (by decide)
          · rw [if_neg e2]at h1
            have:a=b:=UInt8.le_antisymm (UInt8.not_lt.1 e2) (UInt8.not_lt.1 e1)
            subst this
            by_cases e3:a<c
            · rw [if_pos e3];decide
            · rw [if_neg e3]at h2 ⊢
              by_cases e4:c<a
              · rw [if_pos e4]at h2;exact absurd h2 (by decide)
              · rw [if_neg e4]at h2 ⊢
                exact ih y z h1 h2
theorem sgn_le {n m:Int} :sgnV (decide (n<m)) (decide (m<n))≤0↔n≤m:=by
  unfold sgnV
  by_cases h1:n<m
  · simp [h1];omega
  · by_cases h2:m<n
    · simp [h1,h2]
    · simp [h1,h2];omega
theorem ordP_trans(x y z:Bytes)(h1:ordP x y≤0)(h2:ordP y z≤0):ordP x z≤0:=by
  unfold ordP at *
  cases hx:numB (numD x)<;>cases hy:numB (numD y)<;>cases hz:numB (numD z)<;>simp only [hx,hy,hz,if_true,if_false,Bool.false_eq_true,reduceIte]at h1 h2 ⊢
  · exact cb_trans _ _ _ h1 h2
  all_goals first
    | exact absurd h1 (by decide)
    | exact absurd h2 (by decide)
    | decide
    | (rw [sgn_le]at h1 h2 ⊢; omega)
def keyI(k:Int)(d:Bool)(a b:List Bytes):Int:=ordP (fieldV (if d=true then b else a) k) (fieldV (if d=true then a else b) k)
theorem keyI_neg(k:Int)(d:Bool)(a b:List Bytes):keyI k d b a= -keyI k d a b:=by
  unfold keyI
  cases d<;>exact ordP_neg _ _
theorem keyI_trans(k:Int)(d:Bool){a b c:List Bytes}(h1:keyI k d a b≤0)(h2:keyI k d b c≤0):keyI k d a c≤0:=by
  unfold keyI at *
  cases d
  · exact ordP_trans _ _ _ h1 h2
  · exact ordP_trans _ _ _ h2 h1
abbrev Key:=Option (Int×Bool)
def cmpL:List Key→List Bytes→List Bytes→Int
  | [],_,_=>0
  | none::ks,a,b=>cmpL ks a b
  | some (k,d)::ks,a,b=>if keyI k d a b=0 then cmpL ks a b else keyI k d a b
theorem cmpL_neg: ∀ (ks:List Key) (a b:List Bytes),cmpL ks b a= -cmpL ks a b
  | [],a,b=>rfl
  | none::ks,a,b=>cmpL_neg ks a b
  | some (k,d)::ks,a,b=>by
    simp only [cmpL]
    have h:=keyI_neg k d a b
    have ih:=cmpL_neg ks a b
    by_cases e:keyI k d a b=0
    · rw [if_pos e,if_pos (by omega)];exact ih
    · rw [if_neg e,if_neg (by omega)];exact h
theorem cmpL_trans: ∀ (ks:List Key) {a b c:List Bytes},cmpL ks a b≤0→cmpL ks b c≤0→cmpL ks a c≤0
  | [],a,b,c,h1,h2=>Int.le_refl 0
  | none::ks,a,b,c,h1,h2=>cmpL_trans ks (b:=b) h1 h2
  | some (k,d)::ks,a,b,c,h1,h2=>by
    simp only [cmpL]at h1 h2 ⊢
    have nab:=keyI_neg k d a b
    have nbc:=keyI_neg k d b c
    have nac:=keyI_neg k d a c
    have g1:keyI k d a b≤0:=by
      by_cases e:keyI k d a b=0
      · omega
      · rw [if_neg e]at h1;exact h1
    have g2:keyI k d b c≤0:=by
      by_cases e:keyI k d b c=0
      · omega
      · rw [if_neg e]at h2;exact h2
    have g3:=keyI_trans k d g1 g2
    by_cases e:keyI k d a c=0
    · rw [if_pos e]
      have b1:keyI k d b a≤0:=keyI_trans k d g2 (by omega)
      have b2:keyI k d c b≤0:=keyI_trans k d (a:=c) (b:=a) (c:=b) (by omega) g1
      rw [if_pos (by omega)]at h1 h2
      exact cmpL_trans ks h1 h2
    · rw [if_neg e];exact g3
def lessK(ks:List Key)(L:Nat→List Bytes)(p q:Nat):Bool:=decide (cmpL ks (L p) (L q)<0)
theorem lessK_weak(ks:List Key)(L:Nat→List Bytes):Weak (lessK ks L):=by
  constructor
  · intro p q h
    have h:=of_decide_eq_true h
    have:=cmpL_neg ks (L p) (L q)
    exact decide_eq_false (by omega)
  · intro p q r h1 h2
    have h1:=of_decide_eq_false h1
    have h2:=of_decide_eq_false h2
    have n1:=cmpL_neg ks (L p) (L q)
    have n2:=cmpL_neg ks (L q) (L r)
    have n3:=cmpL_neg ks (L p) (L r)
    have:=cmpL_trans ks (a:=L p) (b:=L q) (c:=L r) (by omega) (by omega)
    exact decide_eq_false (by omega)
end Go.Proofs.YtjpfnbihopoeeaaGreatDoor
