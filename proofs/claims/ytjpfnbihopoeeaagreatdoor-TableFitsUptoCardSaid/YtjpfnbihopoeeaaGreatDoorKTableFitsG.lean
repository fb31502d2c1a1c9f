/-
  Parts of the proof of TableFits.
-/
import Derived.Test.YtjpfnbihopoeeaaGreatDoorRows
import Derived.ProofKit
import Derived.LaidMore
import Derived.OpenShut
import Derived.Stop.Joined
import Derived.Stop.LaidErr
import Derived.MakeChecks
import Derived.Lib.LaidTab
import Derived.LaidOnce
import Derived.Test.YtjpfnbihopoeeaaGreatDoorKTableFitsF
set_option maxRecDepth 1000000
set_option linter.unusedSectionVars false
set_option linter.unusedVariables false
set_option linter.unusedSimpArgs false
namespace Go.Proofs.YtjpfnbihopoeeaaGreatDoor
open Go.ba
theorem T'(H H1 af ax au aU bc b3:I)(B N ic q ver off i z ql cA qw cN:Nat)(room k n d aE mx kD x:Int)(bu bS fu:aO)(ai:bx→a6→I→Prop)(aG:ad B (I.next H) (some (J.bool (decide ((↑i:Int)<(↑N:Int))))=some (J.bool true)∧ad B (I.next H+1) (bb (bh.D env) 27 (J.slice (some ⟨q,ver,off,0,5⟩) N ic) (J.int IntKind.i64 (↑i:Int))=some (J.ptr (some ⟨q,ver,off+i,0,5⟩))∧aQ (bh.D env) 65 ⟨q,ver,off+i,0,5⟩ (I.mk (I.next H+7) (H.2))=some (J.agg [J.int IntKind.i8 k,J.int IntKind.i64 n,J.int IntKind.i64 d,J.int IntKind.i64 aE,J.int IntKind.i64 mx])∧aV env bz (I.next H+4) (a1 []) (I.mk (I.next H+7) (H.2)) (Op.alloc 65)=some (J.ptr (some ⟨z,0,0,0,5⟩),H1)∧aV env bz (I.next H+6) (a1 [(14,J.ptr (some ⟨z,0,0,0,5⟩)),(49,J.agg [J.int IntKind.i8 k,J.int IntKind.i64 n,J.int IntKind.i64 d,J.int IntKind.i64 aE,J.int IntKind.i64 mx])]) H1 (Op.store 65 (Operand.tmp 14) (Operand.tmp 49))=some (J.tuple [],af)∧ad B (I.next af) (aQ (bh.D env) 65 ⟨z,0,0,0,5⟩ (I.mk (I.next af+3) (af.2))=some (J.agg [J.int IntKind.i8 k,J.int IntKind.i64 n,J.int IntKind.i64 d,J.int IntKind.i64 aE,J.int IntKind.i64 mx])∧bY Tryz.prog aq 47 [J.agg [J.int IntKind.i8 k,J.int IntKind.i64 n,J.int IntKind.i64 d,J.int IntKind.i64 aE,J.int IntKind.i64 mx]] (I.mk (I.next af+3) (af.2)) (J.bool true) (I.mk (I.next af+3) (af.2))∧ad B (I.next af+3) (aQ (bh.D env) 65 ⟨z,0,0,0,5⟩ (I.mk (I.next af+8) (af.2))=some (J.agg [J.int IntKind.i8 k,J.int IntKind.i64 n,J.int IntKind.i64 d,J.int IntKind.i64 aE,J.int IntKind.i64 mx])∧bb (bh.D env) 27 (J.slice (some ⟨ql,0,0,0,5⟩) N N) (J.int IntKind.i64 (↑i:Int))=some (J.ptr (some ⟨ql,0,0+i,0,5⟩))∧aV env bz (I.next af+7) (a1 [(57,J.ptr (some ⟨ql,0,0+i,0,5⟩)),(56,J.agg [J.int IntKind.i8 k,J.int IntKind.i64 n,J.int IntKind.i64 d,J.int IntKind.i64 aE,J.int IntKind.i64 mx])]) (I.mk (I.next af+8) (af.2)) (Op.store 65 (Operand.tmp 57) (Operand.tmp 56))=some (J.tuple [],au)∧ad B (I.next au) (aQ (bh.D env) 3 ⟨z,0,0,3,5⟩ (I.mk (I.next au+6) (au.2))=some (J.int IntKind.i64 aE)∧bb (bh.D env) 28 (J.slice (some ⟨cA,0,0,0,1⟩) N N) (J.int IntKind.i64 (↑i:Int))=some (J.ptr (some bu))∧aV env bz (I.next au+5) (a1 [(62,J.ptr (some bu)),(61,J.int IntKind.i64 aE)]) (I.mk (I.next au+6) (au.2)) (Op.store 3 (Operand.tmp 62) (Operand.tmp 61))=some (J.tuple [],aU)∧ad B (I.next aU) (aQ (bh.D env) 35 ⟨z,0,0,0,5⟩ (I.mk (I.next aU+2) (aU.2))=some (J.int IntKind.i8 k)∧ad B (I.next aU+2) (some (J.bool (k == 2))=some (J.bool true)∧ad B (I.next aU+4) (aQ (bh.D env) 3 ⟨z,0,0,1,5⟩ (I.mk (I.next aU+17) (aU.2))=some (J.int IntKind.i64 n)∧z<I.next aU+4∧(-9223372036854775808≤n*room∧n*room≤9223372036854775807)∧aQ (bh.D env) 3 ⟨z,0,0,2,5⟩ (I.mk (I.next aU+17) (aU.2))=some (J.int IntKind.i64 d)∧z<I.next aU+4∧Decidable.rec (fun h=>(fun x=>some (J.int IntKind.i64 (IntKind.wrap IntKind.i64 (Int.tdiv (n*room) d)))) h) (fun h=>(fun x=>none) h) (Int.instDecidableEq d 0)=some (J.int IntKind.i64 kD)∧aQ (bh.D env) 65 ⟨z,0,0,0,5⟩ (I.mk (I.next aU+17) (aU.2))=some (J.agg [J.int IntKind.i8 k,J.int IntKind.i64 n,J.int IntKind.i64 d,J.int IntKind.i64 aE,J.int IntKind.i64 mx])∧z<I.next aU+4∧bY Tryz.prog aq 92 [J.int IntKind.i64 kD,J.agg [J.int IntKind.i8 k,J.int IntKind.i64 n,J.int IntKind.i64 d,J.int IntKind.i64 aE,J.int IntKind.i64 mx]] (I.mk (I.next aU+17) (aU.2)) (J.int IntKind.i64 x) (I.mk (I.next aU+17) (aU.2))∧bb (bh.D env) 28 (J.slice (some ⟨qw,0,0,0,1⟩) N N) (J.int IntKind.i64 (↑i:Int))=some (J.ptr (some bS))∧aV env bz (I.next aU+16) (a1 [(85,J.ptr (some bS)),(84,J.int IntKind.i64 x)]) (I.mk (I.next aU+17) (aU.2)) (Op.store 3 (Operand.tmp 85) (Operand.tmp 84))=some (J.tuple [],bc)∧ad B (I.next bc) (bb (bh.D env) 28 (J.slice (some ⟨qw,0,0,0,1⟩) N N) (J.int IntKind.i64 (↑i:Int))=some (J.ptr (some bS))∧aQ (bh.D env) 3 bS (I.mk (I.next bc+13) (bc.2))=some (J.int IntKind.i64 x)∧aO.id bS<I.next bc∧bb (bh.D env) 28 (J.slice (some ⟨cA,0,0,0,1⟩) N N) (J.int IntKind.i64 (↑i:Int))=some (J.ptr (some bu))∧aQ (bh.D env) 3 bu (I.mk (I.next bc+13) (bc.2))=some (J.int IntKind.i64 aE)∧aO.id bu<I.next bc∧(-9223372036854775808≤x-aE∧x-aE≤9223372036854775807)∧bb (bh.D env) 28 (J.slice (some ⟨cN,0,0,0,1⟩) N N) (J.int IntKind.i64 (↑i:Int))=some (J.ptr (some fu))∧aV env bz (I.next bc+12) (a1 [(104,J.ptr (some fu)),(103,J.int IntKind.i64 (x-aE))]) (I.mk (I.next bc+13) (bc.2)) (Op.store 3 (Operand.tmp 104) (Operand.tmp 103))=some (J.tuple [],b3)∧ad B (I.next b3) ((-9223372036854775808≤(↑i:Int)+1∧(↑i:Int)+1≤9223372036854775807)∧ai bx.normal [(8,J.int IntKind.i64 room),(9,J.slice (some ⟨ql,0,0,0,5⟩) N N),(10,J.slice (some ⟨cA,0,0,0,1⟩) N N),(11,J.slice (some ⟨qw,0,0,0,1⟩) N N),(12,J.slice (some ⟨cN,0,0,0,1⟩) N N),(43,J.slice (some ⟨q,ver,off,0,5⟩) N ic),(44,J.int IntKind.i64 (↑N:Int)),(45,J.int IntKind.i64 ((↑i:Int)+1))] (I.mk (I.next b3+2) (I.aj b3))))))))))))) :
 ∃e ah U,aR Tryz.prog aq B 142 (aY Tryz.prog 50 0) [(8,.int .i64 room),(9,(.slice (some ⟨ql,0,0,0,5⟩) N N)),(10,(.slice (some ⟨cA,0,0,0,1⟩) N N)),(11,(.slice (some ⟨qw,0,0,0,1⟩) N N)),(12,(.slice (some ⟨cN,0,0,0,1⟩) N N)),(43,.slice (some ⟨q,ver,off,0,5⟩) N ic),(44,.int .i64 N),(45,.int .i64 i)] H e ah U∧ai e ah U :=
 b0 bg mixed bq (hs:= .aa (.val 8000 (J.bool true)) (.aa (.val 9001 (J.ptr (some ⟨q,ver,off+i,0,5⟩))) (.aa (.val 9002 (J.agg [J.int IntKind.i8 k,J.int IntKind.i64 n,J.int IntKind.i64 d,J.int IntKind.i64 aE,J.int IntKind.i64 mx])) (.aa (.act 9003 (J.ptr (some ⟨z,0,0,0,5⟩)) fun x=>H1) (.aa (.act 9005 (J.tuple []) fun x=>af) (.aa (.val 10000 (J.agg [J.int IntKind.i8 k,J.int IntKind.i64 n,J.int IntKind.i64 d,J.int IntKind.i64 aE,J.int IntKind.i64 mx])) (.aa (.val 10001 (J.bool true)) (.aa (.val 12002 (J.agg [J.int IntKind.i8 k,J.int IntKind.i64 n,J.int IntKind.i64 d,J.int IntKind.i64 aE,J.int IntKind.i64 mx])) (.aa (.val 12003 (J.ptr (some ⟨ql,0,0+i,0,5⟩))) (.aa (.act 12004 (J.tuple []) fun x=>au) (.aa (.val 13003 (J.int IntKind.i64 aE)) (.aa (.val 13004 (J.ptr (some bu))) (.aa (.act 13005 (J.tuple []) fun x=>aU) (.aa (.val 14001 (J.int IntKind.i8 k)) (.aa (.val 16000 (J.bool true)) (.aa (.cI 17003 (J.int IntKind.i64 n)) (.aa (.go 17005) (.aa (.cI 17007 (J.int IntKind.i64 d)) (.aa (.val 17008 (J.int IntKind.i64 kD)) (.aa (.cI 17009 (J.agg [J.int IntKind.i8 k,J.int IntKind.i64 n,J.int IntKind.i64 d,J.int IntKind.i64 aE,J.int IntKind.i64 mx])) (.aa (.val 17010 (J.int IntKind.i64 x)) (.aa (.val 17011 (J.ptr (some bS))) (.aa (.act 17012 (J.tuple []) fun x=>bc) (.aa (.val 20004 (J.ptr (some bS))) (.aa (.cI 20005 (J.int IntKind.i64 x)) (.aa (.val 20008 (J.ptr (some bu))) (.aa (.cI 20009 (J.int IntKind.i64 aE)) (.aa (.go 20010) (.aa (.val 20011 (J.ptr (some fu))) (.aa (.act 20012 (J.tuple []) fun x=>b3) (.aa (.go 21000) .nil))))))))))))))))))))))))))))))) (keep:=[8,9,10,11,12,43,44,45]) (by kernel_rfl) aG
theorem Ua(H H1 af ax au aU bc b3:I)(B N ic q ver off i z ql cA qw cN:Nat)(room k n d aE mx kD x:Int)(bu bS fu:aO)(ai:bx→a6→I→Prop)(aG:ad B (H.next) (some (J.bool (decide ((i:Int)<(N:Int))))=some (J.bool true)∧ad B (H.next+1) (bb env.D 27 (.slice (some ⟨q,ver,off,0,5⟩) N ic) (.int .i64 (i:Int))=some (J.ptr (some ⟨q,ver,off+i,0,5⟩))∧aQ env.D 65 ⟨q,ver,off+i,0,5⟩ (I.mk (H.next+7) (H.2))=some ((cZ k n d aE mx))∧aV env bz (H.next+4) (a1 []) (I.mk (H.next+7) (H.2)) (Op.alloc 65)=some (J.ptr (some ⟨z,0,0,0,5⟩),H1)∧aV env bz (H.next+6) (a1 [(14,.ptr (some ⟨z,0,0,0,5⟩)),(49,(cZ k n d aE mx))]) H1 (Op.store 65 (Operand.tmp 14) (Operand.tmp 49))=some (J.tuple [],af)∧ad B (af.next) (aQ env.D 65 ⟨z,0,0,0,5⟩ (I.mk (af.next+3) (af.2))=some ((cZ k n d aE mx))∧bY Tryz.prog aq 47 [(cZ k n d aE mx)] (I.mk (af.next+3) (af.2)) (.bool true) (I.mk (af.next+3) (af.2))∧ad B (af.next+3) (aQ env.D 65 ⟨z,0,0,0,5⟩ (I.mk (af.next+8) (af.2))=some ((cZ k n d aE mx))∧bb env.D 27 (.slice (some ⟨ql,0,0,0,5⟩) N N) (.int .i64 (i:Int))=some (J.ptr (some ⟨ql,0,0+i,0,5⟩))∧aV env bz (af.next+7) (a1 [(57,.ptr (some ⟨ql,0,0+i,0,5⟩)),(56,(cZ k n d aE mx))]) (I.mk (af.next+8) (af.2)) (Op.store 65 (Operand.tmp 57) (Operand.tmp 56))=some (J.tuple [],au)∧ad B (au.next) (aQ env.D 3 ⟨z,0,0,3,5⟩ (I.mk (au.next+6) (au.2))=some (.int .i64 aE)∧bb env.D 28 (.slice (some ⟨cA,0,0,0,1⟩) N N) (.int .i64 (i:Int))=some (J.ptr (some bu))∧aV env bz (au.next+5) (a1 [(62,.ptr (some bu)),(61,.int .i64 aE)]) (I.mk (au.next+6) (au.2)) (Op.store 3 (Operand.tmp 62) (Operand.tmp 61))=some (J.tuple [],aU)∧ad B (aU.next) (aQ env.D 35 ⟨z,0,0,0,5⟩ (I.mk (aU.next+2) (aU.2))=some (.int .i8 k)∧ad B (aU.next+2) (some (J.bool (k == 2))=some (J.bool false)∧ad B (aU.next+4) (some (J.bool (k == 3))=some (J.bool true)∧ad B (aU.next+6) (aQ env.D 3 ⟨z,0,0,3,5⟩ (I.mk (aU.next+12) (aU.2))=some (.int .i64 aE)∧bb env.D 28 (.slice (some ⟨qw,0,0,0,1⟩) N N) (.int .i64 (i:Int))=some (J.ptr (some bS))∧aV env bz (aU.next+11) (a1 [(92,.ptr (some bS)),(91,.int .i64 aE)]) (I.mk (aU.next+12) (aU.2)) (Op.store 3 (Operand.tmp 92) (Operand.tmp 91))=some (J.tuple [],bc)∧ad B (bc.next) (bb env.D 28 (.slice (some ⟨qw,0,0,0,1⟩) N N) (.int .i64 (i:Int))=some (J.ptr (some bS))∧aQ env.D 3 bS (I.mk (bc.next+13) (bc.2))=some (.int .i64 aE)∧aO.id bS<bc.next∧bb env.D 28 (.slice (some ⟨cA,0,0,0,1⟩) N N) (.int .i64 (i:Int))=some (J.ptr (some bu))∧aQ env.D 3 bu (I.mk (bc.next+13) (bc.2))=some (.int .i64 aE)∧aO.id bu<bc.next∧(-9223372036854775808≤aE-aE∧aE-aE≤9223372036854775807)∧bb env.D 28 (.slice (some ⟨cN,0,0,0,1⟩) N N) (.int .i64 (i:Int))=some (J.ptr (some fu))∧aV env bz (bc.next+12) (a1 [(104,.ptr (some fu)),(103,.int .i64 (aE-aE))]) (I.mk (bc.next+13) (bc.2)) (Op.store 3 (Operand.tmp 104) (Operand.tmp 103))=some (J.tuple [],b3)∧ad B (b3.next) ((-9223372036854775808≤(i:Int)+1∧(i:Int)+1≤9223372036854775807)∧ai .normal [(8,.int .i64 room),(9,.slice (some ⟨ql,0,0,0,5⟩) N N),(10,.slice (some ⟨cA,0,0,0,1⟩) N N),(11,.slice (some ⟨qw,0,0,0,1⟩) N N),(12,.slice (some ⟨cN,0,0,0,1⟩) N N),(43,.slice (some ⟨q,ver,off,0,5⟩) N ic),(44,.int .i64 (N:Int)),(45,.int .i64 ((i:Int)+1))] (I.mk (b3.next+2) (I.aj b3)))))))))))))) :
 ∃e ah U,aR Tryz.prog aq B 142 (aY Tryz.prog 50 0) [(8,.int .i64 room),(9,(.slice (some ⟨ql,0,0,0,5⟩) N N)),(10,(.slice (some ⟨cA,0,0,0,1⟩) N N)),(11,(.slice (some ⟨qw,0,0,0,1⟩) N N)),(12,(.slice (some ⟨cN,0,0,0,1⟩) N N)),(43,.slice (some ⟨q,ver,off,0,5⟩) N ic),(44,.int .i64 N),(45,.int .i64 i)] H e ah U∧ai e ah U :=
 b0 bg mixed bq (hs:= .aa (.val 8000 (.bool true)) (.aa (.val 9001 (.ptr (some ⟨q,ver,off+i,0,5⟩))) (.aa (.val 9002 ((cZ k n d aE mx))) (.aa (.act 9003 (.ptr (some ⟨z,0,0,0,5⟩)) fun x=>H1) (.aa (.act 9005 (.tuple []) fun x=>af) (.aa (.val 10000 ((cZ k n d aE mx))) (.aa (.val 10001 (.bool true)) (.aa (.val 12002 ((cZ k n d aE mx))) (.aa (.val 12003 (.ptr (some ⟨ql,0,0+i,0,5⟩))) (.aa (.act 12004 (.tuple []) fun x=>au) (.aa (.val 13003 (.int .i64 aE)) (.aa (.val 13004 (.ptr (some bu))) (.aa (.act 13005 (.tuple []) fun x=>aU) (.aa (.val 14001 (.int .i8 k)) (.aa (.val 16000 (.bool false)) (.aa (.val 18000 (.bool true)) (.aa (.val 19003 (.int .i64 aE)) (.aa (.val 19004 (.ptr (some bS))) (.aa (.act 19005 (.tuple []) fun x=>bc) (.aa (.val 20004 (.ptr (some bS))) (.aa (.cI 20005 (.int .i64 aE)) (.aa (.val 20008 (.ptr (some bu))) (.aa (.cI 20009 (.int .i64 aE)) (an 20010 (.aa (.val 20011 (.ptr (some fu))) (.aa (.act 20012 (.tuple []) fun x=>b3) (an 21000 .nil))))))))))))))))))))))))))) (keep:=[8,9,10,11,12,43,44,45]) (by kernel_rfl) aG
abbrev fy(aU:I):I:=(I.mk (aU.next+14) (aU.2))
theorem Ub(H H1 af ax au aU bc b3:I)(B N ic q ver off i z ql cA qw cN:Nat)(room k n d aE mx kD x:Int)(bu bS fu:aO)(ai:bx→a6→I→Prop)(aG:ad B (H.next) (some (J.bool (decide ((i:Int)<(N:Int))))=some (J.bool true)∧ad B (H.next+1) (bb env.D 27 (.slice (some ⟨q,ver,off,0,5⟩) N ic) (.int .i64 (i:Int))=some (J.ptr (some ⟨q,ver,off+i,0,5⟩))∧aQ env.D 65 ⟨q,ver,off+i,0,5⟩ (I.mk (H.next+7) (H.2))=some ((cZ k n d aE mx))∧aV env bz (H.next+4) (a1 []) (I.mk (H.next+7) (H.2)) (Op.alloc 65)=some (J.ptr (some ⟨z,0,0,0,5⟩),H1)∧aV env bz (H.next+6) (a1 [(14,.ptr (some ⟨z,0,0,0,5⟩)),(49,(cZ k n d aE mx))]) H1 (Op.store 65 (Operand.tmp 14) (Operand.tmp 49))=some (J.tuple [],af)∧ad B (af.next) (aQ env.D 65 ⟨z,0,0,0,5⟩ (I.mk (af.next+3) (af.2))=some ((cZ k n d aE mx))∧bY Tryz.prog aq 47 [(cZ k n d aE mx)] (I.mk (af.next+3) (af.2)) (.bool true) (I.mk (af.next+3) (af.2))∧ad B (af.next+3) (aQ env.D 65 ⟨z,0,0,0,5⟩ (I.mk (af.next+8) (af.2))=some ((cZ k n d aE mx))∧bb env.D 27 (.slice (some ⟨ql,0,0,0,5⟩) N N) (.int .i64 (i:Int))=some (J.ptr (some ⟨ql,0,0+i,0,5⟩))∧aV env bz (af.next+7) (a1 [(57,.ptr (some ⟨ql,0,0+i,0,5⟩)),(56,(cZ k n d aE mx))]) (I.mk (af.next+8) (af.2)) (Op.store 65 (Operand.tmp 57) (Operand.tmp 56))=some (J.tuple [],au)∧ad B (au.next) (aQ env.D 3 ⟨z,0,0,3,5⟩ (I.mk (au.next+6) (au.2))=some (.int .i64 aE)∧bb env.D 28 (.slice (some ⟨cA,0,0,0,1⟩) N N) (.int .i64 (i:Int))=some (J.ptr (some bu))∧aV env bz (au.next+5) (a1 [(62,.ptr (some bu)),(61,.int .i64 aE)]) (I.mk (au.next+6) (au.2)) (Op.store 3 (Operand.tmp 62) (Operand.tmp 61))=some (J.tuple [],aU)∧ad B (aU.next) (aQ env.D 35 ⟨z,0,0,0,5⟩ (I.mk (aU.next+2) (aU.2))=some (.int .i8 k)∧ad B (aU.next+2) (some (J.bool (k == 2))=some (J.bool false)∧ad B (aU.next+4) (some (J.bool (k == 3))=some (J.bool false)∧ad B (aU.next+6) (aQ env.D 3 ⟨z,0,0,1,5⟩ (fy aU)=some (.int .i64 n)∧aQ env.D 65 ⟨z,0,0,0,5⟩ (fy aU)=some ((cZ k n d aE mx))∧bY Tryz.prog aq 92 [.int .i64 n,(cZ k n d aE mx)] (fy aU) (.int .i64 x) (fy aU)∧bb env.D 28 (.slice (some ⟨qw,0,0,0,1⟩) N N) (.int .i64 (i:Int))=some (J.ptr (some bS))∧aV env bz (aU.next+13) (a1 [(71,.ptr (some bS)),(70,.int .i64 x)]) (fy aU) (Op.store 3 (Operand.tmp 71) (Operand.tmp 70))=some (J.tuple [],bc)∧ad B (bc.next) (bb env.D 28 (.slice (some ⟨qw,0,0,0,1⟩) N N) (.int .i64 (i:Int))=some (J.ptr (some bS))∧aQ env.D 3 bS (I.mk (bc.next+13) (bc.2))=some (.int .i64 x)∧aO.id bS<bc.next∧bb env.D 28 (.slice (some ⟨cA,0,0,0,1⟩) N N) (.int .i64 (i:Int))=some (J.ptr (some bu))∧aQ env.D 3 bu (I.mk (bc.next+13) (bc.2))=some (.int .i64 aE)∧aO.id bu<bc.next∧(-9223372036854775808≤x-aE∧x-aE≤9223372036854775807)∧bb env.D 28 (.slice (some ⟨cN,0,0,0,1⟩) N N) (.int .i64 (i:Int))=some (J.ptr (some fu))∧aV env bz (bc.next+12) (a1 [(104,.ptr (some fu)),(103,.int .i64 (x-aE))]) (I.mk (bc.next+13) (bc.2)) (Op.store 3 (Operand.tmp 104) (Operand.tmp 103))=some (J.tuple [],b3)∧ad B (b3.next) ((-9223372036854775808≤(i:Int)+1∧(i:Int)+1≤9223372036854775807)∧ai .normal [(8,.int .i64 room),(9,.slice (some ⟨ql,0,0,0,5⟩) N N),(10,.slice (some ⟨cA,0,0,0,1⟩) N N),(11,.slice (some ⟨qw,0,0,0,1⟩) N N),(12,.slice (some ⟨cN,0,0,0,1⟩) N N),(43,.slice (some ⟨q,ver,off,0,5⟩) N ic),(44,.int .i64 (N:Int)),(45,.int .i64 ((i:Int)+1))] (I.mk (b3.next+2) (I.aj b3)))))))))))))) :
 ∃e ah U,aR Tryz.prog aq B 142 (aY Tryz.prog 50 0) [(8,.int .i64 room),(9,(.slice (some ⟨ql,0,0,0,5⟩) N N)),(10,(.slice (some ⟨cA,0,0,0,1⟩) N N)),(11,(.slice (some ⟨qw,0,0,0,1⟩) N N)),(12,(.slice (some ⟨cN,0,0,0,1⟩) N N)),(43,.slice (some ⟨q,ver,off,0,5⟩) N ic),(44,.int .i64 N),(45,.int .i64 i)] H e ah U∧ai e ah U :=
 b0 bg mixed bq (hs:= .aa (.val 8000 (.bool true)) (.aa (.val 9001 (.ptr (some ⟨q,ver,off+i,0,5⟩))) (.aa (.val 9002 ((cZ k n d aE mx))) (.aa (.act 9003 (.ptr (some ⟨z,0,0,0,5⟩)) fun x=>H1) (.aa (.act 9005 (.tuple []) fun x=>af) (.aa (.val 10000 ((cZ k n d aE mx))) (.aa (.val 10001 (.bool true)) (.aa (.val 12002 ((cZ k n d aE mx))) (.aa (.val 12003 (.ptr (some ⟨ql,0,0+i,0,5⟩))) (.aa (.act 12004 (.tuple []) fun x=>au) (.aa (.val 13003 (.int .i64 aE)) (.aa (.val 13004 (.ptr (some bu))) (.aa (.act 13005 (.tuple []) fun x=>aU) (.aa (.val 14001 (.int .i8 k)) (.aa (.val 16000 (.bool false)) (.aa (.val 18000 (.bool false)) (.aa (.val 15003 (.int .i64 n)) (.aa (.val 15004 ((cZ k n d aE mx))) (.aa (.val 15005 (.int .i64 x)) (.aa (.val 15006 (.ptr (some bS))) (.aa (.act 15007 (.tuple []) fun x=>bc) (.aa (.val 20004 (.ptr (some bS))) (.aa (.cI 20005 (.int .i64 x)) (.aa (.val 20008 (.ptr (some bu))) (.aa (.cI 20009 (.int .i64 aE)) (an 20010 (.aa (.val 20011 (.ptr (some fu))) (.aa (.act 20012 (.tuple []) fun x=>b3) (an 21000 .nil))))))))))))))))))))))))))))) (keep:=[8,9,10,11,12,43,44,45]) (by kernel_rfl) aG
abbrev Jf:J:=J.agg [.int .i8 1,.int .i64 0,.int .i64 0,.int .i64 0,.int .i64 0]
abbrev vT:J:=J.agg [.int .i8 1,.int .i64 0,.int .i64 0,.int .i64 0,.int .i64 0]
theorem Uc(H H1 af ax au aU bc b3:I)(B N ic q ver off i z ql cA qw cN:Nat)(room k n d aE mx kD x:Int)(bu bS fu:aO)(ai:bx→a6→I→Prop)(aG:ad B (H.next) (some (J.bool (decide ((i:Int)<(N:Int))))=some (J.bool true)∧ad B (H.next+1) (bb env.D 27 (.slice (some ⟨q,ver,off,0,5⟩) N ic) (.int .i64 (i:Int))=some (J.ptr (some ⟨q,ver,off+i,0,5⟩))∧aQ env.D 65 ⟨q,ver,off+i,0,5⟩ (I.mk (H.next+7) (H.2))=some ((cZ k n d aE mx))∧aV env bz (H.next+4) (a1 []) (I.mk (H.next+7) (H.2)) (Op.alloc 65)=some (J.ptr (some ⟨z,0,0,0,5⟩),H1)∧aV env bz (H.next+6) (a1 [(14,.ptr (some ⟨z,0,0,0,5⟩)),(49,(cZ k n d aE mx))]) H1 (Op.store 65 (Operand.tmp 14) (Operand.tmp 49))=some (J.tuple [],af)∧ad B (af.next) (aQ env.D 65 ⟨z,0,0,0,5⟩ (I.mk (af.next+3) (af.2))=some ((cZ k n d aE mx))∧bY Tryz.prog aq 47 [(cZ k n d aE mx)] (I.mk (af.next+3) (af.2)) (.bool false) (I.mk (af.next+3) (af.2))∧ad B (af.next+3) (aV env bz (af.next+4) (a1 [(53,vT),(14,.ptr (some ⟨z,0,0,0,5⟩))]) (I.mk (af.next+5) (af.2)) (Op.store 65 (Operand.tmp 14) (Operand.tmp 53))=some (J.tuple [],ax)∧ad B (ax.next) (aQ env.D 65 ⟨z,0,0,0,5⟩ (I.mk (ax.next+5) (ax.2))=some (vT)∧bb env.D 27 (.slice (some ⟨ql,0,0,0,5⟩) N N) (.int .i64 (i:Int))=some (J.ptr (some ⟨ql,0,0+i,0,5⟩))∧aV env bz (ax.next+4) (a1 [(57,.ptr (some ⟨ql,0,0+i,0,5⟩)),(56,vT)]) (I.mk (ax.next+5) (ax.2)) (Op.store 65 (Operand.tmp 57) (Operand.tmp 56))=some (J.tuple [],au)∧ad B (au.next) (aQ env.D 3 ⟨z,0,0,3,5⟩ (I.mk (au.next+6) (au.2))=some (.int .i64 0)∧bb env.D 28 (.slice (some ⟨cA,0,0,0,1⟩) N N) (.int .i64 (i:Int))=some (J.ptr (some bu))∧aV env bz (au.next+5) (a1 [(62,.ptr (some bu)),(61,.int .i64 0)]) (I.mk (au.next+6) (au.2)) (Op.store 3 (Operand.tmp 62) (Operand.tmp 61))=some (J.tuple [],aU)∧ad B (aU.next) (aQ env.D 35 ⟨z,0,0,0,5⟩ (I.mk (aU.next+2) (aU.2))=some (.int .i8 1)∧ad B (aU.next+2) (ad B (aU.next+4) (ad B (aU.next+6) (aQ env.D 3 ⟨z,0,0,1,5⟩ (fy aU)=some (.int .i64 0)∧aQ env.D 65 ⟨z,0,0,0,5⟩ (fy aU)=some (vT)∧bY Tryz.prog aq 92 [.int .i64 0,vT] (fy aU) (.int .i64 x) (fy aU)∧bb env.D 28 (.slice (some ⟨qw,0,0,0,1⟩) N N) (.int .i64 (i:Int))=some (J.ptr (some bS))∧aV env bz (aU.next+13) (a1 [(71,.ptr (some bS)),(70,.int .i64 x)]) (fy aU) (Op.store 3 (Operand.tmp 71) (Operand.tmp 70))=some (J.tuple [],bc)∧ad B (bc.next) (bb env.D 28 (.slice (some ⟨qw,0,0,0,1⟩) N N) (.int .i64 (i:Int))=some (J.ptr (some bS))∧aQ env.D 3 bS (I.mk (bc.next+13) (bc.2))=some (.int .i64 x)∧aO.id bS<bc.next∧bb env.D 28 (.slice (some ⟨cA,0,0,0,1⟩) N N) (.int .i64 (i:Int))=some (J.ptr (some bu))∧aQ env.D 3 bu (I.mk (bc.next+13) (bc.2))=some (.int .i64 0)∧aO.id bu<bc.next∧(-9223372036854775808≤x-0∧x-0≤9223372036854775807)∧bb env.D 28 (.slice (some ⟨cN,0,0,0,1⟩) N N) (.int .i64 (i:Int))=some (J.ptr (some fu))∧aV env bz (bc.next+12) (a1 [(104,.ptr (some fu)),(103,.int .i64 (x-0))]) (I.mk (bc.next+13) (bc.2)) (Op.store 3 (Operand.tmp 104) (Operand.tmp 103))=some (J.tuple [],b3)∧ad B (b3.next) ((-9223372036854775808≤(i:Int)+1∧(i:Int)+1≤9223372036854775807)∧ai .normal [(8,.int .i64 room),(9,.slice (some ⟨ql,0,0,0,5⟩) N N),(10,.slice (some ⟨cA,0,0,0,1⟩) N N),(11,.slice (some ⟨qw,0,0,0,1⟩) N N),(12,.slice (some ⟨cN,0,0,0,1⟩) N N),(43,.slice (some ⟨q,ver,off,0,5⟩) N ic),(44,.int .i64 (N:Int)),(45,.int .i64 ((i:Int)+1))] (I.mk (b3.next+2) (I.aj b3))))))))))))))) :
 ∃e ah U,aR Tryz.prog aq B 142 (aY Tryz.prog 50 0) [(8,.int .i64 room),(9,(.slice (some ⟨ql,0,0,0,5⟩) N N)),(10,(.slice (some ⟨cA,0,0,0,1⟩) N N)),(11,(.slice (some ⟨qw,0,0,0,1⟩) N N)),(12,(.slice (some ⟨cN,0,0,0,1⟩) N N)),(43,.slice (some ⟨q,ver,off,0,5⟩) N ic),(44,.int .i64 N),(45,.int .i64 i)] H e ah U∧ai e ah U :=
 b0 bg mixed bq (hs:= .aa (.val 8000 (.bool true)) (.aa (.val 9001 (.ptr (some ⟨q,ver,off+i,0,5⟩))) (.aa (.val 9002 ((cZ k n d aE mx))) (.aa (.act 9003 (.ptr (some ⟨z,0,0,0,5⟩)) fun x=>H1) (.aa (.act 9005 (.tuple []) fun x=>af) (.aa (.val 10000 ((cZ k n d aE mx))) (.aa (.val 10001 (.bool false)) (.aa (.act 11001 (.tuple []) fun x=>ax) (.aa (.val 12002 (Jf)) (.aa (.val 12003 (.ptr (some ⟨ql,0,0+i,0,5⟩))) (.aa (.act 12004 (.tuple []) fun x=>au) (.aa (.val 13003 (.int .i64 0)) (.aa (.val 13004 (.ptr (some bu))) (.aa (.act 13005 (.tuple []) fun x=>aU) (.aa (.val 14001 (.int .i8 1)) (.aa (.val 15003 (.int .i64 0)) (.aa (.val 15004 (Jf)) (.aa (.val 15005 (.int .i64 x)) (.aa (.val 15006 (.ptr (some bS))) (.aa (.act 15007 (.tuple []) fun x=>bc) (.aa (.val 20004 (.ptr (some bS))) (.aa (.cI 20005 (.int .i64 x)) (.aa (.val 20008 (.ptr (some bu))) (.aa (.cI 20009 (.int .i64 0)) (an 20010 (.aa (.val 20011 (.ptr (some fu))) (.aa (.act 20012 (.tuple []) fun x=>b3) (an 21000 .nil)))))))))))))))))))))))))))) (keep:=[8,9,10,11,12,43,44,45]) (by kernel_rfl) aG
theorem Ud(H H1 af ax au aU bc b3:I)(B N ic q ver off i z ql cA qw cN:Nat)(room k n d aE mx kD x:Int)(bu bS fu:aO)(ai:bx→a6→I→Prop)(aG:ad B (H.next) (some (J.bool (decide ((i:Int)<(N:Int))))=some (J.bool false)∧ai (.exit 0) [(8,.int .i64 room),(9,.slice (some ⟨ql,0,0,0,5⟩) N N),(10,.slice (some ⟨cA,0,0,0,1⟩) N N),(11,.slice (some ⟨qw,0,0,0,1⟩) N N),(12,.slice (some ⟨cN,0,0,0,1⟩) N N),(43,.slice (some ⟨q,ver,off,0,5⟩) N ic),(44,.int .i64 (N:Int)),(45,.int .i64 (i:Int))] (I.mk (H.next+1) (I.aj H)))) :
 ∃e ah U,aR Tryz.prog aq B 142 (aY Tryz.prog 50 0) [(8,.int .i64 room),(9,(.slice (some ⟨ql,0,0,0,5⟩) N N)),(10,(.slice (some ⟨cA,0,0,0,1⟩) N N)),(11,(.slice (some ⟨qw,0,0,0,1⟩) N N)),(12,(.slice (some ⟨cN,0,0,0,1⟩) N N)),(43,.slice (some ⟨q,ver,off,0,5⟩) N ic),(44,.int .i64 N),(45,.int .i64 i)] H e ah U∧ai e ah U :=
 b0 bg mixed bq (hs:= .aa (.val 8000 (.bool false)) .nil) (keep:=[8,9,10,11,12,43,44,45]) (by kernel_rfl) aG
theorem Ue(H H1:I)(B N i qw sc:Nat)(so:Option aO)(x y:Int)(p bu:aO)(ai:bx→a6→I→Prop)(aG:ad B (H.next) (some (J.bool (decide ((i:Int)<(N:Int))))=some (J.bool true)∧ad B (H.next+1) (bb env.D 28 (.slice so N sc) (.int .i64 (i:Int))=some (J.ptr (some p))∧aQ env.D 3 p (I.mk (H.next+6) (H.2))=some (.int .i64 x)∧ad B (H.next+6) (bb env.D 28 (.slice (some ⟨qw,0,0,0,1⟩) N N) (.int .i64 (i:Int))=some (J.ptr (some bu))∧aQ env.D 3 bu (I.mk (H.next+14) (H.2))=some (.int .i64 y)∧(-9223372036854775808≤y-x∧y-x≤9223372036854775807)∧bb env.D 28 (.slice (some ⟨qw,0,0,0,1⟩) N N) (.int .i64 (i:Int))=some (J.ptr (some bu))∧aV env bz (H.next+13) (a1 [(134,.ptr (some bu)),(133,.int .i64 (y-x))]) (I.mk (H.next+14) (H.2)) (Op.store 3 (Operand.tmp 134) (Operand.tmp 133))=some (J.tuple [],H1)∧ad B (H1.next) ((-9223372036854775808≤(i:Int)+1∧(i:Int)+1≤9223372036854775807)∧ai .normal [(11,.slice (some ⟨qw,0,0,0,1⟩) N N),(121,.slice so N sc),(122,.int .i64 (N:Int)),(123,.int .i64 ((i:Int)+1))] (I.mk (H1.next+2) (I.aj H1))))))) :
 ∃e ah U,aR Tryz.prog aq B 142 (aY Tryz.prog 50 1) [(11,(.slice (some ⟨qw,0,0,0,1⟩) N N)),(121,.slice so N sc),(122,.int .i64 N),(123,.int .i64 i)] H e ah U∧ai e ah U :=
 b0 bg mixed bq (hs:= .aa (.val 27000 (.bool true)) (.aa (.val 28001 (.ptr (some p))) (.aa (.val 28002 (.int .i64 x)) (.aa (.val 29002 (.ptr (some bu))) (.aa (.val 29003 (.int .i64 y)) (an 29005 (.aa (.val 29006 (.ptr (some bu))) (.aa (.act 29007 (.tuple []) fun x=>H1) (an 30000 .nil))))))))) (keep:=[11,121,122,123]) (by kernel_rfl) aG
theorem Uf(H H1:I)(B N i qw sc:Nat)(so:Option aO)(x y:Int)(p bu:aO)(ai:bx→a6→I→Prop)(aG:ad B (H.next) (some (J.bool (decide ((i:Int)<(N:Int))))=some (J.bool false)∧ai (.exit 3) [(11,.slice (some ⟨qw,0,0,0,1⟩) N N),(121,.slice so N sc),(122,.int .i64 (N:Int)),(123,.int .i64 (i:Int))] (I.mk (H.next+1) (I.aj H)))) :
 ∃e ah U,aR Tryz.prog aq B 142 (aY Tryz.prog 50 1) [(11,(.slice (some ⟨qw,0,0,0,1⟩) N N)),(121,.slice so N sc),(122,.int .i64 N),(123,.int .i64 i)] H e ah U∧ai e ah U :=
 b0 bg mixed bq (hs:= .aa (.val 27000 (.bool false)) .nil) (keep:=[11,121,122,123]) (by kernel_rfl) aG
end Go.Proofs.YtjpfnbihopoeeaaGreatDoor
namespace Go.Proofs.YtjpfnbihopoeeaaGreatDoor
open Go.ba
theorem Ug(H:I)(ic:Nat)(y6:Option aO)(e g:Int)(ai:J→I→Prop)(aG:ad (H.next) (H.next) (ad (H.next) (H.next+1) (ad (H.next) (H.next+4) (ad (H.next) (H.next+10) (cW (H.next) (H.next+11) (ai (.slice none 0 0) (I.mk (H.next+10+1) (I.aj (I.mk (H.next+4+6) (I.aj (I.mk (H.next+1+3) (I.aj (I.mk (H.next+1) (I.aj H)))))))))))))) :
 ∃v U,aZ Tryz.prog aq 50 [.slice y6 0 ic,.int .i64 e,.int .i64 g] H v U∧ai v U :=
 cE bg mixed bq (hs:= .nil) (by kernel_rfl) aG
abbrev e5(H:I):I:=(I.mk (H.next+20) (H.2))
abbrev iF(N:Nat)(cA:Nat):J:=J.slice (some ⟨cA,0,0,0,1⟩) N N
theorem Uh(H H1 af ax au aU bc b3 db kW:I)(N ic q ver off ql cA qw cN sc:Nat)(so:Option aO)(e g hz gp room s1 s2:Int)(dR:J)(ai:J→I→Prop)(aG:ad (H.next) (H.next) (ad (H.next) (H.next+1) (ad (H.next) (H.next+4) (some (J.bool ((N:Int) == 0))=some (J.bool false)∧some (J.bool (decide ((N:Int)>4096)))=some (J.bool false)∧ad (H.next) (H.next+10) (bY Tryz.prog aq 91 [.int .i64 e] (e5 H) (.int .i64 hz) (e5 H)∧bY Tryz.prog aq 91 [.int .i64 g] (e5 H) (.int .i64 gp) (e5 H)∧(-9223372036854775808≤(N:Int)-1∧(N:Int)-1≤9223372036854775807)∧(-9223372036854775808≤gp* ((N:Int)-1)∧gp* ((N:Int)-1)≤9223372036854775807)∧(-9223372036854775808≤hz-gp* ((N:Int)-1)∧hz-gp* ((N:Int)-1)≤9223372036854775807)∧dk env Builtin.max {toList:=[3,3]} [.int .i64 0,.int .i64 (hz-gp* ((N:Int)-1))] (H.next+18) (e5 H)=some (.int .i64 room,(e5 H))∧sy [.int .i64 e] [.int .i64 g] (e5 H) (e5 H) (.int .i64 hz) (.int .i64 gp) (e5 H) (e5 H)∧ad (H.next) (H.next+20) (aV env bz (H.next+21) (a1 [(35,.int .i64 (N:Int))]) (I.mk (H.next+23) (H.2)) (Op.makeSlice 27 (Operand.tmp 35) (Operand.tmp 35))=some (J.slice (some ⟨ql,0,0,0,5⟩) N N,H1)∧ad (H.next) (H1.next) (aV env bz (H1.next+1) (a1 [(37,.int .i64 (N:Int))]) (I.mk (H1.next+9) (H1.2)) (Op.makeSlice 28 (Operand.tmp 37) (Operand.tmp 37))=some ((iF N cA),af)∧aV env bz (H1.next+3) (a1 [(39,.int .i64 (N:Int))]) af (Op.makeSlice 28 (Operand.tmp 39) (Operand.tmp 39))=some (J.slice (some ⟨qw,0,0,0,1⟩) N N,ax)∧aV env bz (H1.next+5) (a1 [(41,.int .i64 (N:Int))]) ax (Op.makeSlice 28 (Operand.tmp 41) (Operand.tmp 41))=some (J.slice (some ⟨cN,0,0,0,1⟩) N N,au)∧ad (H.next) (au.next) (aR Tryz.prog aq (H.next) 142 (Code.loop (aY Tryz.prog 50 0)) [(8,.int .i64 room),(9,.slice (some ⟨ql,0,0,0,5⟩) N N),(10,(iF N cA)),(11,.slice (some ⟨qw,0,0,0,1⟩) N N),(12,.slice (some ⟨cN,0,0,0,1⟩) N N),(43,.slice (some ⟨q,ver,off,0,5⟩) N ic),(44,.int .i64 (N:Int)),(45,.int .i64 0)] (I.mk (au.next+3) (I.aj au)) (.exit 0) [(8,.int .i64 room),(9,.slice (some ⟨ql,0,0,0,5⟩) N N),(10,(iF N cA)),(11,.slice (some ⟨qw,0,0,0,1⟩) N N),(12,.slice (some ⟨cN,0,0,0,1⟩) N N)] aU∧ad (H.next) (aU.next) (bY Tryz.prog aq 93 [(iF N cA)] (I.mk (aU.next+4) (aU.2)) (.int .i64 s1) bc∧some (J.bool (decide (s1>room)))=some (J.bool true)∧ad (H.next) (bc.next) (bY Tryz.prog aq 94 [.int .i64 room,(iF N cA)] (I.mk (bc.next+4) (bc.2)) dR b3∧cW (H.next) (b3.next) (ai dR b3))))))))))) :
 ∃v U,aZ Tryz.prog aq 50 [.slice (some ⟨q,ver,off,0,5⟩) N ic,.int .i64 e,.int .i64 g] H v U∧ai v U :=
 cE bg mixed bq (hs:= .aa (.val 2001 (.bool false)) (.aa (.val 2004 (.bool false)) (.aa (.val 4001 (.int .i64 hz)) (.aa (.val 4003 (.int .i64 gp)) (an 4005 (an 4006 (an 4007 (.aa (.val 4008 (.int .i64 room)) (.aa (.act 5001 (.slice (some ⟨ql,0,0,0,5⟩) N N) fun x=>H1) (.aa (.act 6001 ((iF N cA)) fun x=>af) (.aa (.act 6003 (.slice (some ⟨qw,0,0,0,1⟩) N N) fun x=>ax) (.aa (.act 6005 (.slice (some ⟨cN,0,0,0,1⟩) N N) fun x=>au) (.aa (.keep [8,9,10,11,12,43,44,45]) (.aa (.loop [(8,.int .i64 room),(9,.slice (some ⟨ql,0,0,0,5⟩) N N),(10,(iF N cA)),(11,.slice (some ⟨qw,0,0,0,1⟩) N N),(12,.slice (some ⟨cN,0,0,0,1⟩) N N)] aU (.exit 0)) (.aa (.act 22001 (.int .i64 s1) fun x=>bc) (.aa (.val 22003 (.bool true)) (.aa (.act 23002 dR fun x=>b3) .nil))))))))))))))))) (by kernel_rfl) aG
abbrev mX(N:Nat)(cN:Nat):J:=J.slice (some ⟨cN,0,0,0,1⟩) N N
abbrev iW(N:Nat)(qw:Nat):J:=J.slice (some ⟨qw,0,0,0,1⟩) N N
theorem Ui(H H1 af ax au aU bc b3 db kW:I)(N ic q ver off ql cA qw cN sc:Nat)(so:Option aO)(e g hz gp room s1 s2:Int)(dR:J)(ai:J→I→Prop)(aG:ad (H.next) (H.next) (ad (H.next) (H.next+1) (ad (H.next) (H.next+4) (some (J.bool ((N:Int) == 0))=some (J.bool false)∧some (J.bool (decide ((N:Int)>4096)))=some (J.bool false)∧ad (H.next) (H.next+10) (bY Tryz.prog aq 91 [.int .i64 e] (e5 H) (.int .i64 hz) (e5 H)∧bY Tryz.prog aq 91 [.int .i64 g] (e5 H) (.int .i64 gp) (e5 H)∧(-9223372036854775808≤(N:Int)-1∧(N:Int)-1≤9223372036854775807)∧(-9223372036854775808≤gp* ((N:Int)-1)∧gp* ((N:Int)-1)≤9223372036854775807)∧(-9223372036854775808≤hz-gp* ((N:Int)-1)∧hz-gp* ((N:Int)-1)≤9223372036854775807)∧dk env Builtin.max {toList:=[3,3]} [.int .i64 0,.int .i64 (hz-gp* ((N:Int)-1))] (H.next+18) (e5 H)=some (.int .i64 room,(e5 H))∧sy [.int .i64 e] [.int .i64 g] (e5 H) (e5 H) (.int .i64 hz) (.int .i64 gp) (e5 H) (e5 H)∧ad (H.next) (H.next+20) (aV env bz (H.next+21) (a1 [(35,.int .i64 (N:Int))]) (I.mk (H.next+23) (H.2)) (Op.makeSlice 27 (Operand.tmp 35) (Operand.tmp 35))=some (J.slice (some ⟨ql,0,0,0,5⟩) N N,H1)∧ad (H.next) (H1.next) (aV env bz (H1.next+1) (a1 [(37,.int .i64 (N:Int))]) (I.mk (H1.next+9) (H1.2)) (Op.makeSlice 28 (Operand.tmp 37) (Operand.tmp 37))=some ((iF N cA),af)∧aV env bz (H1.next+3) (a1 [(39,.int .i64 (N:Int))]) af (Op.makeSlice 28 (Operand.tmp 39) (Operand.tmp 39))=some ((iW N qw),ax)∧aV env bz (H1.next+5) (a1 [(41,.int .i64 (N:Int))]) ax (Op.makeSlice 28 (Operand.tmp 41) (Operand.tmp 41))=some ((mX N cN),au)∧ad (H.next) (au.next) (aR Tryz.prog aq (H.next) 142 (Code.loop (aY Tryz.prog 50 0)) [(8,.int .i64 room),(9,.slice (some ⟨ql,0,0,0,5⟩) N N),(10,(iF N cA)),(11,(iW N qw)),(12,(mX N cN)),(43,.slice (some ⟨q,ver,off,0,5⟩) N ic),(44,.int .i64 (N:Int)),(45,.int .i64 0)] (I.mk (au.next+3) (I.aj au)) (.exit 0) [(8,.int .i64 room),(9,.slice (some ⟨ql,0,0,0,5⟩) N N),(10,(iF N cA)),(11,(iW N qw)),(12,(mX N cN))] aU∧ad (H.next) (aU.next) (bY Tryz.prog aq 93 [(iF N cA)] (I.mk (aU.next+4) (aU.2)) (.int .i64 s1) bc∧some (J.bool (decide (s1>room)))=some (J.bool false)∧ad (H.next) (bc.next) (bY Tryz.prog aq 93 [(iW N qw)] (I.mk (bc.next+5) (bc.2)) (.int .i64 s2) b3∧(-9223372036854775808≤s2-room∧s2-room≤9223372036854775807)∧ad (H.next) (b3.next) (some (J.bool (decide (s2-room>0)))=some (J.bool true)∧ad (H.next) (b3.next+2) (bY Tryz.prog aq 94 [.int .i64 (s2-room),(mX N cN)] (I.mk (b3.next+7) (b3.2)) (.slice so N sc) db∧aR Tryz.prog aq (H.next) 142 (Code.loop (aY Tryz.prog 50 1)) [(11,(iW N qw)),(121,.slice so N sc),(122,.int .i64 (N:Int)),(123,.int .i64 0)] db (.exit 3) [(11,(iW N qw))] kW∧ad (H.next) (kW.next) (cW (H.next) (kW.next+2) (ai ((iW N qw)) (I.mk (kW.next+2) (I.aj kW)))))))))))))))) :
 ∃v U,aZ Tryz.prog aq 50 [.slice (some ⟨q,ver,off,0,5⟩) N ic,.int .i64 e,.int .i64 g] H v U∧ai v U :=
 cE bg mixed bq (hs:= .aa (.val 2001 (.bool false)) (.aa (.val 2004 (.bool false)) (.aa (.val 4001 (.int .i64 hz)) (.aa (.val 4003 (.int .i64 gp)) (an 4005 (an 4006 (an 4007 (.aa (.val 4008 (.int .i64 room)) (.aa (.act 5001 (.slice (some ⟨ql,0,0,0,5⟩) N N) fun x=>H1) (.aa (.act 6001 ((iF N cA)) fun x=>af) (.aa (.act 6003 ((iW N qw)) fun x=>ax) (.aa (.act 6005 ((mX N cN)) fun x=>au) (.aa (.keep [8,9,10,11,12,43,44,45]) (.aa (.loop [(8,.int .i64 room),(9,.slice (some ⟨ql,0,0,0,5⟩) N N),(10,(iF N cA)),(11,(iW N qw)),(12,(mX N cN))] aU (.exit 0)) (.aa (.act 22001 (.int .i64 s1) fun x=>bc) (.aa (.val 22003 (.bool false)) (.aa (.act 24001 (.int .i64 s2) fun x=>b3) (an 24003 (.aa (.val 25001 (.bool true)) (.aa (.act 26002 (.slice so N sc) fun x=>db) (.aa (.keep [11,121,122,123]) (.aa (.loop [(11,(iW N qw))] kW (.exit 3)) .nil)))))))))))))))))))))) (by kernel_rfl) aG
abbrev ta(N:Nat)(ql:Nat):J:=J.slice (some ⟨ql,0,0,0,5⟩) N N
theorem Uj(H H1 af ax au aU bc b3 db kW:I)(N ic q ver off ql cA qw cN sc:Nat)(so:Option aO)(e g hz gp room s1 s2:Int)(dR:J)(ai:J→I→Prop)(aG:ad (H.next) (H.next) (ad (H.next) (H.next+1) (ad (H.next) (H.next+4) (some (J.bool ((N:Int) == 0))=some (J.bool false)∧some (J.bool (decide ((N:Int)>4096)))=some (J.bool false)∧ad (H.next) (H.next+10) (bY Tryz.prog aq 91 [.int .i64 e] (e5 H) (.int .i64 hz) (e5 H)∧bY Tryz.prog aq 91 [.int .i64 g] (e5 H) (.int .i64 gp) (e5 H)∧(-9223372036854775808≤(N:Int)-1∧(N:Int)-1≤9223372036854775807)∧(-9223372036854775808≤gp* ((N:Int)-1)∧gp* ((N:Int)-1)≤9223372036854775807)∧(-9223372036854775808≤hz-gp* ((N:Int)-1)∧hz-gp* ((N:Int)-1)≤9223372036854775807)∧dk env Builtin.max {toList:=[3,3]} [.int .i64 0,.int .i64 (hz-gp* ((N:Int)-1))] (H.next+18) (e5 H)=some (.int .i64 room,(e5 H))∧sy [.int .i64 e] [.int .i64 g] (e5 H) (e5 H) (.int .i64 hz) (.int .i64 gp) (e5 H) (e5 H)∧ad (H.next) (H.next+20) (aV env bz (H.next+21) (a1 [(35,.int .i64 (N:Int))]) (I.mk (H.next+23) (H.2)) (Op.makeSlice 27 (Operand.tmp 35) (Operand.tmp 35))=some ((ta N ql),H1)∧ad (H.next) (H1.next) (aV env bz (H1.next+1) (a1 [(37,.int .i64 (N:Int))]) (I.mk (H1.next+9) (H1.2)) (Op.makeSlice 28 (Operand.tmp 37) (Operand.tmp 37))=some ((iF N cA),af)∧aV env bz (H1.next+3) (a1 [(39,.int .i64 (N:Int))]) af (Op.makeSlice 28 (Operand.tmp 39) (Operand.tmp 39))=some ((iW N qw),ax)∧aV env bz (H1.next+5) (a1 [(41,.int .i64 (N:Int))]) ax (Op.makeSlice 28 (Operand.tmp 41) (Operand.tmp 41))=some ((mX N cN),au)∧ad (H.next) (au.next) (aR Tryz.prog aq (H.next) 142 (Code.loop (aY Tryz.prog 50 0)) [(8,.int .i64 room),(9,(ta N ql)),(10,(iF N cA)),(11,(iW N qw)),(12,(mX N cN)),(43,.slice (some ⟨q,ver,off,0,5⟩) N ic),(44,.int .i64 (N:Int)),(45,.int .i64 0)] (I.mk (au.next+3) (I.aj au)) (.exit 0) [(8,.int .i64 room),(9,(ta N ql)),(10,(iF N cA)),(11,(iW N qw)),(12,(mX N cN))] aU∧ad (H.next) (aU.next) (bY Tryz.prog aq 93 [(iF N cA)] (I.mk (aU.next+4) (aU.2)) (.int .i64 s1) bc∧some (J.bool (decide (s1>room)))=some (J.bool false)∧ad (H.next) (bc.next) (bY Tryz.prog aq 93 [(iW N qw)] (I.mk (bc.next+5) (bc.2)) (.int .i64 s2) b3∧(-9223372036854775808≤s2-room∧s2-room≤9223372036854775807)∧ad (H.next) (b3.next) (some (J.bool (decide (s2-room>0)))=some (J.bool false)∧ad (H.next) (b3.next+2) (bY Tryz.prog aq 95 [(ta N ql),(iW N qw),.int .i64 room] (I.mk (b3.next+6) (b3.2)) (.tuple []) db∧ad (H.next) (db.next) (cW (H.next) (db.next+2) (ai ((iW N qw)) (I.mk (db.next+2) (I.aj db)))))))))))))))) :
 ∃v U,aZ Tryz.prog aq 50 [.slice (some ⟨q,ver,off,0,5⟩) N ic,.int .i64 e,.int .i64 g] H v U∧ai v U :=
 cE bg mixed bq (hs:= .aa (.val 2001 (.bool false)) (.aa (.val 2004 (.bool false)) (.aa (.val 4001 (.int .i64 hz)) (.aa (.val 4003 (.int .i64 gp)) (an 4005 (an 4006 (an 4007 (.aa (.val 4008 (.int .i64 room)) (.aa (.act 5001 ((ta N ql)) fun x=>H1) (.aa (.act 6001 ((iF N cA)) fun x=>af) (.aa (.act 6003 ((iW N qw)) fun x=>ax) (.aa (.act 6005 ((mX N cN)) fun x=>au) (.aa (.keep [8,9,10,11,12,43,44,45]) (.aa (.loop [(8,.int .i64 room),(9,(ta N ql)),(10,(iF N cA)),(11,(iW N qw)),(12,(mX N cN))] aU (.exit 0)) (.aa (.act 22001 (.int .i64 s1) fun x=>bc) (.aa (.val 22003 (.bool false)) (.aa (.act 24001 (.int .i64 s2) fun x=>b3) (an 24003 (.aa (.val 25001 (.bool false)) (.aa (.act 32003 (.tuple []) fun x=>db) .nil)))))))))))))))))))) (by kernel_rfl) aG
end Go.Proofs.YtjpfnbihopoeeaaGreatDoor
namespace Go.Proofs.YtjpfnbihopoeeaaGreatDoor
open Go.ba
theorem cQ.lt{H:I}{e q n c:Nat}{a:aO}{eh:List J}(h:cQ H e q (.slice (some a) n c) eh):q<H.next:=by
 rcases h with ⟨_,h⟩|⟨b,_,h,_⟩
 ·cases h
 ·exact h
def kX:cz:=⟨0,0,0,0,0⟩
def l1:cz:=⟨1,0,0,0,0⟩
noncomputable def tb(t:cz):Bool:=(CL t).choose
theorem Uk(t:cz):tb t=true→nM t:=(CL t).choose_spec.1
theorem DB(t:cz)(H:I):aZ Tryz.prog aq 47 [t.v] H (.bool (tb t)) H:=(CL t).choose_spec.2 H
noncomputable def dF(t:cz):cz:=if tb t=true then t else l1
theorem kh(t:cz):nM (dF t):=by
 unfold dF;by_cases c:tb t=true
 ·rw [if_pos c];exact Uk t c
 ·rw [if_neg c];exact⟨by simp [l1],by simp [l1],by simp [l1]⟩
def eY(room:Int)(t:cz):Int:=if t.k=2 then lU t.aE t.mx (t.n*room/t.d)else if t.k=3 then t.aE else lU t.aE t.mx t.n
theorem Jg{aE mx x M:Int}(bt:0≤aE)(U:mx=0∨(1≤mx∧aE≤mx))(jj:aE≤M)(ab:x≤M):aE≤lU aE mx x∧lU aE mx x≤M:=by unfold lU;split<;>omega
theorem Jh{t:cz}(h:nM t)(az:t.k=2){room:Int}(aC:0≤room∧room≤4096):0≤t.n*room∧t.n*room≤2^22∧1≤t.d∧0≤t.n*room/t.d∧t.n*room/t.d≤2^22:=by
 have aM:0≤t.n∧t.n≤1000∧1≤t.d:=by have:=h.kind;omega
 have U:=mulR aM.1 aM.2.1 aC.1 aC.2;have ak:=Int.ediv_le_self t.d U.1;have aP:0≤t.n*room/t.d:=Int.ediv_nonneg U.1 (by omega);omega
theorem tc{t:cz}(h:nM t){room:Int}(aC:0≤room∧room≤4096):t.aE≤eY room t∧eY room t≤2^22:=by
 have U:=h.aE;have ak:=h.mx;unfold eY;split
 ·rename_i az;have:=Jh h az aC;exact Jg U.1 (by omega) (by omega) (by omega)
 ·split
  ·omega
  ·have:=h.kind;exact Jg U.1 (by omega) (by omega) (by omega)
theorem Ul(t:cz)(H:I){nid:Nat}(be:nid<H.next):∃H1 af,(∀F,aV env bz nid (a1 F) H (Op.alloc 65)=some (.ptr (some ⟨nid,0,0,0,5⟩),H1))∧e7 (bh.D env) 65 ⟨nid,0,0,0,5⟩ t.v H1=some af∧H1.next=H.next∧af.next=H.next∧fp af nid 1 (fun _=>t)∧Fr H af [nid]:=by
 obtain⟨d,d1,d2⟩:=Option.map_eq_some_iff.1 I0;simp only [Prod.mk.injEq]at d2;obtain⟨d3,d4,d5⟩:=d2;have he:env.D 65=some d:=d1
 let H1:I:=H.set nid (.made [kX.v] 5 true (some (65,5)))
 have b9:fp H1 nid 1 (fun _=>kX):=⟨be,_,I.eG _ _ _,rfl,rfl,rfl,rfl⟩
 obtain⟨af,s2,cJ,f2,n2⟩:=b9.hq (i:=0) (by decide) t 0;have e:(fun j=>if j=0 then t else kX)=fun j=>if j=0 then t else kX:=rfl
 refine⟨H1,af,fun F=> ?_,s2,rfl,n2,?_,(Fr.set (L:=[nid]) H _ _ (by simp)).trans f2 (fun x ab _=>ab)⟩
 ·have aS:(J.agg [.int .i8 0,.int .i64 0,.int .i64 0,.int .i64 0,.int .i64 0]).fits d.kind.isAgg 5=true:=by rw [d3];rfl
  simp only [aV,he,d5,d4];rw [if_pos (by rw [aS];rfl)];rfl
 ·obtain⟨g1,b,g2,g3,g4,g5,g6⟩:=cJ;exact⟨g1,b,g2,g3,g4,g5,by rw [g6];rfl⟩
theorem vU{α:Type}{g c:Nat→α}{i:Nat} :(fun k=>if k=i then g i else if k<i then g k else c k)=fun k=>if k<i+1 then g k else c k:=by
 funext k
 by_cases U:k=i
 ·subst U;rw [if_pos rfl,if_pos (by omega)]
 ·rw [if_neg U];by_cases ak:k<i
  ·rw [if_pos ak,if_pos (by omega)]
  ·rw [if_neg ak,if_neg (by omega)]
abbrev kf{α:Type}(g c:Nat→α)(i:Nat):Nat→α:=fun k=>if k<i then g k else c k
abbrev fH(q N:Nat):J:= .slice (some ⟨q,0,0,0,1⟩) N N
abbrev rG(q ver off N ic ql cA qw cN:Nat)(room:Int)(i:Nat):a6:=[(8,.int .i64 room),(9,mL ql N),(10,fH cA N),(11,fH qw N),(12,fH cN N),(43,fa q ver off N ic),(44,.int .i64 (N:Nat)),(45,.int .i64 (i:Nat))]
structure vV(H:I)(N ql cA qw cN:Nat)(room:Int)(f:Nat→cz)(i:Nat):Prop where
 l:fp H ql N (kf (fun j=>dF (f j)) (fun _=>kX) i)
 m:cQ H 3 cA (fH cA N) (ei N (kf (fun j=>(dF (f j)).aE) (fun _=>0) i))
 w:cQ H 3 qw (fH qw N) (ei N (kf (fun j=>eY room (dF (f j))) (fun _=>0) i))
 v:cQ H 3 cN (fH cN N) (ei N (kf (fun j=>eY room (dF (f j))- (dF (f j)).aE) (fun _=>0) i))
theorem Um{B N ic q ver off ql cA qw cN:Nat}{f:Nat→cz}{room:Int}(bA:N≤64)(aC:0≤room∧room≤4096)(d1:q ∉ [ql,cA,qw,cN])(d2:ql ∉ [cA,qw,cN])(d3:cA ∉ [ql,qw,cN])(d4:qw ∉ [ql,cA,cN])(d5:cN ∉ [ql,cA,qw]) :
 ∀(g i:Nat)(H:I),i+g=N→B≤H.next→gM H q ver off N (fa q ver off N ic) f→vV H N ql cA qw cN room f i →
 ∃H',bf Tryz.prog aq B 142 (aY Tryz.prog 50 0) (rG q ver off N ic ql cA qw cN room i) H (.exit 0) [(8,.int .i64 room),(9,mL ql N),(10,fH cA N),(11,fH qw N),(12,fH cN N)] H'∧vV H' N ql cA qw cN room f N∧Fr H H' [ql,cA,qw,cN]:=by
 have bW:aO:=⟨0,0,0,0,1⟩
 simp only [List.mem_cons,List.not_mem_nil,or_false,not_or]at d1 d2 d3 d4 d5;intro g;induction g with
 |zero =>
  intro i H ac aX ej S;obtain rfl:i=N:=by omega
  obtain⟨e,ah,h',cV,rfl,rfl,rfl⟩:=Ud H H H H H H H H B i ic q ver off i 0 ql cA qw cN room 0 0 0 0 0 0 0 bW bW bW (fun e ah U=>e=.exit 0∧ah=rG q ver off i ic ql cA qw cN room i∧U=up H 1) (ae aX ⟨b7 (by omega),rfl,rfl,rfl⟩);have i':=Fr.up H 1 [];exact⟨_,(bf.last (by simp) cV).post (bL.facts (ed [8,9,10,11,12] (by kernel_rfl))),⟨S.l.aI i' (by simp),S.m.aI i' (by simp),S.w.aI i' (by simp),S.v.aI i' (by simp)⟩,Fr.up H 1 _⟩
 |succ g ih =>
  intro i H ac aX ej S;have bH:i<N:=by omega
  obtain⟨H1,af,bU,b8,dj,eJ,y7,fo⟩:=Ul (f i) (up H 7) (nid:=H.next+4) (by show H.next+4<H.next+7;omega);have dj:H1.next=H.next+7:=dj
  have eJ:af.next=H.next+7:=eJ
  have f2:Fr H af []:=(Fr.up H 7 []).more fo (kT (by omega));have Ji:=S.l.1;have vW:=kh (f i);have qM:=tc vW aC;have oV:=vW.aE
  have go :∀(ax:I)(m3:Nat),fp ax (H.next+4) 1 (fun _=>dF (f i))→Fr H ax []→H.next+7≤ax.next →
   ∃au aU:I,∃bu:aO,e7 (bh.D env) 65 ⟨ql,0,0+i,0,5⟩ (dF (f i)).v (up ax m3)=some au∧bb (bh.D env) 28 (fH cA N) (.int .i64 (i:Nat))=some (.ptr (some bu))∧e7 (bh.D env) 3 bu (.int .i64 (dF (f i)).aE) (up au 6)=some aU ∧
    fp au (H.next+4) 1 (fun _=>dF (f i))∧fp aU (H.next+4) 1 (fun _=>dF (f i))∧au.next=ax.next+m3∧aU.next=au.next+6 ∧
    ∀kQ:Nat,∃(bS:aO)(bc:I),bb (bh.D env) 28 (fH qw N) (.int .i64 (i:Nat))=some (.ptr (some bS))∧e7 (bh.D env) 3 bS (.int .i64 (eY room (dF (f i)))) (up aU kQ)=some bc∧bc.next=aU.next+kQ∧(∀n,aQ (bh.D env) 3 bS ⟨n,bc.aj⟩=some (.int .i64 (eY room (dF (f i)))))∧bS.id<bc.next ∧
     (∀n,aQ (bh.D env) 3 bu ⟨n,bc.aj⟩=some (.int .i64 (dF (f i)).aE))∧bu.id<bc.next∧∃(fu:aO)(b3:I),bb (bh.D env) 28 (fH cN N) (.int .i64 (i:Nat))=some (.ptr (some fu))∧e7 (bh.D env) 3 fu (.int .i64 (eY room (dF (f i))- (dF (f i)).aE)) (up bc 13)=some b3∧b3.next=bc.next+13 ∧
     ∃H',bf Tryz.prog aq B 142 (aY Tryz.prog 50 0) (rG q ver off N ic ql cA qw cN room (i+1)) (up b3 2) (.exit 0) [(8,.int .i64 room),(9,mL ql N),(10,fH cA N),(11,fH qw N),(12,fH cN N)] H'∧vV H' N ql cA qw cN room f N∧Fr H H' [ql,cA,qw,cN]:=by
   intro ax m3 rE f3 b2;obtain⟨au,oX,iB,f4,cY⟩:=(S.l.aI f3 (by simp)).hq bH (dF (f i)) m3;have Jj:H.next+4 ∉ [ql]:=by simp;omega
   have WS:cA<H.next+4:=by have:=cQ.lt S.m;omega
   have WT:qw<H.next+4:=by have:=cQ.lt S.w;omega
   have g4:Fr H au [ql]:=(f3.sub (M:=[ql]) (by simp)).trans f4 (fun x ab _=>ab);obtain⟨bu,aU,a5,td,nX,mG,f5,cU⟩:=(S.m.aI g4 (by simp;exact d3.1)).f (m:=6) (x:=(dF (f i)).aE) bH;have g5:Fr H aU [ql,cA,qw,cN]:=(g4.sub (M:=[ql,cA,qw,cN]) (by simp)).trans f5 (by simp);refine⟨au,aU,bu,oX,a5,nX,rE.aI f4 Jj,(rE.aI f4 Jj).aI f5 (by simp;omega),cY,cU,fun kQ=> ?_⟩;obtain⟨bS,bc,iO,mY,ki,mH,f6,ls⟩:=((S.w.aI g4 (by simp;exact d4.1)).aI f5 (by simp;exact d4.2.1)).f (m:=kQ) (x:=eY room (dF (f i))) bH;have Jk:cQ bc 3 cA (fH cA N) _:=mG.aI f6 (by simp;exact d3.2.1)
   have mm:∀n,aQ (bh.D env) 3 bu ⟨n,bc.aj⟩=some (.int .i64 (dF (f i)).aE):=by
    obtain⟨a,aT,bw,cy⟩:=Jk.rd.f bH;rw [a5]at aT;obtain rfl:bu=a:=by simpa using aT
    intro n;have:=cy n
    rwa [if_pos rfl]at this
   have mK:bu.id<bc.next:=by
    obtain⟨a,aT,bw,cy⟩:=Jk.rd.f bH;rw [a5]at aT;obtain rfl:bu=a:=by simpa using aT
    exact bw
   have oY:bS.id<bc.next:=by
    obtain⟨a,aT,bw,cy⟩:=mH.rd.f bH;rw [iO]at aT;obtain rfl:bS=a:=by simpa using aT
    exact bw
   have g6:Fr H bc [ql,cA,qw,cN]:=g5.trans f6 (by simp);obtain⟨fu,b3,mN,WU,mZ,y4,f7,mW⟩:=(((S.v.aI g4 (by simp;exact d5.1)).aI f5 (by simp;exact d5.2.1)).aI f6 (by simp;exact d5.2.2)).f (m:=13) (x:=eY room (dF (f i))- (dF (f i)).aE) bH;have g7:Fr H b3 [ql,cA,qw,cN]:=g6.trans f7 (by simp);have i':=Fr.up b3 2 [];rw [vU (g:=fun j=>dF (f j))]at iB;rw [vU (g:=fun j=>(dF (f j)).aE)]at mG;rw [vU (g:=fun j=>eY room (dF (f j)))]at mH;rw [vU (g:=fun j=>eY room (dF (f j))- (dF (f j)).aE)]at y4;have WV:H.next+7+m3+6+kQ+13≤b3.next:=by omega
   have Un:vV (up b3 2) N ql cA qw cN room f (i+1):=⟨(((iB.aI f5 (by simp;exact d2.1)).aI f6 (by simp;exact d2.2.1)).aI f7 (by simp;exact d2.2.2)).aI i' (by simp),((mG.aI f6 (by simp;exact d3.2.1)).aI f7 (by simp;exact d3.2.2)).aI i' (by simp),(mH.aI f7 (by simp;exact d4.2.2)).aI i' (by simp),y4.aI i' (by simp)⟩
   have Jl:Fr H (up b3 2) [ql,cA,qw,cN]:=g7.trans (Fr.up b3 2 []) (by simp);obtain⟨H',dq,Uo,bG⟩:=ih (i+1) (up b3 2) (by omega) (by show B≤b3.next+2;omega) (ej.aI Jl (by simp;exact d1)) Un;exact⟨bS,bc,iO,ki,ls,mY,oY,mm,mK,fu,b3,mN,mZ,mW,H',dq,Uo,Jl.trans bG (fun x ab _=>ab)⟩
  cases ao:tb (f i)with
  |true =>
   have he:dF (f i)=f i:=by unfold dF;rw [if_pos ao]
   rw [he]at go vW qM oV;have jM:=DB (f i) (up af 3);rw [ao]at jM;obtain⟨au,aU,bu,oX,a5,nX,DC,vX,cY,cU,vY⟩:=go af 8 y7 f2 (by omega);have gv:=y7.rd.whole (i:=0) (by decide);have vZ:=DC.rd.fld (i:=0) (by decide);have nY:=vX.rd.fld (i:=0) (by decide);have y8:=vX.rd.whole (i:=0) (by decide);have v7:=S.l.rd.ca bH;by_cases k2:(f i).k=2
   ·have Up:=Jh vW k2 aC;have mU:eY room (f i)=lU (f i).aE (f i).mx ((f i).n*room/(f i).d):=by unfold eY;rw [if_pos k2]
    obtain⟨bS,bc,iO,ki,ls,mY,oY,mm,mK,fu,b3,mN,mZ,mW,H',dq,fA⟩:=vY 17
    have Uq:IntKind.wrap .i64 (Int.tdiv ((f i).n*room) (f i).d)=(f i).n*room/(f i).d:=by rw [Int.tdiv_eq_ediv_of_nonneg Up.1];exact HE (by omega)
    have p':=CM ((f i).n*room/(f i).d) (f i) (up aU 17);rw [←mU]at p'
    obtain⟨e,ah,h',cV,rfl,rfl,rfl⟩:=T' H H1 af H au aU bc b3 B N ic q ver off i (H.next+4) ql cA qw cN room (f i).k (f i).n (f i).d (f i).aE (f i).mx ((f i).n*room/(f i).d) (eY room (f i)) bu bS fu (fun e ah U=>e=.normal∧ah=rG q ver off N ic ql cA qw cN room (i+1)∧U=up b3 2)
     (ae aX ⟨bB (by omega),ae (by omega) ⟨ej.ca bH,ej.whole bH _,bU _,cR rfl rfl b8,ae (by omega) ⟨gv _,⟨jM⟩,ae (by omega) ⟨gv _,v7,cR rfl rfl oX,ae (by omega) ⟨(vZ _).2.2.2.1,a5,cR rfl rfl nX,ae (by omega) ⟨(nY _).1,ae (by omega) ⟨vO k2,ae (by omega) ⟨(nY _).2.1,by omega,⟨by omega,by omega⟩,(nY _).2.2.1,by omega,by rw [←Uq];exact vm (by omega),y8 _,by omega,⟨p'⟩,iO,cR rfl rfl ki,ae (by omega) ⟨iO,mY _,oY,a5,mm _,mK,⟨by omega,by omega⟩,mN,cR rfl rfl mZ,ae (by omega) ⟨⟨by omega,by omega⟩,rfl,by rw [dx],rfl⟩⟩⟩⟩⟩⟩⟩⟩⟩⟩)
    exact⟨H',bf.round cV (bL.refl _ _ _ _) dq,fA⟩
   by_cases bT:(f i).k=3
   ·have mU:eY room (f i)=(f i).aE:=by unfold eY;rw [if_neg k2,if_pos bT]
    obtain⟨bS,bc,iO,ki,ls,mY,oY,mm,mK,fu,b3,mN,mZ,mW,H',dq,fA⟩:=vY 12;rw [mU]at ki mY mZ
    obtain⟨e,ah,h',cV,rfl,rfl,rfl⟩:=Ua H H1 af H au aU bc b3 B N ic q ver off i (H.next+4) ql cA qw cN room (f i).k (f i).n (f i).d (f i).aE (f i).mx 0 0 bu bS fu (fun e ah U=>e=.normal∧ah=rG q ver off N ic ql cA qw cN room (i+1)∧U=up b3 2)
     (ae aX ⟨bB (by omega),ae (by omega) ⟨ej.ca bH,ej.whole bH _,bU _,cR rfl rfl b8,ae (by omega) ⟨gv _,⟨jM⟩,ae (by omega) ⟨gv _,v7,cR rfl rfl oX,ae (by omega) ⟨(vZ _).2.2.2.1,a5,cR rfl rfl nX,ae (by omega) ⟨(nY _).1,ae (by omega) ⟨p5 k2,ae (by omega) ⟨vO bT,ae (by omega) ⟨(nY _).2.2.2.1,iO,cR rfl rfl ki,ae (by omega) ⟨iO,mY _,oY,a5,mm _,mK,⟨by omega,by omega⟩,mN,cR rfl rfl mZ,ae (by omega) ⟨⟨by omega,by omega⟩,rfl,by rw [dx],rfl⟩⟩⟩⟩⟩⟩⟩⟩⟩⟩⟩)
    exact⟨H',bf.round cV (bL.refl _ _ _ _) dq,fA⟩
   ·have mU:eY room (f i)=lU (f i).aE (f i).mx (f i).n:=by unfold eY;rw [if_neg k2,if_neg bT]
    obtain⟨bS,bc,iO,ki,ls,mY,oY,mm,mK,fu,b3,mN,mZ,mW,H',dq,fA⟩:=vY 14;have p':=CM (f i).n (f i) (up aU 14);rw [←mU]at p'
    obtain⟨e,ah,h',cV,rfl,rfl,rfl⟩:=Ub H H1 af H au aU bc b3 B N ic q ver off i (H.next+4) ql cA qw cN room (f i).k (f i).n (f i).d (f i).aE (f i).mx 0 (eY room (f i)) bu bS fu (fun e ah U=>e=.normal∧ah=rG q ver off N ic ql cA qw cN room (i+1)∧U=up b3 2)
     (ae aX ⟨bB (by omega),ae (by omega) ⟨ej.ca bH,ej.whole bH _,bU _,cR rfl rfl b8,ae (by omega) ⟨gv _,⟨jM⟩,ae (by omega) ⟨gv _,v7,cR rfl rfl oX,ae (by omega) ⟨(vZ _).2.2.2.1,a5,cR rfl rfl nX,ae (by omega) ⟨(nY _).1,ae (by omega) ⟨p5 k2,ae (by omega) ⟨p5 bT,ae (by omega) ⟨(nY _).2.1,y8 _,⟨p'⟩,iO,cR rfl rfl ki,ae (by omega) ⟨iO,mY _,oY,a5,mm _,mK,⟨by omega,by omega⟩,mN,cR rfl rfl mZ,ae (by omega) ⟨⟨by omega,by omega⟩,rfl,by rw [dx],rfl⟩⟩⟩⟩⟩⟩⟩⟩⟩⟩⟩)
    exact⟨H',bf.round cV (bL.refl _ _ _ _) dq,fA⟩
  |false =>
   have he:dF (f i)=l1:=by unfold dF;rw [ao];rfl
   rw [he]at go vW qM oV;have jM:=DB (f i) (up af 3);rw [ao]at jM;have gv:=y7.rd.whole (i:=0) (by decide);obtain⟨ax,fF,Ur,f3,b2⟩:=y7.hq (i:=0) (by decide) l1 5
   have Jm:fp ax (H.next+4) 1 (fun _=>l1):=by obtain⟨g1,b,g2,g3,g4,g5,g6⟩:=Ur;exact⟨g1,b,g2,g3,g4,g5,by rw [g6];rfl⟩
   obtain⟨au,aU,bu,oX,a5,nX,DC,vX,cY,cU,vY⟩:=go ax 5 Jm (f2.more f3 (kT (by omega))) (by omega);have Us:=Jm.rd.whole (i:=0) (by decide);have vZ:=DC.rd.fld (i:=0) (by decide);have nY:=vX.rd.fld (i:=0) (by decide);have y8:=vX.rd.whole (i:=0) (by decide);have v7:=S.l.rd.ca bH;have mU:eY room l1=0:=by simp [eY,l1,lU]
   obtain⟨bS,bc,iO,ki,ls,mY,oY,mm,mK,fu,b3,mN,mZ,mW,H',dq,fA⟩:=vY 14;have p':=CM 0 l1 (up aU 14);have rW:lU l1.aE l1.mx 0=0:=by decide
   rw [rW]at p';rw [mU]at ki mY mZ
   obtain⟨e,ah,h',cV,rfl,rfl,rfl⟩:=Uc H H1 af ax au aU bc b3 B N ic q ver off i (H.next+4) ql cA qw cN room (f i).k (f i).n (f i).d (f i).aE (f i).mx 0 0 bu bS fu (fun e ah U=>e=.normal∧ah=rG q ver off N ic ql cA qw cN room (i+1)∧U=up b3 2)
    (ae aX ⟨bB (by omega),ae (by omega) ⟨ej.ca bH,ej.whole bH _,bU _,cR rfl rfl b8,ae (by omega) ⟨gv _,⟨jM⟩,ae (by omega) ⟨cR rfl rfl fF,ae (by omega) ⟨Us _,v7,cR rfl rfl oX,ae (by omega) ⟨(vZ _).2.2.2.1,a5,cR rfl rfl nX,ae (by omega) ⟨(nY _).1,ae (by omega) (ae (by omega) (ae (by omega) ⟨(nY _).2.1,y8 _,⟨p'⟩,iO,cR rfl rfl ki,ae (by omega) ⟨iO,mY _,oY,a5,mm _,mK,⟨by omega,by omega⟩,mN,cR rfl rfl mZ,ae (by omega) ⟨⟨by omega,by omega⟩,rfl,by rw [dx],rfl⟩⟩⟩))⟩⟩⟩⟩⟩⟩⟩)
   exact⟨H',bf.round cV (bL.refl _ _ _ _) dq,fA⟩
theorem Ut{B N qw qs sc:Nat}{so:Option aO}{X:List Int}{y:Nat→Int}(bA:N≤64)(vh:X.length=N)(bi:∀i,i<N→0≤y i∧y i≤2^30)(ab:∀x∈X,0≤x∧x≤2^54)(cg:qs≠qw):∀(g i:Nat)(H:I),i+g=N→B≤H.next→dJ H qs (.slice so N sc) (dh X)→cQ H 3 qw (fH qw N) (ei N (kf (fun j=>y j-X.getD j 0) y i)) →
 ∃H',bf Tryz.prog aq B 142 (aY Tryz.prog 50 1) [(11,fH qw N),(121,.slice so N sc),(122,.int .i64 (N:Nat)),(123,.int .i64 (i:Nat))] H (.exit 3) [(11,fH qw N)] H'∧cQ H' 3 qw (fH qw N) (ei N (kf (fun j=>y j-X.getD j 0) y N))∧Fr H H' [qw]:=by
 have bW:aO:=⟨0,0,0,0,1⟩
 intro g;induction g with
 |zero =>
  intro i H ac aX r w;obtain rfl:i=N:=by omega
  obtain⟨e,ah,h',cV,rfl,rfl,rfl⟩:=Uf H H B i i qw sc so 0 0 bW bW (fun e ah U=>e=.exit 3∧ah=[(11,fH qw i),(121,.slice so i sc),(122,.int .i64 (i:Nat)),(123,.int .i64 (i:Nat))]∧U=up H 1) (ae aX ⟨b7 (by omega),rfl,rfl,rfl⟩);exact⟨_,(bf.last (by simp) cV).post (bL.facts (ed [11] (by kernel_rfl))),w.aI (Fr.up H 1 []) (by simp),Fr.up H 1 _⟩
 |succ g ih =>
  intro i H ac aX r w;have bH:i<N:=by omega
  have s':i<X.length:=by omega
  obtain⟨p,cv,bu,bS⟩:=r.int s';have n9:X.getD i 0=X[i]:=by simp [List.getD_eq_getElem?_getD,s']
  have eI:=ab _ (List.getElem_mem s');have TG:=bi i bH;obtain⟨b,aT,bw,cy⟩:=w.rd.f bH;obtain⟨a,H1,cM,dt,s1,b9,f1,bK⟩:=w.f (m:=14) (x:=y i-X[i]) bH;rw [aT]at cM;obtain rfl:b=a:=by simpa using cM
  have cy:∀n,aQ (bh.D env) 3 b ⟨n,H.aj⟩=some (.int .i64 (y i)):=fun n=>by have:=cy n;rwa [show kf (fun j=>y j-X.getD j 0) y i i=y i from if_neg (by omega)]at this
  rw [←n9,vU (g:=fun j=>y j-X.getD j 0)]at b9;obtain⟨H',dq,aN,bG⟩:=ih (i+1) (up H1 2) (by omega) (by show B≤H1.next+2;omega) ((r.aI f1 (by simpa using cg)).aI (Fr.up H1 2 []) (by simp)) (b9.aI (Fr.up H1 2 []) (by simp))
  obtain⟨e,ah,h',cV,rfl,rfl,rfl⟩:=Ue H H1 B N i qw sc so X[i] (y i) p b (fun e ah U=>e=.normal∧ah=[(11,fH qw N),(121,.slice so N sc),(122,.int .i64 (N:Nat)),(123,.int .i64 ((i+1:Nat):Int))]∧U=up H1 2)
   (ae aX ⟨bB (by omega),ae (by omega) ⟨cv,bS _,ae (by omega) ⟨aT,cy _,⟨by omega,by omega⟩,aT,cR rfl rfl s1,ae (by omega) ⟨⟨by omega,by omega⟩,rfl,by rw [dx],rfl⟩⟩⟩⟩)
  exact⟨H',bf.round cV (bL.refl _ _ _ _) dq,aN,(f1.trans (Fr.up H1 2 [qw]) (fun x ab _=>ab)).trans bG (fun x ab _=>ab)⟩
end Go.Proofs.YtjpfnbihopoeeaaGreatDoor
namespace Go.Proofs.YtjpfnbihopoeeaaGreatDoor
open Go.ba
theorem v8(N:Nat)(y:Nat→Int):ei N y=dh ((List.range N).map y):=by simp [ei,dh,List.map_map,Function.comp_def]
theorem nZ(y:Nat→Int):∀l:List Nat,bs (l.map y)=bC y l
 |[]=>rfl
 |a::r=>by simp only [List.map_cons,bs,bC,nZ y r]
theorem DD(f g:Nat→Int):∀l:List Nat,bC (fun i=>f i-g i) l=bC f l-bC g l
 |[]=>rfl
 |a::r=>by simp only [bC,DD f g r];omega
theorem y9{F:a6}{k nid N:Nat}{H:I}(dT:a1 F (.tmp k)=.int .i64 (N:Nat))(bA:N<2^40):aV env bz nid (a1 F) H (Op.makeSlice 27 (Operand.tmp k) (Operand.tmp k))=some (mL nid N,H.set nid (aJ.made (List.replicate N kX.v) 5 true)):=by
 obtain⟨ez,jJ,gl,d8,fs,cM,a2,aT,bw,cy,fQ,fv,_⟩:=rp;have:aV env bz nid (a1 F) H (Op.makeSlice 27 (Operand.tmp k) (Operand.tmp k))=n4 (bh.D env) 27 (.int .i64 (N:Nat)) (.int .i64 (N:Nat)) nid H:=by rw [←dT];rfl
 rw [this];unfold n4;simp only [cM,a2,aT,fQ];rw [if_pos ⟨by omega,Int.le_refl _,by omega,by rw [cy];omega,by omega,by rw [fv,bw];rfl⟩];simp [ii,bw,kX]
theorem Jn(H:I){q N:Nat}(aw:q<H.next)(g:Nat→cz):fp (H.set q (aJ.made (List.replicate N kX.v) 5 true)) q N (kf g (fun _=>kX) 0):=by refine⟨aw,_,I.eG _ _ _,rfl,rfl,rfl,?_⟩;show List.replicate N kX.v=_;apply List.ext_getElem (by simp [kb]);intro i U ak;simp [kb,kf]
theorem DE(H:I){q N:Nat}(aw:q<H.next)(g:Nat→Int):cQ (H.set q (aJ.made (List.replicate N (.int .i64 0)) 1 true)) 3 q (fH q N) (ei N (kf g (fun _=>0) 0)):=by
 have e:ei N (kf g (fun _=>0) 0)=List.replicate N (.int .i64 0):=by apply List.ext_getElem (by simp [ei]);intro i U ak;simp [ei,kf]
 rw [e];exact .inr ⟨aJ.made (List.replicate N (.int .i64 0)) 1 true,by simp [aJ.made],aw,I.eG _ _ _,rfl,rfl,.inl rfl⟩
theorem y'(a:Int)(H:I):aZ Tryz.prog aq 91 [.int .i64 a] H (.int .i64 (iR a)) H:=aZ.gm ⟨_,_,Qn a ⟨0,.nil⟩,rfl⟩ rfl rfl H
def v'(w:Int)(N:Nat):Int:=max 0 (iR w- ((N:Int)-1))
theorem za{N:Nat}{a b:Nat→Int}(h:∀i,i<N→a i=b i):ei N a=ei N b:=List.map_congr_left fun i ac=>by rw [h i (List.mem_range.1 ac)]
theorem Uu{N:Nat}{a b:Nat→cz}(h:∀i,i<N→a i=b i):kb N a=kb N b:=List.map_congr_left fun i ac=>by rw [h i (List.mem_range.1 ac)]
theorem Uv{H:I}{y6:Option aO}{ic:Nat}(w:Int):aZ Tryz.prog aq 50 [.slice y6 0 ic,.int .i64 w,.int .i64 1] H (.slice none 0 0) (up H 11):=by obtain⟨v,U,D,rfl,rfl⟩:=Ug H ic y6 w 1 (fun v U=>v=.slice none 0 0∧U=up H 11) (ae (Nat.le_refl _) (ae (by omega) (ae (by omega) (ae (by omega) (df (by omega) ⟨rfl,rfl⟩)))));exact D
theorem Uw{N ic q ver off:Nat}{f:Nat→cz}{w:Int}{H:I}(bt:1≤N)(bA:N≤64)(ej:gM H q ver off N (fa q ver off N ic) f)(aw:q<H.next) :
 ∃(Z:List Int)(H':I)(qo:Nat)(v:J),aZ Tryz.prog aq 50 [fa q ver off N ic,.int .i64 w,.int .i64 1] H v H'∧dJ H' qo v (dh Z)∧Z.length=N∧(∀z∈Z,0≤z)∧bs Z≤v' w N∧Fr H H' []:=by
 obtain⟨room,nj⟩:∃r,r=v' w N:=⟨_,rfl⟩
 have Ux:=HJ w;have aC:0≤room∧room≤4096:=by rw [nj];unfold v';omega
 rw [←nj];have bo:iR 1=1:=by decide
 have DF:dk env .max #[3,3] [.int .i64 0,.int .i64 (iR w-1* ((N:Int)-1))] (H.next+18) (up H 20)=some (.int .i64 room,up H 20):=by
  have:room=if iR w-1* ((N:Int)-1)>0 then iR w-1* ((N:Int)-1)else 0:=by rw [nj,vK];unfold v';congr 1;omega
  rw [this];rfl
 let H1:I:=(up H 23).set (H.next+21) (aJ.made (List.replicate N kX.v) 5 true)
 let af:I:=(up H1 9).set (H1.next+1) (aJ.made (List.replicate N (.int .i64 0)) 1 true)
 let ax:I:=af.set (H1.next+3) (aJ.made (List.replicate N (.int .i64 0)) 1 true)
 let au:I:=ax.set (H1.next+5) (aJ.made (List.replicate N (.int .i64 0)) 1 true)
 have bK:H1.next=H.next+23:=rfl
 have cY:au.next=H1.next+9:=rfl
 have h6:Fr H H1 []:=(Fr.up H 23 []).more (Fr.set (L:=[H.next+21]) (up H 23) _ _ (by simp)) (kT (by omega));have f12:Fr H1 af [H1.next+1]:=(Fr.up H1 9 _).trans (Fr.set (L:=[H1.next+1]) (up H1 9) _ _ (by simp)) (fun x ab _=>ab);have f23:Fr af ax [H1.next+3]:=Fr.set (L:=[H1.next+3]) af _ _ (by simp);have f34:Fr ax au [H1.next+5]:=Fr.set (L:=[H1.next+5]) ax _ _ (by simp);have wa:=Fr.up au 3 [];have vl:Fr H (up au 3) []:=(((h6.more f12 (kT (by omega))).more f23 (kT (by omega))).more f34 (kT (by omega))).trans wa (by simp)
 have Uy:vV (up au 3) N (H.next+21) (H1.next+1) (H1.next+3) (H1.next+5) room f 0:=by refine⟨(((((Jn (up H 23) (by show H.next+21<H.next+23;omega) _).aI f12 (by simp;omega)).aI f23 (by simp;omega)).aI f34 (by simp;omega)).aI wa (by simp)),((((DE (up H1 9) (by show H1.next+1<H1.next+9;omega) _).aI f23 (by simp)).aI f34 (by simp)).aI wa (by simp)),(((DE af (by show H1.next+3<H1.next+9;omega) _).aI f34 (by simp)).aI wa (by simp)),((DE ax (by show H1.next+5<H1.next+9;omega) _).aI wa (by simp))⟩
 obtain⟨aU,vS,zb,f45⟩:=Um (B:=H.next) (ic:=ic) bA aC (q:=q) (by simp;omega) (by simp;omega) (by simp;omega) (by simp;omega) (by simp;omega) N 0 (up au 3) (by omega) (by show H.next≤au.next+3;omega) (ej.aI vl (by simp)) Uy;have cU:=f45.next
 have cU:au.next+3≤aU.next:=cU
 have DG:Fr H aU []:=vl.more f45 (by intro x ab;simp at ab;omega);obtain⟨M,jj⟩:∃M:List Int,M=(List.range N).map fun j=>(dF (f j)).aE:=⟨_,rfl⟩
 obtain⟨O,wb⟩:∃O:List Int,O=(List.range N).map fun j=>eY room (dF (f j))- (dF (f j)).aE:=⟨_,rfl⟩
 obtain⟨lz,jt⟩:∃W:List Int,W=(List.range N).map fun j=>eY room (dF (f j)):=⟨_,rfl⟩
 have Jo:M.length=N:=by rw [jj];simp
 have DH:O.length=N:=by rw [wb];simp
 have Uz:lz.length=N:=by rw [jt];simp
 have Jp:cQ aU 3 (H1.next+1) (fH (H1.next+1) N) (dh M):=by have:=zb.m;rw [za (b:=fun j=>(dF (f j)).aE) fun i ac=>if_pos ac,v8,←jj]at this;exact this
 have DI:cQ aU 3 (H1.next+3) (fH (H1.next+3) N) (ei N fun j=>eY room (dF (f j))):=by have:=zb.w;rw [za (b:=fun j=>eY room (dF (f j))) fun i ac=>if_pos ac]at this;exact this
 have UA:cQ aU 3 (H1.next+3) (fH (H1.next+3) N) (dh lz):=by rw [jt,←v8];exact DI
 have UB:cQ aU 3 (H1.next+5) (fH (H1.next+5) N) (dh O):=by have:=zb.v;rw [za (b:=fun j=>eY room (dF (f j))- (dF (f j)).aE) fun i ac=>if_pos ac,v8,←wb]at this;exact this
 have UC:fp aU (H.next+21) N (fun j=>dF (f j)):=by obtain⟨g1,b,g2,g3,g4,g5,g6⟩:=zb.l;exact⟨g1,b,g2,g3,g4,g5,by rw [g6];exact Uu fun i ac=>if_pos ac⟩
 have DJ:∀x∈M,0≤x∧x≤2^23:=fun x ab=>by rw [jj]at ab;obtain⟨j,_,rfl⟩:=List.mem_map.1 ab;have:=(kh (f j)).aE;omega
 have we:∀x∈lz,0≤x∧x≤2^23:=fun x ab=>by rw [jt]at ab;obtain⟨j,_,rfl⟩:=List.mem_map.1 ab;have:=(kh (f j)).aE;have:=tc (kh (f j)) aC;omega
 have UD:∀x∈O,0≤x∧x≤2^23:=fun x ab=>by rw [wb]at ab;obtain⟨j,_,rfl⟩:=List.mem_map.1 ab;have:=(kh (f j)).aE;have:=tc (kh (f j)) aC;omega
 have WW:bs O=bs lz-bs M:=by rw [wb,jt,jj,nZ,nZ,nZ];exact DD _ _ _
 have UE:=vo (l:=M) (m:=2^23) (by decide) (by omega) (fun x ab=>by have:=DJ x ab;omega);have UF:=vo (l:=lz) (m:=2^23) (by decide) (by omega) (fun x ab=>by have:=we x ab;omega);have UG:=(vi (m:=2^23) M fun x ab=>by have:=DJ x ab;omega).2;have UH:=(vi (m:=2^23) lz fun x ab=>by have:=we x ab;omega).2;have WX:0≤bs M:=by rw [jj,nZ];exact mI fun j _=>(kh (f j)).aE.1
 have WY:0≤bs lz:=by rw [jt,nZ];exact mI fun j _=>by have:=(kh (f j)).aE;have:=tc (kh (f j)) aC;omega
 rw [Jo]at UG;rw [Uz]at UH;obtain⟨gA,cL,kR⟩:=vj (H:=up aU 4) (by omega) UE (Jp.rd.aI (Fr.up aU 4 []) (by simp));have cL:aU.next+4<gA:=cL
 have f56:Fr aU ⟨gA,aU.aj⟩ []:=Fr.aj (by omega);have gg:aZ Tryz.prog aq 91 [.int .i64 1] (up H 20) (.int .i64 1) (up H 20):=by have:=y' 1 (up H 20);rwa [bo]at this
 have DK:sy [J.int .i64 w] [J.int .i64 1] (up H 20) (up H 20) (.int .i64 (iR w)) (.int .i64 1) (up H 20) (up H 20):=⟨fun q _=>by
  simp only [List.cons.injEq,J.int.injEq,true_and,and_true]at q;rw [q,bo]
  exact⟨rfl,rfl⟩⟩
 by_cases DL:bs M>room
 ·have Jq:=Fr.aj (H:=aU) (n:=gA+4) (by omega);obtain⟨Z,b3,qo,Jr,mV,wg,m5,te,DM,_,f67,mW,_,_⟩:=HQ (H:=⟨gA+4,aU.aj⟩) (t:=room) (Jp.rd.aI Jq (by simp)) (by show H1.next+1<gA+4;omega) (by omega) ⟨aC.1,by omega⟩ DJ (by omega);have mW:gA+4<b3.next:=mW
  obtain⟨v,U,D,rfl,rfl⟩:=Uh H H1 af ax au aU ⟨gA,aU.aj⟩ b3 H H N ic q ver off (H.next+21) (H1.next+1) (H1.next+3) (H1.next+5) 0 none w 1 (iR w) 1 room (bs M) 0 Jr (fun v U=>v=Jr∧U=b3)
   (ae (Nat.le_refl _) (ae (by omega) (ae (by omega) ⟨p5 (by omega),b7 (by omega),ae (by omega) ⟨⟨y' w _⟩,⟨gg⟩,⟨by omega,by omega⟩,⟨by omega,by omega⟩,⟨by omega,by omega⟩,DF,DK,ae (by omega) ⟨y9 rfl (by omega),ae (by omega) ⟨kP rfl (by omega),kP rfl (by omega),kP rfl (by omega),ae (by omega) ⟨aR.cx vS,ae (by omega) ⟨⟨kR⟩,bB DL,ae (by show H.next≤gA;omega) ⟨⟨mV⟩,df (by omega) ⟨rfl,rfl⟩⟩⟩⟩⟩⟩⟩⟩)))
  exact⟨Z,_,qo,_,D,wg.rd,by rw [m5,Jo],fun z cl=>(DM z cl).1,by omega,(DG.trans Jq (by simp)).trans f67 (by simp)⟩
 ·obtain⟨hR,eT,mV⟩:=vj (H:=⟨gA+5,aU.aj⟩) (by omega) UF (UA.rd.aI (Fr.aj (H:=aU) (n:=gA+5) (by omega)) (by simp));have eT:gA+5<hR:=eT;by_cases Js:bs lz-room>0
  ·have rH:=Fr.aj (H:=aU) (n:=hR+7) (by omega);obtain⟨Z,db,qo,WZ,zc,wg,m5,te,DM,DN,f78,p8,Jt,_⟩:=HQ (H:=⟨hR+7,aU.aj⟩) (t:=bs lz-room) (UB.rd.aI rH (by simp)) (by show H1.next+5<hR+7;omega) (by omega) ⟨by omega,by omega⟩ UD (by omega);have p8:hR+7<db.next:=p8
   have Jt:hR+7≤qo:=Jt;obtain⟨so,sc,rfl⟩:=wg.rd.eS;rw [List.length_map,m5,DH]at wg zc;have DN:=DN (by omega)
   have UI:∀i,i<N→0≤eY room (dF (f i))∧eY room (dF (f i))≤2^30:=fun i _=>by have:=(kh (f i)).aE;have:=tc (kh (f i)) aC;omega
   obtain⟨kW,UJ,Ju,f89⟩:=Ut (B:=H.next) (N:=N) (qs:=qo) (so:=so) (sc:=sc) bA (by rw [m5,DH]) UI DM (qw:=H1.next+3) (by omega) N 0 db (by omega) (by omega) wg.rd ((DI.aI rH (by simp)).aI f78 (by simp));have w6:=f89.next
   obtain⟨v,U,D,rfl,rfl⟩:=Ui H H1 af ax au aU ⟨gA,aU.aj⟩ ⟨hR,aU.aj⟩ db kW N ic q ver off (H.next+21) (H1.next+1) (H1.next+3) (H1.next+5) sc so w 1 (iR w) 1 room (bs M) (bs lz) .undef (fun v U=>v=fH (H1.next+3) N∧U=up kW 2)
    (ae (Nat.le_refl _) (ae (by omega) (ae (by omega) ⟨p5 (by omega),b7 (by omega),ae (by omega) ⟨⟨y' w _⟩,⟨gg⟩,⟨by omega,by omega⟩,⟨by omega,by omega⟩,⟨by omega,by omega⟩,DF,DK,ae (by omega) ⟨y9 rfl (by omega),ae (by omega) ⟨kP rfl (by omega),kP rfl (by omega),kP rfl (by omega),ae (by omega) ⟨aR.cx vS,ae (by omega) ⟨⟨kR⟩,b7 DL,ae (by show H.next≤gA;omega) ⟨⟨mV⟩,⟨by omega,by omega⟩,ae (by show H.next≤hR;omega) ⟨bB Js,ae (by show H.next≤hR+2;omega) ⟨⟨zc⟩,aR.cx UJ,ae (by omega) (df (by show H.next≤kW.next+2;omega) ⟨rfl,rfl⟩)⟩⟩⟩⟩⟩⟩⟩⟩⟩)))
   rw [za (b:=fun j=>eY room (dF (f j))-Z.getD j 0) fun i ac=>if_pos ac,v8]at Ju;refine⟨(List.range N).map fun j=>eY room (dF (f j))-Z.getD j 0,_,H1.next+3,_,D,Ju.rd.aI (Fr.up kW 2 []) (by simp),by simp,fun z cl=> ?_,?_,(((DG.trans rH (by simp)).trans f78 (by simp)).more f89 (kT (by omega))).trans (Fr.up kW 2 []) (by simp)⟩
   ·obtain⟨j,ay,rfl⟩:=List.mem_map.1 cl;have ay:=List.mem_range.1 ay;have:=DN j (by omega);have UK:O[j]'(by omega)=eY room (dF (f j))- (dF (f j)).aE:=by simp [wb]
    rw [UK]at this;have:=(kh (f j)).aE;omega
   ·rw [nZ,DD];have bo:bC (fun j=>Z.getD j 0) (List.range N)=bs Z:=by rw [←yI,m5,DH]
    have bO:bC (fun j=>eY room (dF (f j))) (List.range N)=bs lz:=by rw [jt,nZ]
    rw [bo,bO];omega
  ·have rH:=Fr.aj (H:=aU) (n:=hR+6) (by omega);have bO:bC (fun j=>eY room (dF (f j))) (List.range N)=bs lz:=by rw [jt,nZ]
   obtain⟨z,db,zc,y5,z0,zs,f78⟩:=T4 (ic:=N) (room:=room) (H:=⟨hR+6,aU.aj⟩) (q:=H.next+21) (ver:=0) (off:=0) (f:=fun j=>dF (f j)) (qs:=H1.next+3) (sv:=fH (H1.next+3) N) (y:=fun j=>eY room (dF (f j))) bA (fun i _=>kh (f i)) (fun i _=>by have:=(kh (f i)).aE;have:=tc (kh (f i)) aC;omega)
    (fun i _ az=>by show eY room (dF (f i))=(dF (f i)).aE;unfold eY;rw [if_neg (by omega),if_pos az]) aC (by rw [bO];omega) (UC.aI rH (by simp)).rd (by show H.next+21<hR+6;omega) (DI.aI rH (by simp)) (by show H1.next+3<hR+6;omega) (by omega)
   have p8:=f78.next
   have p8:hR+6≤db.next:=p8
   obtain⟨v,U,D,rfl,rfl⟩:=Uj H H1 af ax au aU ⟨gA,aU.aj⟩ ⟨hR,aU.aj⟩ db H N ic q ver off (H.next+21) (H1.next+1) (H1.next+3) (H1.next+5) 0 none w 1 (iR w) 1 room (bs M) (bs lz) .undef (fun v U=>v=fH (H1.next+3) N∧U=up db 2)
    (ae (Nat.le_refl _) (ae (by omega) (ae (by omega) ⟨p5 (by omega),b7 (by omega),ae (by omega) ⟨⟨y' w _⟩,⟨gg⟩,⟨by omega,by omega⟩,⟨by omega,by omega⟩,⟨by omega,by omega⟩,DF,DK,ae (by omega) ⟨y9 rfl (by omega),ae (by omega) ⟨kP rfl (by omega),kP rfl (by omega),kP rfl (by omega),ae (by omega) ⟨aR.cx vS,ae (by omega) ⟨⟨kR⟩,b7 DL,ae (by show H.next≤gA;omega) ⟨⟨mV⟩,⟨by omega,by omega⟩,ae (by show H.next≤hR;omega) ⟨b7 Js,ae (by show H.next≤hR+2;omega) ⟨⟨zc⟩,ae (by omega) (df (by show H.next≤db.next+2;omega) ⟨rfl,rfl⟩)⟩⟩⟩⟩⟩⟩⟩⟩⟩)))
   rw [v8]at y5;refine⟨(List.range N).map z,_,H1.next+3,_,D,y5.rd.aI (Fr.up db 2 []) (by simp),by simp,fun x ab=> ?_,by rw [nZ];exact zs,((DG.trans rH (by simp)).more f78 (kT (by omega))).trans (Fr.up db 2 []) (by simp)⟩;obtain⟨j,ay,rfl⟩:=List.mem_map.1 ab;exact z0 j (List.mem_range.1 ay)
end Go.Proofs.YtjpfnbihopoeeaaGreatDoor
namespace Go.Proofs.YtjpfnbihopoeeaaGreatDoor
open Go.ba
def iX(H:I)(Q ver es:Nat)(so:Option aO)(n c:Nat)(P:J→Prop):Prop:=n=0∨(so=some ⟨Q,ver,0,0,es⟩∧iD H Q ver n c P)
theorem iX.aI{H H':I}{Q ver es n c:Nat}{so:Option aO}{P:J→Prop}{L:List Nat}(h:iX H Q ver es so n c P)(m:Fr H H' L)(aw:Q ∉ L):iX H' Q ver es so n c P:=h.imp_right fun⟨e,w⟩=>⟨e,w.aI m aw⟩
abbrev zd(so:Option aO)(n c i:Nat)(g:FuncId):a6:=[(0,.slice so n c),(1,nU g),(7,.int .i64 (n:Nat)),(8,.int .i64 (i:Nat))]
theorem UL{B Q ver n c:Nat}{so:Option aO}{g:FuncId}(an:nT g jq)(be:n<2^40):∀(f i:Nat)(H:I),i+f=n→B≤H.next→iX H Q ver 1 so n c jq →
 (∃j H',j<n∧bf Tryz.prog aq B 19 (aY Tryz.prog 180 0) (zd so n c i g) H .ret [(4,.int .i64 (j:Nat))] H'∧Fr H H' []) ∨
 (∃H',bf Tryz.prog aq B 19 (aY Tryz.prog 180 0) (zd so n c i g) H (.exit 0) [] H'∧Fr H H' []):=by
 have bW:aO:=⟨0,0,0,0,1⟩
 intro f;induction f with
 |zero =>
  intro i H ac aX w;obtain⟨e,ah,U,aC,rfl,rfl,rfl⟩:=S4 H H B n c i so g .undef bW (fun e ah U=>e=.exit 0∧ah=zd so n c i g∧U=up H 1) (ae aX ⟨b7 (by omega),rfl,rfl,rfl⟩);exact .inr ⟨_,(bf.last (by simp) aC).post (bL.facts (ed [] (by kernel_rfl))),Fr.up H 1 []⟩
 |succ f ih =>
  intro i H ac aX w;rcases w with w0|⟨rfl,w⟩
  ·omega
  obtain⟨x,ku,cM,a2⟩:=w.at p2 (i:=i) (by omega);obtain⟨b,H1,D,f1⟩:=an.y0 x ku (up H 9);have bK:=f1.next
  have bK:H.next+9≤H1.next:=bK
  have f2:Fr H (up H1 2) []:=((Fr.up H 9 []).trans f1 (by simp)).trans (Fr.up H1 2 []) (by simp);cases b with
  |true =>
   obtain⟨e,ah,U,aC,rfl,rfl,rfl⟩:=S2 H H1 B n c i _ g x _ (fun e ah U=>e=.ret∧ah=[(4,.int .i64 (i:Nat))]∧U=up H1 2) (ae aX ⟨bB (by omega),ae (by omega) (ae (by omega) ⟨cM,a2 _,⟨D⟩,ae (by omega) ⟨rfl,rfl,rfl⟩⟩)⟩);exact .inl ⟨i,_,by omega,bf.last (by simp) aC,f2⟩
  |false =>
   obtain⟨e,ah,U,aC,rfl,rfl,rfl⟩:=S3 H H1 B n c i _ g x _ (fun e ah U=>e=.normal∧ah=zd _ n c (i+1) g∧U=up H1 2) (ae aX ⟨bB (by omega),ae (by omega) (ae (by omega) ⟨cM,a2 _,⟨D⟩,ae (by omega) ⟨⟨by omega,by omega⟩,rfl,by rw [dx],rfl⟩⟩)⟩);rcases ih (i+1) (up H1 2) (by omega) (by show B≤H1.next+2;omega) (.inr ⟨rfl,w.aI f2 (by simp)⟩)with ⟨j,H',rI,L,f3⟩|⟨H',L,f3⟩
   ·exact .inl ⟨j,H',rI,bf.round aC (bL.refl _ _ _ _) L,f2.trans f3 (by simp)⟩
   ·exact .inr ⟨H',bf.round aC (bL.refl _ _ _ _) L,f2.trans f3 (by simp)⟩
theorem UM{Q ver n c:Nat}{so:Option aO}{g:FuncId}{H:I}(an:nT g jq)(be:n<2^40)(w:iX H Q ver 1 so n c jq) :
 ∃H',Fr H H' []∧((∃j,j<n∧aZ Tryz.prog aq 180 [.slice so n c,nU g] H (.int .i64 (j:Nat)) H')∨aZ Tryz.prog aq 180 [.slice so n c,nU g] H (.int .i64 (-1)) H'):=by
 rcases UL (B:=H.next) an be n 0 (up H 4) (by omega) (by show H.next≤H.next+4;omega) (w.aI (Fr.up H 4 []) (by simp))with ⟨j,H',rI,L,f3⟩|⟨H',L,f3⟩
 ·have bK:=f3.next
  have bK:H.next+4≤H'.next:=bK
  obtain⟨v,U,D,rfl,rfl⟩:=S5 H H' n c j so g (fun v U=>v=.int .i64 (j:Nat)∧U=H') (ae (Nat.le_refl _) (ae (by omega) ⟨aR.cx L,df (by omega) ⟨rfl,rfl⟩⟩));exact⟨_,(Fr.up H 4 []).trans f3 (by simp),.inl ⟨j,rI,D⟩⟩
 ·have bK:=f3.next
  have bK:H.next+4≤H'.next:=bK
  obtain⟨v,U,D,rfl,rfl⟩:=S6 H H' n c 0 so g (fun v U=>v=.int .i64 (-1)∧U=up H' 1) (ae (Nat.le_refl _) (ae (by omega) ⟨aR.cx L,ae (by omega) (df (by omega) ⟨rfl,rfl⟩)⟩));exact⟨_,((Fr.up H 4 []).trans f3 (by simp)).trans (Fr.up H' 1 []) (by simp),.inr D⟩
abbrev wh(Q ver n c i j:Nat)(g:FuncId):a6:=[(0,mS Q ver 1 n c),(1,nU g),(5,.int .i64 (i:Nat)),(6,.int .i64 (j:Nat))]
theorem UN{B Q ver n c:Nat}{g:FuncId}(an:nT g jq)(be:n<2^40):∀(f i j:Nat)(H:I),j+f=n→i<j→B≤H.next→iD H Q ver n c jq →
 ∃i2 H',i2≤n∧bf Tryz.prog aq B 42 (aY Tryz.prog 138 0) (wh Q ver n c i j g) H (.exit 0) [(0,mS Q ver 1 n c),(5,.int .i64 (i2:Nat))] H'∧iD H' Q ver n c jq∧Fr H H' [Q]:=by
 have bW:aO:=⟨0,0,0,0,1⟩
 intro f;induction f with
 |zero =>
  intro i j H ay eO aX w;obtain⟨e,ah,U,aC,rfl,rfl,rfl⟩:=S9 H H H B n c i j (some ⟨Q,ver,0,0,1⟩) g .undef bW bW (fun e ah U=>e=.exit 0∧ah=wh Q ver n c i j g∧U=up H 4) (ae aX ⟨b7 (by omega),rfl,rfl,rfl⟩);exact⟨i,_,by omega,(bf.last (by simp) aC).post (bL.facts (ed [0,5] (by kernel_rfl))),w.aI (Fr.up H 4 []) (by simp),Fr.up H 4 _⟩
 |succ f ih =>
  intro i j H ay eO aX w;obtain⟨x,ku,cM,a2⟩:=w.at p2 (i:=j) (by omega);obtain⟨b,H1,D,f1⟩:=an.y0 x ku (up H 13);have bK:=f1.next
  have bK:H.next+13≤H1.next:=bK
  have m6:Fr H H1 []:=(Fr.up H 13 []).trans f1 (by simp);have b9:=w.aI m6 (by simp);cases b with
  |true =>
   have f2:Fr H (up H1 3) [Q]:=(m6.trans (Fr.up H1 3 []) (by simp)).sub (by simp);obtain⟨i2,H',i1,L,aN,bG⟩:=ih i (j+1) (up H1 3) (by omega) (by omega) (by show B≤H1.next+3;omega) (b9.aI (Fr.up H1 3 []) (by simp));obtain⟨e,ah,U,aC,rfl,rfl,rfl⟩:=S7 H H1 H1 B n c i j _ g x _ bW (fun e ah U=>e=.normal∧ah=wh Q ver n c i (j+1) g∧U=up H1 3) (ae aX ⟨bB (by omega),ae (by omega) ⟨cM,a2 _,ae (by omega) ⟨⟨D⟩,ae (by omega) ⟨⟨by omega,by omega⟩,rfl,by rw [dx],rfl⟩⟩⟩⟩);exact⟨i2,H',i1,bf.round aC (bL.refl _ _ _ _) L,aN,f2.trans bG (fun x ab _=>ab)⟩
  |false =>
   obtain⟨af,s1,cJ,f2,n2⟩:=b9.hq p2 (i:=i) (by omega) ku 5;obtain⟨_,_,aT,_⟩:=b9.at p2 (i:=i) (by omega);have f3:Fr H (up af 6) [Q]:=((m6.sub (M:=[Q]) (by simp)).trans f2 (fun x ab _=>ab)).trans (Fr.up af 6 [Q]) (fun x ab _=>ab);obtain⟨i2,H',i1,L,aN,bG⟩:=ih (i+1) (j+1) (up af 6) (by omega) (by omega) (by show B≤af.next+6;omega) (cJ.aI (Fr.up af 6 []) (by simp));obtain⟨e,ah,U,aC,rfl,rfl,rfl⟩:=S8 H H1 af B n c i j _ g x _ _ (fun e ah U=>e=.normal∧ah=wh Q ver n c (i+1) (j+1) g∧U=up af 6) (ae aX ⟨bB (by omega),ae (by omega) ⟨cM,a2 _,ae (by omega) ⟨⟨D⟩,ae (by omega) ⟨aT,cR rfl rfl s1,ae (by omega) ⟨⟨by omega,by omega⟩,ae (by omega) ⟨⟨by omega,by omega⟩,rfl,by rw [dx,dx],rfl⟩⟩⟩⟩⟩⟩);exact⟨i2,H',i1,bf.round aC (bL.refl _ _ _ _) L,aN,f3.trans bG (fun x ab _=>ab)⟩
theorem UO{Q ver n c:Nat}{so:Option aO}{g:FuncId}{H:I}(an:nT g jq)(be:n<2^40)(w:iX H Q ver 1 so n c jq) :
 ∃oZ n2 b8 H',n2≤n∧aZ Tryz.prog aq 138 [.slice so n c,nU g] H (.slice oZ n2 b8) H'∧iX H' Q ver 1 oZ n2 b8 jq∧Fr H H' [Q]:=by
 obtain⟨H1,f1,gg⟩:=UM an be (w.aI (Fr.up H 5 []) (by simp));have bK:=f1.next
 have bK:H.next+5≤H1.next:=bK
 have m6:Fr H H1 []:=(Fr.up H 5 []).trans f1 (by simp);rcases gg with ⟨j,ay,gg⟩|gg
 ·rcases w with w0|⟨rfl,w⟩
  ·omega
  have b9:=w.aI m6 (by simp);obtain⟨i2,af,i1,L,cJ,f2⟩:=UN (B:=H.next) an be (n- (j+1)) j (j+1) (up H1 5) (by omega) (by omega) (by show H.next≤H1.next+5;omega) (b9.aI (Fr.up H1 5 []) (by simp));have n2:=f2.next
  have n2:H1.next+5≤af.next:=n2
  obtain⟨s2,ax,s1,fF,fb,f3,b2⟩:=(cJ.aI (Fr.up af 4 []) (by simp)).clear p2 i1 (af.next+3);have b2:ax.next=af.next+4:=b2
  obtain⟨lr,jF⟩:=fb.kf p2 i1;have bo:((j+1:Nat):Int)=(j:Int)+1:=by omega
  unfold wh at L;rw [bo]at L
  obtain⟨v,U,D,rfl,rfl⟩:=Ta H H1 af ax n c j i2 _ g s2 _ (fun v U=>v=mS Q ver 1 i2 c∧U=up ax 4)
   (ae (Nat.le_refl _) (ae (by omega) ⟨⟨gg⟩,ae (by omega) ⟨rfl,ae (by omega) ⟨⟨by omega,by omega⟩,aR.cx L,ae (by omega) ⟨s1,fF _ rfl,ae (by omega) ⟨lr,df (by omega) ⟨rfl,rfl⟩⟩⟩⟩⟩⟩))
  refine⟨_,_,_,_,i1,D,.inr ⟨rfl,jF.aI (Fr.up ax 4 []) (by simp)⟩,?_⟩;have g1:Fr H (up H1 5) [Q]:=(m6.trans (Fr.up H1 5 []) (by simp)).sub (by simp);exact(((g1.trans f2 (fun x ab _=>ab)).trans (Fr.up af 4 [Q]) (fun x ab _=>ab)).trans f3 (fun x ab _=>ab)).trans (Fr.up ax 4 [Q]) (fun x ab _=>ab)
 ·obtain⟨v,U,D,rfl,rfl⟩:=S' H H1 H1 H1 n c 0 0 so g .undef .undef (fun v U=>v=.slice so n c∧U=up H1 4)
   (ae (Nat.le_refl _) (ae (by omega) ⟨⟨gg⟩,ae (by omega) ⟨rfl,ae (by omega) (df (by omega) ⟨rfl,rfl⟩)⟩⟩))
  have f2:Fr H (up H1 4) []:=m6.trans (Fr.up H1 4 []) (by simp);exact⟨_,_,_,_,Nat.le_refl _,D,w.aI f2 (by simp),f2.sub (by simp)⟩
abbrev ze(so:Option aO)(n c i:Nat)(g:FuncId):a6:=[(0,.slice so n c),(1,nU g),(7,.int .i64 (n:Nat)),(8,.int .i64 (i:Nat))]
theorem UP{B Q ver n c:Nat}{so:Option aO}{g:FuncId}(an:nT g kg)(be:n<2^40):∀(f i:Nat)(H:I),i+f=n→B≤H.next→iX H Q ver 2 so n c kg →
 (∃j H',j<n∧bf Tryz.prog aq B 19 (aY Tryz.prog 183 0) (ze so n c i g) H .ret [(4,.int .i64 (j:Nat))] H'∧Fr H H' []) ∨
 (∃H',bf Tryz.prog aq B 19 (aY Tryz.prog 183 0) (ze so n c i g) H (.exit 0) [] H'∧Fr H H' []):=by
 have bW:aO:=⟨0,0,0,0,1⟩
 intro f;induction f with
 |zero =>
  intro i H ac aX w;obtain⟨e,ah,U,aC,rfl,rfl,rfl⟩:=Td H H B n c i so g .undef bW (fun e ah U=>e=.exit 0∧ah=ze so n c i g∧U=up H 1) (ae aX ⟨b7 (by omega),rfl,rfl,rfl⟩);exact .inr ⟨_,(bf.last (by simp) aC).post (bL.facts (ed [] (by kernel_rfl))),Fr.up H 1 []⟩
 |succ f ih =>
  intro i H ac aX w;rcases w with w0|⟨rfl,w⟩
  ·omega
  obtain⟨x,ku,cM,a2⟩:=w.at rC (i:=i) (by omega);obtain⟨b,H1,D,f1⟩:=an.y0 x ku (up H 9);have bK:=f1.next
  have bK:H.next+9≤H1.next:=bK
  have f2:Fr H (up H1 2) []:=((Fr.up H 9 []).trans f1 (by simp)).trans (Fr.up H1 2 []) (by simp);cases b with
  |true =>
   obtain⟨e,ah,U,aC,rfl,rfl,rfl⟩:=Tb H H1 B n c i _ g x _ (fun e ah U=>e=.ret∧ah=[(4,.int .i64 (i:Nat))]∧U=up H1 2) (ae aX ⟨bB (by omega),ae (by omega) (ae (by omega) ⟨cM,a2 _,⟨D⟩,ae (by omega) ⟨rfl,rfl,rfl⟩⟩)⟩);exact .inl ⟨i,_,by omega,bf.last (by simp) aC,f2⟩
  |false =>
   obtain⟨e,ah,U,aC,rfl,rfl,rfl⟩:=Tc H H1 B n c i _ g x _ (fun e ah U=>e=.normal∧ah=ze _ n c (i+1) g∧U=up H1 2) (ae aX ⟨bB (by omega),ae (by omega) (ae (by omega) ⟨cM,a2 _,⟨D⟩,ae (by omega) ⟨⟨by omega,by omega⟩,rfl,by rw [dx],rfl⟩⟩)⟩);rcases ih (i+1) (up H1 2) (by omega) (by show B≤H1.next+2;omega) (.inr ⟨rfl,w.aI f2 (by simp)⟩)with ⟨j,H',rI,L,f3⟩|⟨H',L,f3⟩
   ·exact .inl ⟨j,H',rI,bf.round aC (bL.refl _ _ _ _) L,f2.trans f3 (by simp)⟩
   ·exact .inr ⟨H',bf.round aC (bL.refl _ _ _ _) L,f2.trans f3 (by simp)⟩
theorem UQ{Q ver n c:Nat}{so:Option aO}{g:FuncId}{H:I}(an:nT g kg)(be:n<2^40)(w:iX H Q ver 2 so n c kg) :
 ∃H',Fr H H' []∧((∃j,j<n∧aZ Tryz.prog aq 183 [.slice so n c,nU g] H (.int .i64 (j:Nat)) H')∨aZ Tryz.prog aq 183 [.slice so n c,nU g] H (.int .i64 (-1)) H'):=by
 rcases UP (B:=H.next) an be n 0 (up H 4) (by omega) (by show H.next≤H.next+4;omega) (w.aI (Fr.up H 4 []) (by simp))with ⟨j,H',rI,L,f3⟩|⟨H',L,f3⟩
 ·have bK:=f3.next
  have bK:H.next+4≤H'.next:=bK
  obtain⟨v,U,D,rfl,rfl⟩:=Te H H' n c j so g (fun v U=>v=.int .i64 (j:Nat)∧U=H') (ae (Nat.le_refl _) (ae (by omega) ⟨aR.cx L,df (by omega) ⟨rfl,rfl⟩⟩));exact⟨_,(Fr.up H 4 []).trans f3 (by simp),.inl ⟨j,rI,D⟩⟩
 ·have bK:=f3.next
  have bK:H.next+4≤H'.next:=bK
  obtain⟨v,U,D,rfl,rfl⟩:=Tf H H' n c 0 so g (fun v U=>v=.int .i64 (-1)∧U=up H' 1) (ae (Nat.le_refl _) (ae (by omega) ⟨aR.cx L,ae (by omega) (df (by omega) ⟨rfl,rfl⟩)⟩));exact⟨_,((Fr.up H 4 []).trans f3 (by simp)).trans (Fr.up H' 1 []) (by simp),.inr D⟩
abbrev wi(Q ver n c i j:Nat)(g:FuncId):a6:=[(0,mS Q ver 2 n c),(1,nU g),(5,.int .i64 (i:Nat)),(6,.int .i64 (j:Nat))]
theorem UR{B Q ver n c:Nat}{g:FuncId}(an:nT g kg)(be:n<2^40):∀(f i j:Nat)(H:I),j+f=n→i<j→B≤H.next→iD H Q ver n c kg →
 ∃i2 H',i2≤n∧bf Tryz.prog aq B 42 (aY Tryz.prog 142 0) (wi Q ver n c i j g) H (.exit 0) [(0,mS Q ver 2 n c),(5,.int .i64 (i2:Nat))] H'∧iD H' Q ver n c kg∧Fr H H' [Q]:=by
 have bW:aO:=⟨0,0,0,0,1⟩
 intro f;induction f with
 |zero =>
  intro i j H ay eO aX w;obtain⟨e,ah,U,aC,rfl,rfl,rfl⟩:=Ti H H H H H B n c i j 0 (some ⟨Q,ver,0,0,2⟩) g [] 0 bW bW (fun e ah U=>e=.exit 0∧ah=wi Q ver n c i j g∧U=up H 4) (ae aX ⟨b7 (by omega),rfl,rfl,rfl⟩);exact⟨i,_,by omega,(bf.last (by simp) aC).post (bL.facts (ed [0,5] (by kernel_rfl))),w.aI (Fr.up H 4 []) (by simp),Fr.up H 4 _⟩
 |succ f ih =>
  intro i j H ay eO aX w;obtain⟨_,⟨s,wd,rfl⟩,cM,a2⟩:=w.at rC (i:=j) (by omega);obtain⟨H1,af,bU,b8,dj,eJ,fB,⟨oU,fS,iu,iK⟩,oi⟩:=Di Dk rfl rfl (cs:=[.str s,.int .i64 wd]) rfl rfl (by decide) (up H 10) (H.next+8);have dj:H1.next=H.next+10:=dj
  have eJ:af.next=H.next+10:=eJ
  obtain⟨b,ax,D,f1⟩:=an.y0 (.agg [.str s,.int .i64 wd]) ⟨s,wd,rfl⟩ (up af 4);have bK:=f1.next
  have bK:af.next+4≤ax.next:=bK
  have dZ:=w.lt;have g2:Fr H af []:=(Fr.up H 10 []).more fB (by simp);have lq:Fr H ax []:=(g2.trans (Fr.up af 4 []) (by simp)).trans f1 (by simp);have z3:ax.get (H.next+8)=some oU:=(f1.get _ (by show H.next+8<af.next+4;omega) (by simp)).trans fS;have fb:=w.aI lq (by simp);cases b with
  |true =>
   have f2:Fr H (up ax 3) [Q]:=(lq.trans (Fr.up ax 3 []) (by simp)).sub (by simp);obtain⟨i2,H',i1,L,aN,bG⟩:=ih i (j+1) (up ax 3) (by omega) (by omega) (by show B≤ax.next+3;omega) (fb.aI (Fr.up ax 3 []) (by simp));obtain⟨e,ah,U,aC,rfl,rfl,rfl⟩:=Tg H H1 af ax ax B n c i j (H.next+8) _ g s wd _ bW (fun e ah U=>e=.normal∧ah=wi Q ver n c i (j+1) g∧U=up ax 3) (ae aX ⟨bB (by omega),ae (by omega) ⟨cM,a2 _,bU _,cR rfl rfl b8,ae (by omega) ⟨oi af oU fS iu iK _,⟨D⟩,ae (by omega) ⟨⟨by omega,by omega⟩,rfl,by rw [dx],rfl⟩⟩⟩⟩);exact⟨i2,H',i1,bf.round aC (bL.refl _ _ _ _) L,aN,f2.trans bG (fun x ab _=>ab)⟩
  |false =>
   obtain⟨au,s1,iB,f2,n2⟩:=fb.hq rC (i:=i) (by omega) (y:= .agg [.str s,.int .i64 wd]) ⟨s,wd,rfl⟩ 5;obtain⟨_,_,aT,_⟩:=fb.at rC (i:=i) (by omega);have f3:Fr H (up au 6) [Q]:=((lq.sub (M:=[Q]) (by simp)).trans f2 (fun x ab _=>ab)).trans (Fr.up au 6 [Q]) (fun x ab _=>ab);obtain⟨i2,H',i1,L,aN,bG⟩:=ih (i+1) (j+1) (up au 6) (by omega) (by omega) (by show B≤au.next+6;omega) (iB.aI (Fr.up au 6 []) (by simp));obtain⟨e,ah,U,aC,rfl,rfl,rfl⟩:=Th H H1 af ax au B n c i j (H.next+8) _ g s wd _ _ (fun e ah U=>e=.normal∧ah=wi Q ver n c (i+1) (j+1) g∧U=up au 6) (ae aX ⟨bB (by omega),ae (by omega) ⟨cM,a2 _,bU _,cR rfl rfl b8,ae (by omega) ⟨oi af oU fS iu iK _,⟨D⟩,ae (by omega) ⟨oi ax oU z3 iu iK _,aT,cR rfl rfl s1,ae (by omega) ⟨⟨by omega,by omega⟩,ae (by omega) ⟨⟨by omega,by omega⟩,rfl,by rw [dx,dx],rfl⟩⟩⟩⟩⟩⟩);exact⟨i2,H',i1,bf.round aC (bL.refl _ _ _ _) L,aN,f3.trans bG (fun x ab _=>ab)⟩
theorem US{Q ver n c:Nat}{so:Option aO}{g:FuncId}{H:I}(an:nT g kg)(be:n<2^40)(w:iX H Q ver 2 so n c kg) :
 ∃oZ n2 b8 H',n2≤n∧aZ Tryz.prog aq 142 [.slice so n c,nU g] H (.slice oZ n2 b8) H'∧iX H' Q ver 2 oZ n2 b8 kg∧Fr H H' [Q]:=by
 obtain⟨H1,f1,gg⟩:=UQ an be (w.aI (Fr.up H 5 []) (by simp));have bK:=f1.next
 have bK:H.next+5≤H1.next:=bK
 have m6:Fr H H1 []:=(Fr.up H 5 []).trans f1 (by simp);rcases gg with ⟨j,ay,gg⟩|gg
 ·rcases w with w0|⟨rfl,w⟩
  ·omega
  have b9:=w.aI m6 (by simp);obtain⟨i2,af,i1,L,cJ,f2⟩:=UR (B:=H.next) an be (n- (j+1)) j (j+1) (up H1 5) (by omega) (by omega) (by show H.next≤H1.next+5;omega) (b9.aI (Fr.up H1 5 []) (by simp));have n2:=f2.next
  have n2:H1.next+5≤af.next:=n2
  obtain⟨s2,ax,s1,fF,fb,f3,b2⟩:=(cJ.aI (Fr.up af 4 []) (by simp)).clear rC i1 (af.next+3);have b2:ax.next=af.next+4:=b2
  obtain⟨lr,jF⟩:=fb.kf rC i1;have bo:((j+1:Nat):Int)=(j:Int)+1:=by omega
  unfold wi at L;rw [bo]at L
  obtain⟨v,U,D,rfl,rfl⟩:=Tk H H1 af ax n c j i2 _ g s2 _ (fun v U=>v=mS Q ver 2 i2 c∧U=up ax 4)
   (ae (Nat.le_refl _) (ae (by omega) ⟨⟨gg⟩,ae (by omega) ⟨rfl,ae (by omega) ⟨⟨by omega,by omega⟩,aR.cx L,ae (by omega) ⟨s1,fF _ rfl,ae (by omega) ⟨lr,df (by omega) ⟨rfl,rfl⟩⟩⟩⟩⟩⟩))
  refine⟨_,_,_,_,i1,D,.inr ⟨rfl,jF.aI (Fr.up ax 4 []) (by simp)⟩,?_⟩;have g1:Fr H (up H1 5) [Q]:=(m6.trans (Fr.up H1 5 []) (by simp)).sub (by simp);exact(((g1.trans f2 (fun x ab _=>ab)).trans (Fr.up af 4 [Q]) (fun x ab _=>ab)).trans f3 (fun x ab _=>ab)).trans (Fr.up ax 4 [Q]) (fun x ab _=>ab)
 ·obtain⟨v,U,D,rfl,rfl⟩:=Tj H H1 H1 H1 n c 0 0 so g .undef .undef (fun v U=>v=.slice so n c∧U=up H1 4)
   (ae (Nat.le_refl _) (ae (by omega) ⟨⟨gg⟩,ae (by omega) ⟨rfl,ae (by omega) (df (by omega) ⟨rfl,rfl⟩)⟩⟩))
  have f2:Fr H (up H1 4) []:=m6.trans (Fr.up H1 4 []) (by simp);exact⟨_,_,_,_,Nat.le_refl _,D,w.aI f2 (by simp),f2.sub (by simp)⟩
end Go.Proofs.YtjpfnbihopoeeaaGreatDoor
namespace Go.Proofs.YtjpfnbihopoeeaaGreatDoor
open Go.ba Go.Keys
theorem DO{q k:Nat}(h:k≤q):∀x∈ [q],k≤x:=by simpa using h
theorem UT:nT 139 jq:=⟨by
 rintro x ⟨k,_,rfl⟩ H;obtain⟨v,h',D,b,rfl⟩:=Tp (k:Nat) (fun v _=> ∃b,v=.bool b) ⟨fun _=>⟨_,rfl⟩,fun _=>⟨fun _=>⟨_,rfl⟩,fun _=>⟨fun _=>⟨_,rfl⟩,fun _=>⟨_,rfl⟩⟩⟩⟩
 exact⟨b,H,aZ.gm ⟨_,_,D,rfl⟩ rfl rfl H,Fr.refl _ _⟩⟩
theorem UU:nT 143 kg:=⟨by
 rintro x ⟨s,w,rfl⟩ H;obtain⟨v,h',D,b,rfl⟩:=Tq s w (fun v _=> ∃b,v=.bool b) ⟨fun _=>⟨fun _=>⟨_,rfl⟩,fun _=>⟨_,rfl⟩⟩,fun _=>⟨_,rfl⟩⟩
 exact⟨b,H,aZ.gm ⟨_,_,D,rfl⟩ rfl rfl H,Fr.refl _ _⟩⟩
theorem UW(s:List UInt8)(hs:s.length<2^40)(H:I):∃Q ver so n H',n≤s.length∧aZ Tryz.prog aq 123 [.str s] H (.slice so n n) H'∧iX H' Q ver 1 so n n jq∧Fr H H' []∧H.next≤Q:=by
 by_cases bt:s=[]
 ·subst bt;exact⟨H.next,0,none,0,H,Nat.le_refl _,Ig H,.inl rfl,Fr.refl _ _,Nat.le_refl _⟩
 ·have D:=Ih s hs bt H;have e:H.uU [] [kd (ew s)]=(⟨H.next+1,H.aj⟩:I).set H.next (kd (ew s)):=rfl
  rw [e]at D;refine⟨H.next,_,_,_,_,CT s.length s (Nat.le_refl _),D,.inr ⟨rfl,by show H.next<H.next+1;omega,_,I.eG _ _ _,rfl,rfl,by rw [oS];exact Nat.le_refl _,Nat.le_refl _,fun e he=> ?_⟩,(Fr.aj (by omega)).more (Fr.set (L:=[H.next]) _ _ _ (by simp)) (by simp),Nat.le_refl _⟩;obtain⟨x,ab,rfl⟩:=List.mem_map.1 he;exact⟨x,IL s x ab,rfl⟩
theorem UX{H:I}{Q ver n c:Nat}{so:Option aO}(be:n<2^40)(w:iX H Q ver 1 so n c jq):∃t H',t.length≤4*n∧aZ Tryz.prog aq 126 [.slice so n c] H (.str t) H'∧Fr H H' []:=by
 by_cases cl:n=0
 ·subst cl;obtain⟨v,U,D,rfl,rfl⟩:=Tu H c so (fun v U=>v=.str []∧U=up H 9) (ae (Nat.le_refl _) (ae (by omega) (ae (by omega) (ae (by omega) (ae (by omega) (df (by omega) ⟨rfl,rfl⟩))))));exact⟨[],_,by simp,D,Fr.up H 9 []⟩
 ·rcases w with w0|⟨rfl,w⟩
  ·exact absurd w0 cl
  obtain⟨b,U,ak,aP,bQ,ct,cL⟩:=w.ex
  have de:∃L:List Nat,L.length=n∧Has b.a' L∧∀x∈L,x<2^31:=by
   have key:∀(l:List J),(∀e∈l,jq e)→ ∃L:List Nat,L.length=l.length∧l=rs L∧∀x∈L,x<2^31:=by
    intro l;induction l with
    |nil=>intro _;exact⟨[],rfl,rfl,by simp⟩
    |cons e r ih =>
     intro h;obtain⟨k,az,rfl⟩:=h e (by simp);obtain⟨L,dt,bX,mF⟩:=ih fun e he=>h e (List.mem_cons_of_mem _ he)
     refine⟨k::L,by simp [dt],by rw [bX];rfl,fun x ab=> ?_⟩;rcases List.mem_cons.1 ab with rfl|ab
     ·exact az
     ·exact mF x ab
   obtain⟨L,dt,bX,mF⟩:=key b.a' cL;refine⟨L.take n,by rw [List.length_take];omega,fun i ac=> ?_,fun x ab=>mF x (List.mem_of_mem_take ab)⟩;rw [List.length_take]at ac;rw [bX,IE (by omega)];simp
  obtain⟨L,dt,bX,mF⟩:=de;subst dt;have ao:H.get Q=some (gn b.a' ver b.hU b.eD b.es b.exact b.ro b.ty):=by rw [U,←ak]
  refine⟨_,H,Db L,IG (id:=Q) (v:=ver) bX (fun e he=> ?_) (by omega) mF (by intro h;subst h;exact cl rfl) w.lt ao,Fr.refl _ _⟩;obtain⟨k,_,rfl⟩:=cL e he;exact ey.int _ _
abbrev zf(so:Option aO)(n c i:Nat):a6:=[(3,.slice so n c),(11,.slice so n c),(12,.int .i64 (n:Nat)),(13,.int .i64 (i:Nat))]
theorem UY{B Q ver n c:Nat}{so:Option aO}(be:n<2^40):∀(f i:Nat)(H:I),i+f=n→B≤H.next→iX H Q ver 1 so n c jq →
 ∃H',bf Tryz.prog aq B 29 (aY Tryz.prog 90 0) (zf so n c i) H (.exit 0) [(3,.slice so n c)] H'∧iX H' Q ver 1 so n c jq∧Fr H H' [Q]:=by
 have bW:aO:=⟨0,0,0,0,1⟩
 intro f;induction f with
 |zero =>
  intro i H ac aX w;obtain⟨e,ah,U,aC,rfl,rfl,rfl⟩:=Tn H H B n c i so 0 bW (fun e ah U=>e=.exit 0∧ah=zf so n c i∧U=up H 1) (ae aX ⟨b7 (by omega),rfl,rfl,rfl⟩);exact⟨_,(bf.last (by simp) aC).post (bL.facts (ed [3] (by kernel_rfl))),w.aI (Fr.up H 1 []) (by simp),Fr.up H 1 _⟩
 |succ f ih =>
  intro i H ac aX w;rcases w with w0|⟨rfl,w⟩
  ·omega
  obtain⟨_,⟨k,az,rfl⟩,cM,a2⟩:=w.at p2 (i:=i) (by omega);by_cases eB:((k:Nat):Int)=9
  ·obtain⟨H1,s1,b9,f1,bK⟩:=w.hq p2 (i:=i) (by omega) (y:= .int .i32 ((32:Nat):Int)) ⟨32,by decide,rfl⟩ 12;have f2:Fr H (up H1 2) [Q]:=f1.trans (Fr.up H1 2 [Q]) (fun x ab _=>ab);obtain⟨H',L,aN,bG⟩:=ih (i+1) (up H1 2) (by omega) (by show B≤H1.next+2;omega) (.inr ⟨rfl,b9.aI (Fr.up H1 2 []) (by simp)⟩)
   obtain⟨e,ah,U,aC,rfl,rfl,rfl⟩:=Tl H H1 B n c i _ (k:Nat) _ (fun e ah U=>e=.normal∧ah=zf _ n c (i+1)∧U=up H1 2)
    (ae aX ⟨bB (by omega),ae (by omega) ⟨cM,a2 _,ae (by omega) ⟨nS eB,ae (by omega) ⟨cM,cR rfl rfl s1,ae (by omega) ⟨⟨by omega,by omega⟩,rfl,by rw [dx],rfl⟩⟩⟩⟩⟩)
   exact⟨H',bf.round aC (bL.refl _ _ _ _) L,aN,f2.trans bG (fun x ab _=>ab)⟩
  ·obtain⟨H',L,aN,bG⟩:=ih (i+1) (up H 10) (by omega) (by show B≤H.next+10;omega) (.inr ⟨rfl,w.aI (Fr.up H 10 []) (by simp)⟩)
   obtain⟨e,ah,U,aC,rfl,rfl,rfl⟩:=Tm H H B n c i _ (k:Nat) _ (fun e ah U=>e=.normal∧ah=zf _ n c (i+1)∧U=up H 10)
    (ae aX ⟨bB (by omega),ae (by omega) ⟨cM,a2 _,ae (by omega) ⟨iV eB,ae (by omega) ⟨⟨by omega,by omega⟩,rfl,by rw [dx],rfl⟩⟩⟩⟩)
   exact⟨H',bf.round aC (bL.refl _ _ _ _) L,aN,(Fr.up H 10 [Q]).trans bG (fun x ab _=>ab)⟩
theorem UZ(s:List UInt8)(hs:s.length≤2^25)(H:I):∃Q so n c H',n≤2^29∧aZ Tryz.prog aq 90 [.str s] H (.slice so n c) H'∧iX H' Q 0 2 so n c kg∧Fr H H' []:=by
 obtain⟨Q,ver,so,n,H1,bK,gg,b9,f1,cC⟩:=UW s (by omega) (up H 4);have cC:H.next+4≤Q:=cC
 have m1:=f1.next
 have m1:H.next+4≤H1.next:=m1
 have g1:Fr H (up H1 3) []:=((Fr.up H 4 []).trans f1 (by simp)).trans (Fr.up H1 3 []) (by simp);obtain⟨oZ,n2,b8,af,W0,sW,cJ,f2⟩:=UO UT (by omega) (b9.aI (Fr.up H1 3 []) (by simp));have m2:=f2.next
 have m2:H1.next+3≤af.next:=m2
 have g2:Fr H (up af 3) []:=(g1.more f2 (DO (by omega))).trans (Fr.up af 3 []) (by simp);obtain⟨ax,L,fb,f3⟩:=UY (B:=H.next) (by omega) n2 0 (up af 3) (by omega) (by show H.next≤af.next+3;omega) (cJ.aI (Fr.up af 3 []) (by simp));have m3:=f3.next
 have m3:af.next+3≤ax.next:=m3
 have g3:Fr H (up ax 4) []:=(g2.more f3 (DO (by omega))).trans (Fr.up ax 4 []) (by simp);obtain⟨t,au,W1,Cx,f4⟩:=UX (by omega) (fb.aI (Fr.up ax 4 []) (by simp));have m4:=f4.next
 have m4:ax.next+4≤au.next:=m4
 obtain⟨cs,fO,sS⟩:=S1 t (by omega);have g4:Fr H au []:=g3.trans f4 (by simp)
 have dO:∃so n c,vH au cs=.slice so n c∧n=cs.length∧iX (up (rB au cs) 3) au.next 0 2 so n c kg∧Fr au (rB au cs) []:=by
  cases cs with
  |nil=>exact⟨none,0,0,rfl,rfl,.inl rfl,Fr.refl _ _⟩
  |cons x r =>
   refine⟨_,_,_,rfl,rfl,.inr ⟨rfl,by show au.next<au.next+1+3;omega,_,I.eG _ _ _,rfl,rfl,by show _≤((x::r).map rA.v).length;simp,Nat.le_refl _,fun e he=> ?_⟩,(Fr.aj (by omega)).more (Fr.set (L:=[au.next]) _ _ _ (by simp)) (by simp)⟩;obtain⟨y,_,rfl⟩:=List.mem_map.1 he;exact⟨y.1,y.2,rfl⟩
 obtain⟨W2,cU,fB,qZ,td,mG,f5⟩:=dO;have sS:=sS au;rw [qZ]at sS;have kQ:=f5.next
 obtain⟨Jv,ls,fS,bc,W3,kR,mH,f6⟩:=US UU (by omega) mG;have gA:=f6.next
 have gA:(rB au cs).next+3≤bc.next:=gA
 obtain⟨v,U,D,rfl,rfl⟩:=To H H1 af ax au (rB au cs) bc n2 b8 oZ s t _ _ _ (fun v U=>v=.slice Jv ls fS∧U=bc)
  (ae (Nat.le_refl _) (ae (by omega) ⟨⟨gg⟩,ae (by omega) ⟨⟨sW⟩,ae (by omega) ⟨aR.cx L,ae (by omega) ⟨⟨Cx⟩,⟨sS⟩,ae (by omega) ⟨⟨kR⟩,df (by omega) ⟨rfl,rfl⟩⟩⟩⟩⟩⟩))
 exact⟨au.next,Jv,ls,fS,_,by omega,D,mH,(((g4.trans f5 (by simp)).trans (Fr.up (rB au cs) 3 []) (by simp)).more f6 (DO (by omega)))⟩
theorem U0{B Q n c:Nat}{so:Option aO}(be:n<2^40):∀(f i:Nat)(a:Int)(H:I),i+f=n→B≤H.next→iX H Q 0 2 so n c kg →
 ∃bN H',bf Tryz.prog aq B 20 (aY Tryz.prog 48 0) [(3,.int .i64 a),(7,.slice so n c),(8,.int .i64 (n:Nat)),(9,.int .i64 (i:Nat))] H (.exit 0) [(3,.int .i64 bN)] H'∧Fr H H' []:=by
 have bW:aO:=⟨0,0,0,0,1⟩
 intro f;induction f with
 |zero =>
  intro i a H ac aX w;obtain⟨e,ah,U,aC,rfl,rfl,rfl⟩:=Ts H H H B n c i 0 so a 0 0 [] bW (fun e ah U=>e=.exit 0∧ah=[(3,.int .i64 a),(7,.slice so n c),(8,.int .i64 (n:Nat)),(9,.int .i64 (i:Nat))]∧U=up H 1) (ae aX ⟨b7 (by omega),rfl,rfl,rfl⟩);exact⟨a,_,(bf.last (by simp) aC).post (bL.facts (ed [3] (by kernel_rfl))),Fr.up H 1 _⟩
 |succ f ih =>
  intro i a H ac aX w;rcases w with w0|⟨rfl,w⟩
  ·omega
  obtain⟨_,⟨s,wd,rfl⟩,cM,a2⟩:=w.at rC (i:=i) (by omega);obtain⟨H1,af,bU,b8,dj,eJ,fB,⟨oU,fS,iu,iK⟩,oi⟩:=Di Dk rfl rfl (cs:=[.str s,.int .i64 wd]) rfl rfl (by decide) (up H 5) (H.next+3);have dj:H1.next=H.next+5:=dj
  have eJ:af.next=H.next+5:=eJ
  have k9:∀n,aQ (bh.D env) 3 ⟨H.next+3,0,0,1,2⟩ ⟨n,af.aj⟩=some (.int .i64 wd):=by
   intro n;obtain⟨gl,d1,d2⟩:=Option.map_eq_some_iff.1 (show(env.D 3).map (fun x=>x.kind.isAgg)=some false by kernel_rfl);have d1:bh.D env 3=some gl:=d1;have g:I.get ⟨n,af.aj⟩ (H.next+3)=some oU:=fS
   have e:oU.elem? 0 0=some (.agg [.str s,.int .i64 wd]):=by unfold aJ.elem? aJ.cj;rw [if_pos iu.symm,iK];rfl
   unfold aQ;simp only [d1,g,e,d2];rfl
  have f2:Fr H (up af 7) []:=((Fr.up H 5 []).more fB (by simp)).trans (Fr.up af 7 []) (by simp);obtain⟨bN,H',L,bG⟩:=ih (i+1) (IntKind.wrap .i64 (a+wd)) (up af 7) (by omega) (by show B≤af.next+7;omega) (.inr ⟨rfl,w.aI f2 (by simp)⟩)
  obtain⟨e,ah,U,aC,rfl,rfl,rfl⟩:=Tr H H1 af B n c i (H.next+3) _ a wd (IntKind.wrap .i64 (a+wd)) s _ (fun e ah U=>e=.normal∧ah=[(3,.int .i64 (IntKind.wrap .i64 (a+wd))),(7,_),(8,.int .i64 (n:Nat)),(9,.int .i64 ((i+1:Nat):Int))]∧U=up af 7)
   (ae aX ⟨bB (by omega),ae (by omega) ⟨cM,a2 _,bU _,cR rfl rfl b8,ae (by omega) ⟨k9 _,rfl,ae (by omega) ⟨⟨by omega,by omega⟩,rfl,by rw [dx],rfl⟩⟩⟩⟩)
  exact⟨bN,H',bf.round aC (bL.refl _ _ _ _) L,f2.trans bG (by simp)⟩
theorem U1(s:List UInt8)(hs:s.length≤2^25)(H:I):∃(a:Int)(H':I),a≤4096∧aZ Tryz.prog aq 48 [.str s] H (.int .i64 a) H'∧Fr H H' []:=by
 obtain⟨Q,so,n,c,H1,be,gg,b9,f1⟩:=UZ s hs (up H 6);have m1:=f1.next
 have m1:H.next+6≤H1.next:=m1
 obtain⟨a,af,L,f2⟩:=U0 (B:=H.next) (by omega) n 0 0 H1 (by omega) (by omega) b9;have m2:=f2.next
 obtain⟨v,U,D,rfl,rfl⟩:=Tt H H1 af n c so s a (fun v U=>v=.int .i64 (if 4096<a then 4096 else a)∧U=up af 3)
  (ae (Nat.le_refl _) (ae (by omega) (ae (by omega) ⟨⟨gg⟩,aR.cx L,ae (by omega) (df (by omega) ⟨rfl,rfl⟩)⟩)))
 exact⟨_,_,by split<;>omega,D,(((Fr.up H 6 []).trans f1 (by simp)).trans f2 (by simp)).trans (Fr.up af 3 []) (by simp)⟩
end Go.Proofs.YtjpfnbihopoeeaaGreatDoor
namespace Go.Proofs.YtjpfnbihopoeeaaGreatDoor
open Go.ba
theorem U2(H:I)(B N rc C cc m m7 i n n2:Nat)(ro co hj:Option aO)(w:Int)(p:aO)(ai:bx→a6→I→Prop)(aG:ad B (H.next) (some (J.bool (decide ((i:Int)<(N:Int))))=some (J.bool true)∧ad B (H.next+1) (bb env.D 22 (.slice ro N rc) (.int .i64 (i:Int))=some (J.ptr (some p))∧aQ env.D 36 p (I.mk (H.next+4) (H.2))=some (J.slice hj m m7)∧ad B (H.next+4) (dk env Builtin.max {toList:=[3,3]} [.int .i64 (n:Int),.int .i64 (m:Int)] (H.next+7) (I.mk (H.next+9) (H.2))=some (.int .i64 (n2:Int),(I.mk (H.next+9) (H.2)))∧ad B (H.next+9) ((-9223372036854775808≤(i:Int)+1∧(i:Int)+1≤9223372036854775807)∧ai .normal [(0,.slice ro N rc),(1,.slice co C cc),(2,.int .i64 w),(7,.int .i64 (n2:Int)),(17,.slice ro N rc),(18,.int .i64 (N:Int)),(19,.int .i64 ((i:Int)+1))] (I.mk (H.next+9+2) (I.aj (I.mk (H.next+4+5) (I.aj (I.mk (H.next+1+3) (I.aj (I.mk (H.next+1) (I.aj H))))))))))))) :
 ∃e ah U,aR Tryz.prog aq B 131 (aY Tryz.prog 22 0) [(0,.slice ro N rc),(1,.slice co C cc),(2,.int .i64 w),(7,.int .i64 n),(17,.slice ro N rc),(18,.int .i64 N),(19,.int .i64 i)] H e ah U∧ai e ah U :=
 b0 bg mixed bq (hs:= .aa (.val 3000 (.bool true)) (.aa (.val 4000 (.ptr (some p))) (.aa (.val 4001 (.slice hj m m7)) (.aa (.val 5003 (.int .i64 (n2:Int))) (an 6000 .nil))))) (keep:=[0,1,2,7,17,18,19]) (by kernel_rfl) aG
theorem U3(H:I)(B N rc C cc m m7 i n n2:Nat)(ro co hj:Option aO)(w:Int)(p:aO)(ai:bx→a6→I→Prop)(aG:ad B (H.next) (some (J.bool (decide ((i:Int)<(N:Int))))=some (J.bool false)∧ai (.exit 0) [(0,.slice ro N rc),(1,.slice co C cc),(2,.int .i64 w),(7,.int .i64 (n:Int)),(17,.slice ro N rc),(18,.int .i64 (N:Int)),(19,.int .i64 (i:Int))] (I.mk (H.next+1) (I.aj H)))) :
 ∃e ah U,aR Tryz.prog aq B 131 (aY Tryz.prog 22 0) [(0,.slice ro N rc),(1,.slice co C cc),(2,.int .i64 w),(7,.int .i64 n),(17,.slice ro N rc),(18,.int .i64 N),(19,.int .i64 i)] H e ah U∧ai e ah U :=
 b0 bg mixed bq (hs:= .aa (.val 3000 (.bool false)) .nil) (keep:=[0,1,2,7,17,18,19]) (by kernel_rfl) aG
theorem U4(H H1 af ax:I)(B N rc C cc M ql i j:Nat)(ro co:Option aO)(w n a x:Int)(zg:J)(s:List UInt8)(p:aO)(ai:bx→a6→I→Prop)(aG:ad B (H.next) (some (J.bool (decide ((i:Int)<(N:Int))))=some (J.bool true)∧ad B (H.next+1) (bb env.D 22 (.slice ro N rc) (.int .i64 (i:Int))=some (J.ptr (some p))∧aQ env.D 36 p (I.mk (H.next+4) (H.2))=some zg∧ad B (H.next+4) (aQ env.D 3 ⟨ql,0,0+j,1,5⟩ (I.mk (H.next+17) (H.2))=some (.int .i64 n)∧ql<H.next+4∧bY Tryz.prog aq 49 [zg,.int .i64 (j:Int)] (I.mk (H.next+17) (H.2)) (.str s) H1∧n6 (H.next+17) (I.mk (H.next+17) (H.2)) H1=true∧bY Tryz.prog aq 48 [.str s] H1 (.int .i64 a) af∧n6 (H.next+17) H1 af=true∧dk env Builtin.max {toList:=[3,3]} [.int .i64 n,.int .i64 a] (H.next+13) af=some (.int .i64 x,af)∧aV env bz (H.next+16) (a1 [(83,.ptr (some ⟨ql,0,0+j,1,5⟩)),(81,.int .i64 x)]) af (Op.store 3 (Operand.tmp 83) (Operand.tmp 81))=some (J.tuple [],ax)∧ad B (ax.next) ((-9223372036854775808≤(i:Int)+1∧(i:Int)+1≤9223372036854775807)∧ai .normal [(0,.slice ro N rc),(1,.slice co C cc),(2,.int .i64 w),(10,.slice (some ⟨ql,0,0,0,5⟩) M M),(11,.int .i64 (j:Int)),(12,.ptr (some ⟨ql,0,0+j,0,5⟩)),(32,.int .i64 (M:Int)),(33,.int .i64 (j:Int)),(66,.slice ro N rc),(67,.int .i64 (N:Int)),(68,.int .i64 ((i:Int)+1))] (I.mk (ax.next+2) (I.aj ax))))))) :
 ∃e ah U,aR Tryz.prog aq B 131 (aY Tryz.prog 22 2) [(0,.slice ro N rc),(1,.slice co C cc),(2,.int .i64 w),(10,(.slice (some ⟨ql,0,0,0,5⟩) M M)),(11,.int .i64 j),(12,(.ptr (some ⟨ql,0,0+j,0,5⟩))),(32,.int .i64 M),(33,.int .i64 j),(66,.slice ro N rc),(67,.int .i64 N),(68,.int .i64 i)] H e ah U∧ai e ah U :=
 b0 bg mixed bq (hs:= .aa (.val 17000 (.bool true)) (.aa (.val 18000 (.ptr (some p))) (.aa (.val 18001 zg) (.aa (.cI 19004 (.int .i64 n)) (.aa (.act 19007 (.str s) fun x=>H1) (.aa (.act 19008 (.int .i64 a) fun x=>af) (.aa (.val 19009 (.int .i64 x)) (.aa (.act 19012 (.tuple []) fun x=>ax) (an 20000 .nil))))))))) (keep:=[0,1,2,10,11,12,32,33,66,67,68]) (by kernel_rfl) aG
theorem U5(H H1 af ax:I)(B N rc C cc M ql i j:Nat)(ro co:Option aO)(w n a x:Int)(zg:J)(s:List UInt8)(p:aO)(ai:bx→a6→I→Prop)(aG:ad B (H.next) (some (J.bool (decide ((i:Int)<(N:Int))))=some (J.bool false)∧ai (.exit 4) [(0,.slice ro N rc),(1,.slice co C cc),(2,.int .i64 w),(10,.slice (some ⟨ql,0,0,0,5⟩) M M),(11,.int .i64 (j:Int)),(12,.ptr (some ⟨ql,0,0+j,0,5⟩)),(32,.int .i64 (M:Int)),(33,.int .i64 (j:Int)),(66,.slice ro N rc),(67,.int .i64 (N:Int)),(68,.int .i64 (i:Int))] (I.mk (H.next+1) (I.aj H)))) :
 ∃e ah U,aR Tryz.prog aq B 131 (aY Tryz.prog 22 2) [(0,.slice ro N rc),(1,.slice co C cc),(2,.int .i64 w),(10,(.slice (some ⟨ql,0,0,0,5⟩) M M)),(11,.int .i64 j),(12,(.ptr (some ⟨ql,0,0+j,0,5⟩))),(32,.int .i64 M),(33,.int .i64 j),(66,.slice ro N rc),(67,.int .i64 N),(68,.int .i64 i)] H e ah U∧ai e ah U :=
 b0 bg mixed bq (hs:= .aa (.val 17000 (.bool false)) .nil) (keep:=[0,1,2,10,11,12,32,33,66,67,68]) (by kernel_rfl) aG
theorem U6(H H1 af ax au aU bc:I)(B N rc C cc M ql q ver off j:Nat)(ro co:Option aO)(w k n d aE mx k2 n2 dc dQ b2 cY cU dY:Int)(ai:bx→a6→I→Prop)(aG:ad B (H.next) (some (J.bool (decide ((j:Int)<(M:Int))))=some (J.bool true)∧ad B (H.next+1) (ad B (H.next+3) (some (J.bool (decide ((j:Int)<(C:Int))))=some (J.bool true)∧bb env.D 27 (.slice co C cc) (.int .i64 (j:Int))=some (J.ptr (some ⟨q,ver,off+j,0,5⟩))∧aQ env.D 65 ⟨q,ver,off+j,0,5⟩ (I.mk (H.next+14) (H.2))=some ((cZ k n d aE mx))∧bY Tryz.prog aq 47 [(cZ k n d aE mx)] (I.mk (H.next+14) (H.2)) (.bool true) (I.mk (H.next+14) (H.2))∧ad B (H.next+14) (bb env.D 27 (.slice co C cc) (.int .i64 (j:Int))=some (J.ptr (some ⟨q,ver,off+j,0,5⟩))∧aQ env.D 65 ⟨q,ver,off+j,0,5⟩ (I.mk (H.next+22) (H.2))=some ((cZ k n d aE mx))∧bb env.D 27 (.slice (some ⟨ql,0,0,0,5⟩) M M) (.int .i64 (j:Int))=some (J.ptr (some ⟨ql,0,0+j,0,5⟩))∧aV env bz (H.next+21) (a1 [(53,.ptr (some ⟨ql,0,0+j,0,5⟩)),(52,(cZ k n d aE mx))]) (I.mk (H.next+22) (H.2)) (Op.store 65 (Operand.tmp 53) (Operand.tmp 52))=some (J.tuple [],H1)∧ad B (H1.next) (bb env.D 27 (.slice (some ⟨ql,0,0,0,5⟩) M M) (.int .i64 (j:Int))=some (J.ptr (some ⟨ql,0,0+j,0,5⟩))∧aQ env.D 35 ⟨ql,0,0+j,0,5⟩ (I.mk (H1.next+6) (H1.2))=some (.int .i8 k2)∧some (J.bool (k2 != 0))=some (J.bool true)∧ad B (H1.next+6) ((-9223372036854775808≤(j:Int)+1∧(j:Int)+1≤9223372036854775807)∧ai .normal [(0,.slice ro N rc),(1,.slice co C cc),(2,.int .i64 w),(10,.slice (some ⟨ql,0,0,0,5⟩) M M),(32,.int .i64 (M:Int)),(33,.int .i64 ((j:Int)+1))] (I.mk (H1.next+6+2) (I.aj (I.mk (H1.next+6) (I.aj H1))))))))))) :
 ∃e ah U,aR Tryz.prog aq B 131 (aY Tryz.prog 22 1) [(0,.slice ro N rc),(1,.slice co C cc),(2,.int .i64 w),(10,(.slice (some ⟨ql,0,0,0,5⟩) M M)),(32,.int .i64 M),(33,.int .i64 j)] H e ah U∧ai e ah U :=
 b0 bg mixed bq (hs:= .aa (.val 9000 (.bool true)) (.aa (.val 11003 (.bool true)) (.aa (.val 11007 (.ptr (some ⟨q,ver,off+j,0,5⟩))) (.aa (.val 11008 ((cZ k n d aE mx))) (.aa (.val 11009 (.bool true)) (.aa (.val 12004 (.ptr (some ⟨q,ver,off+j,0,5⟩))) (.aa (.val 12005 ((cZ k n d aE mx))) (.aa (.val 12006 (.ptr (some ⟨ql,0,0+j,0,5⟩))) (.aa (.act 12007 (.tuple []) fun x=>H1) (.aa (.val 13002 (.ptr (some ⟨ql,0,0+j,0,5⟩))) (.aa (.val 13004 (.int .i8 k2)) (.aa (.val 13005 (.bool true)) (an 25000 .nil))))))))))))) (keep:=[0,1,2,10,32,33]) (by kernel_rfl) aG
abbrev fI(ax:I):I:=(I.mk (ax.next+13) (ax.2))
abbrev kj(au:I):I:=(I.mk (au.next+18) (au.2))
abbrev dU(M:Nat)(ql:Nat):J:=J.slice (some ⟨ql,0,0,0,5⟩) M M
theorem U7(H H1 af ax au aU bc:I)(B N rc C cc M ql q ver off j:Nat)(ro co:Option aO)(w k n d aE mx k2 n2 dc dQ b2 cY cU dY:Int)(ai:bx→a6→I→Prop)(aG:ad B (H.next) (some (J.bool (decide ((j:Int)<(M:Int))))=some (J.bool true)∧ad B (H.next+1) (ad B (H.next+3) (some (J.bool (decide ((j:Int)<(C:Int))))=some (J.bool true)∧bb env.D 27 (.slice co C cc) (.int .i64 (j:Int))=some (J.ptr (some ⟨q,ver,off+j,0,5⟩))∧aQ env.D 65 ⟨q,ver,off+j,0,5⟩ (I.mk (H.next+14) (H.2))=some ((cZ k n d aE mx))∧bY Tryz.prog aq 47 [(cZ k n d aE mx)] (I.mk (H.next+14) (H.2)) (.bool true) (I.mk (H.next+14) (H.2))∧ad B (H.next+14) (bb env.D 27 (.slice co C cc) (.int .i64 (j:Int))=some (J.ptr (some ⟨q,ver,off+j,0,5⟩))∧aQ env.D 65 ⟨q,ver,off+j,0,5⟩ (I.mk (H.next+22) (H.2))=some ((cZ k n d aE mx))∧bb env.D 27 ((dU M ql)) (.int .i64 (j:Int))=some (J.ptr (some ⟨ql,0,0+j,0,5⟩))∧aV env bz (H.next+21) (a1 [(53,.ptr (some ⟨ql,0,0+j,0,5⟩)),(52,(cZ k n d aE mx))]) (I.mk (H.next+22) (H.2)) (Op.store 65 (Operand.tmp 53) (Operand.tmp 52))=some (J.tuple [],H1)∧ad B (H1.next) (bb env.D 27 ((dU M ql)) (.int .i64 (j:Int))=some (J.ptr (some ⟨ql,0,0+j,0,5⟩))∧aQ env.D 35 ⟨ql,0,0+j,0,5⟩ (I.mk (H1.next+6) (H1.2))=some (.int .i8 k2)∧some (J.bool (k2 != 0))=some (J.bool false)∧ad B (H1.next+6) (bb env.D 27 ((dU M ql)) (.int .i64 (j:Int))=some (J.ptr (some ⟨ql,0,0+j,0,5⟩))∧ad B (H1.next+10) (aV env bz (H1.next+13) (a1 [(65,.ptr (some ⟨ql,0,0+j,0,5⟩))]) (I.mk (H1.next+14) (H1.2)) (Op.store 35 (Operand.tmp 65) (Operand.const (Value.int IntKind.i8 (1))))=some (J.tuple [],af)∧ad B (af.next) (aR Tryz.prog aq B 131 (Code.loop (aY Tryz.prog 22 2)) [(0,.slice ro N rc),(1,.slice co C cc),(2,.int .i64 w),(10,(dU M ql)),(11,.int .i64 (j:Int)),(12,.ptr (some ⟨ql,0,0+j,0,5⟩)),(32,.int .i64 (M:Int)),(33,.int .i64 (j:Int)),(66,.slice ro N rc),(67,.int .i64 (N:Int)),(68,.int .i64 0)] (I.mk (af.next+3) (I.aj af)) (.exit 4) [(0,.slice ro N rc),(1,.slice co C cc),(2,.int .i64 w),(10,(dU M ql)),(11,.int .i64 (j:Int)),(12,.ptr (some ⟨ql,0,0+j,0,5⟩)),(32,.int .i64 (M:Int)),(33,.int .i64 (j:Int))] ax∧ad B (ax.next) (aQ env.D 3 ⟨ql,0,0+j,1,5⟩ (fI ax)=some (.int .i64 n2)∧ql<ax.next∧aQ env.D 3 ⟨ql,0,0+j,3,5⟩ (fI ax)=some (.int .i64 dc)∧ql<ax.next∧dk env Builtin.max {toList:=[3,3]} [.int .i64 n2,.int .i64 dc] (ax.next+9) (fI ax)=some (.int .i64 b2,(fI ax))∧aV env bz (ax.next+12) (a1 [(96,.ptr (some ⟨ql,0,0+j,1,5⟩)),(94,.int .i64 b2)]) (fI ax) (Op.store 3 (Operand.tmp 96) (Operand.tmp 94))=some (J.tuple [],au)∧ad B (au.next) (aQ env.D 3 ⟨ql,0,0+j,4,5⟩ (I.mk (au.next+5) (au.2))=some (.int .i64 dQ)∧some (J.bool (decide (dQ>0)))=some (J.bool true)∧ad B (au.next+5) (aQ env.D 3 ⟨ql,0,0+j,1,5⟩ (kj au)=some (.int .i64 b2)∧ql<au.next+5∧aQ env.D 3 ⟨ql,0,0+j,4,5⟩ (kj au)=some (.int .i64 dQ)∧ql<au.next+5∧dk env Builtin.min {toList:=[3,3]} [.int .i64 b2,.int .i64 dQ] (au.next+14) (kj au)=some (.int .i64 cY,(kj au))∧aV env bz (au.next+17) (a1 [(113,.ptr (some ⟨ql,0,0+j,1,5⟩)),(111,.int .i64 cY)]) (kj au) (Op.store 3 (Operand.tmp 113) (Operand.tmp 111))=some (J.tuple [],aU)∧ad B (aU.next) (aQ env.D 3 ⟨ql,0,0+j,3,5⟩ (fy aU)=some (.int .i64 dc)∧ql<aU.next∧aQ env.D 3 ⟨ql,0,0+j,1,5⟩ (fy aU)=some (.int .i64 cY)∧ql<aU.next∧dk env Builtin.min {toList:=[3,3]} [.int .i64 1,.int .i64 cY] (aU.next+9) (fy aU)=some (.int .i64 cU,(fy aU))∧dk env Builtin.max {toList:=[3,3]} [.int .i64 dc,.int .i64 cU] (aU.next+10) (fy aU)=some (.int .i64 dY,(fy aU))∧aV env bz (aU.next+13) (a1 [(126,.ptr (some ⟨ql,0,0+j,3,5⟩)),(124,.int .i64 dY)]) (fy aU) (Op.store 3 (Operand.tmp 126) (Operand.tmp 124))=some (J.tuple [],bc)∧ad B (bc.next) ((-9223372036854775808≤(j:Int)+1∧(j:Int)+1≤9223372036854775807)∧ai .normal [(0,.slice ro N rc),(1,.slice co C cc),(2,.int .i64 w),(10,(dU M ql)),(32,.int .i64 (M:Int)),(33,.int .i64 ((j:Int)+1))] (I.mk (bc.next+2) (I.aj bc)))))))))))))))) :
 ∃e ah U,aR Tryz.prog aq B 131 (aY Tryz.prog 22 1) [(0,.slice ro N rc),(1,.slice co C cc),(2,.int .i64 w),(10,(.slice (some ⟨ql,0,0,0,5⟩) M M)),(32,.int .i64 M),(33,.int .i64 j)] H e ah U∧ai e ah U :=
 b0 bg mixed bq (hs:= .aa (.val 9000 (.bool true)) (.aa (.val 11003 (.bool true)) (.aa (.val 11007 (.ptr (some ⟨q,ver,off+j,0,5⟩))) (.aa (.val 11008 ((cZ k n d aE mx))) (.aa (.val 11009 (.bool true)) (.aa (.val 12004 (.ptr (some ⟨q,ver,off+j,0,5⟩))) (.aa (.val 12005 ((cZ k n d aE mx))) (.aa (.val 12006 (.ptr (some ⟨ql,0,0+j,0,5⟩))) (.aa (.act 12007 (.tuple []) fun x=>H1) (.aa (.val 13002 (.ptr (some ⟨ql,0,0+j,0,5⟩))) (.aa (.val 13004 (.int .i8 k2)) (.aa (.val 13005 (.bool false)) (.aa (.val 14002 (.ptr (some ⟨ql,0,0+j,0,5⟩))) (.aa (.act 15003 (.tuple []) fun x=>af) (.aa (.keep [0,1,2,10,11,12,32,33,66,67,68]) (.aa (.loop [(0,.slice ro N rc),(1,.slice co C cc),(2,.int .i64 w),(10,(dU M ql)),(11,.int .i64 (j:Int)),(12,.ptr (some ⟨ql,0,0+j,0,5⟩)),(32,.int .i64 (M:Int)),(33,.int .i64 (j:Int))] ax (.exit 4)) (.aa (.cI 21004 (.int .i64 n2)) (.aa (.cI 21008 (.int .i64 dc)) (.aa (.val 21009 (.int .i64 b2)) (.aa (.act 21012 (.tuple []) fun x=>au) (.aa (.val 22003 (.int .i64 dQ)) (.aa (.val 22004 (.bool true)) (.aa (.cI 23004 (.int .i64 b2)) (.aa (.cI 23008 (.int .i64 dQ)) (.aa (.val 23009 (.int .i64 cY)) (.aa (.act 23012 (.tuple []) fun x=>aU) (.aa (.cI 24004 (.int .i64 dc)) (.aa (.cI 24008 (.int .i64 cY)) (.aa (.val 24009 (.int .i64 cU)) (.aa (.val 24010 (.int .i64 dY)) (.aa (.act 24013 (.tuple []) fun x=>bc) (an 25000 .nil)))))))))))))))))))))))))))))))) (keep:=[0,1,2,10,32,33]) (by kernel_rfl) aG
abbrev hS(au:I):I:=(I.mk (au.next+19) (au.2))
theorem U8(H H1 af ax au aU bc:I)(B N rc C cc M ql q ver off j:Nat)(ro co:Option aO)(w k n d aE mx k2 n2 dc dQ b2 cY cU dY:Int)(ai:bx→a6→I→Prop)(aG:ad B (H.next) (some (J.bool (decide ((j:Int)<(M:Int))))=some (J.bool true)∧ad B (H.next+1) (ad B (H.next+3) (some (J.bool (decide ((j:Int)<(C:Int))))=some (J.bool true)∧bb env.D 27 (.slice co C cc) (.int .i64 (j:Int))=some (J.ptr (some ⟨q,ver,off+j,0,5⟩))∧aQ env.D 65 ⟨q,ver,off+j,0,5⟩ (I.mk (H.next+14) (H.2))=some ((cZ k n d aE mx))∧bY Tryz.prog aq 47 [(cZ k n d aE mx)] (I.mk (H.next+14) (H.2)) (.bool true) (I.mk (H.next+14) (H.2))∧ad B (H.next+14) (bb env.D 27 (.slice co C cc) (.int .i64 (j:Int))=some (J.ptr (some ⟨q,ver,off+j,0,5⟩))∧aQ env.D 65 ⟨q,ver,off+j,0,5⟩ (I.mk (H.next+22) (H.2))=some ((cZ k n d aE mx))∧bb env.D 27 ((dU M ql)) (.int .i64 (j:Int))=some (J.ptr (some ⟨ql,0,0+j,0,5⟩))∧aV env bz (H.next+21) (a1 [(53,.ptr (some ⟨ql,0,0+j,0,5⟩)),(52,(cZ k n d aE mx))]) (I.mk (H.next+22) (H.2)) (Op.store 65 (Operand.tmp 53) (Operand.tmp 52))=some (J.tuple [],H1)∧ad B (H1.next) (bb env.D 27 ((dU M ql)) (.int .i64 (j:Int))=some (J.ptr (some ⟨ql,0,0+j,0,5⟩))∧aQ env.D 35 ⟨ql,0,0+j,0,5⟩ (I.mk (H1.next+6) (H1.2))=some (.int .i8 k2)∧some (J.bool (k2 != 0))=some (J.bool false)∧ad B (H1.next+6) (bb env.D 27 ((dU M ql)) (.int .i64 (j:Int))=some (J.ptr (some ⟨ql,0,0+j,0,5⟩))∧ad B (H1.next+10) (aV env bz (H1.next+13) (a1 [(65,.ptr (some ⟨ql,0,0+j,0,5⟩))]) (I.mk (H1.next+14) (H1.2)) (Op.store 35 (Operand.tmp 65) (Operand.const (Value.int IntKind.i8 (1))))=some (J.tuple [],af)∧ad B (af.next) (aR Tryz.prog aq B 131 (Code.loop (aY Tryz.prog 22 2)) [(0,.slice ro N rc),(1,.slice co C cc),(2,.int .i64 w),(10,(dU M ql)),(11,.int .i64 (j:Int)),(12,.ptr (some ⟨ql,0,0+j,0,5⟩)),(32,.int .i64 (M:Int)),(33,.int .i64 (j:Int)),(66,.slice ro N rc),(67,.int .i64 (N:Int)),(68,.int .i64 0)] (I.mk (af.next+3) (I.aj af)) (.exit 4) [(0,.slice ro N rc),(1,.slice co C cc),(2,.int .i64 w),(10,(dU M ql)),(11,.int .i64 (j:Int)),(12,.ptr (some ⟨ql,0,0+j,0,5⟩)),(32,.int .i64 (M:Int)),(33,.int .i64 (j:Int))] ax∧ad B (ax.next) (aQ env.D 3 ⟨ql,0,0+j,1,5⟩ (fI ax)=some (.int .i64 n2)∧ql<ax.next∧aQ env.D 3 ⟨ql,0,0+j,3,5⟩ (fI ax)=some (.int .i64 dc)∧ql<ax.next∧dk env Builtin.max {toList:=[3,3]} [.int .i64 n2,.int .i64 dc] (ax.next+9) (fI ax)=some (.int .i64 b2,(fI ax))∧aV env bz (ax.next+12) (a1 [(96,.ptr (some ⟨ql,0,0+j,1,5⟩)),(94,.int .i64 b2)]) (fI ax) (Op.store 3 (Operand.tmp 96) (Operand.tmp 94))=some (J.tuple [],au)∧ad B (au.next) (aQ env.D 3 ⟨ql,0,0+j,4,5⟩ (I.mk (au.next+5) (au.2))=some (.int .i64 dQ)∧some (J.bool (decide (dQ>0)))=some (J.bool false)∧ad B (au.next+5) (aQ env.D 3 ⟨ql,0,0+j,3,5⟩ (hS au)=some (.int .i64 dc)∧ql<au.next+5∧aQ env.D 3 ⟨ql,0,0+j,1,5⟩ (hS au)=some (.int .i64 b2)∧ql<au.next+5∧dk env Builtin.min {toList:=[3,3]} [.int .i64 1,.int .i64 b2] (au.next+14) (hS au)=some (.int .i64 cU,(hS au))∧dk env Builtin.max {toList:=[3,3]} [.int .i64 dc,.int .i64 cU] (au.next+15) (hS au)=some (.int .i64 dY,(hS au))∧aV env bz (au.next+18) (a1 [(126,.ptr (some ⟨ql,0,0+j,3,5⟩)),(124,.int .i64 dY)]) (hS au) (Op.store 3 (Operand.tmp 126) (Operand.tmp 124))=some (J.tuple [],bc)∧ad B (bc.next) ((-9223372036854775808≤(j:Int)+1∧(j:Int)+1≤9223372036854775807)∧ai .normal [(0,.slice ro N rc),(1,.slice co C cc),(2,.int .i64 w),(10,(dU M ql)),(32,.int .i64 (M:Int)),(33,.int .i64 ((j:Int)+1))] (I.mk (bc.next+2) (I.aj bc))))))))))))))) :
 ∃e ah U,aR Tryz.prog aq B 131 (aY Tryz.prog 22 1) [(0,.slice ro N rc),(1,.slice co C cc),(2,.int .i64 w),(10,(.slice (some ⟨ql,0,0,0,5⟩) M M)),(32,.int .i64 M),(33,.int .i64 j)] H e ah U∧ai e ah U :=
 b0 bg mixed bq (hs:= .aa (.val 9000 (.bool true)) (.aa (.val 11003 (.bool true)) (.aa (.val 11007 (.ptr (some ⟨q,ver,off+j,0,5⟩))) (.aa (.val 11008 ((cZ k n d aE mx))) (.aa (.val 11009 (.bool true)) (.aa (.val 12004 (.ptr (some ⟨q,ver,off+j,0,5⟩))) (.aa (.val 12005 ((cZ k n d aE mx))) (.aa (.val 12006 (.ptr (some ⟨ql,0,0+j,0,5⟩))) (.aa (.act 12007 (.tuple []) fun x=>H1) (.aa (.val 13002 (.ptr (some ⟨ql,0,0+j,0,5⟩))) (.aa (.val 13004 (.int .i8 k2)) (.aa (.val 13005 (.bool false)) (.aa (.val 14002 (.ptr (some ⟨ql,0,0+j,0,5⟩))) (.aa (.act 15003 (.tuple []) fun x=>af) (.aa (.keep [0,1,2,10,11,12,32,33,66,67,68]) (.aa (.loop [(0,.slice ro N rc),(1,.slice co C cc),(2,.int .i64 w),(10,(dU M ql)),(11,.int .i64 (j:Int)),(12,.ptr (some ⟨ql,0,0+j,0,5⟩)),(32,.int .i64 (M:Int)),(33,.int .i64 (j:Int))] ax (.exit 4)) (.aa (.cI 21004 (.int .i64 n2)) (.aa (.cI 21008 (.int .i64 dc)) (.aa (.val 21009 (.int .i64 b2)) (.aa (.act 21012 (.tuple []) fun x=>au) (.aa (.val 22003 (.int .i64 dQ)) (.aa (.val 22004 (.bool false)) (.aa (.cI 24004 (.int .i64 dc)) (.aa (.cI 24008 (.int .i64 b2)) (.aa (.val 24009 (.int .i64 cU)) (.aa (.val 24010 (.int .i64 dY)) (.aa (.act 24013 (.tuple []) fun x=>bc) (an 25000 .nil)))))))))))))))))))))))))))) (keep:=[0,1,2,10,32,33]) (by kernel_rfl) aG
theorem U9(H H1 af ax au aU bc:I)(B N rc C cc M ql q ver off j:Nat)(ro co:Option aO)(w k n d aE mx k2 n2 dc dQ b2 cY cU dY:Int)(ai:bx→a6→I→Prop)(aG:ad B (H.next) (some (J.bool (decide ((j:Int)<(M:Int))))=some (J.bool true)∧ad B (H.next+1) (ad B (H.next+3) (some (J.bool (decide ((j:Int)<(C:Int))))=some (J.bool true)∧bb env.D 27 (.slice co C cc) (.int .i64 (j:Int))=some (J.ptr (some ⟨q,ver,off+j,0,5⟩))∧aQ env.D 65 ⟨q,ver,off+j,0,5⟩ (I.mk (H.next+14) (H.2))=some ((cZ k n d aE mx))∧bY Tryz.prog aq 47 [(cZ k n d aE mx)] (I.mk (H.next+14) (H.2)) (.bool false) (I.mk (H.next+14) (H.2))∧ad B (H.next+14) (bb env.D 27 ((dU M ql)) (.int .i64 (j:Int))=some (J.ptr (some ⟨ql,0,0+j,0,5⟩))∧aQ env.D 35 ⟨ql,0,0+j,0,5⟩ (e5 H)=some (.int .i8 k2)∧some (J.bool (k2 != 0))=some (J.bool true)∧ad B (H.next+20) ((-9223372036854775808≤(j:Int)+1∧(j:Int)+1≤9223372036854775807)∧ai .normal [(0,.slice ro N rc),(1,.slice co C cc),(2,.int .i64 w),(10,(dU M ql)),(32,.int .i64 (M:Int)),(33,.int .i64 ((j:Int)+1))] (I.mk (H.next+20+2) (I.aj (I.mk (H.next+14+6) (I.aj (I.mk (H.next+3+11) (I.aj (I.mk (H.next+1+2) (I.aj (I.mk (H.next+1) (I.aj H)))))))))))))))) :
 ∃e ah U,aR Tryz.prog aq B 131 (aY Tryz.prog 22 1) [(0,.slice ro N rc),(1,.slice co C cc),(2,.int .i64 w),(10,(.slice (some ⟨ql,0,0,0,5⟩) M M)),(32,.int .i64 M),(33,.int .i64 j)] H e ah U∧ai e ah U :=
 b0 bg mixed bq (hs:= .aa (.val 9000 (.bool true)) (.aa (.val 11003 (.bool true)) (.aa (.val 11007 (.ptr (some ⟨q,ver,off+j,0,5⟩))) (.aa (.val 11008 ((cZ k n d aE mx))) (.aa (.val 11009 (.bool false)) (.aa (.val 13002 (.ptr (some ⟨ql,0,0+j,0,5⟩))) (.aa (.val 13004 (.int .i8 k2)) (.aa (.val 13005 (.bool true)) (an 25000 .nil))))))))) (keep:=[0,1,2,10,32,33]) (by kernel_rfl) aG
theorem U'(H H1 af ax au aU bc:I)(B N rc C cc M ql q ver off j:Nat)(ro co:Option aO)(w k n d aE mx k2 n2 dc dQ b2 cY cU dY:Int)(ai:bx→a6→I→Prop)(aG:ad B (H.next) (some (J.bool (decide ((j:Int)<(M:Int))))=some (J.bool true)∧ad B (H.next+1) (ad B (H.next+3) (some (J.bool (decide ((j:Int)<(C:Int))))=some (J.bool true)∧bb env.D 27 (.slice co C cc) (.int .i64 (j:Int))=some (J.ptr (some ⟨q,ver,off+j,0,5⟩))∧aQ env.D 65 ⟨q,ver,off+j,0,5⟩ (I.mk (H.next+14) (H.2))=some ((cZ k n d aE mx))∧bY Tryz.prog aq 47 [(cZ k n d aE mx)] (I.mk (H.next+14) (H.2)) (.bool false) (I.mk (H.next+14) (H.2))∧ad B (H.next+14) (bb env.D 27 ((dU M ql)) (.int .i64 (j:Int))=some (J.ptr (some ⟨ql,0,0+j,0,5⟩))∧aQ env.D 35 ⟨ql,0,0+j,0,5⟩ (e5 H)=some (.int .i8 k2)∧some (J.bool (k2 != 0))=some (J.bool false)∧ad B (H.next+20) (bb env.D 27 ((dU M ql)) (.int .i64 (j:Int))=some (J.ptr (some ⟨ql,0,0+j,0,5⟩))∧ad B (H.next+24) (aV env bz (H.next+27) (a1 [(65,.ptr (some ⟨ql,0,0+j,0,5⟩))]) (I.mk (H.next+28) (H.2)) (Op.store 35 (Operand.tmp 65) (Operand.const (Value.int IntKind.i8 (1))))=some (J.tuple [],af)∧ad B (af.next) (aR Tryz.prog aq B 131 (Code.loop (aY Tryz.prog 22 2)) [(0,.slice ro N rc),(1,.slice co C cc),(2,.int .i64 w),(10,(dU M ql)),(11,.int .i64 (j:Int)),(12,.ptr (some ⟨ql,0,0+j,0,5⟩)),(32,.int .i64 (M:Int)),(33,.int .i64 (j:Int)),(66,.slice ro N rc),(67,.int .i64 (N:Int)),(68,.int .i64 0)] (I.mk (af.next+3) (I.aj af)) (.exit 4) [(0,.slice ro N rc),(1,.slice co C cc),(2,.int .i64 w),(10,(dU M ql)),(11,.int .i64 (j:Int)),(12,.ptr (some ⟨ql,0,0+j,0,5⟩)),(32,.int .i64 (M:Int)),(33,.int .i64 (j:Int))] ax∧ad B (ax.next) (aQ env.D 3 ⟨ql,0,0+j,1,5⟩ (fI ax)=some (.int .i64 n2)∧ql<ax.next∧aQ env.D 3 ⟨ql,0,0+j,3,5⟩ (fI ax)=some (.int .i64 dc)∧ql<ax.next∧dk env Builtin.max {toList:=[3,3]} [.int .i64 n2,.int .i64 dc] (ax.next+9) (fI ax)=some (.int .i64 b2,(fI ax))∧aV env bz (ax.next+12) (a1 [(96,.ptr (some ⟨ql,0,0+j,1,5⟩)),(94,.int .i64 b2)]) (fI ax) (Op.store 3 (Operand.tmp 96) (Operand.tmp 94))=some (J.tuple [],au)∧ad B (au.next) (aQ env.D 3 ⟨ql,0,0+j,4,5⟩ (I.mk (au.next+5) (au.2))=some (.int .i64 dQ)∧some (J.bool (decide (dQ>0)))=some (J.bool true)∧ad B (au.next+5) (aQ env.D 3 ⟨ql,0,0+j,1,5⟩ (kj au)=some (.int .i64 b2)∧ql<au.next+5∧aQ env.D 3 ⟨ql,0,0+j,4,5⟩ (kj au)=some (.int .i64 dQ)∧ql<au.next+5∧dk env Builtin.min {toList:=[3,3]} [.int .i64 b2,.int .i64 dQ] (au.next+14) (kj au)=some (.int .i64 cY,(kj au))∧aV env bz (au.next+17) (a1 [(113,.ptr (some ⟨ql,0,0+j,1,5⟩)),(111,.int .i64 cY)]) (kj au) (Op.store 3 (Operand.tmp 113) (Operand.tmp 111))=some (J.tuple [],aU)∧ad B (aU.next) (aQ env.D 3 ⟨ql,0,0+j,3,5⟩ (fy aU)=some (.int .i64 dc)∧ql<aU.next∧aQ env.D 3 ⟨ql,0,0+j,1,5⟩ (fy aU)=some (.int .i64 cY)∧ql<aU.next∧dk env Builtin.min {toList:=[3,3]} [.int .i64 1,.int .i64 cY] (aU.next+9) (fy aU)=some (.int .i64 cU,(fy aU))∧dk env Builtin.max {toList:=[3,3]} [.int .i64 dc,.int .i64 cU] (aU.next+10) (fy aU)=some (.int .i64 dY,(fy aU))∧aV env bz (aU.next+13) (a1 [(126,.ptr (some ⟨ql,0,0+j,3,5⟩)),(124,.int .i64 dY)]) (fy aU) (Op.store 3 (Operand.tmp 126) (Operand.tmp 124))=some (J.tuple [],bc)∧ad B (bc.next) ((-9223372036854775808≤(j:Int)+1∧(j:Int)+1≤9223372036854775807)∧ai .normal [(0,.slice ro N rc),(1,.slice co C cc),(2,.int .i64 w),(10,(dU M ql)),(32,.int .i64 (M:Int)),(33,.int .i64 ((j:Int)+1))] (I.mk (bc.next+2) (I.aj bc))))))))))))))) :
 ∃e ah U,aR Tryz.prog aq B 131 (aY Tryz.prog 22 1) [(0,.slice ro N rc),(1,.slice co C cc),(2,.int .i64 w),(10,(.slice (some ⟨ql,0,0,0,5⟩) M M)),(32,.int .i64 M),(33,.int .i64 j)] H e ah U∧ai e ah U :=
 b0 bg mixed bq (hs:= .aa (.val 9000 (.bool true)) (.aa (.val 11003 (.bool true)) (.aa (.val 11007 (.ptr (some ⟨q,ver,off+j,0,5⟩))) (.aa (.val 11008 ((cZ k n d aE mx))) (.aa (.val 11009 (.bool false)) (.aa (.val 13002 (.ptr (some ⟨ql,0,0+j,0,5⟩))) (.aa (.val 13004 (.int .i8 k2)) (.aa (.val 13005 (.bool false)) (.aa (.val 14002 (.ptr (some ⟨ql,0,0+j,0,5⟩))) (.aa (.act 15003 (.tuple []) fun x=>af) (.aa (.keep [0,1,2,10,11,12,32,33,66,67,68]) (.aa (.loop [(0,.slice ro N rc),(1,.slice co C cc),(2,.int .i64 w),(10,(dU M ql)),(11,.int .i64 (j:Int)),(12,.ptr (some ⟨ql,0,0+j,0,5⟩)),(32,.int .i64 (M:Int)),(33,.int .i64 (j:Int))] ax (.exit 4)) (.aa (.cI 21004 (.int .i64 n2)) (.aa (.cI 21008 (.int .i64 dc)) (.aa (.val 21009 (.int .i64 b2)) (.aa (.act 21012 (.tuple []) fun x=>au) (.aa (.val 22003 (.int .i64 dQ)) (.aa (.val 22004 (.bool true)) (.aa (.cI 23004 (.int .i64 b2)) (.aa (.cI 23008 (.int .i64 dQ)) (.aa (.val 23009 (.int .i64 cY)) (.aa (.act 23012 (.tuple []) fun x=>aU) (.aa (.cI 24004 (.int .i64 dc)) (.aa (.cI 24008 (.int .i64 cY)) (.aa (.val 24009 (.int .i64 cU)) (.aa (.val 24010 (.int .i64 dY)) (.aa (.act 24013 (.tuple []) fun x=>bc) (an 25000 .nil)))))))))))))))))))))))))))) (keep:=[0,1,2,10,32,33]) (by kernel_rfl) aG
theorem Va(H H1 af ax au aU bc:I)(B N rc C cc M ql q ver off j:Nat)(ro co:Option aO)(w k n d aE mx k2 n2 dc dQ b2 cY cU dY:Int)(ai:bx→a6→I→Prop)(aG:ad B (H.next) (some (J.bool (decide ((j:Int)<(M:Int))))=some (J.bool true)∧ad B (H.next+1) (ad B (H.next+3) (some (J.bool (decide ((j:Int)<(C:Int))))=some (J.bool true)∧bb env.D 27 (.slice co C cc) (.int .i64 (j:Int))=some (J.ptr (some ⟨q,ver,off+j,0,5⟩))∧aQ env.D 65 ⟨q,ver,off+j,0,5⟩ (I.mk (H.next+14) (H.2))=some ((cZ k n d aE mx))∧bY Tryz.prog aq 47 [(cZ k n d aE mx)] (I.mk (H.next+14) (H.2)) (.bool false) (I.mk (H.next+14) (H.2))∧ad B (H.next+14) (bb env.D 27 ((dU M ql)) (.int .i64 (j:Int))=some (J.ptr (some ⟨ql,0,0+j,0,5⟩))∧aQ env.D 35 ⟨ql,0,0+j,0,5⟩ (e5 H)=some (.int .i8 k2)∧some (J.bool (k2 != 0))=some (J.bool false)∧ad B (H.next+20) (bb env.D 27 ((dU M ql)) (.int .i64 (j:Int))=some (J.ptr (some ⟨ql,0,0+j,0,5⟩))∧ad B (H.next+24) (aV env bz (H.next+27) (a1 [(65,.ptr (some ⟨ql,0,0+j,0,5⟩))]) (I.mk (H.next+28) (H.2)) (Op.store 35 (Operand.tmp 65) (Operand.const (Value.int IntKind.i8 (1))))=some (J.tuple [],af)∧ad B (af.next) (aR Tryz.prog aq B 131 (Code.loop (aY Tryz.prog 22 2)) [(0,.slice ro N rc),(1,.slice co C cc),(2,.int .i64 w),(10,(dU M ql)),(11,.int .i64 (j:Int)),(12,.ptr (some ⟨ql,0,0+j,0,5⟩)),(32,.int .i64 (M:Int)),(33,.int .i64 (j:Int)),(66,.slice ro N rc),(67,.int .i64 (N:Int)),(68,.int .i64 0)] (I.mk (af.next+3) (I.aj af)) (.exit 4) [(0,.slice ro N rc),(1,.slice co C cc),(2,.int .i64 w),(10,(dU M ql)),(11,.int .i64 (j:Int)),(12,.ptr (some ⟨ql,0,0+j,0,5⟩)),(32,.int .i64 (M:Int)),(33,.int .i64 (j:Int))] ax∧ad B (ax.next) (aQ env.D 3 ⟨ql,0,0+j,1,5⟩ (fI ax)=some (.int .i64 n2)∧ql<ax.next∧aQ env.D 3 ⟨ql,0,0+j,3,5⟩ (fI ax)=some (.int .i64 dc)∧ql<ax.next∧dk env Builtin.max {toList:=[3,3]} [.int .i64 n2,.int .i64 dc] (ax.next+9) (fI ax)=some (.int .i64 b2,(fI ax))∧aV env bz (ax.next+12) (a1 [(96,.ptr (some ⟨ql,0,0+j,1,5⟩)),(94,.int .i64 b2)]) (fI ax) (Op.store 3 (Operand.tmp 96) (Operand.tmp 94))=some (J.tuple [],au)∧ad B (au.next) (aQ env.D 3 ⟨ql,0,0+j,4,5⟩ (I.mk (au.next+5) (au.2))=some (.int .i64 dQ)∧some (J.bool (decide (dQ>0)))=some (J.bool false)∧ad B (au.next+5) (aQ env.D 3 ⟨ql,0,0+j,3,5⟩ (hS au)=some (.int .i64 dc)∧ql<au.next+5∧aQ env.D 3 ⟨ql,0,0+j,1,5⟩ (hS au)=some (.int .i64 b2)∧ql<au.next+5∧dk env Builtin.min {toList:=[3,3]} [.int .i64 1,.int .i64 b2] (au.next+14) (hS au)=some (.int .i64 cU,(hS au))∧dk env Builtin.max {toList:=[3,3]} [.int .i64 dc,.int .i64 cU] (au.next+15) (hS au)=some (.int .i64 dY,(hS au))∧aV env bz (au.next+18) (a1 [(126,.ptr (some ⟨ql,0,0+j,3,5⟩)),(124,.int .i64 dY)]) (hS au) (Op.store 3 (Operand.tmp 126) (Operand.tmp 124))=some (J.tuple [],bc)∧ad B (bc.next) ((-9223372036854775808≤(j:Int)+1∧(j:Int)+1≤9223372036854775807)∧ai .normal [(0,.slice ro N rc),(1,.slice co C cc),(2,.int .i64 w),(10,(dU M ql)),(32,.int .i64 (M:Int)),(33,.int .i64 ((j:Int)+1))] (I.mk (bc.next+2) (I.aj bc)))))))))))))) :
 ∃e ah U,aR Tryz.prog aq B 131 (aY Tryz.prog 22 1) [(0,.slice ro N rc),(1,.slice co C cc),(2,.int .i64 w),(10,(.slice (some ⟨ql,0,0,0,5⟩) M M)),(32,.int .i64 M),(33,.int .i64 j)] H e ah U∧ai e ah U :=
 b0 bg mixed bq (hs:= .aa (.val 9000 (.bool true)) (.aa (.val 11003 (.bool true)) (.aa (.val 11007 (.ptr (some ⟨q,ver,off+j,0,5⟩))) (.aa (.val 11008 ((cZ k n d aE mx))) (.aa (.val 11009 (.bool false)) (.aa (.val 13002 (.ptr (some ⟨ql,0,0+j,0,5⟩))) (.aa (.val 13004 (.int .i8 k2)) (.aa (.val 13005 (.bool false)) (.aa (.val 14002 (.ptr (some ⟨ql,0,0+j,0,5⟩))) (.aa (.act 15003 (.tuple []) fun x=>af) (.aa (.keep [0,1,2,10,11,12,32,33,66,67,68]) (.aa (.loop [(0,.slice ro N rc),(1,.slice co C cc),(2,.int .i64 w),(10,(dU M ql)),(11,.int .i64 (j:Int)),(12,.ptr (some ⟨ql,0,0+j,0,5⟩)),(32,.int .i64 (M:Int)),(33,.int .i64 (j:Int))] ax (.exit 4)) (.aa (.cI 21004 (.int .i64 n2)) (.aa (.cI 21008 (.int .i64 dc)) (.aa (.val 21009 (.int .i64 b2)) (.aa (.act 21012 (.tuple []) fun x=>au) (.aa (.val 22003 (.int .i64 dQ)) (.aa (.val 22004 (.bool false)) (.aa (.cI 24004 (.int .i64 dc)) (.aa (.cI 24008 (.int .i64 b2)) (.aa (.val 24009 (.int .i64 cU)) (.aa (.val 24010 (.int .i64 dY)) (.aa (.act 24013 (.tuple []) fun x=>bc) (an 25000 .nil)))))))))))))))))))))))) (keep:=[0,1,2,10,32,33]) (by kernel_rfl) aG
theorem Vb(H H1 af ax au aU bc:I)(B N rc C cc M ql q ver off j:Nat)(ro co:Option aO)(w k n d aE mx k2 n2 dc dQ b2 cY cU dY:Int)(ai:bx→a6→I→Prop)(aG:ad B (H.next) (some (J.bool (decide ((j:Int)<(M:Int))))=some (J.bool true)∧ad B (H.next+1) (ad B (H.next+3) (some (J.bool (decide ((j:Int)<(C:Int))))=some (J.bool false)∧ad B (H.next+14) (bb env.D 27 ((dU M ql)) (.int .i64 (j:Int))=some (J.ptr (some ⟨ql,0,0+j,0,5⟩))∧aQ env.D 35 ⟨ql,0,0+j,0,5⟩ (e5 H)=some (.int .i8 k2)∧some (J.bool (k2 != 0))=some (J.bool true)∧ad B (H.next+20) ((-9223372036854775808≤(j:Int)+1∧(j:Int)+1≤9223372036854775807)∧ai .normal [(0,.slice ro N rc),(1,.slice co C cc),(2,.int .i64 w),(10,(dU M ql)),(32,.int .i64 (M:Int)),(33,.int .i64 ((j:Int)+1))] (I.mk (H.next+20+2) (I.aj (I.mk (H.next+14+6) (I.aj (I.mk (H.next+3+11) (I.aj (I.mk (H.next+1+2) (I.aj (I.mk (H.next+1) (I.aj H)))))))))))))))) :
 ∃e ah U,aR Tryz.prog aq B 131 (aY Tryz.prog 22 1) [(0,.slice ro N rc),(1,.slice co C cc),(2,.int .i64 w),(10,(.slice (some ⟨ql,0,0,0,5⟩) M M)),(32,.int .i64 M),(33,.int .i64 j)] H e ah U∧ai e ah U :=
 b0 bg mixed bq (hs:= .aa (.val 9000 (.bool true)) (.aa (.val 11003 (.bool false)) (.aa (.val 13002 (.ptr (some ⟨ql,0,0+j,0,5⟩))) (.aa (.val 13004 (.int .i8 k2)) (.aa (.val 13005 (.bool true)) (an 25000 .nil)))))) (keep:=[0,1,2,10,32,33]) (by kernel_rfl) aG
theorem Vc(H H1 af ax au aU bc:I)(B N rc C cc M ql q ver off j:Nat)(ro co:Option aO)(w k n d aE mx k2 n2 dc dQ b2 cY cU dY:Int)(ai:bx→a6→I→Prop)(aG:ad B (H.next) (some (J.bool (decide ((j:Int)<(M:Int))))=some (J.bool true)∧ad B (H.next+1) (ad B (H.next+3) (some (J.bool (decide ((j:Int)<(C:Int))))=some (J.bool false)∧ad B (H.next+14) (bb env.D 27 ((dU M ql)) (.int .i64 (j:Int))=some (J.ptr (some ⟨ql,0,0+j,0,5⟩))∧aQ env.D 35 ⟨ql,0,0+j,0,5⟩ (e5 H)=some (.int .i8 k2)∧some (J.bool (k2 != 0))=some (J.bool false)∧ad B (H.next+20) (bb env.D 27 ((dU M ql)) (.int .i64 (j:Int))=some (J.ptr (some ⟨ql,0,0+j,0,5⟩))∧ad B (H.next+24) (aV env bz (H.next+27) (a1 [(65,.ptr (some ⟨ql,0,0+j,0,5⟩))]) (I.mk (H.next+28) (H.2)) (Op.store 35 (Operand.tmp 65) (Operand.const (Value.int IntKind.i8 (1))))=some (J.tuple [],af)∧ad B (af.next) (aR Tryz.prog aq B 131 (Code.loop (aY Tryz.prog 22 2)) [(0,.slice ro N rc),(1,.slice co C cc),(2,.int .i64 w),(10,(dU M ql)),(11,.int .i64 (j:Int)),(12,.ptr (some ⟨ql,0,0+j,0,5⟩)),(32,.int .i64 (M:Int)),(33,.int .i64 (j:Int)),(66,.slice ro N rc),(67,.int .i64 (N:Int)),(68,.int .i64 0)] (I.mk (af.next+3) (I.aj af)) (.exit 4) [(0,.slice ro N rc),(1,.slice co C cc),(2,.int .i64 w),(10,(dU M ql)),(11,.int .i64 (j:Int)),(12,.ptr (some ⟨ql,0,0+j,0,5⟩)),(32,.int .i64 (M:Int)),(33,.int .i64 (j:Int))] ax∧ad B (ax.next) (aQ env.D 3 ⟨ql,0,0+j,1,5⟩ (fI ax)=some (.int .i64 n2)∧ql<ax.next∧aQ env.D 3 ⟨ql,0,0+j,3,5⟩ (fI ax)=some (.int .i64 dc)∧ql<ax.next∧dk env Builtin.max {toList:=[3,3]} [.int .i64 n2,.int .i64 dc] (ax.next+9) (fI ax)=some (.int .i64 b2,(fI ax))∧aV env bz (ax.next+12) (a1 [(96,.ptr (some ⟨ql,0,0+j,1,5⟩)),(94,.int .i64 b2)]) (fI ax) (Op.store 3 (Operand.tmp 96) (Operand.tmp 94))=some (J.tuple [],au)∧ad B (au.next) (aQ env.D 3 ⟨ql,0,0+j,4,5⟩ (I.mk (au.next+5) (au.2))=some (.int .i64 dQ)∧some (J.bool (decide (dQ>0)))=some (J.bool true)∧ad B (au.next+5) (aQ env.D 3 ⟨ql,0,0+j,1,5⟩ (kj au)=some (.int .i64 b2)∧ql<au.next+5∧aQ env.D 3 ⟨ql,0,0+j,4,5⟩ (kj au)=some (.int .i64 dQ)∧ql<au.next+5∧dk env Builtin.min {toList:=[3,3]} [.int .i64 b2,.int .i64 dQ] (au.next+14) (kj au)=some (.int .i64 cY,(kj au))∧aV env bz (au.next+17) (a1 [(113,.ptr (some ⟨ql,0,0+j,1,5⟩)),(111,.int .i64 cY)]) (kj au) (Op.store 3 (Operand.tmp 113) (Operand.tmp 111))=some (J.tuple [],aU)∧ad B (aU.next) (aQ env.D 3 ⟨ql,0,0+j,3,5⟩ (fy aU)=some (.int .i64 dc)∧ql<aU.next∧aQ env.D 3 ⟨ql,0,0+j,1,5⟩ (fy aU)=some (.int .i64 cY)∧ql<aU.next∧dk env Builtin.min {toList:=[3,3]} [.int .i64 1,.int .i64 cY] (aU.next+9) (fy aU)=some (.int .i64 cU,(fy aU))∧dk env Builtin.max {toList:=[3,3]} [.int .i64 dc,.int .i64 cU] (aU.next+10) (fy aU)=some (.int .i64 dY,(fy aU))∧aV env bz (aU.next+13) (a1 [(126,.ptr (some ⟨ql,0,0+j,3,5⟩)),(124,.int .i64 dY)]) (fy aU) (Op.store 3 (Operand.tmp 126) (Operand.tmp 124))=some (J.tuple [],bc)∧ad B (bc.next) ((-9223372036854775808≤(j:Int)+1∧(j:Int)+1≤9223372036854775807)∧ai .normal [(0,.slice ro N rc),(1,.slice co C cc),(2,.int .i64 w),(10,(dU M ql)),(32,.int .i64 (M:Int)),(33,.int .i64 ((j:Int)+1))] (I.mk (bc.next+2) (I.aj bc))))))))))))))) :
 ∃e ah U,aR Tryz.prog aq B 131 (aY Tryz.prog 22 1) [(0,.slice ro N rc),(1,.slice co C cc),(2,.int .i64 w),(10,(.slice (some ⟨ql,0,0,0,5⟩) M M)),(32,.int .i64 M),(33,.int .i64 j)] H e ah U∧ai e ah U :=
 b0 bg mixed bq (hs:= .aa (.val 9000 (.bool true)) (.aa (.val 11003 (.bool false)) (.aa (.val 13002 (.ptr (some ⟨ql,0,0+j,0,5⟩))) (.aa (.val 13004 (.int .i8 k2)) (.aa (.val 13005 (.bool false)) (.aa (.val 14002 (.ptr (some ⟨ql,0,0+j,0,5⟩))) (.aa (.act 15003 (.tuple []) fun x=>af) (.aa (.keep [0,1,2,10,11,12,32,33,66,67,68]) (.aa (.loop [(0,.slice ro N rc),(1,.slice co C cc),(2,.int .i64 w),(10,(dU M ql)),(11,.int .i64 (j:Int)),(12,.ptr (some ⟨ql,0,0+j,0,5⟩)),(32,.int .i64 (M:Int)),(33,.int .i64 (j:Int))] ax (.exit 4)) (.aa (.cI 21004 (.int .i64 n2)) (.aa (.cI 21008 (.int .i64 dc)) (.aa (.val 21009 (.int .i64 b2)) (.aa (.act 21012 (.tuple []) fun x=>au) (.aa (.val 22003 (.int .i64 dQ)) (.aa (.val 22004 (.bool true)) (.aa (.cI 23004 (.int .i64 b2)) (.aa (.cI 23008 (.int .i64 dQ)) (.aa (.val 23009 (.int .i64 cY)) (.aa (.act 23012 (.tuple []) fun x=>aU) (.aa (.cI 24004 (.int .i64 dc)) (.aa (.cI 24008 (.int .i64 cY)) (.aa (.val 24009 (.int .i64 cU)) (.aa (.val 24010 (.int .i64 dY)) (.aa (.act 24013 (.tuple []) fun x=>bc) (an 25000 .nil))))))))))))))))))))))))) (keep:=[0,1,2,10,32,33]) (by kernel_rfl) aG
theorem Vd(H H1 af ax au aU bc:I)(B N rc C cc M ql q ver off j:Nat)(ro co:Option aO)(w k n d aE mx k2 n2 dc dQ b2 cY cU dY:Int)(ai:bx→a6→I→Prop)(aG:ad B (H.next) (some (J.bool (decide ((j:Int)<(M:Int))))=some (J.bool true)∧ad B (H.next+1) (ad B (H.next+3) (some (J.bool (decide ((j:Int)<(C:Int))))=some (J.bool false)∧ad B (H.next+14) (bb env.D 27 ((dU M ql)) (.int .i64 (j:Int))=some (J.ptr (some ⟨ql,0,0+j,0,5⟩))∧aQ env.D 35 ⟨ql,0,0+j,0,5⟩ (e5 H)=some (.int .i8 k2)∧some (J.bool (k2 != 0))=some (J.bool false)∧ad B (H.next+20) (bb env.D 27 ((dU M ql)) (.int .i64 (j:Int))=some (J.ptr (some ⟨ql,0,0+j,0,5⟩))∧ad B (H.next+24) (aV env bz (H.next+27) (a1 [(65,.ptr (some ⟨ql,0,0+j,0,5⟩))]) (I.mk (H.next+28) (H.2)) (Op.store 35 (Operand.tmp 65) (Operand.const (Value.int IntKind.i8 (1))))=some (J.tuple [],af)∧ad B (af.next) (aR Tryz.prog aq B 131 (Code.loop (aY Tryz.prog 22 2)) [(0,.slice ro N rc),(1,.slice co C cc),(2,.int .i64 w),(10,(dU M ql)),(11,.int .i64 (j:Int)),(12,.ptr (some ⟨ql,0,0+j,0,5⟩)),(32,.int .i64 (M:Int)),(33,.int .i64 (j:Int)),(66,.slice ro N rc),(67,.int .i64 (N:Int)),(68,.int .i64 0)] (I.mk (af.next+3) (I.aj af)) (.exit 4) [(0,.slice ro N rc),(1,.slice co C cc),(2,.int .i64 w),(10,(dU M ql)),(11,.int .i64 (j:Int)),(12,.ptr (some ⟨ql,0,0+j,0,5⟩)),(32,.int .i64 (M:Int)),(33,.int .i64 (j:Int))] ax∧ad B (ax.next) (aQ env.D 3 ⟨ql,0,0+j,1,5⟩ (fI ax)=some (.int .i64 n2)∧ql<ax.next∧aQ env.D 3 ⟨ql,0,0+j,3,5⟩ (fI ax)=some (.int .i64 dc)∧ql<ax.next∧dk env Builtin.max {toList:=[3,3]} [.int .i64 n2,.int .i64 dc] (ax.next+9) (fI ax)=some (.int .i64 b2,(fI ax))∧aV env bz (ax.next+12) (a1 [(96,.ptr (some ⟨ql,0,0+j,1,5⟩)),(94,.int .i64 b2)]) (fI ax) (Op.store 3 (Operand.tmp 96) (Operand.tmp 94))=some (J.tuple [],au)∧ad B (au.next) (aQ env.D 3 ⟨ql,0,0+j,4,5⟩ (I.mk (au.next+5) (au.2))=some (.int .i64 dQ)∧some (J.bool (decide (dQ>0)))=some (J.bool false)∧ad B (au.next+5) (aQ env.D 3 ⟨ql,0,0+j,3,5⟩ (hS au)=some (.int .i64 dc)∧ql<au.next+5∧aQ env.D 3 ⟨ql,0,0+j,1,5⟩ (hS au)=some (.int .i64 b2)∧ql<au.next+5∧dk env Builtin.min {toList:=[3,3]} [.int .i64 1,.int .i64 b2] (au.next+14) (hS au)=some (.int .i64 cU,(hS au))∧dk env Builtin.max {toList:=[3,3]} [.int .i64 dc,.int .i64 cU] (au.next+15) (hS au)=some (.int .i64 dY,(hS au))∧aV env bz (au.next+18) (a1 [(126,.ptr (some ⟨ql,0,0+j,3,5⟩)),(124,.int .i64 dY)]) (hS au) (Op.store 3 (Operand.tmp 126) (Operand.tmp 124))=some (J.tuple [],bc)∧ad B (bc.next) ((-9223372036854775808≤(j:Int)+1∧(j:Int)+1≤9223372036854775807)∧ai .normal [(0,.slice ro N rc),(1,.slice co C cc),(2,.int .i64 w),(10,(dU M ql)),(32,.int .i64 (M:Int)),(33,.int .i64 ((j:Int)+1))] (I.mk (bc.next+2) (I.aj bc)))))))))))))) :
 ∃e ah U,aR Tryz.prog aq B 131 (aY Tryz.prog 22 1) [(0,.slice ro N rc),(1,.slice co C cc),(2,.int .i64 w),(10,(.slice (some ⟨ql,0,0,0,5⟩) M M)),(32,.int .i64 M),(33,.int .i64 j)] H e ah U∧ai e ah U :=
 b0 bg mixed bq (hs:= .aa (.val 9000 (.bool true)) (.aa (.val 11003 (.bool false)) (.aa (.val 13002 (.ptr (some ⟨ql,0,0+j,0,5⟩))) (.aa (.val 13004 (.int .i8 k2)) (.aa (.val 13005 (.bool false)) (.aa (.val 14002 (.ptr (some ⟨ql,0,0+j,0,5⟩))) (.aa (.act 15003 (.tuple []) fun x=>af) (.aa (.keep [0,1,2,10,11,12,32,33,66,67,68]) (.aa (.loop [(0,.slice ro N rc),(1,.slice co C cc),(2,.int .i64 w),(10,(dU M ql)),(11,.int .i64 (j:Int)),(12,.ptr (some ⟨ql,0,0+j,0,5⟩)),(32,.int .i64 (M:Int)),(33,.int .i64 (j:Int))] ax (.exit 4)) (.aa (.cI 21004 (.int .i64 n2)) (.aa (.cI 21008 (.int .i64 dc)) (.aa (.val 21009 (.int .i64 b2)) (.aa (.act 21012 (.tuple []) fun x=>au) (.aa (.val 22003 (.int .i64 dQ)) (.aa (.val 22004 (.bool false)) (.aa (.cI 24004 (.int .i64 dc)) (.aa (.cI 24008 (.int .i64 b2)) (.aa (.val 24009 (.int .i64 cU)) (.aa (.val 24010 (.int .i64 dY)) (.aa (.act 24013 (.tuple []) fun x=>bc) (an 25000 .nil))))))))))))))))))))) (keep:=[0,1,2,10,32,33]) (by kernel_rfl) aG
theorem Ve(H H1 af ax au aU bc:I)(B N rc C cc M ql q ver off j:Nat)(ro co:Option aO)(w k n d aE mx k2 n2 dc dQ b2 cY cU dY:Int)(ai:bx→a6→I→Prop)(aG:ad B (H.next) (some (J.bool (decide ((j:Int)<(M:Int))))=some (J.bool false)∧ai (.exit 2) [(0,.slice ro N rc),(1,.slice co C cc),(2,.int .i64 w),(10,(dU M ql)),(32,.int .i64 (M:Int)),(33,.int .i64 (j:Int))] (I.mk (H.next+1) (I.aj H)))) :
 ∃e ah U,aR Tryz.prog aq B 131 (aY Tryz.prog 22 1) [(0,.slice ro N rc),(1,.slice co C cc),(2,.int .i64 w),(10,(.slice (some ⟨ql,0,0,0,5⟩) M M)),(32,.int .i64 M),(33,.int .i64 j)] H e ah U∧ai e ah U :=
 b0 bg mixed bq (hs:= .aa (.val 9000 (.bool false)) .nil) (keep:=[0,1,2,10,32,33]) (by kernel_rfl) aG
theorem Vf(H H1 af ax au:I)(N rc C cc M ql n2:Nat)(ro co:Option aO)(w:Int)(dR:J)(ai:J→I→Prop)(aG:ad (H.next) (H.next) (ad (H.next) (H.next+1) (ad (H.next) (H.next+4) (aR Tryz.prog aq (H.next) 131 (Code.loop (aY Tryz.prog 22 0)) [(0,.slice ro N rc),(1,.slice co C cc),(2,.int .i64 w),(7,.int .i64 (C:Int)),(17,.slice ro N rc),(18,.int .i64 (N:Int)),(19,.int .i64 0)] (I.mk (H.next+4+3) (I.aj (I.mk (H.next+1+3) (I.aj (I.mk (H.next+1) (I.aj H)))))) (.exit 0) [(0,.slice ro N rc),(1,.slice co C cc),(2,.int .i64 w),(7,.int .i64 (n2:Int))] H1∧ad (H.next) (H1.next) (dk env Builtin.min {toList:=[3,3]} [.int .i64 (n2:Int),.int .i64 64] (H1.next+1) (I.mk (H1.next+4) (H1.2))=some (.int .i64 (M:Int),(I.mk (H1.next+4) (H1.2)))∧aV env bz (H1.next+2) (a1 [(29,.int .i64 (M:Int))]) (I.mk (H1.next+4) (H1.2)) (Op.makeSlice 27 (Operand.tmp 29) (Operand.tmp 29))=some ((dU M ql),af)∧ad (H.next) (af.next) (aR Tryz.prog aq (H.next) 131 (Code.loop (aY Tryz.prog 22 1)) [(0,.slice ro N rc),(1,.slice co C cc),(2,.int .i64 w),(10,(dU M ql)),(32,.int .i64 (M:Int)),(33,.int .i64 0)] (I.mk (af.next+3) (I.aj af)) (.exit 2) [(2,.int .i64 w),(10,(dU M ql))] ax∧ad (H.next) (ax.next) (bY Tryz.prog aq 50 [(dU M ql),.int .i64 w,.int .i64 1] (I.mk (ax.next+4) (ax.2)) dR au∧cW (H.next) (au.next) (ai dR au)))))))) :
 ∃v U,aZ Tryz.prog aq 22 [.slice ro N rc,.slice co C cc,.int .i64 w] H v U∧ai v U :=
 cE bg mixed bq (hs:= .aa (.keep [0,1,2,7,17,18,19]) (.aa (.loop [(0,.slice ro N rc),(1,.slice co C cc),(2,.int .i64 w),(7,.int .i64 (n2:Int))] H1 (.exit 0)) (.aa (.val 7001 (.int .i64 (M:Int))) (.aa (.act 7002 ((dU M ql)) fun x=>af) (.aa (.keep [0,1,2,10,32,33]) (.aa (.loop [(2,.int .i64 w),(10,(dU M ql))] ax (.exit 2)) (.aa (.act 26002 dR fun x=>au) .nil))))))) (by kernel_rfl) aG
end Go.Proofs.YtjpfnbihopoeeaaGreatDoor
namespace Go.Proofs.YtjpfnbihopoeeaaGreatDoor
open Go.ba
theorem Vg(H:I)(B N rc m wc k m7 i n n2:Nat)(ro wo hj:Option aO)(w:Int)(p:aO)(ai:bx→a6→I→Prop)(aG:ad B (H.next) (some (J.bool (decide ((i:Int)<(N:Int))))=some (J.bool true)∧ad B (H.next+1) (ad B (H.next+3) (bb env.D 22 (.slice ro N rc) (.int .i64 (i:Int))=some (J.ptr (some p))∧aQ env.D 36 p (I.mk (H.next+11) (H.2))=some (J.slice hj k m7)∧dk env Builtin.max {toList:=[3,3]} [.int .i64 (n:Int),.int .i64 (k:Int)] (H.next+9) (I.mk (H.next+11) (H.2))=some (.int .i64 (n2:Int),(I.mk (H.next+11) (H.2)))∧ad B (H.next+11) ((-9223372036854775808≤(i:Int)+1∧(i:Int)+1≤9223372036854775807)∧ai .normal [(0,.slice ro N rc),(2,.int .i64 w),(7,.slice wo m wc),(8,.int .i64 (n2:Int)),(21,.int .i64 (N:Int)),(22,.int .i64 ((i:Int)+1))] (I.mk (H.next+11+2) (I.aj (I.mk (H.next+3+8) (I.aj (I.mk (H.next+1+2) (I.aj (I.mk (H.next+1) (I.aj H))))))))))))) :
 ∃e ah U,aR Tryz.prog aq B 66 (aY Tryz.prog 8 0) [(0,.slice ro N rc),(2,.int .i64 w),(7,.slice wo m wc),(8,.int .i64 n),(21,.int .i64 N),(22,.int .i64 i)] H e ah U∧ai e ah U :=
 b0 bg mixed bq (hs:= .aa (.val 6000 (.bool true)) (.aa (.val 8003 (.ptr (some p))) (.aa (.val 8004 (.slice hj k m7)) (.aa (.val 8006 (.int .i64 (n2:Int))) (an 9000 .nil))))) (keep:=[0,2,7,8,21,22]) (by kernel_rfl) aG
theorem Vh(H:I)(B N rc m wc k m7 i n n2:Nat)(ro wo hj:Option aO)(w:Int)(p:aO)(ai:bx→a6→I→Prop)(aG:ad B (H.next) (some (J.bool (decide ((i:Int)<(N:Int))))=some (J.bool false)∧ai (.exit 0) [(0,.slice ro N rc),(2,.int .i64 w),(7,.slice wo m wc),(8,.int .i64 (n:Int)),(21,.int .i64 (N:Int)),(22,.int .i64 (i:Int))] (I.mk (H.next+1) (I.aj H)))) :
 ∃e ah U,aR Tryz.prog aq B 66 (aY Tryz.prog 8 0) [(0,.slice ro N rc),(2,.int .i64 w),(7,.slice wo m wc),(8,.int .i64 n),(21,.int .i64 N),(22,.int .i64 i)] H e ah U∧ai e ah U :=
 b0 bg mixed bq (hs:= .aa (.val 6000 (.bool false)) .nil) (keep:=[0,2,7,8,21,22]) (by kernel_rfl) aG
theorem Vi(H:I)(B m wc i:Nat)(wo:Option aO)(w s x:Int)(p:aO)(ai:bx→a6→I→Prop)(aG:ad B (H.next) (some (J.bool (decide ((i:Int)<(m:Int))))=some (J.bool true)∧ad B (H.next+1) (ad B (H.next+3) (bb env.D 28 (.slice wo m wc) (.int .i64 (i:Int))=some (J.ptr (some p))∧aQ env.D 3 p (I.mk (H.next+8) (H.2))=some (.int .i64 x)∧some (J.bool (decide (x<0)))=some (J.bool false)∧ad B (H.next+8) (bb env.D 28 (.slice wo m wc) (.int .i64 (i:Int))=some (J.ptr (some p))∧aQ env.D 3 p (I.mk (H.next+15) (H.2))=some (.int .i64 x)∧(-9223372036854775808≤s+x∧s+x≤9223372036854775807)∧ad B (H.next+15) ((-9223372036854775808≤(i:Int)+1∧(i:Int)+1≤9223372036854775807)∧ai .normal [(2,.int .i64 w),(7,.slice wo m wc),(10,.int .i64 (s+x)),(39,.int .i64 (m:Int)),(40,.int .i64 ((i:Int)+1))] (I.mk (H.next+15+2) (I.aj (I.mk (H.next+8+7) (I.aj (I.mk (H.next+3+5) (I.aj (I.mk (H.next+1+2) (I.aj (I.mk (H.next+1) (I.aj H)))))))))))))))) :
 ∃e ah U,aR Tryz.prog aq B 66 (aY Tryz.prog 8 1) [(2,.int .i64 w),(7,.slice wo m wc),(10,.int .i64 s),(39,.int .i64 m),(40,.int .i64 i)] H e ah U∧ai e ah U :=
 b0 bg mixed bq (hs:= .aa (.val 14000 (.bool true)) (.aa (.val 16002 (.ptr (some p))) (.aa (.val 16003 (.int .i64 x)) (.aa (.val 16004 (.bool false)) (.aa (.val 18003 (.ptr (some p))) (.aa (.val 18004 (.int .i64 x)) (an 18005 (an 19000 .nil)))))))) (keep:=[2,7,10,39,40]) (by kernel_rfl) aG
theorem Vj(H:I)(B m wc i:Nat)(wo:Option aO)(w s x:Int)(p:aO)(ai:bx→a6→I→Prop)(aG:ad B (H.next) (some (J.bool (decide ((i:Int)<(m:Int))))=some (J.bool false)∧ai (.exit 2) [(2,.int .i64 w),(7,.slice wo m wc),(10,.int .i64 s),(39,.int .i64 (m:Int)),(40,.int .i64 (i:Int))] (I.mk (H.next+1) (I.aj H)))) :
 ∃e ah U,aR Tryz.prog aq B 66 (aY Tryz.prog 8 1) [(2,.int .i64 w),(7,.slice wo m wc),(10,.int .i64 s),(39,.int .i64 m),(40,.int .i64 i)] H e ah U∧ai e ah U :=
 b0 bg mixed bq (hs:= .aa (.val 14000 (.bool false)) .nil) (keep:=[2,7,10,39,40]) (by kernel_rfl) aG
theorem Vk(H H1 af ax:I)(N rc C cc m wc n2:Nat)(ro co wo:Option aO)(w s:Int)(ai:J→I→Prop)(aG:ad (H.next) (H.next) (ad (H.next) (H.next+1) (bY Tryz.prog aq 18 [] (I.mk (H.next+3) (H.2)) (.bool true) (I.mk (H.next+3) (H.2))∧ad (H.next) (H.next+3) (bY Tryz.prog aq 22 [.slice ro N rc,.slice co C cc,.int .i64 w] (I.mk (H.next+8) (H.2)) (.slice wo m wc) H1∧ad (H.next) (H1.next) (ad (H.next) (H1.next+3) (aR Tryz.prog aq (H.next) 66 (Code.loop (aY Tryz.prog 8 0)) [(0,.slice ro N rc),(2,.int .i64 w),(7,.slice wo m wc),(8,.int .i64 (C:Int)),(21,.int .i64 (N:Int)),(22,.int .i64 0)] (I.mk (H1.next+3+3) (I.aj (I.mk (H1.next+3) (I.aj H1)))) (.exit 0) [(2,.int .i64 w),(7,.slice wo m wc),(8,.int .i64 (n2:Int))] af∧ad (H.next) (af.next) (dk env Builtin.min {toList:=[3,3]} [.int .i64 (n2:Int),.int .i64 64] (af.next+3) (I.mk (af.next+5) (af.2))=some (.int .i64 (m:Int),(I.mk (af.next+5) (af.2)))∧some (J.bool ((m:Int) != (m:Int)))=some (J.bool false)∧ad (H.next) (af.next+5) (ad (H.next) (af.next+6) (aR Tryz.prog aq (H.next) 66 (Code.loop (aY Tryz.prog 8 1)) [(2,.int .i64 w),(7,.slice wo m wc),(10,.int .i64 0),(39,.int .i64 (m:Int)),(40,.int .i64 0)] (I.mk (af.next+6+3) (I.aj (I.mk (af.next+5+1) (I.aj (I.mk (af.next+5) (I.aj af)))))) (.exit 2) [(2,.int .i64 w),(7,.slice wo m wc),(10,.int .i64 s)] ax∧ad (H.next) (ax.next) ((-9223372036854775808≤(m:Int)-1∧(m:Int)-1≤9223372036854775807)∧((-9223372036854775808≤(if 4096<if 0>w then 0 else w then 4096 else if 0>w then 0 else w)-if 0>(m:Int)-1 then 0 else(m:Int)-1)∧((if 4096<if 0>w then 0 else w then 4096 else if 0>w then 0 else w)-if 0>(m:Int)-1 then 0 else(m:Int)-1)≤9223372036854775807)∧some (J.bool (decide (s≤if((if 4096<if 0>w then 0 else w then 4096 else if 0>w then 0 else w)-if 0>(m:Int)-1 then 0 else(m:Int)-1)>0 then(if 4096<if 0>w then 0 else w then 4096 else if 0>w then 0 else w)-if 0>(m:Int)-1 then 0 else(m:Int)-1 else 0)))=some (J.bool true)∧cW (H.next) (ax.next+12) (ai (.bool true) (I.mk (ax.next+12) (I.aj ax))))))))))))) :
 ∃v U,aZ Tryz.prog aq 8 [.slice ro N rc,.slice co C cc,.int .i64 w] H v U∧ai v U :=
 cE bg mixed bq (hs:= .aa (.val 1000 (.bool true)) (.aa (.act 3003 (.slice wo m wc) fun x=>H1) (.aa (.keep [0,2,7,8,21,22]) (.aa (.loop [(2,.int .i64 w),(7,.slice wo m wc),(8,.int .i64 (n2:Int))] af (.exit 0)) (.aa (.val 10003 (.int .i64 (m:Int))) (.aa (.val 10004 (.bool false)) (.aa (.keep [2,7,10,39,40]) (.aa (.loop [(2,.int .i64 w),(7,.slice wo m wc),(10,.int .i64 s)] ax (.exit 2)) (an 20006 (an 20008 (.aa (.val 20010 (.bool true)) .nil))))))))))) (by kernel_rfl) aG
end Go.Proofs.YtjpfnbihopoeeaaGreatDoor
namespace Go.Proofs.YtjpfnbihopoeeaaGreatDoor
open Go.ba
structure l2(H:I)(E o:Nat)(v:J)(rs:List ht):Prop where
 out:dJ H o v (Ck rs)
 wj:∀r∈rs,dJ H r.q r.v (r.l.map J.str)
 lt:o<E∧∀r∈rs,r.q<E
 qU:rs.length≤2^20∧∀r∈rs,r.l.length≤2^20∧∀s∈r.l,s.length≤2^20
theorem l2.aI{H H':I}{E o:Nat}{v:J}{rs:List ht}{L:List Nat}(h:l2 H E o v rs)(m:Fr H H' L)(de:∀x∈L,E≤x):l2 H' E o v rs :=
 ⟨h.out.aI m fun k=>by have:=de _ k;have:=h.lt.1;omega,fun r aC=>(h.wj r aC).aI m fun k=>by have:=de _ k;have:=h.lt.2 r aC;omega,h.lt,h.qU⟩
theorem l2.row{H:I}{E o:Nat}{v:J}{rs:List ht}(h:l2 H E o v rs){i:Nat}(ac:i<rs.length) :
 ∃a,bb (bh.D env) 22 v (.int .i64 (i:Nat))=some (.ptr (some a))∧a.id<H.next∧∀n,aQ (bh.D env) 36 a ⟨n,H.aj⟩=some rs[i].v:=by
 have:=h.out.at Oh (i:=i) (by simpa using ac) (by rw [List.getElem_map];exact(h.wj _ (List.getElem_mem ac)).sv);rw [List.getElem_map]at this;exact this
theorem kY(a b:Int)(nid:Nat)(H:I):dk env .max #[3,3] [.int .i64 a,.int .i64 b] nid H=some (.int .i64 (if b>a then b else a),H):=rfl
theorem n0(a b:Int)(nid:Nat)(H:I):dk env .min #[3,3] [.int .i64 a,.int .i64 b] nid H=some (.int .i64 (if b<a then b else a),H):=rfl
theorem Jw(a b:Nat)(nid:Nat)(H:I):dk env .max #[3,3] [.int .i64 (a:Nat),.int .i64 (b:Nat)] nid H=some (.int .i64 ((max a b:Nat):Int),H):=by
 rw [kY]
 congr 3
 split<;>omega
theorem Jx(a b:Nat)(nid:Nat)(H:I):dk env .min #[3,3] [.int .i64 (a:Nat),.int .i64 (b:Nat)] nid H=some (.int .i64 ((min a b:Nat):Int),H):=by
 rw [n0]
 congr 3
 split<;>omega
def fz(n:Nat):List ht→Nat
 |[]=>n
 |r::rs=>fz (max n r.l.length) rs
theorem DP:∀(l:List ht)(n:Nat)(r:ht),fz n (l++[r])=max (fz n l) r.l.length
 |[],n,r=>rfl
 |a::l,n,r=>by simp only [List.cons_append,fz];exact DP l _ r
theorem Jy{L:List ht}{i:Nat}(h:i<L.length):L.take (i+1)=L.take i++[L[i]]:=by rw [List.take_add_one,List.getElem?_eq_getElem h];rfl
abbrev DQ(ro co:Option aO)(N rc C cc:Nat)(w:Int)(n i:Nat):a6:=[(0,.slice ro N rc),(1,.slice co C cc),(2,.int .i64 w),(7,.int .i64 (n:Nat)),(17,.slice ro N rc),(18,.int .i64 (N:Nat)),(19,.int .i64 (i:Nat))]
theorem Vl{B E N rc C cc o:Nat}{ro co:Option aO}{w:Int}{rs:List ht}(bA:N=rs.length):∀(g i:Nat)(H:I),i+g=N→B≤H.next→l2 H E o (.slice ro N rc) rs →
 ∃n,H.next≤n∧bf Tryz.prog aq B 131 (aY Tryz.prog 22 0) (DQ ro co N rc C cc w (fz C (rs.take i)) i) H (.exit 0) [(0,.slice ro N rc),(1,.slice co C cc),(2,.int .i64 w),(7,.int .i64 ((fz C rs:Nat):Int))] ⟨n,H.aj⟩:=by
 have bW:aO:=⟨0,0,0,0,1⟩
 intro g;induction g with
 |zero =>
  intro i H ac aX t;obtain rfl:i=N:=by omega
  obtain⟨e,ah,h',aC,rfl,rfl,rfl⟩:=U3 H B i rc C cc 0 0 i (fz C (rs.take i)) 0 ro co none w bW (fun e ah U=>e=.exit 0∧ah=DQ ro co i rc C cc w (fz C (rs.take i)) i∧U=up H 1) (ae aX ⟨b7 (by omega),rfl,rfl,rfl⟩);rw [List.take_of_length_le (by omega)]at aC⊢;exact⟨H.next+1,by omega,(bf.last (by simp) aC).post (bL.facts (ed [0,1,2,7] (by kernel_rfl)))⟩
 |succ g ih =>
  intro i H ac aX t;have bH:i<rs.length:=by omega
  have xw:=t.qU.1;obtain⟨p,cv,bu,bS⟩:=t.row bH;obtain⟨hj,m7,ex⟩:=(t.wj _ (List.getElem_mem bH)).eS;rw [List.length_map]at ex;rw [ex]at bS;have es:fz C (rs.take (i+1))=max (fz C (rs.take i)) rs[i].l.length:=by rw [Jy bH,DP]
  obtain⟨n,bK,L⟩:=ih (i+1) (up H 11) (by omega) (by show B≤H.next+11;omega) (t.aI (Fr.up H 11 []) (by simp));have bK:H.next+11≤n:=bK
  rw [es]at L
  obtain⟨e,ah,h',aC,rfl,rfl,rfl⟩:=U2 H B N rc C cc rs[i].l.length m7 i (fz C (rs.take i)) (max (fz C (rs.take i)) rs[i].l.length) ro co hj w p (fun e ah U=>e=.normal∧ah=DQ ro co N rc C cc w (max (fz C (rs.take i)) rs[i].l.length) (i+1)∧U=up H 11)
   (ae aX ⟨bB (by omega),ae (by omega) ⟨cv,bS _,ae (by omega) ⟨Jw _ _ _ _,ae (by omega) ⟨⟨by omega,by omega⟩,rfl,by rw [dx],rfl⟩⟩⟩⟩)
  exact⟨n,by omega,bf.round aC (bL.refl _ _ _ _) L⟩
abbrev DR(ro wo:Option aO)(N rc m wc:Nat)(w:Int)(n i:Nat):a6:=[(0,.slice ro N rc),(2,.int .i64 w),(7,.slice wo m wc),(8,.int .i64 (n:Nat)),(21,.int .i64 (N:Nat)),(22,.int .i64 (i:Nat))]
theorem Vm{B E N rc m wc o C:Nat}{ro wo:Option aO}{w:Int}{rs:List ht}(bA:N=rs.length):∀(g i:Nat)(H:I),i+g=N→B≤H.next→l2 H E o (.slice ro N rc) rs →
 ∃n,H.next≤n∧bf Tryz.prog aq B 66 (aY Tryz.prog 8 0) (DR ro wo N rc m wc w (fz C (rs.take i)) i) H (.exit 0) [(2,.int .i64 w),(7,.slice wo m wc),(8,.int .i64 ((fz C rs:Nat):Int))] ⟨n,H.aj⟩:=by
 have bW:aO:=⟨0,0,0,0,1⟩
 intro g;induction g with
 |zero =>
  intro i H ac aX t;obtain rfl:i=N:=by omega
  obtain⟨e,ah,h',aC,rfl,rfl,rfl⟩:=Vh H B i rc m wc 0 0 i (fz C (rs.take i)) 0 ro wo none w bW (fun e ah U=>e=.exit 0∧ah=DR ro wo i rc m wc w (fz C (rs.take i)) i∧U=up H 1) (ae aX ⟨b7 (by omega),rfl,rfl,rfl⟩);rw [List.take_of_length_le (by omega)]at aC⊢;exact⟨H.next+1,by omega,(bf.last (by simp) aC).post (bL.facts (ed [2,7,8] (by kernel_rfl)))⟩
 |succ g ih =>
  intro i H ac aX t;have bH:i<rs.length:=by omega
  have xw:=t.qU.1;obtain⟨p,cv,bu,bS⟩:=t.row bH;obtain⟨hj,m7,ex⟩:=(t.wj _ (List.getElem_mem bH)).eS;rw [List.length_map]at ex;rw [ex]at bS;have es:fz C (rs.take (i+1))=max (fz C (rs.take i)) rs[i].l.length:=by rw [Jy bH,DP]
  obtain⟨n,bK,L⟩:=ih (i+1) (up H 13) (by omega) (by show B≤H.next+13;omega) (t.aI (Fr.up H 13 []) (by simp));have bK:H.next+13≤n:=bK
  rw [es]at L
  obtain⟨e,ah,h',aC,rfl,rfl,rfl⟩:=Vg H B N rc m wc rs[i].l.length m7 i (fz C (rs.take i)) (max (fz C (rs.take i)) rs[i].l.length) ro wo hj w p (fun e ah U=>e=.normal∧ah=DR ro wo N rc m wc w (max (fz C (rs.take i)) rs[i].l.length) (i+1)∧U=up H 13)
   (ae aX ⟨bB (by omega),ae (by omega) (ae (by omega) ⟨cv,bS _,Jw _ _ _ _,ae (by omega) ⟨⟨by omega,by omega⟩,rfl,by rw [dx],rfl⟩⟩)⟩)
  exact⟨n,by omega,bf.round aC (bL.refl _ _ _ _) L⟩
theorem Vn{B m wc q:Nat}{wo:Option aO}{w:Int}{Z:List Int}(hm:m=Z.length)(lo:m≤64)(Vo:∀z∈Z,0≤z)(cb:∀i,i≤m→0≤bs (Z.take i)∧bs (Z.take i)≤4096):∀(g i:Nat)(H:I),i+g=m→B≤H.next→dJ H q (.slice wo m wc) (dh Z) →
 ∃n,H.next≤n∧bf Tryz.prog aq B 66 (aY Tryz.prog 8 1) [(2,.int .i64 w),(7,.slice wo m wc),(10,.int .i64 (bs (Z.take i))),(39,.int .i64 (m:Nat)),(40,.int .i64 (i:Nat))] H (.exit 2) [(2,.int .i64 w),(7,.slice wo m wc),(10,.int .i64 (bs Z))] ⟨n,H.aj⟩:=by
 have bW:aO:=⟨0,0,0,0,1⟩
 intro g;induction g with
 |zero =>
  intro i H ac aX r;obtain rfl:i=m:=by omega
  obtain⟨e,ah,h',aC,rfl,rfl,rfl⟩:=Vj H B i wc i wo w (bs (Z.take i)) 0 bW (fun e ah U=>e=.exit 2∧ah=[(2,.int .i64 w),(7,.slice wo i wc),(10,.int .i64 (bs (Z.take i))),(39,.int .i64 (i:Nat)),(40,.int .i64 (i:Nat))]∧U=up H 1) (ae aX ⟨b7 (by omega),rfl,rfl,rfl⟩);rw [List.take_of_length_le (by omega)]at aC⊢;exact⟨H.next+1,by omega,(bf.last (by simp) aC).post (bL.facts (ed [2,7,10] (by kernel_rfl)))⟩
 |succ g ih =>
  intro i H ac aX r;have bH:i<Z.length:=by omega
  obtain⟨p,cv,bu,bS⟩:=r.int bH;have cl:=Vo _ (List.getElem_mem bH);have hs:=cb i (by omega)
  have es:bs (Z.take (i+1))=bs (Z.take i)+Z[i]:=by rw [List.take_add_one,List.getElem?_eq_getElem bH];exact Cu _ _
  have mr:=cb (i+1) (by omega);rw [es]at mr;obtain⟨n,bK,L⟩:=ih (i+1) (up H 17) (by omega) (by show B≤H.next+17;omega) (r.aI (Fr.up H 17 []) (by simp));have bK:H.next+17≤n:=bK
  rw [es]at L
  obtain⟨e,ah,h',aC,rfl,rfl,rfl⟩:=Vi H B m wc i wo w (bs (Z.take i)) Z[i] p (fun e ah U=>e=.normal∧ah=[(2,.int .i64 w),(7,.slice wo m wc),(10,.int .i64 (bs (Z.take i)+Z[i])),(39,.int .i64 (m:Nat)),(40,.int .i64 ((i+1:Nat):Int))]∧U=up H 17)
   (ae aX ⟨bB (by omega),ae (by omega) (ae (by omega) ⟨cv,bS _,b7 (by omega),ae (by omega) ⟨cv,bS _,⟨by omega,by omega⟩,ae (by omega) ⟨⟨by omega,by omega⟩,rfl,by rw [dx],rfl⟩⟩⟩)⟩)
  exact⟨n,by omega,bf.round aC (bL.refl _ _ _ _) L⟩
abbrev zh(ro co:Option aO)(N rc C cc M ql:Nat)(w:Int)(j i:Nat):a6:=[(0,.slice ro N rc),(1,.slice co C cc),(2,.int .i64 w),(10,mL ql M),(11,.int .i64 (j:Nat)),(12,.ptr (some ⟨ql,0,0+j,0,5⟩)),(32,.int .i64 (M:Nat)),(33,.int .i64 (j:Nat)),(66,.slice ro N rc),(67,.int .i64 (N:Nat)),(68,.int .i64 (i:Nat))]
abbrev Jz(ro co:Option aO)(N rc C cc M ql:Nat)(w:Int)(j:Nat):a6:=[(0,.slice ro N rc),(1,.slice co C cc),(2,.int .i64 w),(10,mL ql M),(11,.int .i64 (j:Nat)),(12,.ptr (some ⟨ql,0,0+j,0,5⟩)),(32,.int .i64 (M:Nat)),(33,.int .i64 (j:Nat))]
theorem Vp{B E N rc C cc o M ql j:Nat}{ro co:Option aO}{w:Int}{rs:List ht}(bA:N=rs.length)(ay:j<M)(bR:E≤ql):∀(g i:Nat)(H:I)(f:Nat→cz),i+g=N→B≤H.next→l2 H E o (.slice ro N rc) rs→fp H ql M f →
 ∃H' bG,bf Tryz.prog aq B 131 (aY Tryz.prog 22 2) (zh ro co N rc C cc M ql w j i) H (.exit 4) (Jz ro co N rc C cc M ql w j) H'∧fp H' ql M bG∧Fr H H' [ql]:=by
 have bW:aO:=⟨0,0,0,0,1⟩
 intro g;induction g with
 |zero =>
  intro i H f ac aX t e6;obtain rfl:i=N:=by omega
  obtain⟨e,ah,h',aC,rfl,rfl,rfl⟩:=U5 H H H H B i rc C cc M ql i j ro co w 0 0 0 .undef [] bW (fun e ah U=>e=.exit 4∧ah=zh ro co i rc C cc M ql w j i∧U=up H 1) (ae aX ⟨b7 (by omega),rfl,rfl,rfl⟩);exact⟨_,f,(bf.last (by simp) aC).post (bL.facts (ed [0,1,2,10,11,12,32,33] (by kernel_rfl))),e6.aI (Fr.up H 1 []) (by simp),Fr.up H 1 _⟩
 |succ g ih =>
  intro i H f ac aX t e6;have bH:i<rs.length:=by omega
  have xw:=t.qU;have Ji:=e6.1;obtain⟨p,cv,bu,bS⟩:=t.row bH;have rF:=rowAt ((t.wj _ (List.getElem_mem bH)).aI (Fr.up H 17 []) (by simp));have gg:=Of rF (j:Nat)
  have hs:(kK rs[i].l (j:Nat)).length≤2^25:=by
   have:kK rs[i].l ((j:Nat):Int)=[]∨kK rs[i].l ((j:Nat):Int)∈rs[i].l:=by
    by_cases c:((j:Nat):Int)<rs[i].l.length
    ·right;rw [G7 (by omega) (by omega)];exact List.getElem_mem _
    ·left;exact G8 (by omega)
   rcases this with h|h
   ·rw [h];simp
   ·have:=(xw.2 _ (List.getElem_mem bH)).2 _ h;omega
  obtain⟨a,af,aW,sW,f2⟩:=U1 (kK rs[i].l (j:Nat)) hs (up (up H 17) 14);have n2:=f2.next
  have n2:H.next+17+14≤af.next:=n2
  have hN:Fr H af []:=((Fr.up H 17 []).trans (Fr.up (up H 17) 14 []) (by simp)).trans f2 (by simp);have Vq:=e6.aI hN (by simp);obtain⟨ax,fF,fb,f3,b2⟩:=Vq.iT (j:=1) (x:=if a>(f j).n then a else(f j).n) ay (p0.n (f j) _) 0;have b2:ax.next=af.next:=b2
  have i':Fr H (up ax 2) [ql]:=((hN.sub (M:=[ql]) (by simp)).trans f3 (fun x ab _=>ab)).trans (Fr.up ax 2 [ql]) (fun x ab _=>ab);obtain⟨H',bG,L,aN,DS⟩:=ih (i+1) (up ax 2) _ (by omega) (by show B≤ax.next+2;omega) (t.aI i' (by simpa using bR)) (fb.aI (Fr.up ax 2 []) (by simp));have Vr:n6 (H.next+17) (up H 17) (up (up H 17) 14)=true:=AG fun i _=>rfl
  have oZ:n6 (H.next+17) (up (up H 17) 14) af=true:=AG fun i ac=>f2.get i (by show i<H.next+17+14;omega) (by simp)
  obtain⟨e,ah,h',aC,rfl,rfl,rfl⟩:=U4 H (up (up H 17) 14) af ax B N rc C cc M ql i j ro co w (f j).n a (if a>(f j).n then a else(f j).n) rs[i].v (kK rs[i].l (j:Nat)) p (fun e ah U=>e=.normal∧ah=zh ro co N rc C cc M ql w j (i+1)∧U=up ax 2)
   (ae aX ⟨bB (by omega),ae (by omega) ⟨cv,bS _,ae (by omega) ⟨(e6.rd.fld ay _).2.1,by omega,⟨gg⟩,Vr,⟨sW⟩,oZ,kY _ _ _ _,cR rfl rfl fF,ae (by omega) ⟨⟨by omega,by omega⟩,rfl,by rw [dx],rfl⟩⟩⟩⟩)
  exact⟨H',bG,bf.round aC (bL.refl _ _ _ _) L,aN,i'.trans DS (fun x ab _=>ab)⟩
end Go.Proofs.YtjpfnbihopoeeaaGreatDoor
namespace Go.Proofs.YtjpfnbihopoeeaaGreatDoor
open Go.ba
theorem tf{a:Int}(h:a=0):some (J.bool (a != 0))=some (J.bool false):=by rw [h];rfl
theorem DT{a:Int}(h:¬a=0):some (J.bool (a != 0))=some (J.bool true):=by
 have:(a != 0)=true:=by simpa using h
 rw [this]
def qc(H:I)(q ver off C:Nat)(v:J)(f:Nat→cz):Prop:=C=0∨gM H q ver off C v f
theorem qc.aI{H H':I}{q ver off C:Nat}{v:J}{f:Nat→cz}{L:List Nat}(h:qc H q ver off C v f)(m:Fr H H' L)(aw:q ∉ L):qc H' q ver off C v f:=h.imp_right fun k=>k.aI m aw
abbrev l3(ro co:Option aO)(N rc C cc M ql:Nat)(w:Int)(j:Nat):a6:=[(0,.slice ro N rc),(1,.slice co C cc),(2,.int .i64 w),(10,mL ql M),(32,.int .i64 (M:Nat)),(33,.int .i64 (j:Nat))]
theorem DU{B E N rc C cc o M ql j:Nat}{ro co:Option aO}{w:Int}{rs:List ht}{X:I}{g:Nat→cz}(bA:N=rs.length)(ay:j<M)(bR:E≤ql)(t:l2 X E o (.slice ro N rc) rs)(e6:fp X ql M g)(JA:Nat)(aX:B≤X.next) :
 ∃(af ax au:I)(n2 dc dQ b2:Int),e7 (bh.D env) 35 ⟨ql,0,0+j,0,5⟩ (.int .i8 1) (up X JA)=some af∧B≤af.next∧bf Tryz.prog aq B 131 (aY Tryz.prog 22 2) (zh ro co N rc C cc M ql w j 0) (up af 3) (.exit 4) (Jz ro co N rc C cc M ql w j) ax∧B≤ax.next∧ql<ax.next ∧
  (∀n,aQ (bh.D env) 3 ⟨ql,0,0+j,1,5⟩ ⟨n,ax.aj⟩=some (.int .i64 n2))∧(∀n,aQ (bh.D env) 3 ⟨ql,0,0+j,3,5⟩ ⟨n,ax.aj⟩=some (.int .i64 dc))∧b2=(if dc>n2 then dc else n2)∧e7 (bh.D env) 3 ⟨ql,0,0+j,1,5⟩ (.int .i64 b2) (up ax 13)=some au∧B≤au.next∧ql<au.next ∧
  (∀n,aQ (bh.D env) 3 ⟨ql,0,0+j,4,5⟩ ⟨n,au.aj⟩=some (.int .i64 dQ))∧(∀n,aQ (bh.D env) 3 ⟨ql,0,0+j,3,5⟩ ⟨n,au.aj⟩=some (.int .i64 dc))∧(∀n,aQ (bh.D env) 3 ⟨ql,0,0+j,1,5⟩ ⟨n,au.aj⟩=some (.int .i64 b2)) ∧
  ((dQ>0∧∃(aU bc:I)(cY cU dY:Int)(bG:Nat→cz),cY=(if dQ<b2 then dQ else b2)∧e7 (bh.D env) 3 ⟨ql,0,0+j,1,5⟩ (.int .i64 cY) (up au 18)=some aU∧B≤aU.next∧ql<aU.next∧(∀n,aQ (bh.D env) 3 ⟨ql,0,0+j,3,5⟩ ⟨n,aU.aj⟩=some (.int .i64 dc))∧(∀n,aQ (bh.D env) 3 ⟨ql,0,0+j,1,5⟩ ⟨n,aU.aj⟩=some (.int .i64 cY)) ∧
   cU=(if cY<1 then cY else 1)∧dY=(if cU>dc then cU else dc)∧e7 (bh.D env) 3 ⟨ql,0,0+j,3,5⟩ (.int .i64 dY) (up aU 14)=some bc∧B≤bc.next∧fp bc ql M bG∧Fr X bc [ql]) ∨
   (¬dQ>0∧∃(bc:I)(cU dY:Int)(bG:Nat→cz),cU=(if b2<1 then b2 else 1)∧dY=(if cU>dc then cU else dc)∧e7 (bh.D env) 3 ⟨ql,0,0+j,3,5⟩ (.int .i64 dY) (up au 19)=some bc∧B≤bc.next∧fp bc ql M bG∧Fr X bc [ql])):=by
 have aw:=e6.1;obtain⟨af,s2,cJ,f2,n2⟩:=e6.QC (x:=1) ay JA;have g2:Fr X (up af 3) [ql]:=f2.trans (Fr.up af 3 [ql]) (fun x ab _=>ab);obtain⟨ax,bG,L,fb,f3⟩:=Vp (B:=B) (ro:=ro) (co:=co) (rc:=rc) (C:=C) (cc:=cc) (w:=w) bA ay bR N 0 (up af 3) _ (by omega) (by show B≤af.next+3;omega) (t.aI g2 (by simpa using bR)) (cJ.aI (Fr.up af 3 []) (by simp));have b2:=f3.next
 have b2:af.next+3≤ax.next:=b2
 have mF:=fb.rd.fld ay;obtain⟨au,oX,iB,f4,cY⟩:=fb.iT (j:=1) (x:=if(bG j).aE>(bG j).n then(bG j).aE else(bG j).n) ay (p0.n (bG j) _) 13;have zi:=iB.rd.fld ay;simp only [if_true]at zi;have g4:Fr X au [ql]:=(g2.trans f3 (fun x ab _=>ab)).trans f4 (fun x ab _=>ab);refine⟨af,ax,au,(bG j).n,(bG j).aE,(bG j).mx,_,s2,by omega,L,by omega,by omega,fun n=>(mF n).2.1,fun n=>(mF n).2.2.2.1,rfl,oX,by omega,by omega,fun n=>(zi n).2.2.2.2,fun n=>(zi n).2.2.2.1,fun n=>(zi n).2.1,?_⟩;obtain⟨qd,Vs⟩:∃n,n=if(bG j).aE>(bG j).n then(bG j).aE else(bG j).n:=⟨_,rfl⟩
 rw [←Vs]at iB⊢;by_cases c:(bG j).mx>0
 ·left;obtain⟨aU,nX,mG,f5,cU⟩:=iB.iT (j:=1) (x:=if(bG j).mx<qd then(bG j).mx else qd) ay (p0.n _ _) 18;have td:=mG.rd.fld ay;simp only [if_true]at td;obtain⟨wk,Du⟩:∃n,n=if(bG j).mx<qd then(bG j).mx else qd:=⟨_,rfl⟩
  rw [←Du]at nX mG td;obtain⟨bc,ki,mH,f6,ls⟩:=mG.iT (j:=3) (x:=if(if wk<1 then wk else 1)>(bG j).aE then(if wk<1 then wk else 1)else(bG j).aE) ay (p0.aE _ _) 14;exact⟨c,aU,bc,wk,_,_,_,Du,nX,by omega,by omega,fun n=>(td n).2.2.2.1,fun n=>(td n).2.1,rfl,rfl,ki,by omega,mH,(g4.trans f5 (fun x ab _=>ab)).trans f6 (fun x ab _=>ab)⟩
 ·right;obtain⟨bc,ki,mH,f6,ls⟩:=iB.iT (j:=3) (x:=if(if qd<1 then qd else 1)>(bG j).aE then(if qd<1 then qd else 1)else(bG j).aE) ay (p0.aE _ _) 19;exact⟨c,bc,_,_,_,rfl,rfl,ki,by omega,mH,g4.trans f6 (fun x ab _=>ab)⟩
theorem Vt{B E N rc C cc o M ql q ver off:Nat}{ro co:Option aO}{w:Int}{rs:List ht}{fc:Nat→cz}(bA:N=rs.length)(jj:M≤64)(dV:C≤2^20)(bR:E≤ql)(aw:q<E):∀(g j:Nat)(H:I)(f:Nat→cz),j+g=M→B≤H.next→l2 H E o (.slice ro N rc) rs→qc H q ver off C (.slice co C cc) fc→fp H ql M f →
 ∃H' bG,bf Tryz.prog aq B 131 (aY Tryz.prog 22 1) (l3 ro co N rc C cc M ql w j) H (.exit 2) [(2,.int .i64 w),(10,mL ql M)] H'∧fp H' ql M bG∧Fr H H' [ql]:=by
 intro g;induction g with
 |zero =>
  intro j H f ay aX t o0 e6;obtain rfl:j=M:=by omega
  obtain⟨e,ah,h',aC,rfl,rfl,rfl⟩:=Ve H H H H H H H B N rc C cc j ql q ver off j ro co w 0 0 0 0 0 0 0 0 0 0 0 0 0 (fun e ah U=>e=.exit 2∧ah=l3 ro co N rc C cc j ql w j∧U=up H 1) (ae aX ⟨b7 (by omega),rfl,rfl,rfl⟩);exact⟨_,f,(bf.last (by simp) aC).post (bL.facts (ed [2,10] (by kernel_rfl))),e6.aI (Fr.up H 1 []) (by simp),Fr.up H 1 _⟩
 |succ g ih =>
  intro j H f W4 aX t o0 e6;have ay:j<M:=by omega
  have Ji:=e6.1
  have next:∀(H':I)(bG:Nat→cz),Fr H H' [ql]→fp H' ql M bG→ ∃hc hT,bf Tryz.prog aq B 131 (aY Tryz.prog 22 1) (l3 ro co N rc C cc M ql w (j+1)) H' (.exit 2) [(2,.int .i64 w),(10,mL ql M)] hc∧fp hc ql M hT∧Fr H hc [ql]:=by intro H' bG aI aN;obtain⟨hc,hT,L,fi,DS⟩:=ih (j+1) H' bG (by omega) (by have:=aI.next;omega) (t.aI aI (by simpa using bR)) (o0.aI aI (by simp;omega)) aN;exact⟨hc,hT,L,fi,aI.trans DS (fun x ab _=>ab)⟩
  have tg:=fun n=>(e6.rd.fld ay n).1
  by_cases iY:j<C
  ·have iZ :gM H q ver off C (.slice co C cc) fc:=o0.resolve_left (by omega);have jM:=DB (fc j) (up H 14);cases ao:tb (fc j)with
   |true =>
    rw [ao]at jM;obtain⟨H1,DV,DW,rm,JB⟩:=e6.hq ay (fc j) 22;have JB:H1.next=H.next+22:=JB
    have Vu:=fun n=>(DW.rd.fld ay n).1
    obtain⟨k2,fM⟩:∃k,k=(fc j).k:=⟨_,rfl⟩
    have DX:∀n,aQ (bh.D env) 35 ⟨ql,0,0+j,0,5⟩ ⟨n,H1.aj⟩=some (.int .i8 k2):=fun n=>by have:=Vu n;rw [if_pos rfl,←fM]at this;exact this
    by_cases jI:k2=0
    ·obtain⟨af,ax,au,n2,dc,dQ,b2,t1,t2,t3,t4,t5,t6,t7,t8,t9,t10,t11,t12,t13,t14,mn⟩:=DU (B:=B) (ro:=ro) (co:=co) (rc:=rc) (C:=C) (cc:=cc) (w:=w) bA ay bR (t.aI rm (by simpa using bR)) DW 14 (by omega);rcases mn with ⟨hQ,aU,bc,cY,cU,dY,bG,lr,jF,oN,qe,wl,wm,m8,u8,m9,m',na,nb⟩|⟨hQ,bc,cU,dY,bG,m8,u8,m9,m',na,nb⟩
     ·obtain⟨hc,hT,L,fi,js⟩:=next (up bc 2) bG ((rm.trans nb (fun x ab _=>ab)).trans (Fr.up bc 2 [ql]) (fun x ab _=>ab)) (na.aI (Fr.up bc 2 []) (by simp))
      obtain⟨e,ah,h',aC,rfl,rfl,rfl⟩:=U7 H H1 af ax au aU bc B N rc C cc M ql q ver off j ro co w (fc j).k (fc j).n (fc j).d (fc j).aE (fc j).mx k2 n2 dc dQ b2 cY cU dY (fun e ah U=>e=.normal∧ah=l3 ro co N rc C cc M ql w (j+1)∧U=up bc 2)
       (ae aX ⟨bB (by omega),ae (by omega) (ae (by omega) ⟨bB (by omega),iZ.ca iY,iZ.whole iY _,⟨jM⟩,ae (by omega) ⟨iZ.ca iY,iZ.whole iY _,e6.rd.ca ay,cR rfl rfl DV,ae (by omega) ⟨e6.rd.ca ay,DX _,tf jI,ae (by omega) ⟨e6.rd.ca ay,ae (by omega) ⟨cR rfl rfl t1,ae t2 ⟨aR.cx t3,ae t4 ⟨t6 _,t5,t7 _,t5,by rw [t8];exact kY _ _ _ _,cR rfl rfl t9,ae t10 ⟨t12 _,bB hQ,ae (by omega) ⟨t14 _,by omega,t12 _,by omega,by rw [lr];exact n0 _ _ _ _,cR rfl rfl jF,ae oN ⟨wl _,qe,wm _,qe,by rw [m8];exact n0 _ _ _ _,by rw [u8];exact kY _ _ _ _,cR rfl rfl m9,ae m' ⟨⟨by omega,by omega⟩,rfl,by rw [dx],rfl⟩⟩⟩⟩⟩⟩⟩⟩⟩⟩⟩)⟩)
      exact⟨hc,hT,bf.round aC (bL.refl _ _ _ _) L,fi,js⟩
     ·obtain⟨hc,hT,L,fi,js⟩:=next (up bc 2) bG ((rm.trans nb (fun x ab _=>ab)).trans (Fr.up bc 2 [ql]) (fun x ab _=>ab)) (na.aI (Fr.up bc 2 []) (by simp))
      obtain⟨e,ah,h',aC,rfl,rfl,rfl⟩:=U8 H H1 af ax au H bc B N rc C cc M ql q ver off j ro co w (fc j).k (fc j).n (fc j).d (fc j).aE (fc j).mx k2 n2 dc dQ b2 0 cU dY (fun e ah U=>e=.normal∧ah=l3 ro co N rc C cc M ql w (j+1)∧U=up bc 2)
       (ae aX ⟨bB (by omega),ae (by omega) (ae (by omega) ⟨bB (by omega),iZ.ca iY,iZ.whole iY _,⟨jM⟩,ae (by omega) ⟨iZ.ca iY,iZ.whole iY _,e6.rd.ca ay,cR rfl rfl DV,ae (by omega) ⟨e6.rd.ca ay,DX _,tf jI,ae (by omega) ⟨e6.rd.ca ay,ae (by omega) ⟨cR rfl rfl t1,ae t2 ⟨aR.cx t3,ae t4 ⟨t6 _,t5,t7 _,t5,by rw [t8];exact kY _ _ _ _,cR rfl rfl t9,ae t10 ⟨t12 _,b7 hQ,ae (by omega) ⟨t13 _,by omega,t14 _,by omega,by rw [m8];exact n0 _ _ _ _,by rw [u8];exact kY _ _ _ _,cR rfl rfl m9,ae m' ⟨⟨by omega,by omega⟩,rfl,by rw [dx],rfl⟩⟩⟩⟩⟩⟩⟩⟩⟩⟩)⟩)
      exact⟨hc,hT,bf.round aC (bL.refl _ _ _ _) L,fi,js⟩
    ·obtain⟨hc,hT,L,fi,js⟩:=next (up H1 8) _ (rm.trans (Fr.up H1 8 [ql]) (fun x ab _=>ab)) (DW.aI (Fr.up H1 8 []) (by simp))
     obtain⟨e,ah,h',aC,rfl,rfl,rfl⟩:=U6 H H1 H H H H H B N rc C cc M ql q ver off j ro co w (fc j).k (fc j).n (fc j).d (fc j).aE (fc j).mx k2 0 0 0 0 0 0 0 (fun e ah U=>e=.normal∧ah=l3 ro co N rc C cc M ql w (j+1)∧U=up H1 8)
      (ae aX ⟨bB (by omega),ae (by omega) (ae (by omega) ⟨bB (by omega),iZ.ca iY,iZ.whole iY _,⟨jM⟩,ae (by omega) ⟨iZ.ca iY,iZ.whole iY _,e6.rd.ca ay,cR rfl rfl DV,ae (by omega) ⟨e6.rd.ca ay,DX _,DT jI,ae (by omega) ⟨⟨by omega,by omega⟩,rfl,by rw [dx],rfl⟩⟩⟩⟩)⟩)
     exact⟨hc,hT,bf.round aC (bL.refl _ _ _ _) L,fi,js⟩
   |false =>
    rw [ao]at jM;by_cases jI:(f j).k=0
    ·obtain⟨af,ax,au,n2,dc,dQ,b2,t1,t2,t3,t4,t5,t6,t7,t8,t9,t10,t11,t12,t13,t14,mn⟩:=DU (B:=B) (ro:=ro) (co:=co) (rc:=rc) (C:=C) (cc:=cc) (w:=w) bA ay bR t e6 28 (by omega);rcases mn with ⟨hQ,aU,bc,cY,cU,dY,bG,lr,jF,oN,qe,wl,wm,m8,u8,m9,m',na,nb⟩|⟨hQ,bc,cU,dY,bG,m8,u8,m9,m',na,nb⟩
     ·obtain⟨hc,hT,L,fi,js⟩:=next (up bc 2) bG (((Fr.refl H [ql]).trans nb (fun x ab _=>ab)).trans (Fr.up bc 2 [ql]) (fun x ab _=>ab)) (na.aI (Fr.up bc 2 []) (by simp))
      obtain⟨e,ah,h',aC,rfl,rfl,rfl⟩:=U' H H af ax au aU bc B N rc C cc M ql q ver off j ro co w (fc j).k (fc j).n (fc j).d (fc j).aE (fc j).mx (f j).k n2 dc dQ b2 cY cU dY (fun e ah U=>e=.normal∧ah=l3 ro co N rc C cc M ql w (j+1)∧U=up bc 2)
       (ae aX ⟨bB (by omega),ae (by omega) (ae (by omega) ⟨bB (by omega),iZ.ca iY,iZ.whole iY _,⟨jM⟩,ae (by omega) ⟨e6.rd.ca ay,tg _,tf jI,ae (by omega) ⟨e6.rd.ca ay,ae (by omega) ⟨cR rfl rfl t1,ae t2 ⟨aR.cx t3,ae t4 ⟨t6 _,t5,t7 _,t5,by rw [t8];exact kY _ _ _ _,cR rfl rfl t9,ae t10 ⟨t12 _,bB hQ,ae (by omega) ⟨t14 _,by omega,t12 _,by omega,by rw [lr];exact n0 _ _ _ _,cR rfl rfl jF,ae oN ⟨wl _,qe,wm _,qe,by rw [m8];exact n0 _ _ _ _,by rw [u8];exact kY _ _ _ _,cR rfl rfl m9,ae m' ⟨⟨by omega,by omega⟩,rfl,by rw [dx],rfl⟩⟩⟩⟩⟩⟩⟩⟩⟩⟩)⟩)
      exact⟨hc,hT,bf.round aC (bL.refl _ _ _ _) L,fi,js⟩
     ·obtain⟨hc,hT,L,fi,js⟩:=next (up bc 2) bG (((Fr.refl H [ql]).trans nb (fun x ab _=>ab)).trans (Fr.up bc 2 [ql]) (fun x ab _=>ab)) (na.aI (Fr.up bc 2 []) (by simp))
      obtain⟨e,ah,h',aC,rfl,rfl,rfl⟩:=Va H H af ax au H bc B N rc C cc M ql q ver off j ro co w (fc j).k (fc j).n (fc j).d (fc j).aE (fc j).mx (f j).k n2 dc dQ b2 0 cU dY (fun e ah U=>e=.normal∧ah=l3 ro co N rc C cc M ql w (j+1)∧U=up bc 2)
       (ae aX ⟨bB (by omega),ae (by omega) (ae (by omega) ⟨bB (by omega),iZ.ca iY,iZ.whole iY _,⟨jM⟩,ae (by omega) ⟨e6.rd.ca ay,tg _,tf jI,ae (by omega) ⟨e6.rd.ca ay,ae (by omega) ⟨cR rfl rfl t1,ae t2 ⟨aR.cx t3,ae t4 ⟨t6 _,t5,t7 _,t5,by rw [t8];exact kY _ _ _ _,cR rfl rfl t9,ae t10 ⟨t12 _,b7 hQ,ae (by omega) ⟨t13 _,by omega,t14 _,by omega,by rw [m8];exact n0 _ _ _ _,by rw [u8];exact kY _ _ _ _,cR rfl rfl m9,ae m' ⟨⟨by omega,by omega⟩,rfl,by rw [dx],rfl⟩⟩⟩⟩⟩⟩⟩⟩⟩)⟩)
      exact⟨hc,hT,bf.round aC (bL.refl _ _ _ _) L,fi,js⟩
    ·obtain⟨hc,hT,L,fi,js⟩:=next (up H 22) _ ((Fr.refl H [ql]).trans (Fr.up H 22 [ql]) (fun x ab _=>ab)) (e6.aI (Fr.up H 22 []) (by simp))
     obtain⟨e,ah,h',aC,rfl,rfl,rfl⟩:=U9 H H H H H H H B N rc C cc M ql q ver off j ro co w (fc j).k (fc j).n (fc j).d (fc j).aE (fc j).mx (f j).k 0 0 0 0 0 0 0 (fun e ah U=>e=.normal∧ah=l3 ro co N rc C cc M ql w (j+1)∧U=up H 22)
      (ae aX ⟨bB (by omega),ae (by omega) (ae (by omega) ⟨bB (by omega),iZ.ca iY,iZ.whole iY _,⟨jM⟩,ae (by omega) ⟨e6.rd.ca ay,tg _,DT jI,ae (by omega) ⟨⟨by omega,by omega⟩,rfl,by rw [dx],rfl⟩⟩⟩)⟩)
     exact⟨hc,hT,bf.round aC (bL.refl _ _ _ _) L,fi,js⟩
  ·skip
   by_cases jI:(f j).k=0
   ·obtain⟨af,ax,au,n2,dc,dQ,b2,t1,t2,t3,t4,t5,t6,t7,t8,t9,t10,t11,t12,t13,t14,mn⟩:=DU (B:=B) (ro:=ro) (co:=co) (rc:=rc) (C:=C) (cc:=cc) (w:=w) bA ay bR t e6 28 (by omega);rcases mn with ⟨hQ,aU,bc,cY,cU,dY,bG,lr,jF,oN,qe,wl,wm,m8,u8,m9,m',na,nb⟩|⟨hQ,bc,cU,dY,bG,m8,u8,m9,m',na,nb⟩
    ·obtain⟨hc,hT,L,fi,js⟩:=next (up bc 2) bG (((Fr.refl H [ql]).trans nb (fun x ab _=>ab)).trans (Fr.up bc 2 [ql]) (fun x ab _=>ab)) (na.aI (Fr.up bc 2 []) (by simp))
     obtain⟨e,ah,h',aC,rfl,rfl,rfl⟩:=Vc H H af ax au aU bc B N rc C cc M ql q ver off j ro co w 0 0 0 0 0 (f j).k n2 dc dQ b2 cY cU dY (fun e ah U=>e=.normal∧ah=l3 ro co N rc C cc M ql w (j+1)∧U=up bc 2)
      (ae aX ⟨bB (by omega),ae (by omega) (ae (by omega) ⟨b7 (by omega),ae (by omega) ⟨e6.rd.ca ay,tg _,tf jI,ae (by omega) ⟨e6.rd.ca ay,ae (by omega) ⟨cR rfl rfl t1,ae t2 ⟨aR.cx t3,ae t4 ⟨t6 _,t5,t7 _,t5,by rw [t8];exact kY _ _ _ _,cR rfl rfl t9,ae t10 ⟨t12 _,bB hQ,ae (by omega) ⟨t14 _,by omega,t12 _,by omega,by rw [lr];exact n0 _ _ _ _,cR rfl rfl jF,ae oN ⟨wl _,qe,wm _,qe,by rw [m8];exact n0 _ _ _ _,by rw [u8];exact kY _ _ _ _,cR rfl rfl m9,ae m' ⟨⟨by omega,by omega⟩,rfl,by rw [dx],rfl⟩⟩⟩⟩⟩⟩⟩⟩⟩⟩)⟩)
     exact⟨hc,hT,bf.round aC (bL.refl _ _ _ _) L,fi,js⟩
    ·obtain⟨hc,hT,L,fi,js⟩:=next (up bc 2) bG (((Fr.refl H [ql]).trans nb (fun x ab _=>ab)).trans (Fr.up bc 2 [ql]) (fun x ab _=>ab)) (na.aI (Fr.up bc 2 []) (by simp))
     obtain⟨e,ah,h',aC,rfl,rfl,rfl⟩:=Vd H H af ax au H bc B N rc C cc M ql q ver off j ro co w 0 0 0 0 0 (f j).k n2 dc dQ b2 0 cU dY (fun e ah U=>e=.normal∧ah=l3 ro co N rc C cc M ql w (j+1)∧U=up bc 2)
      (ae aX ⟨bB (by omega),ae (by omega) (ae (by omega) ⟨b7 (by omega),ae (by omega) ⟨e6.rd.ca ay,tg _,tf jI,ae (by omega) ⟨e6.rd.ca ay,ae (by omega) ⟨cR rfl rfl t1,ae t2 ⟨aR.cx t3,ae t4 ⟨t6 _,t5,t7 _,t5,by rw [t8];exact kY _ _ _ _,cR rfl rfl t9,ae t10 ⟨t12 _,b7 hQ,ae (by omega) ⟨t13 _,by omega,t14 _,by omega,by rw [m8];exact n0 _ _ _ _,by rw [u8];exact kY _ _ _ _,cR rfl rfl m9,ae m' ⟨⟨by omega,by omega⟩,rfl,by rw [dx],rfl⟩⟩⟩⟩⟩⟩⟩⟩⟩)⟩)
     exact⟨hc,hT,bf.round aC (bL.refl _ _ _ _) L,fi,js⟩
   ·obtain⟨hc,hT,L,fi,js⟩:=next (up H 22) _ ((Fr.refl H [ql]).trans (Fr.up H 22 [ql]) (fun x ab _=>ab)) (e6.aI (Fr.up H 22 []) (by simp))
    obtain⟨e,ah,h',aC,rfl,rfl,rfl⟩:=Vb H H H H H H H B N rc C cc M ql q ver off j ro co w 0 0 0 0 0 (f j).k 0 0 0 0 0 0 0 (fun e ah U=>e=.normal∧ah=l3 ro co N rc C cc M ql w (j+1)∧U=up H 22)
     (ae aX ⟨bB (by omega),ae (by omega) (ae (by omega) ⟨b7 (by omega),ae (by omega) ⟨e6.rd.ca ay,tg _,DT jI,ae (by omega) ⟨⟨by omega,by omega⟩,rfl,by rw [dx],rfl⟩⟩⟩)⟩)
    exact⟨hc,hT,bf.round aC (bL.refl _ _ _ _) L,fi,js⟩
end Go.Proofs.YtjpfnbihopoeeaaGreatDoor
namespace Go.Proofs.YtjpfnbihopoeeaaGreatDoor
open Go.ba
theorem JC{M:Nat} :∀(l:List ht)(n:Nat),n≤M→(∀r∈l,r.l.length≤M)→fz n l≤M
 |[],n,h,_=>h
 |r::l,n,h,aF=>JC l _ (Nat.max_le.2 ⟨h,aF r (by simp)⟩) fun x ab=>aF x (List.mem_cons_of_mem _ ab)
theorem Vv{Z:List Int}(h:∀z∈Z,0≤z):∀i,0≤bs (Z.take i)∧bs (Z.take i)≤bs Z:=by
 induction Z with
 |nil=>intro i;simp [bs]
 |cons a r ih =>
  intro i;have bt:=h a (by simp);have ih:=ih fun z cl=>h z (List.mem_cons_of_mem _ cl)
  cases i with
  |zero=>have:=ih r.length;rw [List.take_length]at this;simp only [List.take_zero,bs];omega
  |succ i=>have:=ih i;simp only [List.take_succ_cons,bs];omega
theorem Vw{E N rc C cc o q ver off:Nat}{ro co:Option aO}{w:Int}{rs:List ht}{fc:Nat→cz}{H:I}(bA:N=rs.length)(t:l2 H E o (.slice ro N rc) rs)(o0:qc H q ver off C (.slice co C cc) fc)(bR:E≤H.next)(aw:q<E)(dV:C≤2^20) :
 ∃(Z:List Int)(H':I)(qo:Nat)(v:J),aZ Tryz.prog aq 22 [.slice ro N rc,.slice co C cc,.int .i64 w] H v H'∧dJ H' qo v (dh Z)∧Z.length=min (fz C rs) 64∧(∀z∈Z,0≤z)∧bs Z≤max 0 (iR w-max ((Z.length:Int)-1) 0)∧Fr H H' []:=by
 have W5:=JC rs C dV fun r aC=>(t.qU.2 r aC).1
 obtain⟨bK,U,jn⟩:=Vl (B:=H.next) (ro:=ro) (co:=co) (rc:=rc) (C:=C) (cc:=cc) (w:=w) bA N 0 (up H 7) (by omega) (by show H.next≤H.next+7;omega) (t.aI (Fr.up H 7 []) (by simp));have U:H.next+7≤bK:=U
 obtain⟨M,jj⟩:∃M,M=min (fz C rs) 64:=⟨_,rfl⟩
 let H1:I:=⟨bK,H.aj⟩
 let af:I:=(up H1 4).set (bK+2) (aJ.made (List.replicate M kX.v) 5 true)
 have h6:Fr H (up H1 4) []:=Fr.aj (by show H.next≤bK+4;omega);have Vx:Fr H af []:=h6.more (Fr.set (L:=[bK+2]) (up H1 4) _ _ (by simp)) (kT (by omega));have DY:Fr H (up af 3) []:=Vx.trans (Fr.up af 3 []) (by simp);have n2:af.next=bK+4:=rfl
 obtain⟨ax,f3,hM,fb,f23⟩:=Vt (B:=H.next) (E:=E) (ql:=bK+2) (ro:=ro) (co:=co) (rc:=rc) (cc:=cc) (w:=w) (M:=M) (fc:=fc) bA (by omega) dV (by omega) aw M 0 (up af 3) _ (by omega) (by show H.next≤bK+4+3;omega) (t.aI DY (by simp)) (o0.aI DY (by simp)) ((Jn (up H1 4) (by show bK+2<bK+4;omega) (fun _=>kX)).aI (Fr.up af 3 []) (by simp));have b2:=f23.next
 have b2:bK+4+3≤ax.next:=b2
 have vk:Fr H (up ax 4) []:=(DY.more f23 (kT (by omega))).trans (Fr.up ax 4 []) (by simp)
 have DZ:dk env .min #[3,3] [.int .i64 ((fz C rs:Nat):Int),.int .i64 64] (bK+1) (up H1 4)=some (.int .i64 (M:Nat),up H1 4):=by rw [jj];exact Jx (fz C rs) 64 _ _
 have whole:∀{dR:J}{au:I},aZ Tryz.prog aq 50 [mL (bK+2) M,.int .i64 w,.int .i64 1] (up ax 4) dR au→H.next≤au.next→aZ Tryz.prog aq 22 [.slice ro N rc,.slice co C cc,.int .i64 w] H dR au:=by
  intro dR au wq cY
  obtain⟨v,h',D,rfl,rfl⟩:=Vf H H1 af ax au N rc C cc M (bK+2) (fz C rs) ro co w dR (fun v U=>v=dR∧U=au)
   (ae (Nat.le_refl _) (ae (by omega) (ae (by omega) ⟨aR.cx jn,ae (by show H.next≤bK;omega) ⟨DZ,y9 rfl (by omega),ae (by omega) ⟨aR.cx hM,ae (by omega) ⟨⟨wq⟩,df cY ⟨rfl,rfl⟩⟩⟩⟩⟩)))
  exact D
 by_cases JD:M=0
 ·rw [JD]at whole;have wq:=whole (Uv (H:=up ax 4) w) (by show H.next≤ax.next+4+11;omega);refine⟨[],_,0,_,wq,dJ.nil _ _,by rw [←jj,JD];rfl,by simp,by simp [bs];omega,vk.trans (Fr.up (up ax 4) 11 []) (by simp)⟩
 ·obtain⟨Z,au,qo,v,wq,th,m5,zj,te,f34⟩:=Uw (w:=w) (by omega) (by omega) (fb.rd.aI (Fr.up ax 4 []) (by simp)) (by show bK+2<ax.next+4;omega);have cY:=f34.next
  have cY:ax.next+4≤au.next:=cY
  refine⟨Z,au,qo,v,whole wq (by omega),th,by rw [m5,jj],zj,?_,vk.trans f34 (by simp)⟩;rw [m5];unfold v' at te;omega
theorem Vy{E N rc C cc o q ver off:Nat}{ro co:Option aO}{w:Int}{rs:List ht}{fc:Nat→cz}{H:I}(bA:N=rs.length)(t:l2 H E o (.slice ro N rc) rs)(o0:qc H q ver off C (.slice co C cc) fc)(bR:E≤H.next)(aw:q<E)(dV:C≤2^20) :
 ∃h',aZ Tryz.prog aq 8 [.slice ro N rc,.slice co C cc,.int .i64 w] H (.bool true) h':=by
 obtain⟨Z,H1,qo,v,D0,th,m5,zj,te,f1⟩:=Vw (w:=w) bA (t.aI (Fr.up H 8 []) (by simp)) (o0.aI (Fr.up H 8 []) (by simp)) (by show E≤H.next+8;omega) aw dV;have bK:=f1.next
 have bK:H.next+8≤H1.next:=bK
 obtain⟨wo,wc,rfl⟩:=th.eS;rw [List.length_map]at th D0;obtain⟨m,hm⟩:∃m,m=Z.length:=⟨_,rfl⟩
 rw [←hm]at th D0 m5 te;have Ux:=HJ w;have t1:=(t.aI (Fr.up H 8 []) (by simp)).aI f1 (by simp);obtain⟨n2,ak,jn⟩:=Vm (B:=H.next) (C:=C) (ro:=ro) (wo:=wo) (rc:=rc) (m:=m) (wc:=wc) (w:=w) bA N 0 (up H1 6) (by omega) (by show H.next≤H1.next+6;omega) (t1.aI (Fr.up H1 6 []) (by simp));have ak:H1.next+6≤n2:=ak
 have hs:=Vv zj;have di:=hs Z.length;rw [List.take_length]at di;obtain⟨b2,aP,hM⟩:=Vn (B:=H.next) (wo:=wo) (wc:=wc) (w:=w) hm (by omega) zj (fun i _=>by have:=hs i;omega) m 0 ⟨n2+9,H1.aj⟩ (by omega) (by show H.next≤n2+9;omega) (th.aI (Fr.aj (by omega)) (by simp));have aP:n2+9≤b2:=aP
 have DZ:dk env .min #[3,3] [.int .i64 ((fz C rs:Nat):Int),.int .i64 64] (n2+3) ⟨n2+5,H1.aj⟩=some (.int .i64 (m:Nat),⟨n2+5,H1.aj⟩):=by rw [m5];exact Jx (fz C rs) 64 _ _
 obtain⟨v,h',D,rfl⟩:=Vk H H1 ⟨n2,H1.aj⟩ ⟨b2,H1.aj⟩ N rc C cc m wc (fz C rs) ro co wo w (bs Z) (fun v _=>v=.bool true)
  (ae (Nat.le_refl _) (ae (by omega) ⟨⟨Om _⟩,ae (by omega) ⟨⟨D0⟩,ae (by omega) (ae (by omega) ⟨aR.cx jn,ae (by show H.next≤n2;omega) ⟨DZ,by simp,ae (by show H.next≤n2+5;omega) (ae (by show H.next≤n2+6;omega) ⟨aR.cx hM,ae (by show H.next≤b2;omega) ⟨⟨by omega,by omega⟩,⟨by split<;>split<;>omega,by split<;>split<;>omega⟩,bB (by
   unfold iR at te
   split<;>split<;>omega),df (by show H.next≤b2+12;omega) rfl⟩⟩)⟩⟩)⟩⟩))
 exact⟨h',D⟩
end Go.Proofs.YtjpfnbihopoeeaaGreatDoor
namespace Go.Proofs.YtjpfnbihopoeeaaGreatDoor
open Go.ChangeShapes Go.WideShapes Go.ChangeAt Go.RowKit
open Go.ba
theorem Vz{H:Type}{enc:TypeId×Value→H}{P:Program}{w:World}{base:Nat}{spare:Nat→Bool}{held:Bool}{t:TypeId}(bl:P.underlying t=some .string){s:ByteArray}{dd:DataW H}{ps:List MemPlace}(h:DataW.Trod enc P w base spare held t (.string s) dd ps):s.data.toList.length≤Rows.uptoBulk dd:=by obtain⟨dv,aS⟩:=h;have mD:DataW.trod enc P w base spare held dv t [.string s]=some (dd,ps):=aS;obtain⟨bm,cP,ab,_⟩:=DataW.trod_string bl mD;simp at cP;subst cP;simp only [Prod.mk.injEq]at ab;rw [ab.1];simp only [Rows.uptoBulk];omega
section
variable {H:Type}{enc:TypeId×Value→H}{P:Program}{w:World}
theorem VA{e q:TypeId}(he:P.underlying e=some (.slice q))(aw:P.underlying q=some .string)(sM:P.cellsOf q=1){a:Addr}{r n:Nat}{W:Nat→Prop}(R:vf w a r W){y:DataW H×List MemPlace}(bi:DataW.trod enc P w 0 (fun _=>true) true n e [.slice R.A R.L R.C]=some y):∀s∈R.tx,s.length≤Rows.uptoBulk y.1:=by
 intro s hs;obtain⟨j,ay,rfl⟩:=List.mem_iff_getElem.1 hs;have W6:j<R.L:=by rw [←R.len];exact ay
 rcases R.eS with ap|⟨_,bt,_⟩
 case inr=>omega
 have rel:=R.rel (fun i v=>if i=1+r∧v=0 then some R.p else none) (by simp);rw [ap]at rel;simp only [aA]at rel;obtain⟨x,cH,bo,dt,bX,eS⟩:=rel;obtain⟨p,ag,ow,VB,_⟩:=eS.plain rfl;have ag:R.p=p:=by simpa using ag
 subst ag;have ow:1=R.p.es:=ow;simp only [Value.slice.injEq]at bo;obtain⟨VC,_,W7⟩:=bo;rcases VB with h|⟨JE,ku,_⟩
 ·omega
 have JE:R.p.aB≤0:=JE;have ku:x=R.p.at 0 0:=ku;have eV:=R.el j ay;unfold aJ.elem? at eV;split at eV;case isFalse=>cases eV
 rename_i jx;obtain⟨_,_,ar⟩:=(R.row.row (fun _ _=>none) (fun _=>False)).cont (0+j) _ (by omega) jx eV;obtain⟨v,a7,lX,_⟩:=ar 0 (.str R.tx[j]) rfl;simp only [aA]at lX;obtain⟨t,rfl,bl⟩:=lX;rcases DataW.trod_slice he bi with ⟨cP,_⟩|⟨br,tj,jO,a',rest,m,_,cP,oF,_,aF,hm,hlen,VD,rh,_⟩
 ·simp at cP;omega
 ·simp only [List.cons.injEq,Value.slice.injEq,and_true]at cP;obtain⟨JF,W8,_⟩:=cP;rw [VC]at JF;obtain rfl:=Option.some.inj JF;have U:=VD j (by omega);rw [sM,Nat.mul_one]at U
  have j7:x.add j=R.p.at (0+j) 0:=by
   rw [ku];unfold Addr.add Place.at;have:R.p.aB=0:=by omega
   split
   ·rename_i h;subst h;rfl
   ·simp only [this,←ow]
    congr 1
    omega
  have hv:j<a'.length:=by omega
  rw [List.getElem?_eq_getElem hv,Option.bind_eq_some_iff]at U;obtain⟨cs,g1,g2⟩:=U;have mh:=World.cells?_some g1;have dO:cs.length=1:=mh.2.1
  match cs,dO with
  |[v],_ =>
   have e0:=mh.2.2 0 (by decide);have bO:(x.add j).add 0=x.add j:=by unfold Addr.add;simp
   rw [bO,j7,a7]at e0;obtain rfl:v=.string t:=by simpa using e0.symm
   have aP:=Vz aw (dd:=(a'[j]).1) (ps:=(a'[j]).2) ⟨m,g2⟩;have bQ:Rows.uptoBulk (a'[j]).1≤Rows.uptoBulkAll (a'.map (·.1)):=Cn (List.mem_map.2 ⟨_,List.getElem_mem hv,rfl⟩);rw [oF,←bl];simp only [Rows.uptoBulk];omega
theorem JX{t e q:TypeId}(bl:P.underlying t=some (.slice e))(he:P.underlying e=some (.slice q))(ce:P.cellsOf e=1)(aw:P.underlying q=some .string)(sM:P.cellsOf q=1)(VE:P.bytesOf q=16)(pD:(List.range 1).map (lT P 5 q)=([gQ.string]:List gQ).map some)(hw:0<w.heap.size)
 {a:Option Addr} {len cap:Nat} {dd:DataW H} {ps:List MemPlace} (h:DataW.Trod enc P w 0 (fun _=>true) true t (.slice a len cap) dd ps) (ti:∀y∈dd.weights P t,y≤reachBytes) :
 ∃(l:List (aJ×ba.Place)) (o:Option aO) (c:Nat) (rs:List ht),(∀S,∀x∈l,yi (hL (l.map (·.2))) S w x.1 x.2)∧aA (hL (l.map (·.2))) (.slice o len c) (.slice a len cap)∧vb (I.of (l.map (·.1))) 0 (.slice o len c) rs∧rs.length=len∧0<(I.of (l.map (·.1))).next ∧
  (∀r∈rs,r.q<(I.of (l.map (·.1))).next)∧(∀r∈rs,r.l.length*16≤reachBytes∧∀s∈r.l,s.length≤reachBytes)∧len≤maxLen∧∀r∈rs,∃es ri d A C zk,dd=.slice es ri∧d∈es∧DataW.Trod enc P w 0 (fun _=>true) true e (.slice A r.l.length C) d zk∧∀s∈r.l,s.length≤Rows.uptoBulk d:=by
 obtain⟨dv,aS⟩:=h;have mD:DataW.trod enc P w 0 (fun _=>true) true dv t [.slice a len cap]=some (dd,ps):=aS;rcases DataW.trod_slice bl mD with ⟨cP,_⟩|⟨x,tj,jO,a',rest,n,_,cP,oF,_,aF,hm,hlen,eV,rh,_⟩
 ·simp at cP;obtain⟨rfl,rfl,rfl⟩:=cP;refine⟨[(oE 1,pR 1)],none,0,[],(fun S x h=>by rw [List.mem_singleton.1 h];exact(sK hw (by omega)).two),by simp [aA],⟨dJ.nil _ _,by simp⟩,rfl,?_,by simp,by simp,by simp,by simp⟩;rw [I.of_next];simp
 ·simp at cP;obtain⟨rfl,rfl,rfl⟩:=cP;obtain⟨Hj,aC⟩:=rh rfl;simp only [Prod.mk.injEq]at oF;by_cases jX:cap=0
  ·subst jX;obtain rfl:len=0:=by omega
   refine⟨[(oE 1,pR 1)],some ⟨0,0,0,0,1⟩,0,[],(fun S x h=>by rw [List.mem_singleton.1 h];exact(sK hw (by omega)).two),?_,⟨⟨_,_,rfl,(fun a h=>by cases h;exact⟨rfl,rfl⟩),.inl rfl⟩,by simp⟩,rfl,?_,by simp,by simp,by simp,by simp⟩
   ·simp only [aA];exact⟨x,0,rfl,Nat.le_refl _,Nat.le_refl _,.inl ⟨rfl,_,rfl,rfl,.inl rfl,fun _=>rfl⟩⟩
   ·rw [I.of_next];simp
  have D1:∀r,r<cap→ ∃v y,w.cell? (x.add r)=some v∧DataW.trod enc P w 0 (fun _=>true) true n e [v]=some y∧(r<len→y∈a'):=by
   intro r cV
   have ao:∃y,(w.cells? 0 (x.add (r*P.cellsOf e)) (P.cellsOf e)).bind (DataW.trod enc P w 0 (fun _=>true) true n e)=some y∧(r<len→y∈a'):=by
    by_cases k1:r<len
    ·exact⟨_,(eV r k1).trans (List.getElem?_eq_getElem (by omega)),fun _=>List.getElem_mem _⟩
    ·have:=aC (r-len) (by omega);rw [show len+(r-len)=r by omega]at this;exact⟨_,this.trans (List.getElem?_eq_getElem (by omega)),fun h=>absurd h k1⟩
   obtain⟨y,bi,jW⟩:=ao;rw [ce,Option.bind_eq_some_iff,Nat.mul_one]at bi;obtain⟨cs,U,ak⟩:=bi;have mh:=World.cells?_some U;have dO:cs.length=1:=mh.2.1
   match cs,dO with
   |[v],_ =>
    have e0:=mh.2.2 0 (by decide)
    exact⟨v,y,by
     have:(x.add r).add 0=x.add r:=by unfold Addr.add;simp
     rw [←this];exact e0,ak,jW⟩
  have we:∀r (cV:r<cap),Nonempty (vf w x r fun z=>r<len→z≤reachBytes∨False):=by
   intro r cV;obtain⟨v,y,U,ak,aP⟩:=D1 r cV;refine OG he pD sM hw U ak _ fun z cl bH=> .inl (ti z ?_)
   rw [oF.1];simp only [DataW.weights,bl];exact List.mem_cons_of_mem _ (List.mem_append_left _ (yj (List.mem_map.2 ⟨_,aP bH,rfl⟩) cl))
  let y:Fin cap→Sigma fun r=>vf w x r fun z=>r<len→z≤reachBytes∨False:=fun i=>⟨i.1,Classical.choice (we i.1 i.2)⟩
  let g:(i:Fin cap)→vf w x i.1 fun z=>i.1<len→z≤reachBytes∨False:=fun i=>Classical.choice (we i.1 i.2)
  have pS:x.spot=none:=by have bt:=(g ⟨0,by omega⟩).cell;simpa [Addr.add]using World.cell?_spot bt
  have j7:∀i,i<cap→x.add i=⟨x.block,x.off+i,none⟩:=by
   intro i ac;obtain⟨Hk,of,ri⟩:=x;simp only at pS;subst pS;unfold Addr.add;split
   ·rename_i bt;subst bt;rfl
   ·rfl
  have ao:x.block<w.heap.size:=by
   have:=(g ⟨0,by omega⟩).cell;unfold World.cell? at this;split at this
   ·rename_i ao;have fr:=(Array.getElem?_eq_some_iff.1 ao).1;simpa [Addr.add]using fr
   ·cases this
  let mj:aJ:= {a':=List.ofFn fun i=> .slice (g i).o (g i).L (g i).c,es:=1,exact:=true,ro:=true,ver:=0,eD:=0,hU:=0,ty:=none}
  let op:ba.Place:= {bD:=x.block,off:=x.off,aB:=0,es:=1,tot:=cap,exact:=true,ro:=true}
  let l:List (aJ×ba.Place):=(mj,op)::List.ofFn fun i=>((g i).b,(g i).p)
  have og:l.length=1+cap:=by simp [l];omega
  have JG:∀i:Fin cap,l[1+i.1]? =some ((g i).b,(g i).p):=by intro i;rw [show 1+i.1=i.1+1 by omega];simp [l]
  have VF:∀i:Fin cap,hL (l.map (·.2)) (1+i.1) 0=some (g i).p:=by intro i;unfold hL;rw [if_pos rfl,List.getElem?_map,JG i];rfl
  have hn:∀S,Row (hL (l.map (·.2))) S mj 0 op w:=by
   intro S;refine⟨ao,(fun h=>by cases h),?_,(fun h=>by cases h),(fun h=>by cases h),(fun q h=>by cases h),?_⟩
   ·intro o ap;have ap:o<cap:=by simpa [op]using ap
    have:=(g ⟨o,ap⟩).cell;rw [j7 o ap]at this;show(w.cell? ⟨x.block,x.off+o,none⟩).isSome=true;rw [this];rfl
   ·intro i e' _ _ iq;have iq:(List.ofFn fun i:Fin cap=>J.slice (g i).o (g i).L (g i).c)[i]? =some e':=iq;have ac:i<cap:=by have:=(List.getElem?_eq_some_iff.1 iq).1;simpa using this
    have qF:e'=.slice (g ⟨i,ac⟩).o (g ⟨i,ac⟩).L (g ⟨i,ac⟩).c:=by simp [ac]at iq;exact iq.symm
    subst qF;refine⟨by simp [J.cells,op],by simpa [op]using ac,fun j br ns=> ?_⟩;simp only [J.cells]at ns
    have ay:j=0:=by have:=(List.getElem?_eq_some_iff.1 ns).1;simpa using this
    subst ay;simp only [List.getElem?_cons_zero,Option.some.injEq]at ns;subst ns;refine⟨.slice (g ⟨i,ac⟩).A (g ⟨i,ac⟩).L (g ⟨i,ac⟩).C,?_,(g ⟨i,ac⟩).rel _ (VF ⟨i,ac⟩),rfl⟩;have U:=(g ⟨i,ac⟩).cell;rw [j7 i ac]at U;simpa [Place.at,op]using U
  let rs:List ht:=List.ofFn fun i:Fin len=>⟨1+i.1,.slice (g ⟨i.1,by omega⟩).o (g ⟨i.1,by omega⟩).L (g ⟨i.1,by omega⟩).c,(g ⟨i.1,by omega⟩).tx⟩
  have xR:(I.of (l.map (·.1))).next=1+cap:=by rw [I.of_next,List.length_map,og]
  have qu:(Ck rs).length=len:=by simp [rs]
  refine⟨l,some ⟨0,0,0,0,1⟩,cap,rs,fun S=> ?_,?_,⟨⟨_,cap,by rw [qu],(fun a h=>by cases h;exact⟨rfl,rfl⟩),.inr ⟨0,0,mj,rfl,by omega,?_,fun i ac=> ?_⟩⟩,fun r cV=> ?_⟩,by simp [rs],by omega,fun r cV=> ?_,fun r cV=> ?_,Nat.le_trans aF hm,fun r cV=> ?_⟩
  ·intro z cl;rcases List.mem_cons.1 cl with rfl|cl
   ·exact⟨rfl,rfl,rfl,rfl,by simp [op],rfl,hn S⟩
   ·obtain⟨i,rfl⟩:=(List.mem_ofFn.1 cl)
    exact(g i).row.two
  ·simp only [aA];refine⟨x,cap,rfl,aF,Nat.le_refl _,.inl ⟨rfl,op,?_,rfl,?_,fun _=>rfl⟩⟩
   ·unfold hL;rw [if_pos rfl];rfl
   ·refine .inr ⟨Nat.le_refl _,?_,by simp [op]⟩;have:=j7 0 (by omega);simp only [Addr.add,if_true]at this;simpa [Place.at,op]using this
  ·rw [I.io];rfl
  ·have du:i<len:=by omega
   have U:mj.elem? 0 (0+i)=mj.a'[i]? :=by simp [aJ.elem?,aJ.cj,mj]
   rw [U];simp [mj,rs,show i<cap by omega]
  ·obtain⟨i,rfl⟩:=(List.mem_ofFn.1 cV)
   have G:=g ⟨i.1,by omega⟩;have ac:i.1<cap:=by omega
   have JH:=(g ⟨i.1,ac⟩).len
   have uI:(I.of (l.map (·.1))).get (1+i.1)=some (g ⟨i.1,ac⟩).b:=by rw [I.io,List.getElem?_map,JG ⟨i.1,ac⟩];rfl
   refine⟨(g ⟨i.1,ac⟩).o,(g ⟨i.1,ac⟩).c,by rw [List.length_map,JH],?_,?_⟩
   ·intro a aW;rcases (g ⟨i.1,ac⟩).eS with h|⟨h,_⟩
    ·rw [h]at aW;cases aW;exact⟨rfl,rfl⟩
    ·rw [h]at aW;cases aW
   ·rcases (g ⟨i.1,ac⟩).eS with h|⟨_,h,_⟩
    ·refine .inr ⟨0,0,_,h,by show 1+i.1<_;omega,uI,fun j ay=> ?_⟩;have hv:j<(g ⟨i.1,ac⟩).tx.length:=by simpa using ay
     rw [(g ⟨i.1,ac⟩).el j hv];simp
    ·left;rw [List.map_eq_nil_iff];exact List.length_eq_zero_iff.1 (by rw [JH,h])
  ·obtain⟨i,rfl⟩:=(List.mem_ofFn.1 cV)
   show 1+i.1<_;omega
  ·obtain⟨i,rfl⟩:=(List.mem_ofFn.1 cV)
   have ac:i.1<cap:=by omega
   refine⟨?_,fun s hs=>(g ⟨i.1,ac⟩).w reachBytes (fun z cl=>(cl i.2).resolve_right id) s hs⟩;show(g ⟨i.1,ac⟩).tx.length*16≤reachBytes;rw [(g ⟨i.1,ac⟩).len];obtain⟨v,er,U,ak,aP⟩:=D1 i.1 ac
   have a7:v=.slice (g ⟨i.1,ac⟩).A (g ⟨i.1,ac⟩).L (g ⟨i.1,ac⟩).C:=by have:=(g ⟨i.1,ac⟩).cell;rw [U]at this;simpa using this
   subst a7
   have:=D7 he (dd:=er.1) (ps:=er.2) ⟨n,ak⟩ (fun z cl=>ti z (by
    rw [oF.1];simp only [DataW.weights,bl]
    exact List.mem_cons_of_mem _ (List.mem_append_left _ (yj (List.mem_map.2 ⟨_,aP i.2,rfl⟩) cl))))
   rw [VE]at this;exact this
  ·obtain⟨i,rfl⟩:=(List.mem_ofFn.1 cV)
   have ac:i.1<cap:=by omega
   obtain⟨v,er,U,ak,aP⟩:=D1 i.1 ac
   have a7:v=.slice (g ⟨i.1,ac⟩).A (g ⟨i.1,ac⟩).L (g ⟨i.1,ac⟩).C:=by have:=(g ⟨i.1,ac⟩).cell;rw [U]at this;simpa using this
   subst a7;refine⟨_,_,er.1,(g ⟨i.1,ac⟩).A,(g ⟨i.1,ac⟩).C,er.2,oF.1,List.mem_map.2 ⟨_,aP i.2,rfl⟩,⟨n,?_⟩,fun s hs=>VA he aw sM (g ⟨i.1,ac⟩) ak s hs⟩;have bo:(g ⟨i.1,ac⟩).tx.length=(g ⟨i.1,ac⟩).L:=(g ⟨i.1,ac⟩).len;show DataW.trod enc P w 0 (fun _=>true) true n e [.slice (g ⟨i.1,ac⟩).A (g ⟨i.1,ac⟩).tx.length (g ⟨i.1,ac⟩).C]=some er;rw [bo];exact ak
end
theorem J7{w:World}{x:Addr}{o:Option aO}{len c id:Nat}{b:aJ}{φ:Map}{v:Value}(h:sG o len c id 0 0 5)(a7:aA φ (.slice o len c) v)(ab:∀i,i<len→b.elem? 0 (0+i)=some (elemAt w x true 5 i))(he:∀i j,i<len→j<5→ ∃k,([.int .i8,.int .i64,.int .i64,.int .i64,.int .i64]:List gQ)[j]? =some k∧nH k (cellAt w x (i*5+j)))
 {H:I} (an:H.get id=some b) (hid:id<H.next):∃f:Nat→cz,qc H id 0 0 len (.slice o len c) f:=by
 have key:∀i,∃y:cz,i<len→elemAt w x true 5 i=y.v:=by
  intro i;by_cases ac:i<len
  ·obtain⟨jN,a0,aL⟩:=he i 0 ac (by omega);obtain⟨k1,cM,aT⟩:=he i 1 ac (by omega);obtain⟨k2,a2,bw⟩:=he i 2 ac (by omega);obtain⟨bT,a3,cy⟩:=he i 3 ac (by omega);obtain⟨cr,a4,fv⟩:=he i 4 ac (by omega);simp at a0 cM a2 a3 a4;subst a0 cM a2 a3 a4;obtain⟨aD,e0,_⟩:=aL;obtain⟨bK,bo,_⟩:=aT;obtain⟨n2,bO,_⟩:=bw;obtain⟨b2,fR,_⟩:=cy;obtain⟨cY,jV,_⟩:=fv;refine⟨⟨aD,bK,n2,b2,cY⟩,fun _=> ?_⟩;have e:elemAt w x true 5 i=.agg [ig (cellAt w x (i*5+0)),ig (cellAt w x (i*5+1)),ig (cellAt w x (i*5+2)),ig (cellAt w x (i*5+3)),ig (cellAt w x (i*5+4))]:=rfl;rw [e,e0,bo,bO,fR,jV];rfl
  ·exact⟨kX,fun h=>absurd h ac⟩
 refine⟨fun i=>Classical.choose (key i),?_⟩;rcases h with rfl|⟨_,h,_⟩
 ·simp only [aA]at a7;obtain⟨_,_,_,dt,_⟩:=a7;exact .inr ⟨c,dt,rfl,hid,b,an,fun i ac=>by rw [ab i ac,Classical.choose_spec (key i) ac]⟩
 ·exact .inl h
theorem J9{D:Type}{d0 d1 d2:DataW D}{H:I}{N rc C cc id:Nat}{ro co:Option aO}{rs:List ht}{fc:Nat→cz}(t:vb H 0 (.slice ro N rc) rs)(bA:rs.length=N)(bt:0<H.next)(aw:∀r∈rs,r.q<H.next)(aL:N≤Rows.uptoBulk d0)
 (CF:∀r∈rs,r.l.length≤Rows.uptoBulk d0∧∀s∈r.l,s.length≤Rows.uptoBulk d0) (o0:qc H id 0 0 C (.slice co C cc) fc) (hid:id<H.next) (aT:C≤Rows.uptoBulk d1) (az:Rows.uptoSmall D [d0,d1,d2]=true) (w:Int) :
 ∃h',aZ Tryz.prog aq 8 [.slice ro N rc,.slice co C cc,.int .i64 w] H (.bool true) h':=by
 have dN:Rows.uptoBulkAll [d0,d1,d2]≤1048576:=of_decide_eq_true az;simp only [Rows.uptoBulkAll]at dN;refine Vy (E:=H.next) bA.symm ⟨t.1,t.2,⟨bt,aw⟩,by omega,fun r aC=>⟨by have:=(CF r aC).1;omega,fun s hs=>by have:=(CF r aC).2 s hs;omega⟩⟩ o0 (Nat.le_refl _) hid (by omega)
theorem J'{H:Type}{enc:TypeId×Value→H}{P:Program}{w:World}{e q:TypeId}(he:P.underlying e=some (.slice q)){dd:DataW H}{rs:List ht}(h:∀r∈rs,∃es ri d A C zk,dd=.slice es ri∧d∈es∧DataW.Trod enc P w 0 (fun _=>true) true e (.slice A r.l.length C) d zk∧∀s∈r.l,s.length≤Rows.uptoBulk d):∀r∈rs,r.l.length≤Rows.uptoBulk dd∧∀s∈r.l,s.length≤Rows.uptoBulk dd:=by intro r aC;obtain⟨es,ri,d,A,C,zk,rfl,ak,aP,ct⟩:=h r aC;have bQ:=zr he aP;have cL:=Cn ak;simp only [Rows.uptoBulk];exact⟨by omega,fun s hs=>by have:=ct s hs;omega⟩
end Go.Proofs.YtjpfnbihopoeeaaGreatDoor
namespace Go.Proofs.YtjpfnbihopoeeaaGreatDoor
open Go.ChangeShapes Go.WideShapes Go.RowKit Go.Stop
open Go.ba
noncomputable def wu(os:Os):World :=
 {World.doorLaid Tryz.prog 96 os with heap:=(World.doorLaid Tryz.prog 96 os).heap.modify 3 fun
  |.cells _ t frozen=> .cells (Go.Pinned.utf8FirstZ.map fun(z:Nat)=>Value.int .u8 (z:Int)).toArray t frozen
  |o=>o}
theorem VG{P:Program}{w:World}{l:List (String×DataW Unit)}(dv M:Nat)(h:(DataW.laidRun P w dv (l.map (·.1))).bind (fun x=>if nodupBits M x.2 0&&laidRowsB P w x.2 then some x.1 else none)=some l):laidMet P l w:=by
 simp only [Option.bind_eq_some_iff]at h;obtain⟨x,ab,d⟩:=h;split at d
 ·rename_i ao;simp only [Bool.and_eq_true]at ao;simp only [Option.some.injEq]at d;exact laidMet_of_run (ps:=x.2) dv (by rw [ab,←d]) (decide_eq_true (nodupBits_sound ao.1).1) ao.2
 ·cases d
theorem zl(os:Os)(args:Array Value):laidMetH Tryz.prog Rows.tableKnownRow.laid ((wu os).forCall (fun _ _=>0) ⟨#[],args,[]⟩).memory:=by rw [MakeChecks.laidMetH_plain _ _ _ (by kernel_rfl)];exact VG 8 257 (by kernel_rfl)
theorem JI:Tryz.prog.globalNamed "strconv.ErrSyntax" =some 1:=by kernel_rfl
theorem VH:(Tryz.prog.globals[1]?).map (·.type)=some 100:=by kernel_rfl
theorem JJ: "*" ++ "errors.errorString" = "*errors.errorString" :=by decide
theorem VI(u:TypeId)(h:Tryz.prog.typeName? 3 u=some "*errors.errorString"):u=276 :=
 typeName_ptr_named (nm:= "errors.errorString") (by rw [JJ];kernel_rfl) (by kernel_rfl) (by decide) u (by rw [JJ];exact h)
theorem VJ:Tryz.prog.cellsOf 278=1:=by kernel_rfl
theorem strCells:Tryz.prog.cellsOf 9=1:=by kernel_rfl
theorem VK{P:Program}{W:World}{n:String}{g:Nat}{v:Value}(an:P.globalNamed n=some g)(h:W.var? P n=some #[v]):W.cell? ⟨g,0,none⟩=some v∧g<W.heap.size:=by
 unfold World.var? at h;rw [an]at h;simp only [Option.bind_some]at h;split at h
 ·rename_i cs t f ck;simp only [Option.some.injEq]at h;subst h;refine⟨by simp [World.cell?,ck],(Array.getElem?_eq_some_iff.1 ck).1⟩
 ·cases h
theorem JL{W:World}(h:laidMetH Tryz.prog Rows.tableKnownRow.laid W):aq (fun k=>k<W.heap.size) W:=by rw [MakeChecks.laidMetH_plain _ _ _ (by kernel_rfl)]at h;have ct:=laidMet.tail (laidMet.tail (laidMet.tail (laidMet.tail (laidMet.tail h))));obtain⟨a2,s2,hs,_⟩:=laid_sentinel ct JI VH Tryz.underlying100 VI Tryz.underlying276 Tryz.underlying278 rfl rfl Tryz.underlying9 VJ strCells;obtain⟨s1,s2⟩:=VK JI hs;exact⟨s2,⟨_,_,s1⟩⟩
end Go.Proofs.YtjpfnbihopoeeaaGreatDoor
