/-
  Parts of the proof of KeysEach.
-/
import Derived.ProofKit
import Derived.OpenShut
import Derived.ChangeOld
import Derived.HandedShaped
import Derived.Deep.Slices
import Derived.Test.YtddnafghiejcoaaGreatDoorRows
import Derived.LaidMore
import Derived.Stop.Joined
import Derived.Stop.LaidErr
import Derived.MakeChecks
import Derived.Lib.LaidTab
import Derived.LaidOnce
import Derived.Lib.Space
import Derived.Test.YtddnafghiejcoaaGreatDoorKKeysEachG
set_option linter.unusedVariables false
set_option linter.unusedSimpArgs false
namespace Go.Proofs.YtddnafghiejcoaaGreatDoor
open Go.cM Go.Keys
set_option maxRecDepth 1000000
abbrev Q1(H:j):j:=(j.mk (H.next+14+2) (j.aJ (j.mk (H.next+4+10) (j.aJ (j.mk (H.next+4) (j.aJ H))))))
theorem IZ(H:j)(B q n c i acc:Nat)(t:Bytes)(U:dc→bP→j→Prop)(aY:bF B (H.next) (((i:Int)<(n:Int)→bF B (H.next+4) ((-9223372036854775808≤(acc:Int)+1∧(acc:Int)+1≤9223372036854775807)∧(0≤(i:Int)∧(i:Int)<(n:Int))∧cj env.D 9 ⟨q,0,0+Int.toNat (i:Int),5,6⟩ (j.mk (H.next+14) (H.2))=some (o.str t)∧(-9223372036854775808≤(acc:Int)+1+(↑(List.length t):Int)∧(acc:Int)+1+(↑(List.length t):Int)≤9223372036854775807)∧bF B (H.next+14) ((134217728<(acc:Int)+1+(↑(List.length t):Int)→bF B (H.next+16) (U .ret [(0,.slice (some ⟨q,0,0,0,6⟩) n c),(2,.bool true),(3,.int .i64 ((acc:Int)+1+(↑(List.length t):Int))),(4,.int .i64 (i:Int))] (j.mk (H.next+16+1) (j.aJ (Q1 H)))))∧(¬134217728<(acc:Int)+1+(↑(List.length t):Int)→bF B (H.next+16) ((-9223372036854775808≤(i:Int)+1∧(i:Int)+1≤9223372036854775807)∧U .normal [(0,.slice (some ⟨q,0,0,0,6⟩) n c),(3,.int .i64 ((acc:Int)+1+(↑(List.length t):Int))),(4,.int .i64 ((i:Int)+1))] (j.mk (H.next+16+3) (j.aJ (Q1 H))))))))∧(¬(i:Int)<(n:Int)→U (.exit 0) [(0,.slice (some ⟨q,0,0,0,6⟩) n c),(3,.int .i64 (acc:Int)),(4,.int .i64 (i:Int))] (j.mk (H.next+4) (j.aJ H))))) :
 ∃e aW p,cx Tryz.prog aw B 91 (cF Tryz.prog 12 0) [(0,.slice (some ⟨q,0,0,0,6⟩) n c),(3,.int .i64 acc),(4,.int .i64 i)] H e aW p∧U e aW p :=
 gm bQ mixed je (an:= .aK 3003 (ag 5001 (ag 5004 (.aA (.val 5006 (.str t)) (ag 5008 (.aK 6001 .nil (ag 4001 .nil)))))) .nil) (cs:=[0,2,3,4]) (by kernel_rfl) aY
theorem aeT(H:j)(B c:Nat)(U:dc→bP→j→Prop)(aY:bF B (H.next) (U (.exit 0) [(0,.slice none 0 c),(3,.int .i64 0),(4,.int .i64 0)] (j.mk (H.next+4) (j.aJ H)))) :
 ∃e aW p,cx Tryz.prog aw B 91 (cF Tryz.prog 12 0) [(0,.slice none 0 c),(3,.int .i64 0),(4,.int .i64 0)] H e aW p∧U e aW p :=
 gm bQ mixed je (an:= .nil) (cs:=[0,2,3,4]) (by kernel_rfl) aY
abbrev iO(q:Nat)(n:Nat)(c:Nat):o:=o.slice (some ⟨q,0,0,0,6⟩) n c
abbrev nA(C:Nat)(eh:Nat)(ej:Nat):o:=o.slice (some ⟨C,eh,0,0,1⟩) ej ej
abbrev lU(k:Int)(co:Int)(m:Int)(x:Int)(z:Int)(t:Bytes):o:=o.agg [.int .i8 k,.int .i32 co,.int .u8 m,.int .i64 x,.int .i64 z,.str t]
theorem aeU(H H1 aH aZ bJ:j)(B q n c i dS y C eh ej:Nat)(fr:Option bG)(k co m x z:Int)(t:Bytes)(b8 iC j2:o)(U:dc→bP→j→Prop)(aY:bF B (H.next) (((i:Int)<(n:Int)→((dS:Int)<1000→bF B (H.next+9) ((0≤(i:Int)∧(i:Int)<(n:Int))∧cj env.D 42 ⟨q,0,0+Int.toNat (i:Int),0,6⟩ (j.mk (H.next+19) (H.2))=some ((lU k co m x z t))∧c7 Tryz.prog aw 21 [(lU k co m x z t)] (j.mk (H.next+19) (H.2)) (.tuple [(nA C eh ej),.int .i64 0]) H1∧bF B (H1.next) (some (o.bool ((ej:Int) == 1))=some (o.bool false)∧some (o.bool (decide ((ej:Int)>200)))=some (o.bool false)∧bF B (H1.next+18) (fZ env Builtin.append {toList:=[34,34]} [b8,(nA C eh ej)] (H1.next+20) (j.mk (H1.next+22) (H1.2))=some (iC,aH)∧bF B (aH.next) ((0≤(i:Int)∧(i:Int)<(n:Int))∧cj env.D 42 ⟨q,0,0+Int.toNat (i:Int),0,6⟩ (j.mk (aH.next+8) (aH.2))=some ((lU k co m x z t))∧b0 env e7 (aH.next+5) (bU [(72,(lU k co m x z t)),(71,.ptr (some ⟨q,0,0+Int.toNat (i:Int),0,6⟩)),(70,.int .i64 (i:Int)),(69,(iO q n c)),(68,.slice fr dS dS),(5,iC),(67,iC),(66,(nA C eh ej)),(65,b8),(64,.bool false),(63,.bool false),(62,.int .i64 (ej:Int)),(61,(nA C eh ej)),(60,.bool false),(59,.bool false),(58,.bool false),(57,.tuple []),(56,.tuple []),(55,.tuple []),(54,.tuple []),(53,.bool false),(52,.bool false),(51,.int .i64 (ej:Int)),(50,(nA C eh ej)),(49,.bool false),(48,.bool false),(47,.int .i64 0),(9,.int .i64 0),(8,(nA C eh ej)),(46,.int .i64 0),(45,(nA C eh ej)),(39,.tuple [(nA C eh ej),.int .i64 0]),(44,.tuple [(nA C eh ej),.int .i64 0]),(43,(lU k co m x z t)),(42,.ptr (some ⟨q,0,0+Int.toNat (i:Int),0,6⟩)),(41,.int .i64 (i:Int)),(40,(iO q n c)),(36,.bool true),(35,.bool true),(34,.int .i64 (dS:Int)),(33,.slice fr dS dS),(32,.bool true),(31,.bool true),(30,.int .i64 (n:Int)),(29,(iO q n c)),(28,.int .i64 (i:Int)),(0,(iO q n c)),(6,.slice fr dS dS),(7,.int .i64 (i:Int))]) (j.mk (aH.next+8) (aH.2)) (Op.buildSlice 56 1 {toList:=[(0,Operand.tmp 72)]})=some (o.slice (some ⟨y,0,0,0,6⟩) 1 1,aZ)∧fZ env Builtin.append {toList:=[56,56]} [.slice fr dS dS,.slice (some ⟨y,0,0,0,6⟩) 1 1] (aH.next+6) aZ=some (j2,bJ)∧bF B (bJ.next) ((-9223372036854775808≤(i:Int)+1∧(i:Int)+1≤9223372036854775807)∧U .normal [(0,(iO q n c)),(5,iC),(6,j2),(7,.int .i64 ((i:Int)+1))] (j.mk (bJ.next+3) (j.aJ bJ))))))))∧(¬(dS:Int)<1000→U (.exit 2) [(0,(iO q n c)),(5,b8),(6,.slice fr dS dS),(7,.int .i64 (i:Int))] (j.mk (H.next+9) (j.aJ H))))∧(¬(i:Int)<(n:Int)→U (.exit 2) [(0,(iO q n c)),(5,b8),(6,.slice fr dS dS),(7,.int .i64 (i:Int))] (j.mk (H.next+9) (j.aJ H))))) :
 ∃e aW p,cx Tryz.prog aw B 91 (cF Tryz.prog 12 1) [(0,.slice (some ⟨q,0,0,0,6⟩) n c),(5,b8),(6,.slice fr dS dS),(7,.int .i64 i)] H e aW p∧U e aW p :=
 gm bQ mixed je (an:= .aK 11003 (.aK 11007 (ag 13002 (.aA (.val 13003 (c3 k co m x z t)) (.aA (.act 13004 (.tuple [(nA C eh ej),.int .i64 0]) fun x=>H1) (.aA (.val 14005 (.bool false)) (.aA (.val 14016 (.bool false)) (.aA (.act 15002 iC fun x=>aH) (ag 16003 (.aA (.val 16004 (c3 k co m x z t)) (.aA (.act 16005 (.slice (some ⟨y,0,0,0,6⟩) 1 1) fun x=>aZ) (.aA (.act 16006 j2 fun x=>bJ) (ag 12001 .nil))))))))))) .nil) .nil) (cs:=[0,5,6,7]) (by kernel_rfl) aY
abbrev ow(C:Nat)(eh:Nat):o:=o.slice (some ⟨C,eh,0,0,1⟩) 1 1
theorem Q2(H H1 aH aZ bJ:j)(B q n c i dS y C eh:Nat)(b:Int)(fr:Option bG)(k co m x z:Int)(t:Bytes)(b8 iC j2:o)(U:dc→bP→j→Prop)(aY:bF B (H.next) (((i:Int)<(n:Int)→((dS:Int)<1000→bF B (H.next+9) ((0≤(i:Int)∧(i:Int)<(n:Int))∧cj env.D 42 ⟨q,0,0+Int.toNat (i:Int),0,6⟩ (j.mk (H.next+19) (H.2))=some ((lU k co m x z t))∧c7 Tryz.prog aw 21 [(lU k co m x z t)] (j.mk (H.next+19) (H.2)) (.tuple [(ow C eh),.int .i64 0]) H1∧bF B (H1.next) (cj env.D 5 ⟨C,eh,0,0,1⟩ (j.mk (H1.next+18) (H1.2))=some (.int .u8 b)∧(b=27→bF B (H1.next+18) ((-9223372036854775808≤(i:Int)+1∧(i:Int)+1≤9223372036854775807)∧U .normal [(0,(iO q n c)),(5,b8),(6,.slice fr dS dS),(7,.int .i64 ((i:Int)+1))] (j.mk (H1.next+18+3) (j.aJ (j.mk (H1.next+18) (j.aJ H1))))))∧(¬b=27→bF B (H1.next+18) (fZ env Builtin.append {toList:=[34,34]} [b8,(ow C eh)] (H1.next+20) (j.mk (H1.next+22) (H1.2))=some (iC,aH)∧bF B (aH.next) ((0≤(i:Int)∧(i:Int)<(n:Int))∧cj env.D 42 ⟨q,0,0+Int.toNat (i:Int),0,6⟩ (j.mk (aH.next+8) (aH.2))=some ((lU k co m x z t))∧b0 env e7 (aH.next+5) (bU [(72,(lU k co m x z t)),(71,.ptr (some ⟨q,0,0+Int.toNat (i:Int),0,6⟩)),(70,.int .i64 (i:Int)),(69,(iO q n c)),(68,.slice fr dS dS),(5,iC),(67,iC),(66,(ow C eh)),(65,b8),(64,.bool false),(63,.bool false),(62,.int .i64 1),(61,(ow C eh)),(60,.bool false),(59,.bool false),(58,.bool false),(57,.bool false),(56,.int .u8 b),(55,.ptr (some ⟨C,eh,0,0,1⟩)),(54,(ow C eh)),(53,.bool true),(52,.bool true),(51,.int .i64 1),(50,(ow C eh)),(49,.bool false),(48,.bool false),(47,.int .i64 0),(9,.int .i64 0),(8,(ow C eh)),(46,.int .i64 0),(45,(ow C eh)),(39,.tuple [(ow C eh),.int .i64 0]),(44,.tuple [(ow C eh),.int .i64 0]),(43,(lU k co m x z t)),(42,.ptr (some ⟨q,0,0+Int.toNat (i:Int),0,6⟩)),(41,.int .i64 (i:Int)),(40,(iO q n c)),(36,.bool true),(35,.bool true),(34,.int .i64 (dS:Int)),(33,.slice fr dS dS),(32,.bool true),(31,.bool true),(30,.int .i64 (n:Int)),(29,(iO q n c)),(28,.int .i64 (i:Int)),(0,(iO q n c)),(6,.slice fr dS dS),(7,.int .i64 (i:Int))]) (j.mk (aH.next+8) (aH.2)) (Op.buildSlice 56 1 {toList:=[(0,Operand.tmp 72)]})=some (o.slice (some ⟨y,0,0,0,6⟩) 1 1,aZ)∧fZ env Builtin.append {toList:=[56,56]} [.slice fr dS dS,.slice (some ⟨y,0,0,0,6⟩) 1 1] (aH.next+6) aZ=some (j2,bJ)∧bF B (bJ.next) ((-9223372036854775808≤(i:Int)+1∧(i:Int)+1≤9223372036854775807)∧U .normal [(0,(iO q n c)),(5,iC),(6,j2),(7,.int .i64 ((i:Int)+1))] (j.mk (bJ.next+3) (j.aJ bJ)))))))))∧(¬(dS:Int)<1000→U (.exit 2) [(0,(iO q n c)),(5,b8),(6,.slice fr dS dS),(7,.int .i64 (i:Int))] (j.mk (H.next+9) (j.aJ H))))∧(¬(i:Int)<(n:Int)→U (.exit 2) [(0,(iO q n c)),(5,b8),(6,.slice fr dS dS),(7,.int .i64 (i:Int))] (j.mk (H.next+9) (j.aJ H))))) :
 ∃e aW p,cx Tryz.prog aw B 91 (cF Tryz.prog 12 1) [(0,.slice (some ⟨q,0,0,0,6⟩) n c),(5,b8),(6,.slice fr dS dS),(7,.int .i64 i)] H e aW p∧U e aW p :=
 gm bQ mixed je (an:= .aK 11003 (.aK 11007 (ag 13002 (.aA (.val 13003 (c3 k co m x z t)) (.aA (.act 13004 (.tuple [(ow C eh),.int .i64 0]) fun x=>H1) (.aA (.val 14009 (.int .u8 b)) (.aK 14010 (ag 12001 .nil) (.aA (.act 15002 iC fun x=>aH) (ag 16003 (.aA (.val 16004 (c3 k co m x z t)) (.aA (.act 16005 (.slice (some ⟨y,0,0,0,6⟩) 1 1) fun x=>aZ) (.aA (.act 16006 j2 fun x=>bJ) (ag 12001 .nil))))))))))) .nil) .nil) (cs:=[0,5,6,7]) (by kernel_rfl) aY
theorem aeV(H H1:j)(B q n c i dS C eh ej:Nat)(fr:Option bG)(k co m x z:Int)(t:Bytes)(b8:o)(U:dc→bP→j→Prop)(aY:bF B (H.next) (((i:Int)<(n:Int)→((dS:Int)<1000→bF B (H.next+9) ((0≤(i:Int)∧(i:Int)<(n:Int))∧cj env.D 42 ⟨q,0,0+Int.toNat (i:Int),0,6⟩ (j.mk (H.next+19) (H.2))=some ((lU k co m x z t))∧c7 Tryz.prog aw 21 [(lU k co m x z t)] (j.mk (H.next+19) (H.2)) (.tuple [(nA C eh ej),.int .i64 0]) H1∧bF B (H1.next) (some (o.bool ((ej:Int) == 1))=some (o.bool false)∧some (o.bool (decide ((ej:Int)>200)))=some (o.bool true)∧bF B (H1.next+18) ((-9223372036854775808≤(i:Int)+1∧(i:Int)+1≤9223372036854775807)∧U .normal [(0,(iO q n c)),(5,b8),(6,.slice fr dS dS),(7,.int .i64 ((i:Int)+1))] (j.mk (H1.next+18+3) (j.aJ (j.mk (H1.next+18) (j.aJ H1))))))))∧(¬(dS:Int)<1000→U (.exit 2) [(0,(iO q n c)),(5,b8),(6,.slice fr dS dS),(7,.int .i64 (i:Int))] (j.mk (H.next+9) (j.aJ H))))∧(¬(i:Int)<(n:Int)→U (.exit 2) [(0,(iO q n c)),(5,b8),(6,.slice fr dS dS),(7,.int .i64 (i:Int))] (j.mk (H.next+9) (j.aJ H))))) :
 ∃e aW p,cx Tryz.prog aw B 91 (cF Tryz.prog 12 1) [(0,.slice (some ⟨q,0,0,0,6⟩) n c),(5,b8),(6,.slice fr dS dS),(7,.int .i64 i)] H e aW p∧U e aW p :=
 gm bQ mixed je (an:= .aK 11003 (.aK 11007 (ag 13002 (.aA (.val 13003 (c3 k co m x z t)) (.aA (.act 13004 (.tuple [(nA C eh ej),.int .i64 0]) fun x=>H1) (.aA (.val 14005 (.bool false)) (.aA (.val 14016 (.bool true)) (ag 12001 .nil)))))) .nil) .nil) (cs:=[0,5,6,7]) (by kernel_rfl) aY
theorem Q3(H H1:j)(B q n c i dS:Nat)(fr:Option bG)(k co m x z:Int)(t:Bytes)(b8:o)(U:dc→bP→j→Prop)(aY:bF B (H.next) (((i:Int)<(n:Int)→((dS:Int)<1000→bF B (H.next+9) ((0≤(i:Int)∧(i:Int)<(n:Int))∧cj env.D 42 ⟨q,0,0+Int.toNat (i:Int),0,6⟩ (j.mk (H.next+19) (H.2))=some ((lU k co m x z t))∧c7 Tryz.prog aw 21 [(lU k co m x z t)] (j.mk (H.next+19) (H.2)) (.tuple [.slice none 0 0,.int .i64 220]) H1∧bF B (H1.next) (bF B (H1.next+18) ((-9223372036854775808≤(i:Int)+1∧(i:Int)+1≤9223372036854775807)∧U .normal [(0,(iO q n c)),(5,b8),(6,.slice fr dS dS),(7,.int .i64 ((i:Int)+1))] (j.mk (H1.next+18+3) (j.aJ (j.mk (H1.next+18) (j.aJ H1))))))))∧(¬(dS:Int)<1000→U (.exit 2) [(0,(iO q n c)),(5,b8),(6,.slice fr dS dS),(7,.int .i64 (i:Int))] (j.mk (H.next+9) (j.aJ H))))∧(¬(i:Int)<(n:Int)→U (.exit 2) [(0,(iO q n c)),(5,b8),(6,.slice fr dS dS),(7,.int .i64 (i:Int))] (j.mk (H.next+9) (j.aJ H))))) :
 ∃e aW p,cx Tryz.prog aw B 91 (cF Tryz.prog 12 1) [(0,.slice (some ⟨q,0,0,0,6⟩) n c),(5,b8),(6,.slice fr dS dS),(7,.int .i64 i)] H e aW p∧U e aW p :=
 gm bQ mixed je (an:= .aK 11003 (.aK 11007 (ag 13002 (.aA (.val 13003 (c3 k co m x z t)) (.aA (.act 13004 (.tuple [.slice none 0 0,.int .i64 220]) fun x=>H1) (ag 12001 .nil)))) .nil) .nil) (cs:=[0,5,6,7]) (by kernel_rfl) aY
theorem aeW(H:j)(B c:Nat)(b8:o)(U:dc→bP→j→Prop)(aY:bF B (H.next) (U (.exit 2) [(0,.slice none 0 c),(5,b8),(6,.slice none 0 0),(7,.int .i64 0)] (j.mk (H.next+9) (j.aJ H)))) :
 ∃e aW p,cx Tryz.prog aw B 91 (cF Tryz.prog 12 1) [(0,.slice none 0 c),(5,b8),(6,.slice none 0 0),(7,.int .i64 0)] H e aW p∧U e aW p :=
 gm bQ mixed je (an:= .nil) (cs:=[0,5,6,7]) (by kernel_rfl) aY
theorem aeX(H H1:j)(n c:Nat)(ab:Option bG)(x y:o)(U:o→j→Prop)(aY:bF (H.next) (H.next) (bF (H.next) (H.next+1) (bF (H.next) (H.next+2) (cx Tryz.prog aw (H.next) 91 (Code.loop (cF Tryz.prog 12 0)) [(0,.slice ab n c),(3,.int .i64 0),(4,.int .i64 0)] (j.mk (H.next+2+1) (j.aJ (j.mk (H.next+1+1) (j.aJ (j.mk (H.next+1) (j.aJ H)))))) .ret [(0,.slice ab n c),(2,.bool true),(3,x),(4,y)] H1∧bK (H.next) (H1.next) (U (.bool true) H1))))) :
 ∃v p,aI Tryz.prog aw 12 [.slice ab n c] H v p∧U v p :=
 cb bQ mixed je (an:= .aA (.cs [0,3,4]) (.aA (.loop [(0,.slice ab n c),(2,.bool true),(3,x),(4,y)] H1 .ret) .nil)) (by kernel_rfl) aY
theorem aeY(H H1 aH aZ bJ fY ec kG:j)(n c d:Nat)(ab:Option bG)(x y ep b8 fK eD:o)(U:o→j→Prop)(aY:bF (H.next) (H.next) (bF (H.next) (H.next+1) (bF (H.next) (H.next+2) (cx Tryz.prog aw (H.next) 91 (Code.loop (cF Tryz.prog 12 0)) [(0,.slice ab n c),(3,.int .i64 0),(4,.int .i64 0)] (j.mk (H.next+2+1) (j.aJ (j.mk (H.next+1+1) (j.aJ (j.mk (H.next+1) (j.aJ H)))))) (.exit 0) [(0,.slice ab n c),(3,x),(4,y)] H1∧bF (H.next) (H1.next) (bF (H.next) (H1.next+1) (bF (H.next) (H1.next+2) (cx Tryz.prog aw (H.next) 91 (Code.loop (cF Tryz.prog 12 1)) [(0,.slice ab n c),(5,.slice none 0 0),(6,.slice none 0 0),(7,.int .i64 0)] (j.mk (H1.next+2+1) (j.aJ (j.mk (H1.next+1+1) (j.aJ (j.mk (H1.next+1) (j.aJ H1)))))) (.exit 2) [(0,.slice ab n c),(5,b8),(6,fK),(7,ep)] aH∧bF (H.next) (aH.next) (c7 Tryz.prog aw 14 [] (j.mk (aH.next+2) (aH.2)) (.ptr (some ⟨d,0,0,0,6⟩)) aZ∧bF (H.next) (aZ.next) (bF (H.next) (aZ.next+2) (c7 Tryz.prog aw 26 [.ptr (some ⟨d,0,0,0,6⟩),b8] (j.mk (aZ.next+16) (aZ.2)) eD bJ∧c7 Tryz.prog aw 28 [eD,fK] bJ (.bool true) fY∧c7 Tryz.prog aw 16 [.ptr (some ⟨d,0,0,0,6⟩)] fY (.int .i64 0) ec∧c7 Tryz.prog aw 19 [] ec (.bool true) kG∧bK (H.next) (kG.next) (U (.bool true) kG))))))))))) :
 ∃v p,aI Tryz.prog aw 12 [.slice ab n c] H v p∧U v p :=
 cb bQ mixed je (an:= .aA (.cs [0,3,4]) (.aA (.loop [(0,.slice ab n c),(3,x),(4,y)] H1 (.exit 0)) (.aA (.cs [0,5,6,7]) (.aA (.loop [(0,.slice ab n c),(5,b8),(6,fK),(7,ep)] aH (.exit 2)) (.aA (.act 17000 (.ptr (some ⟨d,0,0,0,6⟩)) fun x=>aZ) (.aA (.act 20002 eD fun x=>bJ) (.aA (.act 20004 (.bool true) fun x=>fY) (.aA (.act 20007 (.int .i64 0) fun x=>ec) (.aA (.act 20011 (.bool true) fun x=>kG) .nil))))))))) (by kernel_rfl) aY
structure ox(H:j)(q:Nat)(es:List bj):Prop where
 ex:∃b,H.get q=some b∧∀(i:Nat)(h:i<es.length),b.elem? 0 i=some (cm es[i])
theorem ox.cs{H aP:j}{q:Nat}{es:List bj}(g:ox H q es)(e:aP.get q=H.get q):ox aP q es:=by obtain⟨b,p,ad⟩:=g.ex;exact⟨b,by rw [e];exact p,ad⟩
theorem ox.load{H:j}{q i:Nat}{es:List bj}(g:ox H q es)(h:i<es.length):cj (b5.D env) 42 ⟨q,0,0+Int.toNat (i:Int),0,6⟩ H=some (cm es[i]):=by
 have b':(b5.D env 42).map (fun d=>(d.kind.isAgg,d.size))=some (true,6):=by kernel_rfl
 obtain⟨x,p,ad⟩:=Option.map_eq_some_iff.1 b';simp only [Prod.mk.injEq]at ad;obtain⟨b,au,he⟩:=g.ex;unfold cj;rw [p,au,Int.toNat_natCast,Nat.zero_add];simp only [he i h,iD,ad.1,ad.2,if_true,cm,List.length_cons,List.length_nil];simp
theorem ox.text{H:j}{q i:Nat}{es:List bj}(g:ox H q es)(h:i<es.length):cj (b5.D env) 9 ⟨q,0,0+Int.toNat (i:Int),5,6⟩ H=some (.str es[i].text):=by
 have b':(b5.D env 9).map (fun d=>d.kind.isAgg)=some false:=by kernel_rfl
 obtain⟨x,p,ad⟩:=Option.map_eq_some_iff.1 b';obtain⟨b,au,he⟩:=g.ex;unfold cj;rw [p,au,Int.toNat_natCast,Nat.zero_add];simp only [he i h,iD,ad,cm];simp
abbrev vE(q n c:Nat)(acc i:Nat):bP:=[(0,.slice (some ⟨q,0,0,0,6⟩) n c),(3,.int .i64 (acc:Nat)),(4,.int .i64 (i:Nat))]
theorem aeZ{B q c:Nat}{es:List bj}(aS:es.length<2^50)(az:∀e∈es,e.text.length<2^50):∀(t i acc:Nat)(H:j),es.length-i≤t→i≤es.length→B≤H.next→ox H q es→acc≤134217728 →
 ∃k,(∃x y,cN Tryz.prog aw B 91 (cF Tryz.prog 12 0) (vE q es.length c acc i) H (.exit 0) [(0,.slice (some ⟨q,0,0,0,6⟩) es.length c),(3,x),(4,y)] ⟨H.next+k,H.aJ⟩) ∨
  (∃x y,cN Tryz.prog aw B 91 (cF Tryz.prog 12 0) (vE q es.length c acc i) H .ret [(0,.slice (some ⟨q,0,0,0,6⟩) es.length c),(2,.bool true),(3,x),(4,y)] ⟨H.next+k,H.aJ⟩):=by
 intro t
 have fin:∀(acc:Nat)(H:j),B≤H.next→ ∃k,(∃x y,cN Tryz.prog aw B 91 (cF Tryz.prog 12 0) (vE q es.length c acc es.length) H (.exit 0) [(0,.slice (some ⟨q,0,0,0,6⟩) es.length c),(3,x),(4,y)] ⟨H.next+k,H.aJ⟩) ∨
  (∃x y,cN Tryz.prog aw B 91 (cF Tryz.prog 12 0) (vE q es.length c acc es.length) H .ret [(0,.slice (some ⟨q,0,0,0,6⟩) es.length c),(2,.bool true),(3,x),(4,y)] ⟨H.next+k,H.aJ⟩):=by
  intro acc H cE;obtain⟨e,aW,p,bb,rfl,rfl,rfl⟩:=IZ H B q es.length c es.length acc [] (fun e aW p=>e=.exit 0∧aW=vE q es.length c acc es.length∧p=⟨H.next+4,H.aJ⟩) (bq cE ⟨fun h=>by omega,fun _=>⟨rfl,rfl,rfl⟩⟩);exact⟨4,.inl ⟨_,_,cN.last (by simp) bb⟩⟩
 induction t with
 |zero =>
  intro i acc H bX ak cE _ _;obtain rfl:i=es.length:=by omega
  exact fin acc H cE
 |succ t ih =>
  intro i acc H bX ak cE g agD;by_cases av:i<es.length
  ·have ae:=az _ (List.getElem_mem av);have lt:=(g.cs (aP:=⟨H.next+14,H.aJ⟩) rfl).text av;have Q4:((acc:Int)+1+(es[i].text.length:Nat))=((acc+1+es[i].text.length:Nat):Int):=by omega
   by_cases tZ:134217728<acc+1+es[i].text.length
   ·obtain⟨e,aW,p,bb,rfl,rfl,rfl⟩:=IZ H B q es.length c i acc es[i].text (fun e aW p=>e=.ret∧aW=[(0,.slice (some ⟨q,0,0,0,6⟩) es.length c),(2,.bool true),(3,.int .i64 ((acc+1+es[i].text.length:Nat):Int)),(4,.int .i64 (i:Nat))]∧p=⟨H.next+17,H.aJ⟩)
     (bq cE ⟨fun _=>bq (by omega) ⟨⟨by omega,by omega⟩,⟨by omega,by omega⟩,lt,⟨by omega,by omega⟩,bq (by omega) ⟨fun _=>bq (by omega) ⟨rfl,by rw [Q4],rfl⟩,fun h=>absurd (by omega) h⟩⟩,fun h=>absurd (by omega) h⟩)
    exact⟨17,.inr ⟨_,_,cN.last (by simp) bb⟩⟩
   ·obtain⟨e,aW,p,bb,rfl,rfl,rfl⟩:=IZ H B q es.length c i acc es[i].text (fun e aW p=>e=.normal∧aW=vE q es.length c (acc+1+es[i].text.length) (i+1)∧p=⟨H.next+19,H.aJ⟩)
     (bq cE ⟨fun _=>bq (by omega) ⟨⟨by omega,by omega⟩,⟨by omega,by omega⟩,lt,⟨by omega,by omega⟩,bq (by omega) ⟨fun h=>absurd h (by omega),fun _=>bq (by omega) ⟨⟨by omega,by omega⟩,rfl,by rw [Q4,show((i:Int)+1)=((i+1:Nat):Int)by omega],rfl⟩⟩⟩,fun h=>absurd (by omega) h⟩)
    obtain⟨k,ap⟩:=ih (i+1) (acc+1+es[i].text.length) ⟨H.next+19,H.aJ⟩ (by omega) (by omega) (by show B≤H.next+19;omega) (g.cs rfl) (by omega);refine⟨19+k,?_⟩;rw [←Nat.add_assoc];rcases ap with ⟨x,y,ds⟩|⟨x,y,ds⟩
    ·exact .inl ⟨x,y,cN.step bb ds⟩
    ·exact .inr ⟨x,y,cN.step bb ds⟩
  ·obtain rfl:i=es.length:=by omega
   exact fin acc H cE
structure pE(H:j)(ch:Nat→Nat)(q:Nat)(es:List bj)(all:Bytes)(want:List bj)(b8 fK:o):Prop where
 I0:ox H q es
 vF:q<H.next
 vG:ch q=0
 b8:hH H ch 9 1 cI b8 (aL all)
 fK:hH H ch 10 6 ew fK (want.map cm)
 s3:dh h6 all=(h6,want)
 I1:want.length≤1000
 len:all.length≤200*want.length
theorem pE.gj{H aP:j}{ch eM:Nat→Nat}{q:Nat}{es:List bj}{all:Bytes}{want:List bj}{b8 fK:o}{L:List Nat}(g:pE H ch q es all want b8 fK)(m:fq H aP ch eM L)(bm:0 ∉ L)(fA:9 ∉ L)(nH:10 ∉ L):pE aP eM q es all want b8 fK:=by
 have aS:=m.next
 have aD:=g.vF;exact⟨g.I0.cs (m.get q aD (by rw [g.vG];exact bm)),by omega,by rw [m.ch q aD (by rw [g.vG];exact bm)];exact g.vG,g.b8.gj m fA,g.fK.gj m nH,g.s3,g.I1,g.len⟩
abbrev oy(q n c:Nat)(b8 fK:o)(i:Nat):bP:=[(0,.slice (some ⟨q,0,0,0,6⟩) n c),(5,b8),(6,fK),(7,.int .i64 (i:Nat))]
theorem hH.len{H:j}{ch:Nat→Nat}{c c2:Nat}{aq:Option (TypeId×Nat)}{v:o}{l:List o}(g:hH H ch c c2 aq v l):∃ab,v=.slice ab l.length l.length:=by
 rcases g.ex with ⟨rfl,rfl⟩|⟨_,ab,_,_,J,m,f,rfl,_⟩
 ·exact⟨none,rfl⟩
 ·exact⟨_,rfl⟩
theorem Q5{F:bP}{bh a:Nat}{H:j}{k c m x y:Int}{t:Bytes}(aT:bU F (.tmp a)=c3 k c m x y t):b0 env e7 bh (bU F) H (Op.buildSlice 56 1 {toList:=[(0,Operand.tmp a)]})=some (.slice (some ⟨bh,0,0,0,6⟩) 1 1,H.set bh (R.made [c3 k c m x y t] 6 true)):=by
 have fs:∀(K:j)(y:Nat)(k c m x z:Int)(t:Bytes),oC (b5.D env) 56 1 [(0,c3 k c m x z t)] y K=some (.slice (some ⟨y,0,0,0,6⟩) 1 1,K.set y (R.made [c3 k c m x z t] 6 true)):=by intro K y k c m x z t;kernel_rfl
 show oC (b5.D env) 56 1 [(0,bU F (.tmp a))] _ _=_;rw [aT];exact fs _ _ _ _ _ _ _ _
theorem Q6{H:j}{ch:Nat→Nat}{q C:Nat}{es:List bj}{all bw:Bytes}{want:List bj}{b8 fK v:o}{e:bj}(g:pE H ch q es all want b8 fK)(qb:eS H C v bw)(aV:ch C=5)(p:want.length<1000)(az:bw.length≤200)(he:dh h6 bw=(h6,[e])) :
 ∃iC aH j2 bJ eM,fZ env Builtin.append {toList:=[34,34]} [b8,v] (H.next+20) ⟨H.next+22,H.aJ⟩=some (iC,aH)∧aH.next=H.next+22∧ox aH q es ∧
  fZ env Builtin.append {toList:=[56,56]} [fK,.slice (some ⟨aH.next+5,0,0,0,6⟩) 1 1] (aH.next+6) ((⟨aH.next+8,aH.aJ⟩:j).set (aH.next+5) (R.made [cm e] 6 true))=some (j2,bJ)∧aH.next≤bJ.next∧pE bJ eM q es (all++bw) (want++[e]) iC j2:=by
 have m1:=fq.fresh H ch 22;have g1:=g.gj m1 (by simp) (by simp) (by simp);have hlen:=g.len;have sE:=qb.lt;have ae0:eS ⟨H.next+22,H.aJ⟩ C v bw:=qb.cs rfl (by show H.next≤H.next+22;omega);obtain⟨iC,aH,ee,aO,ck,m2,bs⟩:=g1.b8.gJ (bh:=H.next+20) tv (by show H.next+20<H.next+22;omega) (abZ (by omega)) ae0.bi (by simp only [h1];omega) (by simp only [h1];omega);have bs:aH.next=H.next+22:=bs
 rw [←Mw]at ck;have dy:aH.get q=H.get q:=(m2.get q (by have:=g.vF;show q<H.next+22;omega) (by rw [g1.vG];decide)).trans rfl;have I2:ee q=0:=(m2.ch q (by have:=g.vF;show q<H.next+22;omega) (by rw [g1.vG];decide)).trans g1.vG;have i2:=g.I0.cs dy;have iL:((⟨aH.next+8,aH.aJ⟩:j).set (aH.next+5) (R.made [cm e] 6 true)).next=aH.next+8:=rfl
 have nm:=Cq (H:=aH) (y:=aH.next+5) (R.made [cm e] 6 true) 8 (by omega);have h3:∀x,x<aH.next→((⟨aH.next+8,aH.aJ⟩:j).set (aH.next+5) (R.made [cm e] 6 true)).get x=aH.get x:=fun x ae=>j.fl _ _ (by omega)
 obtain⟨aZ,qz⟩:∃K,K=(⟨aH.next+8,aH.aJ⟩:j).set (aH.next+5) (R.made [cm e] 6 true):=⟨_,rfl⟩
 rw [←qz]at iL nm h3;have m3:=fq.made (K:=aH) (vD:=aZ) (by omega) h3 ee 8;have ae1:=(g1.fK.gj m2 (by decide)).gj m3 (by simp);have fu:e2 6 (.slice (some ⟨aH.next+5,0,0,0,6⟩) 1 1) aZ=some [cm e]:=by simp only [e2,if_true,nm];rfl
 obtain⟨j2,bJ,jM,ht,s5,m4,ct⟩:=ae1.gJ (bh:=aH.next+6) ab3 (by omega) (by show(if aH.next+6<aH.next then _ else 8)=8;rw [if_neg (by omega)]) fu (by simp only [List.length_map,List.length_cons,List.length_nil];omega) (by simp only [List.length_map,List.length_cons,List.length_nil];omega);have Q7:=m3.trans m4;refine⟨iC,aH,j2,bJ,jM,aO,bs,i2,(by rw [←qz];exact ht),by omega,⟨?_,?_,?_,?_,?_,?_,?_,?_⟩⟩
 ·exact i2.cs (Q7.get q (by have:=g.vF;omega) (by rw [I2];decide))
 ·have:=g.vF;omega
 ·rw [Q7.ch q (by have:=g.vF;omega) (by rw [I2];decide)];exact I2
 ·exact(ck.gj m3 (by simp)).gj m4 (by decide)
 ·rw [List.map_append];exact s5
 ·rw [w6,g.s3,he]
 ·rw [List.length_append,List.length_cons,List.length_nil];omega
 ·rw [List.length_append,List.length_append,List.length_cons,List.length_nil];omega
theorem ae2{B q c:Nat}{es:List bj}(aS:es.length<2^50)(hm:∀e∈es,0≤e.dW):∀(t i:Nat)(H:j)(ch:Nat→Nat)(all:Bytes)(want:List bj)(b8 fK:o),es.length-i≤t→i≤es.length→B≤H.next→pE H ch q es all want b8 fK →
 ∃aP eM oz oA lV lW ep,cN Tryz.prog aw B 91 (cF Tryz.prog 12 1) (oy q es.length c b8 fK i) H (.exit 2) [(0,.slice (some ⟨q,0,0,0,6⟩) es.length c),(5,lV),(6,lW),(7,ep)] aP∧pE aP eM q es oz oA lV lW∧H.next≤aP.next:=by
 intro t
 have fin:∀(i:Nat)(H:j)(ch:Nat→Nat)(all:Bytes)(want:List bj)(b8 fK:o),i≤es.length→B≤H.next→pE H ch q es all want b8 fK→(¬i<es.length∨ ¬want.length<1000) →
  ∃aP eM oz oA lV lW ep,cN Tryz.prog aw B 91 (cF Tryz.prog 12 1) (oy q es.length c b8 fK i) H (.exit 2) [(0,.slice (some ⟨q,0,0,0,6⟩) es.length c),(5,lV),(6,lW),(7,ep)] aP∧pE aP eM q es oz oA lV lW∧H.next≤aP.next:=by
  intro i H ch all want b8 fK ak cE g aD;obtain⟨fr,rfl⟩:=g.fK.len;have wa:(want.map cm).length=want.length:=List.length_map ..
  obtain⟨e,aW,p,bb,rfl,rfl,rfl⟩:=Q3 H H B q es.length c i want.length fr 0 0 0 0 0 [] b8 (fun e aW p=>e=.exit 2∧aW=oy q es.length c b8 (.slice fr want.length want.length) i∧p=⟨H.next+9,H.aJ⟩)
   (bq cE ⟨fun p=>⟨fun ad=>by omega,fun _=>⟨rfl,rfl,rfl⟩⟩,fun _=>⟨rfl,rfl,rfl⟩⟩)
  rw [wa]at g⊢;exact⟨_,_,all,want,b8,_,_,cN.last (by simp) bb,g.gj (fq.fresh H ch 9) (by simp) (by simp) (by simp),by show H.next≤H.next+9;omega⟩
 induction t with
 |zero =>
  intro i H ch all want b8 fK bX ak cE g;exact fin i H ch all want b8 fK ak cE g (.inl (by omega))
 |succ t ih =>
  intro i H ch all want b8 fK bX ak cE g;by_cases av:i<es.length∧want.length<1000
  ·obtain ⟨av,hw⟩:=av;obtain⟨fr,Q8⟩:=g.fK.len;have wa:(want.map cm).length=want.length:=List.length_map ..;rw [wa]at Q8;subst Q8;have gR:((i:Int)+1)=((i+1:Nat):Int):=by omega
   have bm:=hm _ (List.getElem_mem av);have m1:=fq.fresh H ch 19;have le:=(g.I0.cs (aP:=⟨H.next+19,H.aJ⟩) rfl).load av;obtain⟨w,wu,H1,aC,kF,jv,aD⟩:=aeS ⟨H.next+19,H.aJ⟩ bm;have kF:H.next+19≤H1.next:=kF
   have m2:=fq.made (K:=⟨H.next+19,H.aJ⟩) (vD:=H1) kF jv (fresh H ch) 5;have g1:=(g.gj m1 (by simp) (by simp) (by simp)).gj m2 (by simp) (by simp) (by simp)
   have skip:∀(aZ:j)(k:Nat),aZ=⟨H1.next+k,H1.aJ⟩→cx Tryz.prog aw B 91 (cF Tryz.prog 12 1) (oy q es.length c b8 (.slice fr want.length want.length) i) H .normal (oy q es.length c b8 (.slice fr want.length want.length) (i+1)) aZ →
    ∃aP eM oz oA lV lW ep,cN Tryz.prog aw B 91 (cF Tryz.prog 12 1) (oy q es.length c b8 (.slice fr want.length want.length) i) H (.exit 2) [(0,.slice (some ⟨q,0,0,0,6⟩) es.length c),(5,lV),(6,lW),(7,ep)] aP∧pE aP eM q es oz oA lV lW∧H.next≤aP.next:=by
    rintro _ k rfl bb;obtain⟨aP,eM,oz,oA,lV,lW,ep,ds,dv,lA⟩:=ih (i+1) ⟨H1.next+k,H1.aJ⟩ _ all want b8 _ (by omega) (by omega) (by show B≤H1.next+k;omega) (g1.gj (fq.fresh H1 _ k) (by simp) (by simp) (by simp));have lA:H1.next+k≤aP.next:=lA
    exact⟨aP,eM,oz,oA,lV,lW,ep,cN.step bb ds,dv,by omega⟩
   rcases aD with ⟨bw,C,yA,rfl,qb,aV⟩|⟨yA,rfl,rfl⟩
   ·have aV:H.next+19≤C:=aV
    have qV:(fun x=>if x<H.next+19 then fresh H ch x else 5) C=5:=by show(if C<H.next+19 then _ else 5)=5;rw [if_neg (by omega)]
    obtain⟨b,rfl,ae3,agE,zz,_⟩:=id qb.ex;have sE:=qb.lt;by_cases p:bw.length=1
    ·obtain⟨x,rfl⟩:∃x,bw=[x]:=by
      cases bw with
      |nil=>simp at p
      |cons x r =>
       have:r=[]:=by simpa using p
       rw [this];exact⟨x,rfl⟩
     have kx:cj (b5.D env) 5 ⟨C,b.J,0,0,1⟩ ⟨H1.next+18,H1.aJ⟩=some (.int .u8 (x.toNat:Nat)):=by
      have b':(b5.D env 5).map (fun d=>d.kind.isAgg)=some false:=by kernel_rfl
      obtain⟨y,p,ad⟩:=Option.map_eq_some_iff.1 b';have ae4:(⟨H1.next+18,H1.aJ⟩:j).get C=some b:=ae3;unfold cj;rw [p,ae4];simp [R.elem?,R.cO,iD,ad,zz,aL]
     by_cases hY:x=27
     ·subst hY
      obtain⟨e,aW,jH,bb,rfl,rfl,rfl⟩:=Q2 H H1 H H H B q es.length c i want.length 0 C b.J 27 fr es[i].kind es[i].code es[i].dW es[i].x es[i].y es[i].text b8 .undef .undef (fun e aW p=>e=.normal∧aW=oy q es.length c b8 (.slice fr want.length want.length) (i+1)∧p=⟨H1.next+21,H1.aJ⟩)
       (bq cE ⟨fun _=>⟨fun _=>bq (by omega) ⟨⟨by omega,by omega⟩,le,⟨aC⟩,bq (by omega) ⟨kx,fun _=>bq (by omega) ⟨⟨by omega,by omega⟩,rfl,by rw [gR],rfl⟩,fun h=>absurd rfl h⟩⟩,fun h=>absurd (by omega) h⟩,fun h=>absurd (by omega) h⟩)
      exact skip _ 21 rfl bb
     ·have I3:=QP bm yA (by intro h;exact hY (by simpa using h));obtain⟨iC,aH,j2,bJ,jM,aO,bs,i2,ht,ct,g4⟩:=Q6 g1 qb qV hw (by simp) I3
      have ae5:¬((x.toNat:Nat):Int)=27:=by
       intro h;apply hY;have:x.toNat=(27:UInt8).toNat:=by show x.toNat=27;omega
       exact UInt8.toNat_inj.1 this
      have I4:=(i2.cs (aP:=⟨aH.next+8,aH.aJ⟩) rfl).load av
      obtain⟨e,aW,jH,bb,rfl,rfl,rfl⟩:=Q2 H H1 aH _ bJ B q es.length c i want.length (aH.next+5) C b.J (x.toNat:Nat) fr es[i].kind es[i].code es[i].dW es[i].x es[i].y es[i].text b8 iC j2 (fun e aW p=>e=.normal∧aW=oy q es.length c iC j2 (i+1)∧p=⟨bJ.next+3,bJ.aJ⟩)
       (bq cE ⟨fun _=>⟨fun _=>bq (by omega) ⟨⟨by omega,by omega⟩,le,⟨aC⟩,bq (by omega) ⟨kx,fun h=>absurd h ae5,fun _=>bq (by omega) ⟨aO,bq (by omega) ⟨⟨by omega,by omega⟩,I4,Q5 rfl,ht,bq (by omega) ⟨⟨by omega,by omega⟩,rfl,by rw [gR],rfl⟩⟩⟩⟩⟩,fun h=>absurd (by omega) h⟩,fun h=>absurd (by omega) h⟩)
      obtain⟨aP,eM,oz,oA,lV,lW,ep,ds,dv,lA⟩:=ih (i+1) ⟨bJ.next+3,bJ.aJ⟩ _ _ _ _ _ (by omega) (by omega) (by show B≤bJ.next+3;omega) (g4.gj (fq.fresh bJ _ 3) (by simp) (by simp) (by simp));have lA:bJ.next+3≤aP.next:=lA
      exact⟨aP,eM,oz,oA,lV,lW,ep,cN.step bb ds,dv,by omega⟩
    ·by_cases agF:200<bw.length
     ·obtain⟨e,aW,jH,bb,rfl,rfl,rfl⟩:=aeV H H1 B q es.length c i want.length C b.J bw.length fr es[i].kind es[i].code es[i].dW es[i].x es[i].y es[i].text b8 (fun e aW p=>e=.normal∧aW=oy q es.length c b8 (.slice fr want.length want.length) (i+1)∧p=⟨H1.next+21,H1.aJ⟩)
       (bq cE ⟨fun _=>⟨fun _=>bq (by omega) ⟨⟨by omega,by omega⟩,le,⟨aC⟩,bq (by omega) ⟨by simp;omega,by simp;omega,bq (by omega) ⟨⟨by omega,by omega⟩,rfl,by rw [gR],rfl⟩⟩⟩,fun h=>absurd (by omega) h⟩,fun h=>absurd (by omega) h⟩)
      exact skip _ 21 rfl bb
     ·have I3:=QP bm yA (by rintro rfl;exact p rfl);obtain⟨iC,aH,j2,bJ,jM,aO,bs,i2,ht,ct,g4⟩:=Q6 g1 qb qV hw (by omega) I3;have I4:=(i2.cs (aP:=⟨aH.next+8,aH.aJ⟩) rfl).load av
      obtain⟨e,aW,jH,bb,rfl,rfl,rfl⟩:=aeU H H1 aH _ bJ B q es.length c i want.length (aH.next+5) C b.J bw.length fr es[i].kind es[i].code es[i].dW es[i].x es[i].y es[i].text b8 iC j2 (fun e aW p=>e=.normal∧aW=oy q es.length c iC j2 (i+1)∧p=⟨bJ.next+3,bJ.aJ⟩)
       (bq cE ⟨fun _=>⟨fun _=>bq (by omega) ⟨⟨by omega,by omega⟩,le,⟨aC⟩,bq (by omega) ⟨by simp;omega,by simp;omega,bq (by omega) ⟨aO,bq (by omega) ⟨⟨by omega,by omega⟩,I4,Q5 rfl,ht,bq (by omega) ⟨⟨by omega,by omega⟩,rfl,by rw [gR],rfl⟩⟩⟩⟩⟩,fun h=>absurd (by omega) h⟩,fun h=>absurd (by omega) h⟩)
      obtain⟨aP,eM,oz,oA,lV,lW,ep,ds,dv,lA⟩:=ih (i+1) ⟨bJ.next+3,bJ.aJ⟩ _ _ _ _ _ (by omega) (by omega) (by show B≤bJ.next+3;omega) (g4.gj (fq.fresh bJ _ 3) (by simp) (by simp) (by simp));have lA:bJ.next+3≤aP.next:=lA
      exact⟨aP,eM,oz,oA,lV,lW,ep,cN.step bb ds,dv,by omega⟩
   ·obtain⟨e,aW,jH,bb,rfl,rfl,rfl⟩:=Q3 H H1 B q es.length c i want.length fr es[i].kind es[i].code es[i].dW es[i].x es[i].y es[i].text b8 (fun e aW p=>e=.normal∧aW=oy q es.length c b8 (.slice fr want.length want.length) (i+1)∧p=⟨H1.next+21,H1.aJ⟩)
     (bq cE ⟨fun _=>⟨fun _=>bq (by omega) ⟨⟨by omega,by omega⟩,le,⟨aC⟩,bq (by omega) (bq (by omega) ⟨⟨by omega,by omega⟩,rfl,by rw [gR],rfl⟩)⟩,fun h=>absurd (by omega) h⟩,fun h=>absurd (by omega) h⟩)
    exact skip _ 21 rfl bb
  ·exact fin i H ch all want b8 fK ak cE g (by omega)
def tF(H:j)(ab:Option bG)(es:List bj):Prop:=(ab=none∧es=[])∨(ab=some ⟨0,0,0,0,6⟩∧ox H 0 es∧0<H.next)
theorem ae6{H:j}{B c:Nat}{ab:Option bG}{es:List bj}(cE:B≤H.next)(aS:es.length<2^50)(az:∀e∈es,e.text.length<2^50)(g:tF H ab es) :
 ∃k x y,cx Tryz.prog aw B 91 (.loop (cF Tryz.prog 12 0)) [(0,.slice ab es.length c),(3,.int .i64 (0)),(4,.int .i64 (0))] H (.exit 0) [(0,.slice ab es.length c),(3,x),(4,y)] ⟨H.next+k,H.aJ⟩ ∨
  cx Tryz.prog aw B 91 (.loop (cF Tryz.prog 12 0)) [(0,.slice ab es.length c),(3,.int .i64 (0)),(4,.int .i64 (0))] H .ret [(0,.slice ab es.length c),(2,.bool true),(3,x),(4,y)] ⟨H.next+k,H.aJ⟩:=by
 rcases g with ⟨rfl,rfl⟩|⟨rfl,g,_⟩
 ·obtain⟨e,aW,p,bb,rfl,rfl,rfl⟩:=aeT H B c (fun e aW p=>e=.exit 0∧aW=[(0,.slice none 0 c),(3,.int .i64 (0)),(4,.int .i64 (0))]∧p=⟨H.next+4,H.aJ⟩) (bq cE ⟨rfl,rfl,rfl⟩);exact⟨4,_,_,.inl (cx.gL (cN.last (by simp) bb))⟩
 ·obtain⟨k,⟨x,y,h⟩|⟨x,y,h⟩⟩:=aeZ (c:=c) aS az es.length 0 0 H (by omega) (by omega) cE g (by omega)
  ·exact⟨k,x,y,.inl (cx.gL h)⟩
  ·exact⟨k,x,y,.inr (cx.gL h)⟩
theorem ae7{H:j}{B c:Nat}{ab:Option bG}{es:List bj}(cE:B≤H.next)(aS:es.length<2^50)(hm:∀e∈es,0≤e.dW)(g:tF H ab es) :
 ∃aP ch all want b8 fK ep,cx Tryz.prog aw B 91 (.loop (cF Tryz.prog 12 1)) [(0,.slice ab es.length c),(5,.slice none 0 0),(6,.slice none 0 0),(7,.int .i64 (0))] H (.exit 2) [(0,.slice ab es.length c),(5,b8),(6,fK),(7,ep)] aP ∧
  hH aP ch 9 1 cI b8 (aL all)∧hH aP ch 10 6 ew fK (want.map cm)∧dh h6 all=(h6,want)∧want.length≤1000∧all.length≤200*want.length∧H.next≤aP.next:=by
 rcases g with ⟨rfl,rfl⟩|⟨rfl,g,bm⟩
 ·obtain⟨e,aW,p,bb,rfl,rfl,rfl⟩:=aeW H B c (.slice none 0 0) (fun e aW p=>e=.exit 2∧aW=[(0,.slice none 0 c),(5,.slice none 0 0),(6,.slice none 0 0),(7,.int .i64 (0))]∧p=⟨H.next+9,H.aJ⟩) (bq cE ⟨rfl,rfl,rfl⟩);exact⟨_,fun _=>0,[],[],_,_,_,cx.gL (cN.last (by simp) bb),hH.nil _ _ _ _ _,hH.nil _ _ _ _ _,rfl,by simp,by simp,by show H.next≤H.next+9;omega⟩
 ·obtain⟨aP,eM,all,want,b8,fK,ep,ds,i,e⟩:=ae2 (c:=c) aS hm es.length 0 H (fun _=>0) [] [] (.slice none 0 0) (.slice none 0 0) (by omega) (by omega) cE ⟨g,bm,rfl,hH.nil _ _ _ _ _,hH.nil _ _ _ _ _,rfl,by simp,by simp⟩;exact⟨aP,eM,all,want,b8,fK,ep,cx.gL ds,i.b8,i.fK,i.s3,i.I1,i.len,e⟩
theorem tF.cs{H aP:j}{ab:Option bG}{es:List bj}(g:tF H ab es)(e:aP.get 0=H.get 0)(aS:H.next≤aP.next):tF aP ab es:=by
 rcases g with h|⟨rfl,g,bm⟩
 ·exact .inl h
 ·exact .inr ⟨rfl,g.cs e,by omega⟩
theorem ae8{H:j}{ab:Option bG}{es:List bj}{c:Nat}(aS:es.length<2^50)(az:∀e∈es,e.text.length<2^50)(hm:∀e∈es,0≤e.dW)(g:tF H ab es):∃aP,aI Tryz.prog aw 12 [.slice ab es.length c] H (.bool true) aP:=by
 have fP:∀{a b:Nat}{I:Prop},a≤b→I→_root_.cond (Nat.ble a b) I False:=fun h k=>by rw [Nat.ble_eq.mpr h];exact k
 obtain⟨k,x,y,p|p⟩:=ae6 (B:=H.next) (H:=⟨H.next+3,H.aJ⟩) (c:=c) (by show H.next≤H.next+3;omega) aS az (g.cs rfl (by show H.next≤H.next+3;omega))
 ·have g1:tF ⟨H.next+3+k+3,H.aJ⟩ ab es:=g.cs rfl (by show H.next≤H.next+3+k+3;omega);obtain⟨aH,ch,all,want,b8,fK,ep,ad,ae9,ae',s3,I1,len,bs⟩:=ae7 (B:=H.next) (c:=c) (by show H.next≤H.next+3+k+3;omega) aS hm g1;have bs:H.next+3+k+3≤aH.next:=bs
  have f2:=fq.fresh aH ch 2;obtain⟨aZ,d,pr,f',ft,d3,m3⟩:=ke.new ⟨aH.next+2,aH.aJ⟩ (fresh aH ch) 1;have b7:aH.next+2≤aZ.next:=m3.next
  have f3:=fq.fresh aZ f' 16;have afa:=((ae9.gj f2 (by simp)).gj m3 (by simp)).gj f3 (by simp);have afb:=((ae'.gj f2 (by simp)).gj m3 (by simp)).gj f3 (by simp);obtain⟨agG,rfl,hn⟩:=afa.hn;obtain⟨bJ,eD,PN,jM,ht,d4,s5,m4⟩:=(d3.gj f3 (by simp)).feed (m:=all.length) yz (by omega) hn (by decide);have ct:aZ.next+16≤bJ.next:=m4.next
  rw [s3]at d4 s5;have afc:=afb.gj m4 (by decide);obtain⟨fY,ig,m5,il⟩:=s5.same afc (by decide) (by show want.length<2^62;omega);rw [decide_eq_true (rfl:want=want)]at ig;obtain⟨ec,agH,lr,rZ,d6,m6,BN⟩:=(d4.gj m5 (by simp)).held (by show(0:Nat)<2^40;decide) (by show(0:Nat)<2^40;decide);have rZ:aI Tryz.prog aw 16 [.ptr (some ⟨d,0,0,0,6⟩)] fY (.int .i64 0) ec:=rZ;obtain⟨kG,Ij⟩:=abJ ec;have afd:=Ij.pad (ad:=⟨kG.next+H.next,kG.aJ⟩) (by show kG.next≤kG.next+H.next;omega) (fun _ _=>rfl)
  obtain⟨v,aa,aC,rfl⟩:=aeY H ⟨H.next+3+k,H.aJ⟩ aH aZ bJ fY ec ⟨kG.next+H.next,kG.aJ⟩ es.length c d ab x y ep _ fK eD (fun v _=>v=.bool true)
   (bq (Nat.le_refl _) (bq (by omega) (bq (by omega) ⟨p,bq (by show H.next≤H.next+3+k;omega) (bq (by show H.next≤H.next+3+k+1;omega) (bq (by show H.next≤H.next+3+k+2;omega) ⟨ad,bq (by omega) ⟨⟨ft⟩,bq (by omega) (bq (by omega) ⟨⟨ht⟩,⟨ig⟩,⟨rZ⟩,⟨afd⟩,fP (by show H.next≤kG.next+H.next;omega) rfl⟩)⟩⟩))⟩)))
  exact⟨_,aC⟩
 ·obtain⟨v,aa,aC,rfl⟩:=aeX H ⟨H.next+3+k,H.aJ⟩ es.length c ab x y (fun v _=>v=.bool true)
   (bq (Nat.le_refl _) (bq (by omega) (bq (by omega) ⟨p,fP (by show H.next≤H.next+3+k;omega) rfl⟩)))
  exact⟨_,aC⟩
end Go.Proofs.YtddnafghiejcoaaGreatDoor
namespace Go.cM
noncomputable section
open Go.RowKit Go.ChangeShapes Go.WideShapes Go.ChangeAt
structure I5(w:World)(b:R)(I:Place):Prop where
 ro:I.ro=true
 Q9:b.ro=true
 J:b.J=0
 es:I.es=b.es
 pos:0<I.es
 exact:I.exact=b.exact
 row:∀(al:Map)(S:Nat→Prop),Row al S b 0 I w
 bare:dl b
def yV(e5:List Place):Map:=fun i v=>if v=0 then e5[i]? else none
theorem c4.Ry{w:World}{S:Nat→Prop}(l:List (R×Place))(h:∀x∈l,I5 w x.1 x.2):c4 (yV (l.map (·.2))) S (j.of (l.map (·.1))) w where
 dD i v I ac:=by
  unfold yV at ac;split at ac
  ·rename_i bg;subst bg;rw [List.getElem?_map,Option.map_eq_some_iff]at ac;obtain⟨x,ae,rfl⟩:=ac;have k:=h x (List.mem_of_getElem? ae);have ak:=(List.getElem?_eq_some_iff.1 ae).1;refine⟨by rw [j.of_next];simpa using ak,x.1,?_,by omega,k.es,k.exact,(fun h=>by rw [k.Q9]at h;cases h),k.pos,k.row _ _⟩;rw [j.e3,List.getElem?_map,ae];rfl
  ·cases ac
 apart i v I C u q ac aD _ _:=by
  have:∀{i v I},yV (l.map (·.2)) i v=some I→I.ro=true:=by
   intro i v I ac;unfold yV at ac;split at ac
   ·rw [List.getElem?_map,Option.map_eq_some_iff]at ac;obtain⟨x,ae,rfl⟩:=ac;exact(h x (List.mem_of_getElem? ae)).ro
   ·cases ac
  exact⟨this ac,this aD⟩
 same i v I u q ac aD _:=by
  unfold yV at ac aD;split at ac
  ·split at aD
   ·rw [ac]at aD;simp only [Option.some.injEq]at aD;subst aD;exact⟨rfl,rfl⟩
   ·cases aD
  ·cases ac
def yW(es:Nat):R:= {bi:=[],es,exact:=true,ro:=true,J:=0,fX:=0,gQ:=0,aq:=none}
def CA(es:Nat):Place:= {cq:=0,off:=0,a1:=0,es,fE:=0,exact:=true,ro:=true}
theorem kB{w:World}(hw:0<w.heap.size){es:Nat}(he:0<es):I5 w (yW es) (CA es) where
 ro:=rfl
 Q9:=rfl
 J:=rfl
 es:=rfl
 pos:=he
 exact:=rfl
 row al S:=⟨hw,(fun h=>by cases h),fun ab ai=>by simp [CA]at ai,(fun h=>by cases h),(fun h=>by cases h),(fun q h=>by cases h),fun i e p ad bd=>by simp [yW]at bd⟩
 bare e he:=by simp [yW]at he
theorem aI.law{P:Program}{cf:(Nat→Prop)→World→Prop}{f:FuncId}{args:List o}{h aa:j}(k:aI P cf f args h (.bool true) aa){w:World}(fQ:cf (fun k=>k<w.heap.size) w){al:Map}(az:c4 al (fun k=>k<w.heap.size) h w){dF:Array Value}(aT:bH al args dF.toList) :
 Calls P f dF w fun e bC=>e=.returned (.bool true)∧Below w.heap.size w bC:=by
 have:=(k (fun k=>k<w.heap.size) w (fun _ h=>h) fQ _ w dF az (Safe.refl _ _) aT).2
 exact this.mono fun e bC ⟨bt,bN,p,_,ad,_,bd,_⟩=>by simp only [aN]at ad;subst ad;exact⟨p,bd.below⟩
end
end Go.cM
namespace Go.cM
noncomputable section
open Go.RowKit Go.ChangeShapes Go.WideShapes Go.ChangeAt
def r4(P:Program):Nat→TypeId→Nat→Option kh
 |0,_,_=>none
 |d+1,t,c =>
  match P.underlying t with
  |some (.int k)=>if c=0 then some (.int k)else none
  |some .bool=>if c=0 then some .bool else none
  |some .string=>if c=0 then some .string else none
  |some (.struct b4)=>b4.toList.findSome? fun f=>if f.offset≤c∧c<f.offset+P.cellsOf f.type then r4 P d f.type (c-f.offset)else none
  |some (.array n e)=>if c/P.cellsOf e<n then r4 P d e (c%P.cellsOf e)else none
  |_=>none
def pF:kh→Value→Prop
 |.int k,v=> ∃n,v=.int k n∧(Lit.int k n).wf=true
 |.bool,v=> ∃b,v=.bool b
 |.string,v=> ∃s:ByteArray,v=.string s∧s.size≤maxLen
 |_,_=>False
section
variable {H:Type}{dI:TypeId×Value→H}{P:Program}{w:World}{base:Nat}{spare:Nat→Bool}{held:Bool}
theorem afe:∀(d:Nat){t:TypeId}{c:Nat}{k:kh}{de:Nat}{bp:List Value}{x:DataW H×List MemPlace},r4 P d t c=some k→DataW.trod dI P w base spare held de t bp=some x→ ∃v,bp[c]? =some v∧pF k v:=by
 intro d;induction d with
 |zero=>intro t c k de bp x h;cases h
 |succ d ih =>
  intro t c k de bp x h ae;simp only [r4]at h;split at h
  ·rename_i l2 hu;split at h
   ·rename_i av;subst av;simp only [Option.some.injEq]at h;subst h;obtain⟨n,rfl,_,hw⟩:=DataW.trod_int hu ae;exact⟨_,rfl,n,rfl,hw⟩
   ·cases h
  ·rename_i hu;split at h
   ·rename_i av;subst av;simp only [Option.some.injEq]at h;subst h;obtain⟨b,rfl,_⟩:=DataW.trod_bool hu ae;exact⟨_,rfl,b,rfl⟩
   ·cases h
  ·rename_i hu;split at h
   ·rename_i av;subst av;simp only [Option.some.injEq]at h;subst h;obtain⟨s,rfl,_,an⟩:=DataW.trod_string hu ae;exact⟨_,rfl,s,rfl,an⟩
   ·cases h
  ·rename_i b4 hu;obtain⟨f,a8,ap⟩:=List.exists_of_findSome?_eq_some h;split at ap
   ·rename_i av;obtain⟨xs,n,_,_,az,nQ,tT⟩:=DataW.trod_struct hu ae;obtain⟨C,aV,I6⟩:=List.mem_iff_getElem.1 a8;have ov:b4[C]? =some f:=by rw [←Array.getElem?_toList,List.getElem?_eq_getElem aV,I6]
    have p:=tT C f ov;rw [List.getElem?_eq_getElem (by rw [nQ];simpa using aV)]at p;obtain⟨v,bg,kg⟩:=ih ap p;rw [List.getElem?_take]at bg;split at bg
    ·rw [List.getElem?_drop,show f.offset+(c-f.offset)=c by omega]at bg;exact⟨v,bg,kg⟩
    ·cases bg
   ·cases ap
  ·rename_i n e hu;split at h
   ·rename_i av;obtain⟨xs,m,_,_,az,nQ,cw⟩:=DataW.trod_array hu ae;have p:=cw _ av;rw [List.getElem?_eq_getElem (by omega)]at p;obtain⟨v,bg,kg⟩:=ih h p;rw [List.getElem?_take]at bg;split at bg
    ·rw [List.getElem?_drop,Nat.mul_comm,Nat.div_add_mod]at bg;exact⟨v,bg,kg⟩
    ·cases bg
   ·cases h
  ·cases h
theorem pF.bare{k:kh}{v:Value}(h:pF k v):cR (gI v)∧(gI v).j4=true∧v.oneCell'=true:=by
 cases k with
 |int k=>obtain⟨n,rfl,_⟩:=h;exact⟨cR.int _ _,rfl,by first|trivial|rfl⟩
 |bool=>obtain⟨b,rfl⟩:=h;exact⟨cR.bool _,rfl,by first|trivial|rfl⟩
 |string=>obtain⟨s,rfl,_⟩:=h;exact⟨cR.str _,rfl,by first|trivial|rfl⟩
 |_=>exact h.elim
def CB(hI:Bool)(bp:List o):o:=if hI then .agg bp else bp.headD .undef
theorem aff{hI:Bool}{bp:List o}(h:hI=false→ ∃a,bp=[a]∧a.j4=true):(CB hI bp).cells=bp:=by
 unfold CB;cases hI with
 |true=>rfl
 |false =>
  obtain⟨a,rfl,aT⟩:=h rfl;cases a<;>simp [o.cells]<;>cases aT
theorem cR.agg{l:List o}(h:∀a∈l,cR a):cR (.agg l):=by
 refine⟨fun r=> ?_,?_⟩
 ·simp only [o.bc,o.zS]
  have:l.map (o.bc r)=l:=by
   conv=>rhs;rw [←List.map_id l]
   exact List.map_congr_left fun e he=>(h e he).1 r
  rw [this]
 ·simp only [cA];exact q7.2 fun a aT=>(h a aT).2
def cellAt(w:World)(x:Addr)(C:Nat):Value:=(w.cell? (x.add C)).getD undef
def elemAt(w:World)(x:Addr)(hI:Bool)(c2 i:Nat):o:=CB hI ((List.range c2).map fun C=>gI (cellAt w x (i*c2+C)))
theorem Rw{t e:TypeId}(bX:P.underlying t=some (.slice e)){a:Option Addr}{len cap:Nat}{fM:DataW H}{e5:List MemPlace}(h:DataW.Trod dI P w base spare held t (.slice a len cap) fM e5)
 (hw:∀y∈fM.weights P t,y≤reachBytes):len*P.bytesOf e≤reachBytes:=by
 obtain⟨de,a8⟩:=h;have I7:DataW.trod dI P w base spare held de t [.slice a len cap]=some (fM,e5):=a8;rcases DataW.trod_slice bX I7 with ⟨en,_⟩|⟨x,l,c,bi,rest,n,_,en,ae,_,az,hm,hlen,_⟩
 ·simp at en;obtain⟨_,rfl,_⟩:=en;simp
 ·simp at en;obtain⟨_,rfl,_⟩:=en;simp only [Prod.mk.injEq]at ae;obtain⟨rfl,_⟩:=ae;have:=hw ((bi.length+rest.length)*P.bytesOf e) (by simp [DataW.weights,bX]);rw [hlen]at this;exact Nat.le_trans (Nat.mul_le_mul_right _ (by omega)) this
theorem Rr{t:TypeId}{eN:List TypeId}{d:DataW H}{kM:List (DataW H)}{cY:Nat}(h:∀y∈DataW.weightsEach P (t::eN) (d::kM),y≤cY):(∀y∈d.weights P t,y≤cY)∧∀y∈DataW.weightsEach P eN kM,y≤cY :=
 ⟨fun y bY=>h y (by simp [DataW.weightsEach,bY]),fun y bY=>h y (by simp [DataW.weightsEach,bY])⟩
def tG:o→Int
 |.int _ n=>n
 |_=>0
theorem pF.int{k:IntKind}{v:Value}(h:pF (.int k) v):gI v=.int k (tG (gI v))∧(Lit.int k (tG (gI v))).wf=true:=by obtain⟨n,rfl,hw⟩:=h;exact⟨rfl,hw⟩
end
end
end Go.cM
namespace Go.cM
noncomputable section
open Go.RowKit Go.ChangeShapes Go.WideShapes Go.ChangeAt
theorem Q'{H:Type}{P:Program} :∀{eN:List TypeId} {kM:List (DataW H)} {C:Nat} {t:TypeId} {d:DataW H} {y:Nat},eN[C]? =some t→kM[C]? =some d→y∈d.weights P t→y∈DataW.weightsEach P eN kM
 |[],_,_,_,_,_,h,_,_=>by cases h
 |_::_,[],_,_,_,_,_,h,_=>by cases h
 |t::eN,d::kM,0,_,_,_,p,ad,bd=>by simp at p ad;subst p ad;simp only [DataW.weightsEach,List.mem_append];exact .inl bd
 |t::eN,d::kM,C+1,_,_,_,p,ad,bd=>by simp only [DataW.weightsEach,List.mem_append];exact .inr (Q' (C:=C) (by simpa using p) (by simpa using ad) bd)
theorem Ra{H:Type}{P:Program}{e:TypeId}{kM:List (DataW H)}{d:DataW H}{y:Nat}(aC:d∈kM)(bd:y∈d.weights P e):y∈DataW.weightsAll P e kM:=by
 induction kM with
 |nil=>cases aC
 |cons a r ih =>
  simp only [DataW.weightsAll,List.mem_append];rcases List.mem_cons.1 aC with rfl|aC
  ·exact .inl bd
  ·exact .inr (ih aC)
section
variable {H:Type}{dI:TypeId×Value→H}{P:Program}{w:World}{base:Nat}{spare:Nat→Bool}{held:Bool}
theorem afg:∀(d:Nat){t:TypeId}{c:Nat}{de:Nat}{bp:List Value}{x:DataW H×List MemPlace},r4 P d t c=some .string→DataW.trod dI P w base spare held de t bp=some x→ ∃s:ByteArray,bp[c]? =some (.string s)∧s.size∈x.1.weights P t:=by
 intro d;induction d with
 |zero=>intro t c de bp x h;cases h
 |succ d ih =>
  intro t c de bp x h ae;simp only [r4]at h;split at h
  ·split at h<;>cases h
  ·split at h<;>cases h
  ·rename_i hu;split at h
   ·rename_i av;subst av;obtain⟨s,rfl,DQ,an⟩:=DataW.trod_string hu ae;subst DQ;exact⟨s,rfl,by rw [DataW.weights];exact List.mem_singleton.2 (show s.data.size=s.data.toList.length from Array.length_toList.symm)⟩
   ·cases h
  ·rename_i b4 hu;obtain⟨f,a8,ap⟩:=List.exists_of_findSome?_eq_some h;split at ap
   ·rename_i av;obtain⟨xs,n,_,he,az,nQ,tT⟩:=DataW.trod_struct hu ae;obtain⟨C,aV,I6⟩:=List.mem_iff_getElem.1 a8;have ov:b4[C]? =some f:=by rw [←Array.getElem?_toList,List.getElem?_eq_getElem aV,I6]
    have p:=tT C f ov;have Rb:C<xs.length:=by rw [nQ];simpa using aV
    rw [List.getElem?_eq_getElem Rb]at p;obtain⟨v,bg,kg⟩:=ih ap p;rw [List.getElem?_take]at bg;split at bg
    ·rw [List.getElem?_drop,show f.offset+(c-f.offset)=c by omega]at bg;refine⟨v,bg,?_⟩;subst he;simp only [DataW.weights,hu];exact Q' (C:=C) (by simp [ov]) (by simp [Rb]) kg
    ·cases bg
   ·cases ap
  ·rename_i n e hu;split at h
   ·rename_i av;obtain⟨xs,m,_,he,az,nQ,cw⟩:=DataW.trod_array hu ae;have p:=cw _ av;rw [List.getElem?_eq_getElem (by omega)]at p;obtain⟨v,bg,kg⟩:=ih h p;rw [List.getElem?_take]at bg;split at bg
    ·rw [List.getElem?_drop,Nat.mul_comm,Nat.div_add_mod]at bg;refine⟨v,bg,?_⟩;subst he;simp only [DataW.weights,hu];exact Ra (List.mem_map.2 ⟨_,List.getElem_mem _,rfl⟩) kg
    ·cases bg
   ·cases h
  ·cases h
theorem Rv{hI:Bool}{t e:TypeId}{d c2:Nat}{bo:List kh}(hw:0<w.heap.size)(bX:P.underlying t=some (.slice e))(av:P.cellsOf e=c2)(eX:Nat.blt 0 c2=true)(ed:hI=false→c2=1)
 (mQ:(List.range c2).map (r4 P d e)=bo.map some) {a:Option Addr} {len cap:Nat} {fM:DataW H} {e5:List MemPlace} (h:DataW.Trod dI P w 0 (fun _=>true) true t (.slice a len cap) fM e5) (id:Nat) :
 ∃(ab:Option bG)(c:Nat)(b:R)(I:Place)(x:Addr),uD ab len c id 0 0 c2∧I5 w b I∧len≤maxLen∧(∀al:Map,al id 0=some I→aN al (.slice ab len c) (.slice a len cap)) ∧
  (∀i,i<len→b.elem? 0 (0+i)=some (elemAt w x hI c2 i))∧(∀i C,i<len→C<c2→ ∃k,bo[C]? =some k∧pF k (cellAt w x (i*c2+C))) ∧
  (∀i C,i<len→C<c2→bo[C]? =some .string→ ∃s:ByteArray,cellAt w x (i*c2+C)=.string s∧s.size∈fM.weights P t):=by
 have eX:0<c2:=Nat.blt_eq.mp eX
 have HW:∀C,C<c2→ ∃k,bo[C]? =some k∧r4 P d e C=some k:=by
  intro C aV;have p:=congrArg (fun(l:List (Option kh))=>l[C]?) mQ;simp only [List.getElem?_map,List.getElem?_range aV,Option.map_some]at p;cases ap:bo[C]? with
  |none=>rw [ap]at p;cases p
  |some k=>rw [ap]at p;simp at p;exact⟨k,rfl,p⟩
 obtain⟨de,a8⟩:=h;have I7:DataW.trod dI P w 0 (fun _=>true) true de t [.slice a len cap]=some (fM,e5):=a8;rcases DataW.trod_slice bX I7 with ⟨en,_⟩|⟨x,l,c,bi,rest,n,_,en,Rc,_,az,hm,hlen,fu,afh,_⟩
 ·simp at en;obtain⟨rfl,rfl,rfl⟩:=en;exact⟨none,0,yW c2,CA c2,⟨0,0,none⟩,.inr ⟨rfl,rfl,rfl⟩,kB hw eX,by simp,fun al _=>by simp [aN],fun i ak=>by omega,fun i C ak=>by omega,fun i C ak=>by omega⟩
 ·simp at en;obtain⟨rfl,rfl,rfl⟩:=en;obtain⟨agI,bb⟩:=afh rfl
  have each:∀i,i<cap→ ∃bp y,w.cells? 0 (x.add (i*c2)) c2=some bp∧DataW.trod dI P w 0 (fun _=>true) true n e bp=some y:=by
   intro i ak
   have au:∃y,(w.cells? 0 (x.add (i*P.cellsOf e)) (P.cellsOf e)).bind (DataW.trod dI P w 0 (fun _=>true) true n e)=some y:=by
    by_cases dG:i<len
    ·exact⟨_,(fu i dG).trans (List.getElem?_eq_getElem (by omega))⟩
    ·have:=bb (i-len) (by omega);rw [show len+(i-len)=i by omega]at this;exact⟨_,this.trans (List.getElem?_eq_getElem (by omega))⟩
   obtain⟨y,bY⟩:=au;rw [av,Option.bind_eq_some_iff]at bY;obtain⟨bp,p,ad⟩:=bY;exact⟨bp,y,p,ad⟩
  have cell:∀i C,i<cap→C<c2→ ∃v k,w.cell? (x.add (i*c2+C))=some v∧bo[C]? =some k∧pF k v:=by intro i C ak aV;obtain⟨bp,y,p,ad⟩:=each i ak;obtain⟨k,ap,st⟩:=HW C aV;obtain⟨v,bg,kg⟩:=afe d st ad;refine⟨v,k,?_,ap,kg⟩;rw [←Go.Deep.add_add,(World.cells?_some p).2.2 C aV,bg]
  have tH:∀i C,i<cap→C<c2→w.cell? (x.add (i*c2+C))=some (cellAt w x (i*c2+C))∧∃k,bo[C]? =some k∧pF k (cellAt w x (i*c2+C)):=by
   intro i C ak aV;obtain⟨v,k,p,ad,bd⟩:=cell i C ak aV;have:cellAt w x (i*c2+C)=v:=by simp [cellAt,p]
   rw [this];exact⟨p,k,ad,bd⟩
  have afi:∀i C,i<len→C<c2→bo[C]? =some .string→ ∃s:ByteArray,cellAt w x (i*c2+C)=.string s∧s.size∈fM.weights P t:=by
   intro i C ak aV ap;obtain⟨fy,dY,st⟩:=HW C aV;rw [ap]at dY;simp only [Option.some.injEq]at dY;subst dY;simp only [Prod.mk.injEq]at Rc;have zP:i<bi.length:=by omega
   have bm:=(fu i ak).trans (List.getElem?_eq_getElem zP);rw [av,Option.bind_eq_some_iff]at bm;obtain⟨bp,p,ad⟩:=bm;obtain⟨s,bg,kg⟩:=afg d st ad;refine⟨s,?_,?_⟩
   ·unfold cellAt;rw [←Go.Deep.add_add,(World.cells?_some p).2.2 C aV,bg];rfl
   ·rw [Rc.1];simp only [DataW.weights,bX];refine List.mem_cons_of_mem _ (List.mem_append.2 (.inl (Ra (List.mem_map.2 ⟨_,List.getElem_mem zP,rfl⟩) kg)))
  by_cases oT:cap=0
  ·subst oT;obtain rfl:len=0:=by omega
   refine⟨some ⟨id,0,0,0,c2⟩,0,yW c2,CA c2,x,.inl rfl,kB hw eX,by simp,fun al wI=> ?_,fun C aV=>by omega,fun i C ak=>by omega,fun i C ak=>by omega⟩;simp only [aN];exact⟨x,0,rfl,Nat.le_refl _,Nat.le_refl _,.inl ⟨rfl,_,wI,rfl,.inl rfl,fun _=>rfl⟩⟩
  have Rd:x.spot=none:=by have:=(tH 0 0 (by omega) eX).1;simpa [Addr.add]using World.cell?_spot this
  have CC:∀i,x.add i=⟨x.block,x.off+i,none⟩:=by
   intro i;obtain⟨AW,of,EZ⟩:=x;simp only at Rd;subst Rd;unfold Addr.add;split
   ·rename_i bm;subst bm;rfl
   ·rfl
  have pO:∀i,i<cap→(elemAt w x hI c2 i).cells=(List.range c2).map fun C=>gI (cellAt w x (i*c2+C)):=by
   intro i ak;refine aff fun Ep=> ?_
   have p:=ed Ep;subst p;refine⟨_,rfl,?_⟩;obtain⟨_,k,_,kg⟩:=tH i 0 ak (by omega);exact kg.bare.2.1
  have wh:x.block<w.heap.size:=by
   have:=(tH 0 0 (by omega) eX).1;rw [CC]at this;unfold World.cell? at this;split at this
   ·rename_i au;exact(Array.getElem?_eq_some_iff.1 au).1
   ·cases this
  refine⟨some ⟨id,0,0,0,c2⟩,cap,{bi:=(List.range cap).map (elemAt w x hI c2),es:=c2,exact:=true,ro:=true,J:=0,fX:=0,gQ:=0,aq:=none},{cq:=x.block,off:=x.off,a1:=0,es:=c2,fE:=cap,exact:=true,ro:=true},x,.inl rfl,?_,by omega,?_,?_,fun i C ak aV=>(tH i C (by omega) aV).2,afi⟩
  ·refine⟨rfl,rfl,rfl,rfl,eX,rfl,fun al S=>⟨wh,(fun h=>by cases h),?_,(fun h=>by cases h),(fun h=>by cases h),(fun q h=>by cases h),?_⟩,?_⟩
   ·intro ab ai;simp only at ai;have p:ab/c2<cap:=Nat.div_lt_of_lt_mul (by rw [Nat.mul_comm];exact ai);have:=(tH (ab/c2) (ab%c2) p (Nat.mod_lt _ eX)).1;rw [show ab/c2*c2+ab%c2=ab by rw [Nat.mul_comm];exact Nat.div_add_mod ab c2,CC]at this;simp only [this];rfl
   ·intro i ca _ _ he;simp only [List.getElem?_map,Option.map_eq_some_iff]at he;obtain⟨fh,ga,rfl⟩:=he;have ak:=(List.getElem?_eq_some_iff.1 ga).1;simp only [List.length_range]at ak;rw [List.getElem?_range ak]at ga;simp only [Option.some.injEq]at ga;subst ga;refine⟨by rw [pO i ak];simp,by simp only;omega,fun C bV ae=> ?_⟩;rw [pO i ak,List.getElem?_map,Option.map_eq_some_iff]at ae;obtain⟨gA,ov,rfl⟩:=ae;have aV:=(List.getElem?_eq_some_iff.1 ov).1;simp only [List.length_range]at aV;rw [List.getElem?_range aV]at ov;simp only [Option.some.injEq]at ov;subst ov;obtain⟨p,k,_,kg⟩:=tH i C ak aV;refine⟨_,?_,zc al _,kg.bare.2.2⟩;rw [CC]at p;simp only [Place.at,Nat.sub_zero,Nat.add_assoc];exact p
   ·intro ca he;obtain⟨i,ak,rfl⟩:=List.mem_map.1 he;have ak:=List.mem_range.1 ak;unfold elemAt CB
    have hr:∀a∈(List.range c2).map (fun C=>gI (cellAt w x (i*c2+C))),cR a:=by intro a aT;obtain⟨C,aV,rfl⟩:=List.mem_map.1 aT;obtain⟨_,k,_,kg⟩:=tH i C ak (List.mem_range.1 aV);exact kg.bare.1
    cases hI with
    |true=>exact cR.agg hr
    |false =>
     have p:=ed rfl;subst p;exact hr _ (by simp)
  ·intro al wI;simp only [aN];refine⟨x,cap,rfl,az,Nat.le_refl _,.inl ⟨rfl,_,wI,rfl,?_,fun _=>rfl⟩⟩;refine .inr ⟨Nat.le_refl _,?_,by simp⟩;have:=CC 0;simp only [Addr.add,if_true]at this;simpa [Place.at]using this
  ·intro i ak;have ga:i<cap:=by omega
   simp [R.elem?,R.cO,ga]
end
end
end Go.cM
namespace Go.Proofs.YtddnafghiejcoaaGreatDoor
open Go.cM Go.Keys
set_option maxRecDepth 1000000
def I8:o→Bytes
 |.str b=>b
 |_=> []
def vI:List kh:=[.int .i8,.int .i32,.int .u8,.int .i64,.int .i64,.string]
def I9(w:World)(x:Addr)(i:Nat):bj:=⟨tG (gI (cellAt w x (i*6+0))),tG (gI (cellAt w x (i*6+1))),tG (gI (cellAt w x (i*6+2))),tG (gI (cellAt w x (i*6+3))),tG (gI (cellAt w x (i*6+4))),I8 (gI (cellAt w x (i*6+5)))⟩
def CD(w:World)(x:Addr)(len:Nat):List bj:=(List.range len).map (I9 w x)
theorem I'(w:World)(x:Addr)(len:Nat):(CD w x len).length=len:=by simp [CD]
theorem Re{w:World}{x:Addr}{len i:Nat}(ak:i<len)(he:∀i C,i<len→C<6→ ∃k,vI[C]? =some k∧pF k (cellAt w x (i*6+C))):elemAt w x true 6 i=cm (I9 w x i)∧0≤(I9 w x i).dW:=by
 obtain⟨bE,a0,ay⟩:=he i 0 ak (by omega);obtain⟨aM,ao,ba⟩:=he i 1 ak (by omega);obtain⟨aR,a2,bT⟩:=he i 2 ak (by omega);obtain⟨bu,a3,eQ⟩:=he i 3 ak (by omega);obtain⟨hg,a4,B9⟩:=he i 4 ak (by omega);obtain⟨ie,a5,tu⟩:=he i 5 ak (by omega);simp only [vI,List.getElem?_cons_zero,List.getElem?_cons_succ,Option.some.injEq]at a0 ao a2 a3 a4 a5;subst a0 ao a2 a3 a4 a5;obtain⟨s,il,_⟩:=tu;have n2:gI (cellAt w x (i*6+5))=.str (I8 (gI (cellAt w x (i*6+5)))):=by rw [il];rfl
 constructor
 ·show o.agg [gI (cellAt w x (i*6+0)),gI (cellAt w x (i*6+1)),gI (cellAt w x (i*6+2)),gI (cellAt w x (i*6+3)),gI (cellAt w x (i*6+4)),gI (cellAt w x (i*6+5))]=_;rw [ay.int.1,ba.int.1,bT.int.1,eQ.int.1,B9.int.1,n2];rfl
 ·have:=bT.int.2;simp [Lit.wf,IntKind.min,IntKind.max,IntKind.signed,IntKind.bits]at this;exact this.1
theorem Rx{w:World}{x:Addr}{len c:Nat}{b:R}{ab:Option bG}{W:List Nat}(an:uD ab len c 0 0 0 6)(ae:∀i,i<len→b.elem? 0 (0+i)=some (elemAt w x true 6 i))(he:∀i C,i<len→C<6→ ∃k,vI[C]? =some k∧pF k (cellAt w x (i*6+C)))
 (bX:∀i C,i<len→C<6→vI[C]? =some .string→ ∃s:ByteArray,cellAt w x (i*6+C)=.string s∧s.size∈W) (hw:∀y∈W,y≤140737488351232) (az:len*48≤140737488351232) :
 ∃aa,aI Tryz.prog aw 12 [.slice ab len c] (j.of [b]) (.bool true) aa:=by
 have :=ae8 (H:=j.of [b]) (ab:=ab) (c:=c) (es:=CD w x len) (by rw [I'];omega) (by
  intro e hm;obtain⟨i,ak,rfl⟩:=List.mem_map.1 hm;obtain⟨s,p,ad⟩:=bX i 5 (List.mem_range.1 ak) (by omega) rfl;have bd:=hw _ ad;show(I8 (gI (cellAt w x (i*6+5)))).length<_;rw [p];show s.data.toList.length<_;rw [Array.length_toList];show s.size<_;omega) (by
  intro e hm;obtain⟨i,ak,rfl⟩:=List.mem_map.1 hm;exact(Re (List.mem_range.1 ak) he).2) (by
  rcases an with rfl|⟨rfl,rfl,_⟩
  ·refine .inr ⟨rfl,⟨b,rfl,fun i ak=> ?_⟩,by show(0:Nat)<1;decide⟩;rw [I']at ak;have q:=ae i ak;rw [Nat.zero_add]at q;rw [q,(Re ak he).1];simp [CD]
  ·exact .inl ⟨rfl,rfl⟩)
 rwa [I']at this
end Go.Proofs.YtddnafghiejcoaaGreatDoor
namespace Go.Proofs.YtddnafghiejcoaaGreatDoor
open Go.ChangeShapes Go.WideShapes Go.RowKit Go.Stop
open Go.cM
set_option maxRecDepth 1000000
theorem afj:(Tryz.prog.globals[5]?).map (·.type)=some 179:=by kernel_rfl
theorem afk:Tryz.prog.cellsOf 179=20:=by kernel_rfl
theorem afl:Tryz.prog.cellsOf 151=1:=by kernel_rfl
theorem afm{W:World}(h:laidMetH Tryz.prog Rows.keysPiecesRow.laid W):Lib.TabIs Tryz.prog W "internal/strconv.uint64pow10" .u64 Lib.pow10Tab:=by rw [MakeChecks.laidMetH_plain _ _ _ (by kernel_rfl)]at h;exact Lib.tabIs_of_head E0 afj Tryz.underlying179 Tryz.underlying151 afl afk (laidMet.tail (laidMet.tail h))
noncomputable def yX(os:Os):World :=
 {World.doorLaid Tryz.prog 96 os with heap:=(World.doorLaid Tryz.prog 96 os).heap.modify 8 fun
  |.cells _ t frozen=> .cells (Go.Pinned.utf8FirstZ.map fun(z:Nat)=>Value.int .u8 (z:Int)).toArray t frozen
  |ab=>ab}
theorem afn{P:Program}{w:World}{l:List (String×DataW Unit)}(de M:Nat)(h:(DataW.laidRun P w de (l.map (·.1))).bind (fun x=>if nodupBits M x.2 0&&laidRowsB P w x.2 then some x.1 else none)=some l):laidMet P l w:=by
 simp only [Option.bind_eq_some_iff]at h;obtain⟨x,ae,d⟩:=h;split at d
 ·rename_i au;simp only [Bool.and_eq_true]at au;simp only [Option.some.injEq]at d;exact laidMet_of_run (ps:=x.2) de (by rw [ae,←d]) (decide_eq_true (nodupBits_sound au.1).1) au.2
 ·cases d
theorem CE(os:Os)(args:Array Value):laidMetH Tryz.prog Rows.keysPiecesRow.laid ((yX os).forCall (fun _ _=>0) ⟨#[],args,[]⟩).memory:=by rw [MakeChecks.laidMetH_plain _ _ _ (by kernel_rfl)];exact afn 8 257 (by kernel_rfl)
theorem afo:(Tryz.prog.globals[0]?).map (·.type)=some 113:=by kernel_rfl
theorem afp:Tryz.prog.cellsOf 113=256:=by kernel_rfl
theorem afq:Tryz.prog.cellsOf 5=1:=by kernel_rfl
theorem Rf:Tryz.prog.globalNamed "strconv.ErrSyntax" =some 3:=by kernel_rfl
theorem Rg:Tryz.prog.globalNamed "strconv.ErrRange" =some 4:=by kernel_rfl
theorem afr:(Tryz.prog.globals[3]?).map (·.type)=some 89:=by kernel_rfl
theorem afs:(Tryz.prog.globals[4]?).map (·.type)=some 89:=by kernel_rfl
theorem Rh: "*" ++ "errors.errorString" = "*errors.errorString" :=by decide
theorem Ri(u:TypeId)(h:Tryz.prog.typeName? 3 u=some "*errors.errorString"):u=187 :=
 typeName_ptr_named (nm:= "errors.errorString") (by rw [Rh];kernel_rfl) (by kernel_rfl) (by decide) u (by rw [Rh];exact h)
theorem Rj:Tryz.prog.cellsOf 189=1:=by kernel_rfl
theorem strCells:Tryz.prog.cellsOf 9=1:=by kernel_rfl
theorem Rk{P:Program}{W:World}{n:String}{g:Nat}{v:Value}(ag:P.globalNamed n=some g)(h:W.var? P n=some #[v]):W.cell? ⟨g,0,none⟩=some v∧g<W.heap.size:=by
 unfold World.var? at h;rw [ag]at h;simp only [Option.bind_some]at h;split at h
 ·rename_i bp t f bW;simp only [Option.some.injEq]at h;subst h;refine⟨by simp [World.cell?,bW],(Array.getElem?_eq_some_iff.1 bW).1⟩
 ·cases h
theorem Rl{W:World}{n:String}{g:Nat}{k:IntKind}{t:List Int}(ag:Tryz.prog.globalNamed n=some g)(h:Lib.TabIs Tryz.prog W n k t):g<W.heap.size:=by
 unfold Lib.TabIs World.var? at h;rw [ag]at h;simp only [Option.bind_some]at h;rcases Nat.lt_or_ge g W.heap.size with k|k
 ·exact k
 ·rw [Array.getElem?_eq_none k]at h;cases h
theorem tP{W:World}{g:Nat}(h:∃m,W.cell? ⟨g,0,none⟩=some (.int .i64 m)):g<W.heap.size:=by
 obtain⟨m,e⟩:=h;rcases Nat.lt_or_ge g W.heap.size with k|k
 ·exact k
 ·simp [World.cell?,Array.getElem?_eq_none k]at e
theorem Ro{W:World}(h:laidMetH Tryz.prog Rows.keysPiecesRow.laid W)(ae:∃m,W.cell? ⟨2,0,none⟩=some (.int .i64 m)):aw (fun k=>k<W.heap.size) W:=by have ac:=afm h;rw [MakeChecks.laidMetH_plain _ _ _ (by kernel_rfl)]at h;have bS:=laidMet.tail (laidMet.tail (laidMet.tail (laidMet.tail h)));obtain⟨a,s,bb,_⟩:=laid_sentinel bS Rg afs Tryz.underlying89 Ri Tryz.underlying187 Tryz.underlying189 rfl rfl Tryz.underlying9 Rj strCells;have bI:=laidMet.tail bS;obtain⟨a2,s2,an,_⟩:=laid_sentinel bI Rf afr Tryz.underlying89 Ri Tryz.underlying187 Tryz.underlying189 rfl rfl Tryz.underlying9 Rj strCells;have cP:=laidMet.tail (laidMet.tail bI);have bX:Lib.TabIs Tryz.prog W "strings.asciiSpace" .u8 Lib.asciiSpaceTab:=Lib.tabIs_of_head E1 afo Tryz.underlying113 Tryz.underlying5 afq afp (zs:=Lib.asciiSpaceTab) cP;obtain⟨fT,kn⟩:=Rk Rg bb;obtain⟨s1,s2⟩:=Rk Rf an;exact⟨Rl E0 ac,ac,Rl E1 bX,bX,s2,⟨_,_,s1⟩,kn,⟨_,_,fT⟩,tP ae,ae⟩
end Go.Proofs.YtddnafghiejcoaaGreatDoor
