/-
  Parts of the proof, one behind the other:
  A mark; slices of one thing; a text split in a variable memory.
  apart, as trees.
  Both Rows in every memory.
  apart: its loops.
  apart: the loop that grows all, and the one that looks at all.
  apart: its last loops, and the whole.
  apart in every memory.
  What holds two rows against each other: the program's and the document's, as trees.
  What By's function and the document's Compare answer.
  THE CLOSED RUN of 'frescolaw14.works' on the abstract machine: it answers true.
  TableReads: its walk, as a tree.
  TableReads answers true.
  THE LIFT: arguments that came in, as rows that must not be written.
  THE LIFT: arguments of flat types (numbers, bools, strings, structs and arrays of these; slices of such), as they came in.
  Flat slices whose elements hold texts: these are not too long.
  TableReads: its arguments, as they came in.
  What the table's statements lean on of the library's variables, where the row's variables hold what the card ties them to; and a world in which all of it lies.
-/
import Derived.ProofKit
import Derived.OpenShut
import Derived.ChangeOld
import Derived.HandedShaped
import Derived.Deep.Slices
import Derived.Test.YtjpfnbihopoeeaaGreatDoorRows
import Derived.LaidMore
import Derived.Stop.Joined
import Derived.Stop.LaidErr
import Derived.MakeChecks
import Derived.Lib.LaidTab
import Derived.LaidOnce
import Derived.Test.YtjpfnbihopoeeaaGreatDoorKTableReadsC
set_option linter.unusedVariables false
set_option linter.unusedSimpArgs false
set_option linter.unusedSectionVars false
namespace Go.Proofs.YtjpfnbihopoeeaaGreatDoor
open Go.Lift
set_option maxRecDepth 1000000
theorem cv8 {F:Facts}{k nid:Nat}{n:Int}{H:AHeap}(hF:getF F (.tmp k)= .int .i64 n):aop env noCall nid (getF F) H (Op.convert 3 5 (Operand.tmp k))=some (.int .u8 (((IntKind.u8.wrap n).toNat:Nat):Int),H):=by
  have h0:0≤IntKind.u8.wrap n:=by
    show(0:Int)≤n % 256
    omega
  rw [Int.toNat_of_nonneg h0]
  have:aop env noCall nid (getF F) H (Op.convert 3 5 (Operand.tmp k))=(aconvert (AEnv.D env) 3 5 (.int .i64 n)).map fun v=>(v,H):=by rw [← hF];rfl
  exact this.trans (by kernel_rfl)
theorem mark_ex(i:Nat): ∃ s:Bys,∀ H:AHeap,FDoes Tryz.prog cnd 44 [.int .i64 (i:Nat)] H (.str s) H:=by
  obtain⟨v,h1,hd,s,rfl⟩:=mark_vc i _ _ _ (fun v h1=> ∃ s,v= .str s) ⟨cv8 rfl,.mk 8,cv8 rfl,.mk 16,cv8 rfl,_,rfl⟩
  exact⟨s,fun H=>FDoes.ofVC ⟨_,_,hd,rfl⟩ rfl rfl H⟩
noncomputable def markS(i:Nat):Bys:=Classical.choose (mark_ex i)
theorem mark_does(i:Nat)(H:AHeap):FDoes Tryz.prog cnd 44 [.int .i64 (i:Nat)] H (.str (markS i)) H:=Classical.choose_spec (mark_ex i) H
theorem build1R {F:Facts}{k nid:Nat}{x:AVal}{H:AHeap}(hF:getF F (.tmp k)=x)(hx:Sv x):aop env noCall nid (getF F) H (Op.buildSlice 22 1 {toList:= [(0,Operand.tmp k)]})=some (.slice (some ⟨nid,0,0,0,1⟩) 1 1,H.set nid (ABlk.made [x] 1 true)):=by
  have:aop env noCall nid (getF F) H (Op.buildSlice 22 1 {toList:= [(0,Operand.tmp k)]})=abuildSlice (AEnv.D env) 22 1 [(0,x)] nid H:=by rw [← hF];rfl
  refine this.trans ?_
  cases x with
  | agg=>cases hx
  | tuple=>cases hx
  | undef=>cases hx
  | _=>exact(by kernel_rfl)
theorem build1S {F:Facts}{k nid:Nat}{x:AVal}{H:AHeap}(hF:getF F (.tmp k)=x)(hx:Sv x):aop env noCall nid (getF F) H (Op.buildSlice 36 1 {toList:= [(0,Operand.tmp k)]})=some (.slice (some ⟨nid,0,0,0,1⟩) 1 1,H.set nid (ABlk.made [x] 1 true)):=by
  have:aop env noCall nid (getF F) H (Op.buildSlice 36 1 {toList:= [(0,Operand.tmp k)]})=abuildSlice (AEnv.D env) 36 1 [(0,x)] nid H:=by rw [← hF];rfl
  refine this.trans ?_
  cases x with
  | agg=>cases hx
  | tuple=>cases hx
  | undef=>cases hx
  | _=>exact(by kernel_rfl)
theorem one_elem(H:AHeap)(q:Nat)(x:AVal):elemsOf 1 (.slice (some ⟨q,0,0,0,1⟩) 1 1) (H.set q (ABlk.made [x] 1 true))=some [x]:=by
  have h5:=AHeap.get_set_self H q (ABlk.made [x] 1 true)
  simp only [elemsOf,if_true,h5]
  rw [if_neg (by decide),if_pos ⟨by simp [ABlk.lim,ABlk.made],by simp [ABlk.made]⟩]
  simp [ABlk.made]
theorem split_rw(c:UInt8)(s:Bys)(hs:s.length<2^40)(H:AHeap): ∃ H',FDoes Tryz.prog cnd 43 [.str s,.str [c]] H (.slice (some ⟨H.next,0,0,0,1⟩) (partsAt c s).length (partsAt c s).length) H' ∧
    Rw H' 9 H.next (.slice (some ⟨H.next,0,0,0,1⟩) (partsAt c s).length (partsAt c s).length) ((partsAt c s).map AVal.str)∧Fr H H' []∧H'.next=H.next+1:=by
  have hn:(H.upd [] [sRow ((partsAt c s).map AVal.str) 0]).next=H.next+1:=AHeap.updFrom_next [] _ H (by simp)
  refine⟨_,split_does c s hs H,.inr ⟨sRow ((partsAt c s).map AVal.str) 0,by simp [sRow,ABlk.made],by omega,?_,rfl,rfl,.inl rfl⟩,⟨by omega,fun x hx _=>AHeap.updFrom_out [] _ H x (by simp) hx (by simp)⟩,hn⟩
  have:=AHeap.updFrom_at [] [sRow ((partsAt c s).map AVal.str) 0] H 0 (by simp) List.nodup_nil (by simp) (by simp)
  exact this
theorem TL.rw' {H:AHeap}{B:Nat}{v:AVal}{l:List Bys}(h:TL H B v l)(hne:l≠ []): ∃ q,Rw H 9 q v (l.map AVal.str)∧B≤q∧q<H.next:=by
  rcases h with ⟨_,h⟩ | ⟨j,b,rfl,h2,h3,h4,h5,h6,h7,h8,h9⟩
  · exact absurd h hne
  · exact⟨j,.inr ⟨b,by rw [List.length_map],h4,h5,h6,h8,.inr ⟨h7,h9⟩⟩,h3,h4⟩
end Go.Proofs.YtjpfnbihopoeeaaGreatDoor
namespace Go.Proofs.YtjpfnbihopoeeaaGreatDoor
open Go.Lift
set_option maxRecDepth 1000000
theorem ap0_vp(H H1:AHeap)(B N i n rc:Nat)(ro:Option AAddr)(va vb al:AVal)(a:AAddr)(K0:AExit→Facts→AHeap→Prop)(vc:bif Nat.ble B (AHeap.next H) && true then some (AVal.bool (decide ((↑i:Int)<(↑N:Int))))=some (AVal.bool true)∧bif Nat.ble B (AHeap.next H+1) && true then bif Nat.ble B (AHeap.next H+3) && true then aindexAddr (AEnv.D env) 22 al (AVal.int IntKind.i64 (↑i:Int))=some (AVal.ptr (some a))∧aload (AEnv.D env) 36 a (AHeap.mk (AHeap.next H+9) (H.2))=some (AVal.slice ro n rc)∧Runs Tryz.prog cnd B 209 (Code.loop (loopAt Tryz.prog 17 1)) [(0,va),(1,vb),(5,al),(6,AVal.int IntKind.i64 (↑i:Int)),(28,AVal.int IntKind.i64 (↑N:Int)),(29,AVal.int IntKind.i64 (↑i:Int)),(36,AVal.int IntKind.i64 (↑n:Int)),(37,AVal.int IntKind.i64 (0))] (AHeap.mk (AHeap.next H+3+6) (AHeap.blks (AHeap.mk (AHeap.next H+1+2) (AHeap.blks (AHeap.mk (AHeap.next H+1) (AHeap.blks H)))))) (AExit.exit 2) [(0,va),(1,vb),(5,al),(28,AVal.int IntKind.i64 (↑N:Int)),(29,AVal.int IntKind.i64 (↑i:Int))] H1∧bif Nat.ble B (AHeap.next H1) && true then(-9223372036854775808≤(↑i:Int)+1∧(↑i:Int)+1≤9223372036854775807)∧K0 AExit.normal [(0,va),(1,vb),(5,al),(28,AVal.int IntKind.i64 (↑N:Int)),(29,AVal.int IntKind.i64 ((↑i:Int)+1))] (AHeap.mk (AHeap.next H1+2) (AHeap.blks H1))else False else False else False else False) :
    ∃ e F1 h1,Runs Tryz.prog cnd B 209 (loopAt Tryz.prog 17 0) [(0,va),(1,vb),(5,al),(28,.int .i64 N),(29,.int .i64 i)] H e F1 h1∧K0 e F1 h1 :=
  tpath_runs env_ok mixed noSpecs_ok (hs:= .hint (.val 5000 (AVal.bool true)) (.hint (.val 7002 (AVal.ptr (some a))) (.hint (.val 7003 (AVal.slice ro n rc)) (.hint (.keep [0,1,5,6,28,29,36,37]) (.hint (.loop [(0,va),(1,vb),(5,al),(28,AVal.int IntKind.i64 (↑N:Int)),(29,AVal.int IntKind.i64 (↑i:Int))] H1 (AExit.exit 2)) (.hint (.go 12000) .nil)))))) (keep:= [0,1,5,28,29]) (by kernel_rfl) vc
theorem ap0E_vp(H:AHeap)(B N i:Nat)(va vb al:AVal)(K0:AExit→Facts→AHeap→Prop)(vc:bif Nat.ble B (AHeap.next H) && true then some (AVal.bool (decide ((↑i:Int)<(↑N:Int))))=some (AVal.bool false)∧K0 (AExit.exit 0) [(0,va),(1,vb),(5,al),(28,AVal.int IntKind.i64 (↑N:Int)),(29,AVal.int IntKind.i64 (↑i:Int))] (AHeap.mk (AHeap.next H+1) (AHeap.blks H))else False) :
    ∃ e F1 h1,Runs Tryz.prog cnd B 209 (loopAt Tryz.prog 17 0) [(0,va),(1,vb),(5,al),(28,.int .i64 N),(29,.int .i64 i)] H e F1 h1∧K0 e F1 h1 :=
  tpath_runs env_ok mixed noSpecs_ok (hs:= .hint (.val 5000 (AVal.bool false)) .nil) (keep:= [0,1,5,28,29]) (by kernel_rfl) vc
theorem ap1_vp(H H1:AHeap)(B N i n k:Nat)(va vb al rv:AVal)(a b:AAddr)(s:Bys)(K0:AExit→Facts→AHeap→Prop)(vc:bif Nat.ble B (AHeap.next H) && true then some (AVal.bool (decide ((↑k:Int)<(↑n:Int))))=some (AVal.bool true)∧bif Nat.ble B (AHeap.next H+1) && true then bif Nat.ble B (AHeap.next H+3) && true then aindexAddr (AEnv.D env) 22 al (AVal.int IntKind.i64 (↑i:Int))=some (AVal.ptr (some a))∧aload (AEnv.D env) 36 a (AHeap.mk (AHeap.next H+12) (H.2))=some rv∧AAddr.id a<AHeap.next H+3∧CallT Tryz.prog cnd 44 [AVal.int IntKind.i64 (↑i:Int)] (AHeap.mk (AHeap.next H+12) (H.2)) (AVal.str s) (AHeap.mk (AHeap.next H+12) (H.2))∧sameOld (AHeap.next H+12) (AHeap.mk (AHeap.next H+12) (H.2)) (AHeap.mk (AHeap.next H+12) (H.2))=true∧aindexAddr (AEnv.D env) 36 rv (AVal.int IntKind.i64 (↑k:Int))=some (AVal.ptr (some b))∧aop env noCall (AHeap.next H+11) (getF [(47,AVal.ptr (some b)),(46,AVal.str s),(45,AVal.int IntKind.i64 (↑i:Int)),(44,AVal.int IntKind.i64 (↑k:Int)),(43,rv),(42,AVal.ptr (some a)),(41,AVal.int IntKind.i64 (↑i:Int)),(40,al),(7,AVal.int IntKind.i64 (↑k:Int)),(39,AVal.int IntKind.i64 (↑k:Int)),(38,AVal.bool true),(0,va),(1,vb),(5,al),(6,AVal.int IntKind.i64 (↑i:Int)),(28,AVal.int IntKind.i64 (↑N:Int)),(29,AVal.int IntKind.i64 (↑i:Int)),(36,AVal.int IntKind.i64 (↑n:Int)),(37,AVal.int IntKind.i64 (↑k:Int))]) (AHeap.mk (AHeap.next H+12) (H.2)) (Op.store 9 (Operand.tmp 47) (Operand.tmp 46))=some (AVal.tuple [],H1)∧bif Nat.ble B (AHeap.next H1) && true then(-9223372036854775808≤(↑k:Int)+1∧(↑k:Int)+1≤9223372036854775807)∧K0 AExit.normal [(0,va),(1,vb),(5,al),(6,AVal.int IntKind.i64 (↑i:Int)),(28,AVal.int IntKind.i64 (↑N:Int)),(29,AVal.int IntKind.i64 (↑i:Int)),(36,AVal.int IntKind.i64 (↑n:Int)),(37,AVal.int IntKind.i64 ((↑k:Int)+1))] (AHeap.mk (AHeap.next H1+2) (AHeap.blks H1))else False else False else False else False) :
    ∃ e F1 h1,Runs Tryz.prog cnd B 209 (loopAt Tryz.prog 17 1) [(0,va),(1,vb),(5,al),(6,.int .i64 i),(28,.int .i64 N),(29,.int .i64 i),(36,.int .i64 n),(37,.int .i64 k)] H e F1 h1∧K0 e F1 h1 :=
  tpath_runs env_ok mixed noSpecs_ok (hs:= .hint (.val 8000 (AVal.bool true)) (.hint (.val 10002 (AVal.ptr (some a))) (.hint (.farV 10003 rv) (.hint (.val 10006 (AVal.str s)) (.hint (.val 10007 (AVal.ptr (some b))) (.hint (.act 10008 (AVal.tuple []) fun x=>H1) (.hint (.go 11000) .nil))))))) (keep:= [0,1,5,6,28,29,36,37]) (by kernel_rfl) vc
theorem ap1E_vp(H:AHeap)(B N i n k:Nat)(va vb al:AVal)(K0:AExit→Facts→AHeap→Prop)(vc:bif Nat.ble B (AHeap.next H) && true then some (AVal.bool (decide ((↑k:Int)<(↑n:Int))))=some (AVal.bool false)∧K0 (AExit.exit 2) [(0,va),(1,vb),(5,al),(6,AVal.int IntKind.i64 (↑i:Int)),(28,AVal.int IntKind.i64 (↑N:Int)),(29,AVal.int IntKind.i64 (↑i:Int)),(36,AVal.int IntKind.i64 (↑n:Int)),(37,AVal.int IntKind.i64 (↑k:Int))] (AHeap.mk (AHeap.next H+1) (AHeap.blks H))else False) :
    ∃ e F1 h1,Runs Tryz.prog cnd B 209 (loopAt Tryz.prog 17 1) [(0,va),(1,vb),(5,al),(6,.int .i64 i),(28,.int .i64 N),(29,.int .i64 i),(36,.int .i64 n),(37,.int .i64 k)] H e F1 h1∧K0 e F1 h1 :=
  tpath_runs env_ok mixed noSpecs_ok (hs:= .hint (.val 8000 (AVal.bool false)) .nil) (keep:= [0,1,5,6,28,29,36,37]) (by kernel_rfl) vc
theorem ap2_vp(H H1 H2 H3:AHeap)(B N i q:Nat)(va vb al lg rv gv lg2:AVal)(a:AAddr)(K0:AExit→Facts→AHeap→Prop)(vc:bif Nat.ble B (AHeap.next H) && true then some (AVal.bool (decide ((↑i:Int)<(↑N:Int))))=some (AVal.bool true)∧bif Nat.ble B (AHeap.next H+1) && true then bif Nat.ble B (AHeap.next H+3) && true then aindexAddr (AEnv.D env) 22 al (AVal.int IntKind.i64 (↑i:Int))=some (AVal.ptr (some a))∧aload (AEnv.D env) 36 a (AHeap.mk (AHeap.next H+8) (H.2))=some rv∧bif Nat.ble B (AHeap.next H+8) && true then Runs Tryz.prog cnd B 209 (Code.loop (loopAt Tryz.prog 17 3)) [(0,va),(1,vb),(5,al),(8,lg),(9,AVal.int IntKind.i64 (↑i:Int)),(10,rv),(51,AVal.int IntKind.i64 (↑N:Int)),(52,AVal.int IntKind.i64 (↑i:Int)),(59,AVal.int IntKind.i64 (0))] (AHeap.mk (AHeap.next H+8+1) (AHeap.blks (AHeap.mk (AHeap.next H+3+5) (AHeap.blks (AHeap.mk (AHeap.next H+1+2) (AHeap.blks (AHeap.mk (AHeap.next H+1) (AHeap.blks H)))))))) (AExit.exit 6) [(0,va),(1,vb),(5,al),(8,lg),(10,gv),(51,AVal.int IntKind.i64 (↑N:Int)),(52,AVal.int IntKind.i64 (↑i:Int))] H1∧bif Nat.ble B (AHeap.next H1) && true then aop env noCall (AHeap.next H1+2) (getF [(68,gv),(67,lg),(0,va),(1,vb),(5,al),(8,lg),(10,gv),(51,AVal.int IntKind.i64 (↑N:Int)),(52,AVal.int IntKind.i64 (↑i:Int))]) (AHeap.mk (AHeap.next H1+5) (H1.2)) (Op.buildSlice 22 1 {toList:= [(0,Operand.tmp 68)]})=some (AVal.slice (some ⟨q,0,0,0,1⟩) 1 1,H2)∧abuiltin env Builtin.append {toList:= [22,22]} [lg,AVal.slice (some ⟨q,0,0,0,1⟩) 1 1] (AHeap.next H1+3) H2=some (lg2,H3)∧bif Nat.ble B (AHeap.next H3) && true then(-9223372036854775808≤(↑i:Int)+1∧(↑i:Int)+1≤9223372036854775807)∧K0 AExit.normal [(0,va),(1,vb),(5,al),(8,lg2),(51,AVal.int IntKind.i64 (↑N:Int)),(52,AVal.int IntKind.i64 ((↑i:Int)+1))] (AHeap.mk (AHeap.next H3+2) (AHeap.blks H3))else False else False else False else False else False else False) :
    ∃ e F1 h1,Runs Tryz.prog cnd B 209 (loopAt Tryz.prog 17 2) [(0,va),(1,vb),(5,al),(8,lg),(51,.int .i64 N),(52,.int .i64 i)] H e F1 h1∧K0 e F1 h1 :=
  tpath_runs env_ok mixed noSpecs_ok (hs:= .hint (.val 15000 (AVal.bool true)) (.hint (.val 17002 (AVal.ptr (some a))) (.hint (.val 17003 rv) (.hint (.keep [0,1,5,8,9,10,51,52,59]) (.hint (.loop [(0,va),(1,vb),(5,al),(8,lg),(10,gv),(51,AVal.int IntKind.i64 (↑N:Int)),(52,AVal.int IntKind.i64 (↑i:Int))] H1 (AExit.exit 6)) (.hint (.act 22002 (AVal.slice (some ⟨q,0,0,0,1⟩) 1 1) fun x=>H2) (.hint (.act 22003 lg2 fun x=>H3) (.hint (.go 23000) .nil)))))))) (keep:= [0,1,5,8,51,52]) (by kernel_rfl) vc
theorem ap2E_vp(H:AHeap)(B N i:Nat)(va vb al lg:AVal)(K0:AExit→Facts→AHeap→Prop)(vc:bif Nat.ble B (AHeap.next H) && true then some (AVal.bool (decide ((↑i:Int)<(↑N:Int))))=some (AVal.bool false)∧K0 (AExit.exit 4) [(0,va),(1,vb),(5,al),(8,lg),(51,AVal.int IntKind.i64 (↑N:Int)),(52,AVal.int IntKind.i64 (↑i:Int))] (AHeap.mk (AHeap.next H+1) (AHeap.blks H))else False) :
    ∃ e F1 h1,Runs Tryz.prog cnd B 209 (loopAt Tryz.prog 17 2) [(0,va),(1,vb),(5,al),(8,lg),(51,.int .i64 N),(52,.int .i64 i)] H e F1 h1∧K0 e F1 h1 :=
  tpath_runs env_ok mixed noSpecs_ok (hs:= .hint (.val 15000 (AVal.bool false)) .nil) (keep:= [0,1,5,8,51,52]) (by kernel_rfl) vc
theorem ap3_vp(H H1 H2:AHeap)(B N i j q:Nat)(va vb al lg gv gv2:AVal)(s:Bys)(K0:AExit→Facts→AHeap→Prop)(vc:bif Nat.ble B (AHeap.next H) && true then some (AVal.bool (decide ((↑j:Int)<20)))=some (AVal.bool true)∧bif Nat.ble B (AHeap.next H+1) && true then CallT Tryz.prog cnd 44 [AVal.int IntKind.i64 (↑i:Int)] (AHeap.mk (AHeap.next H+7) (H.2)) (AVal.str s) (AHeap.mk (AHeap.next H+7) (H.2))∧aop env noCall (AHeap.next H+4) (getF [(63,AVal.str s),(62,AVal.int IntKind.i64 (↑i:Int)),(61,gv),(60,AVal.bool true),(0,va),(1,vb),(5,al),(8,lg),(9,AVal.int IntKind.i64 (↑i:Int)),(10,gv),(51,AVal.int IntKind.i64 (↑N:Int)),(52,AVal.int IntKind.i64 (↑i:Int)),(59,AVal.int IntKind.i64 (↑j:Int))]) (AHeap.mk (AHeap.next H+7) (H.2)) (Op.buildSlice 36 1 {toList:= [(0,Operand.tmp 63)]})=some (AVal.slice (some ⟨q,0,0,0,1⟩) 1 1,H1)∧abuiltin env Builtin.append {toList:= [36,36]} [gv,AVal.slice (some ⟨q,0,0,0,1⟩) 1 1] (AHeap.next H+5) H1=some (gv2,H2)∧bif Nat.ble B (AHeap.next H2) && true then(-9223372036854775808≤(↑j:Int)+1∧(↑j:Int)+1≤9223372036854775807)∧K0 AExit.normal [(0,va),(1,vb),(5,al),(8,lg),(9,AVal.int IntKind.i64 (↑i:Int)),(10,gv2),(51,AVal.int IntKind.i64 (↑N:Int)),(52,AVal.int IntKind.i64 (↑i:Int)),(59,AVal.int IntKind.i64 ((↑j:Int)+1))] (AHeap.mk (AHeap.next H2+2) (AHeap.blks H2))else False else False else False) :
    ∃ e F1 h1,Runs Tryz.prog cnd B 209 (loopAt Tryz.prog 17 3) [(0,va),(1,vb),(5,al),(8,lg),(9,.int .i64 i),(10,gv),(51,.int .i64 N),(52,.int .i64 i),(59,.int .i64 j)] H e F1 h1∧K0 e F1 h1 :=
  tpath_runs env_ok mixed noSpecs_ok (hs:= .hint (.val 19000 (AVal.bool true)) (.hint (.val 20002 (AVal.str s)) (.hint (.act 20003 (AVal.slice (some ⟨q,0,0,0,1⟩) 1 1) fun x=>H1) (.hint (.act 20004 gv2 fun x=>H2) (.hint (.go 21000) .nil))))) (keep:= [0,1,5,8,9,10,51,52,59]) (by kernel_rfl) vc
theorem ap3E_vp(H:AHeap)(B N i j:Nat)(va vb al lg gv:AVal)(K0:AExit→Facts→AHeap→Prop)(vc:bif Nat.ble B (AHeap.next H) && true then some (AVal.bool (decide ((↑j:Int)<20)))=some (AVal.bool false)∧K0 (AExit.exit 6) [(0,va),(1,vb),(5,al),(8,lg),(9,AVal.int IntKind.i64 (↑i:Int)),(10,gv),(51,AVal.int IntKind.i64 (↑N:Int)),(52,AVal.int IntKind.i64 (↑i:Int)),(59,AVal.int IntKind.i64 (↑j:Int))] (AHeap.mk (AHeap.next H+1) (AHeap.blks H))else False) :
    ∃ e F1 h1,Runs Tryz.prog cnd B 209 (loopAt Tryz.prog 17 3) [(0,va),(1,vb),(5,al),(8,lg),(9,.int .i64 i),(10,gv),(51,.int .i64 N),(52,.int .i64 i),(59,.int .i64 j)] H e F1 h1∧K0 e F1 h1 :=
  tpath_runs env_ok mixed noSpecs_ok (hs:= .hint (.val 19000 (AVal.bool false)) .nil) (keep:= [0,1,5,8,9,10,51,52,59]) (by kernel_rfl) vc
theorem ap4_vp(H H1:AHeap)(B N i m gc:Nat)(go:Option AAddr)(va vb al lg:AVal)(a:AAddr)(K0:AExit→Facts→AHeap→Prop)(vc:bif Nat.ble B (AHeap.next H) && true then some (AVal.bool (decide ((↑i:Int)<(↑N:Int))))=some (AVal.bool true)∧bif Nat.ble B (AHeap.next H+1) && true then bif Nat.ble B (AHeap.next H+3) && true then aindexAddr (AEnv.D env) 22 lg (AVal.int IntKind.i64 (↑i:Int))=some (AVal.ptr (some a))∧aload (AEnv.D env) 36 a (AHeap.mk (AHeap.next H+9) (H.2))=some (AVal.slice go m gc)∧Runs Tryz.prog cnd B 209 (Code.loop (loopAt Tryz.prog 17 5)) [(0,va),(1,vb),(5,al),(8,lg),(11,AVal.int IntKind.i64 (↑i:Int)),(73,AVal.int IntKind.i64 (↑N:Int)),(74,AVal.int IntKind.i64 (↑i:Int)),(81,AVal.int IntKind.i64 (↑m:Int)),(82,AVal.int IntKind.i64 (0))] (AHeap.mk (AHeap.next H+3+6) (AHeap.blks (AHeap.mk (AHeap.next H+1+2) (AHeap.blks (AHeap.mk (AHeap.next H+1) (AHeap.blks H)))))) (AExit.exit 10) [(0,va),(1,vb),(5,al),(8,lg),(73,AVal.int IntKind.i64 (↑N:Int)),(74,AVal.int IntKind.i64 (↑i:Int))] H1∧bif Nat.ble B (AHeap.next H1) && true then(-9223372036854775808≤(↑i:Int)+1∧(↑i:Int)+1≤9223372036854775807)∧K0 AExit.normal [(0,va),(1,vb),(5,al),(8,lg),(73,AVal.int IntKind.i64 (↑N:Int)),(74,AVal.int IntKind.i64 ((↑i:Int)+1))] (AHeap.mk (AHeap.next H1+2) (AHeap.blks H1))else False else False else False else False) :
    ∃ e F1 h1,Runs Tryz.prog cnd B 209 (loopAt Tryz.prog 17 4) [(0,va),(1,vb),(5,al),(8,lg),(73,.int .i64 N),(74,.int .i64 i)] H e F1 h1∧K0 e F1 h1 :=
  tpath_runs env_ok mixed noSpecs_ok (hs:= .hint (.val 25000 (AVal.bool true)) (.hint (.val 27002 (AVal.ptr (some a))) (.hint (.val 27003 (AVal.slice go m gc)) (.hint (.keep [0,1,5,8,11,73,74,81,82]) (.hint (.loop [(0,va),(1,vb),(5,al),(8,lg),(73,AVal.int IntKind.i64 (↑N:Int)),(74,AVal.int IntKind.i64 (↑i:Int))] H1 (AExit.exit 10)) (.hint (.go 33000) .nil)))))) (keep:= [0,1,5,8,73,74]) (by kernel_rfl) vc
theorem ap4E_vp(H:AHeap)(B N i:Nat)(va vb al lg:AVal)(K0:AExit→Facts→AHeap→Prop)(vc:bif Nat.ble B (AHeap.next H) && true then some (AVal.bool (decide ((↑i:Int)<(↑N:Int))))=some (AVal.bool false)∧K0 (AExit.exit 8) [(0,va),(1,vb),(5,al),(8,lg),(73,AVal.int IntKind.i64 (↑N:Int)),(74,AVal.int IntKind.i64 (↑i:Int))] (AHeap.mk (AHeap.next H+1) (AHeap.blks H))else False) :
    ∃ e F1 h1,Runs Tryz.prog cnd B 209 (loopAt Tryz.prog 17 4) [(0,va),(1,vb),(5,al),(8,lg),(73,.int .i64 N),(74,.int .i64 i)] H e F1 h1∧K0 e F1 h1 :=
  tpath_runs env_ok mixed noSpecs_ok (hs:= .hint (.val 25000 (AVal.bool false)) .nil) (keep:= [0,1,5,8,73,74]) (by kernel_rfl) vc
theorem ap5A_vp(H:AHeap)(B N i m k n rc:Nat)(ro:Option AAddr)(va vb al lg gv:AVal)(a b c d:AAddr)(s:Bys)(K0:AExit→Facts→AHeap→Prop)(vc:bif Nat.ble B (AHeap.next H) && true then some (AVal.bool (decide ((↑k:Int)<(↑m:Int))))=some (AVal.bool true)∧bif Nat.ble B (AHeap.next H+1) && true then bif Nat.ble B (AHeap.next H+3) && true then aindexAddr (AEnv.D env) 22 lg (AVal.int IntKind.i64 (↑i:Int))=some (AVal.ptr (some a))∧aload (AEnv.D env) 36 a (AHeap.mk (AHeap.next H+34) (H.2))=some gv∧AAddr.id a<AHeap.next H+3∧aindexAddr (AEnv.D env) 36 gv (AVal.int IntKind.i64 (↑k:Int))=some (AVal.ptr (some b))∧aload (AEnv.D env) 9 b (AHeap.mk (AHeap.next H+34) (H.2))=some (AVal.str s)∧AAddr.id b<AHeap.next H+3∧CallT Tryz.prog cnd 44 [AVal.int IntKind.i64 (↑i:Int)] (AHeap.mk (AHeap.next H+34) (H.2)) (AVal.str s) (AHeap.mk (AHeap.next H+34) (H.2))∧sameOld (AHeap.next H+34) (AHeap.mk (AHeap.next H+34) (H.2)) (AHeap.mk (AHeap.next H+34) (H.2))=true∧some (AVal.bool !s == s)=some (AVal.bool false)∧aindexAddr (AEnv.D env) 22 al (AVal.int IntKind.i64 (↑i:Int))=some (AVal.ptr (some c))∧aload (AEnv.D env) 36 c (AHeap.mk (AHeap.next H+34) (H.2))=some (AVal.slice ro n rc)∧AAddr.id c<AHeap.next H+3∧some (AVal.bool (decide ((↑k:Int)<(↑n:Int))))=some (AVal.bool true)∧aindexAddr (AEnv.D env) 22 al (AVal.int IntKind.i64 (↑i:Int))=some (AVal.ptr (some c))∧aload (AEnv.D env) 36 c (AHeap.mk (AHeap.next H+34) (H.2))=some (AVal.slice ro n rc)∧AAddr.id c<AHeap.next H+3∧aindexAddr (AEnv.D env) 36 (AVal.slice ro n rc) (AVal.int IntKind.i64 (↑k:Int))=some (AVal.ptr (some d))∧aload (AEnv.D env) 9 d (AHeap.mk (AHeap.next H+34) (H.2))=some (AVal.str s)∧AAddr.id d<AHeap.next H+3∧CallT Tryz.prog cnd 44 [AVal.int IntKind.i64 (↑i:Int)] (AHeap.mk (AHeap.next H+34) (H.2)) (AVal.str s) (AHeap.mk (AHeap.next H+34) (H.2))∧sameOld (AHeap.next H+34) (AHeap.mk (AHeap.next H+34) (H.2)) (AHeap.mk (AHeap.next H+34) (H.2))=true∧some (AVal.bool !s == s)=some (AVal.bool false)∧Agree [AVal.int IntKind.i64 (↑i:Int)] [AVal.int IntKind.i64 (↑i:Int)] (AHeap.mk (AHeap.next H+34) (H.2)) (AHeap.mk (AHeap.next H+34) (H.2)) (AVal.str s) (AVal.str s) (AHeap.mk (AHeap.next H+34) (H.2)) (AHeap.mk (AHeap.next H+34) (H.2))∧bif Nat.ble B (AHeap.next H+34) && true then(-9223372036854775808≤(↑k:Int)+1∧(↑k:Int)+1≤9223372036854775807)∧K0 AExit.normal [(0,va),(1,vb),(5,al),(8,lg),(11,AVal.int IntKind.i64 (↑i:Int)),(73,AVal.int IntKind.i64 (↑N:Int)),(74,AVal.int IntKind.i64 (↑i:Int)),(81,AVal.int IntKind.i64 (↑m:Int)),(82,AVal.int IntKind.i64 ((↑k:Int)+1))] (AHeap.mk (AHeap.next H+34+2) (AHeap.blks (AHeap.mk (AHeap.next H+3+31) (AHeap.blks (AHeap.mk (AHeap.next H+1+2) (AHeap.blks (AHeap.mk (AHeap.next H+1) (AHeap.blks H))))))))else False else False else False else False) :
    ∃ e F1 h1,Runs Tryz.prog cnd B 209 (loopAt Tryz.prog 17 5) [(0,va),(1,vb),(5,al),(8,lg),(11,.int .i64 i),(73,.int .i64 N),(74,.int .i64 i),(81,.int .i64 m),(82,.int .i64 k)] H e F1 h1∧K0 e F1 h1 :=
  tpath_runs env_ok mixed noSpecs_ok (hs:= .hint (.val 28000 (AVal.bool true)) (.hint (.val 30002 (AVal.ptr (some a))) (.hint (.farV 30003 gv) (.hint (.val 30005 (AVal.ptr (some b))) (.hint (.farV 30006 (AVal.str s)) (.hint (.val 30008 (AVal.str s)) (.hint (.val 30009 (AVal.bool false)) (.hint (.val 30014 (AVal.ptr (some c))) (.hint (.farV 30015 (AVal.slice ro n rc)) (.hint (.val 30017 (AVal.bool true)) (.hint (.val 30021 (AVal.ptr (some c))) (.hint (.farV 30022 (AVal.slice ro n rc)) (.hint (.val 30024 (AVal.ptr (some d))) (.hint (.farV 30025 (AVal.str s)) (.hint (.val 30027 (AVal.str s)) (.hint (.val 30028 (AVal.bool false)) (.hint (.go 32000) .nil))))))))))))))))) (keep:= [0,1,5,8,11,73,74,81,82]) (by kernel_rfl) vc
theorem ap5B_vp(H:AHeap)(B N i m k n rc:Nat)(ro:Option AAddr)(va vb al lg gv:AVal)(a b c:AAddr)(s:Bys)(K0:AExit→Facts→AHeap→Prop)(vc:bif Nat.ble B (AHeap.next H) && true then some (AVal.bool (decide ((↑k:Int)<(↑m:Int))))=some (AVal.bool true)∧bif Nat.ble B (AHeap.next H+1) && true then bif Nat.ble B (AHeap.next H+3) && true then aindexAddr (AEnv.D env) 22 lg (AVal.int IntKind.i64 (↑i:Int))=some (AVal.ptr (some a))∧aload (AEnv.D env) 36 a (AHeap.mk (AHeap.next H+34) (H.2))=some gv∧AAddr.id a<AHeap.next H+3∧aindexAddr (AEnv.D env) 36 gv (AVal.int IntKind.i64 (↑k:Int))=some (AVal.ptr (some b))∧aload (AEnv.D env) 9 b (AHeap.mk (AHeap.next H+34) (H.2))=some (AVal.str s)∧AAddr.id b<AHeap.next H+3∧CallT Tryz.prog cnd 44 [AVal.int IntKind.i64 (↑i:Int)] (AHeap.mk (AHeap.next H+34) (H.2)) (AVal.str s) (AHeap.mk (AHeap.next H+34) (H.2))∧sameOld (AHeap.next H+34) (AHeap.mk (AHeap.next H+34) (H.2)) (AHeap.mk (AHeap.next H+34) (H.2))=true∧some (AVal.bool !s == s)=some (AVal.bool false)∧aindexAddr (AEnv.D env) 22 al (AVal.int IntKind.i64 (↑i:Int))=some (AVal.ptr (some c))∧aload (AEnv.D env) 36 c (AHeap.mk (AHeap.next H+34) (H.2))=some (AVal.slice ro n rc)∧AAddr.id c<AHeap.next H+3∧some (AVal.bool (decide ((↑k:Int)<(↑n:Int))))=some (AVal.bool false)∧bif Nat.ble B (AHeap.next H+34) && true then(-9223372036854775808≤(↑k:Int)+1∧(↑k:Int)+1≤9223372036854775807)∧K0 AExit.normal [(0,va),(1,vb),(5,al),(8,lg),(11,AVal.int IntKind.i64 (↑i:Int)),(73,AVal.int IntKind.i64 (↑N:Int)),(74,AVal.int IntKind.i64 (↑i:Int)),(81,AVal.int IntKind.i64 (↑m:Int)),(82,AVal.int IntKind.i64 ((↑k:Int)+1))] (AHeap.mk (AHeap.next H+34+2) (AHeap.blks (AHeap.mk (AHeap.next H+3+31) (AHeap.blks (AHeap.mk (AHeap.next H+1+2) (AHeap.blks (AHeap.mk (AHeap.next H+1) (AHeap.blks H))))))))else False else False else False else False) :
    ∃ e F1 h1,Runs Tryz.prog cnd B 209 (loopAt Tryz.prog 17 5) [(0,va),(1,vb),(5,al),(8,lg),(11,.int .i64 i),(73,.int .i64 N),(74,.int .i64 i),(81,.int .i64 m),(82,.int .i64 k)] H e F1 h1∧K0 e F1 h1 :=
  tpath_runs env_ok mixed noSpecs_ok (hs:= .hint (.val 28000 (AVal.bool true)) (.hint (.val 30002 (AVal.ptr (some a))) (.hint (.farV 30003 gv) (.hint (.val 30005 (AVal.ptr (some b))) (.hint (.farV 30006 (AVal.str s)) (.hint (.val 30008 (AVal.str s)) (.hint (.val 30009 (AVal.bool false)) (.hint (.val 30014 (AVal.ptr (some c))) (.hint (.farV 30015 (AVal.slice ro n rc)) (.hint (.val 30017 (AVal.bool false)) (.hint (.go 32000) .nil))))))))))) (keep:= [0,1,5,8,11,73,74,81,82]) (by kernel_rfl) vc
theorem ap5E_vp(H:AHeap)(B N i m k:Nat)(va vb al lg:AVal)(K0:AExit→Facts→AHeap→Prop)(vc:bif Nat.ble B (AHeap.next H) && true then some (AVal.bool (decide ((↑k:Int)<(↑m:Int))))=some (AVal.bool false)∧K0 (AExit.exit 10) [(0,va),(1,vb),(5,al),(8,lg),(11,AVal.int IntKind.i64 (↑i:Int)),(73,AVal.int IntKind.i64 (↑N:Int)),(74,AVal.int IntKind.i64 (↑i:Int)),(81,AVal.int IntKind.i64 (↑m:Int)),(82,AVal.int IntKind.i64 (↑k:Int))] (AHeap.mk (AHeap.next H+1) (AHeap.blks H))else False) :
    ∃ e F1 h1,Runs Tryz.prog cnd B 209 (loopAt Tryz.prog 17 5) [(0,va),(1,vb),(5,al),(8,lg),(11,.int .i64 i),(73,.int .i64 N),(74,.int .i64 i),(81,.int .i64 m),(82,.int .i64 k)] H e F1 h1∧K0 e F1 h1 :=
  tpath_runs env_ok mixed noSpecs_ok (hs:= .hint (.val 28000 (AVal.bool false)) .nil) (keep:= [0,1,5,8,11,73,74,81,82]) (by kernel_rfl) vc
theorem ap6_vp(H H1:AHeap)(B N i:Nat)(va vb ov tv:AVal)(a:AAddr)(K0:AExit→Facts→AHeap→Prop)(vc:bif Nat.ble B (AHeap.next H) && true then some (AVal.bool (decide ((↑i:Int)<(↑N:Int))))=some (AVal.bool true)∧bif Nat.ble B (AHeap.next H+1) && true then bif Nat.ble B (AHeap.next H+3) && true then aindexAddr (AEnv.D env) 22 va (AVal.int IntKind.i64 (↑i:Int))=some (AVal.ptr (some a))∧aop env noCall (AHeap.next H+7) (getF [(128,AVal.ptr (some a)),(127,ov),(126,AVal.int IntKind.i64 (↑i:Int)),(125,va),(15,AVal.int IntKind.i64 (↑i:Int)),(124,AVal.int IntKind.i64 (↑i:Int)),(123,AVal.bool true),(0,va),(1,vb),(13,ov),(14,tv),(121,AVal.int IntKind.i64 (↑N:Int)),(122,AVal.int IntKind.i64 (↑i:Int))]) (AHeap.mk (AHeap.next H+8) (H.2)) (Op.store 36 (Operand.tmp 128) (Operand.tmp 127))=some (AVal.tuple [],H1)∧bif Nat.ble B (AHeap.next H1) && true then(-9223372036854775808≤(↑i:Int)+1∧(↑i:Int)+1≤9223372036854775807)∧K0 AExit.normal [(0,va),(1,vb),(13,ov),(14,tv),(121,AVal.int IntKind.i64 (↑N:Int)),(122,AVal.int IntKind.i64 ((↑i:Int)+1))] (AHeap.mk (AHeap.next H1+2) (AHeap.blks H1))else False else False else False else False) :
    ∃ e F1 h1,Runs Tryz.prog cnd B 209 (loopAt Tryz.prog 17 6) [(0,va),(1,vb),(13,ov),(14,tv),(121,.int .i64 N),(122,.int .i64 i)] H e F1 h1∧K0 e F1 h1 :=
  tpath_runs env_ok mixed noSpecs_ok (hs:= .hint (.val 36000 (AVal.bool true)) (.hint (.val 38003 (AVal.ptr (some a))) (.hint (.act 38004 (AVal.tuple []) fun x=>H1) (.hint (.go 39000) .nil)))) (keep:= [0,1,13,14,121,122]) (by kernel_rfl) vc
theorem ap6E_vp(H:AHeap)(B N i:Nat)(va vb ov tv:AVal)(K0:AExit→Facts→AHeap→Prop)(vc:bif Nat.ble B (AHeap.next H) && true then some (AVal.bool (decide ((↑i:Int)<(↑N:Int))))=some (AVal.bool false)∧K0 (AExit.exit 12) [(0,va),(1,vb),(13,ov),(14,tv),(121,AVal.int IntKind.i64 (↑N:Int)),(122,AVal.int IntKind.i64 (↑i:Int))] (AHeap.mk (AHeap.next H+1) (AHeap.blks H))else False) :
    ∃ e F1 h1,Runs Tryz.prog cnd B 209 (loopAt Tryz.prog 17 6) [(0,va),(1,vb),(13,ov),(14,tv),(121,.int .i64 N),(122,.int .i64 i)] H e F1 h1∧K0 e F1 h1 :=
  tpath_runs env_ok mixed noSpecs_ok (hs:= .hint (.val 36000 (AVal.bool false)) .nil) (keep:= [0,1,13,14,121,122]) (by kernel_rfl) vc
theorem ap7_vp(H H1:AHeap)(B N i:Nat)(va vb ov tv:AVal)(a:AAddr)(K0:AExit→Facts→AHeap→Prop)(vc:bif Nat.ble B (AHeap.next H) && true then some (AVal.bool (decide ((↑i:Int)<(↑N:Int))))=some (AVal.bool true)∧bif Nat.ble B (AHeap.next H+1) && true then bif Nat.ble B (AHeap.next H+3) && true then aindexAddr (AEnv.D env) 22 vb (AVal.int IntKind.i64 (↑i:Int))=some (AVal.ptr (some a))∧aop env noCall (AHeap.next H+7) (getF [(138,AVal.ptr (some a)),(137,tv),(136,AVal.int IntKind.i64 (↑i:Int)),(135,vb),(16,AVal.int IntKind.i64 (↑i:Int)),(134,AVal.int IntKind.i64 (↑i:Int)),(133,AVal.bool true),(0,va),(1,vb),(13,ov),(14,tv),(131,AVal.int IntKind.i64 (↑N:Int)),(132,AVal.int IntKind.i64 (↑i:Int))]) (AHeap.mk (AHeap.next H+8) (H.2)) (Op.store 36 (Operand.tmp 138) (Operand.tmp 137))=some (AVal.tuple [],H1)∧bif Nat.ble B (AHeap.next H1) && true then(-9223372036854775808≤(↑i:Int)+1∧(↑i:Int)+1≤9223372036854775807)∧K0 AExit.normal [(0,va),(1,vb),(13,ov),(14,tv),(131,AVal.int IntKind.i64 (↑N:Int)),(132,AVal.int IntKind.i64 ((↑i:Int)+1))] (AHeap.mk (AHeap.next H1+2) (AHeap.blks H1))else False else False else False else False) :
    ∃ e F1 h1,Runs Tryz.prog cnd B 209 (loopAt Tryz.prog 17 7) [(0,va),(1,vb),(13,ov),(14,tv),(131,.int .i64 N),(132,.int .i64 i)] H e F1 h1∧K0 e F1 h1 :=
  tpath_runs env_ok mixed noSpecs_ok (hs:= .hint (.val 41000 (AVal.bool true)) (.hint (.val 43003 (AVal.ptr (some a))) (.hint (.act 43004 (AVal.tuple []) fun x=>H1) (.hint (.go 44000) .nil)))) (keep:= [0,1,13,14,131,132]) (by kernel_rfl) vc
theorem ap7E_vp(H:AHeap)(B N i:Nat)(va vb ov tv:AVal)(K0:AExit→Facts→AHeap→Prop)(vc:bif Nat.ble B (AHeap.next H) && true then some (AVal.bool (decide ((↑i:Int)<(↑N:Int))))=some (AVal.bool false)∧K0 (AExit.exit 14) [(0,va),(1,vb),(13,ov),(14,tv),(131,AVal.int IntKind.i64 (↑N:Int)),(132,AVal.int IntKind.i64 (↑i:Int))] (AHeap.mk (AHeap.next H+1) (AHeap.blks H))else False) :
    ∃ e F1 h1,Runs Tryz.prog cnd B 209 (loopAt Tryz.prog 17 7) [(0,va),(1,vb),(13,ov),(14,tv),(131,.int .i64 N),(132,.int .i64 i)] H e F1 h1∧K0 e F1 h1 :=
  tpath_runs env_ok mixed noSpecs_ok (hs:= .hint (.val 41000 (AVal.bool false)) .nil) (keep:= [0,1,13,14,131,132]) (by kernel_rfl) vc
theorem ap8_vp(H H1 H2 H3 H4:AHeap)(B j p q:Nat)(va vb ov tv x y x2 y2:AVal)(K0:AExit→Facts→AHeap→Prop)(vc:bif Nat.ble B (AHeap.next H) && true then some (AVal.bool (decide ((↑j:Int)<20)))=some (AVal.bool true)∧bif Nat.ble B (AHeap.next H+1) && true then aop env noCall (AHeap.next H+3) (getF [(145,ov),(144,x),(143,AVal.bool true),(0,va),(1,vb),(13,ov),(14,tv),(17,x),(18,y),(142,AVal.int IntKind.i64 (↑j:Int))]) (AHeap.mk (AHeap.next H+6) (H.2)) (Op.buildSlice 22 1 {toList:= [(0,Operand.tmp 145)]})=some (AVal.slice (some ⟨p,0,0,0,1⟩) 1 1,H1)∧abuiltin env Builtin.append {toList:= [22,22]} [x,AVal.slice (some ⟨p,0,0,0,1⟩) 1 1] (AHeap.next H+4) H1=some (x2,H2)∧bif Nat.ble B (AHeap.next H2) && true then aop env noCall (AHeap.next H2+2) (getF [(149,tv),(148,y),(17,x2),(147,x2),(146,AVal.slice (some ⟨p,0,0,0,1⟩) 1 1),(145,ov),(144,x),(143,AVal.bool true),(0,va),(1,vb),(13,ov),(14,tv),(18,y),(142,AVal.int IntKind.i64 (↑j:Int))]) (AHeap.mk (AHeap.next H2+5) (H2.2)) (Op.buildSlice 22 1 {toList:= [(0,Operand.tmp 149)]})=some (AVal.slice (some ⟨q,0,0,0,1⟩) 1 1,H3)∧abuiltin env Builtin.append {toList:= [22,22]} [y,AVal.slice (some ⟨q,0,0,0,1⟩) 1 1] (AHeap.next H2+3) H3=some (y2,H4)∧bif Nat.ble B (AHeap.next H4) && true then(-9223372036854775808≤(↑j:Int)+1∧(↑j:Int)+1≤9223372036854775807)∧K0 AExit.normal [(0,va),(1,vb),(13,ov),(14,tv),(17,x2),(18,y2),(142,AVal.int IntKind.i64 ((↑j:Int)+1))] (AHeap.mk (AHeap.next H4+2) (AHeap.blks H4))else False else False else False else False) :
    ∃ e F1 h1,Runs Tryz.prog cnd B 209 (loopAt Tryz.prog 17 8) [(0,va),(1,vb),(13,ov),(14,tv),(17,x),(18,y),(142,.int .i64 j)] H e F1 h1∧K0 e F1 h1 :=
  tpath_runs env_ok mixed noSpecs_ok (hs:= .hint (.val 47000 (AVal.bool true)) (.hint (.act 48002 (AVal.slice (some ⟨p,0,0,0,1⟩) 1 1) fun x=>H1) (.hint (.act 48003 x2 fun x=>H2) (.hint (.act 49002 (AVal.slice (some ⟨q,0,0,0,1⟩) 1 1) fun x=>H3) (.hint (.act 49003 y2 fun x=>H4) (.hint (.go 50000) .nil)))))) (keep:= [0,1,13,14,17,18,142]) (by kernel_rfl) vc
theorem ap8E_vp(H:AHeap)(B j:Nat)(va vb ov tv x y:AVal)(K0:AExit→Facts→AHeap→Prop)(vc:bif Nat.ble B (AHeap.next H) && true then some (AVal.bool (decide ((↑j:Int)<20)))=some (AVal.bool false)∧K0 (AExit.exit 16) [(0,va),(1,vb),(13,ov),(14,tv),(17,x),(18,y),(142,AVal.int IntKind.i64 (↑j:Int))] (AHeap.mk (AHeap.next H+1) (AHeap.blks H))else False) :
    ∃ e F1 h1,Runs Tryz.prog cnd B 209 (loopAt Tryz.prog 17 8) [(0,va),(1,vb),(13,ov),(14,tv),(17,x),(18,y),(142,.int .i64 j)] H e F1 h1∧K0 e F1 h1 :=
  tpath_runs env_ok mixed noSpecs_ok (hs:= .hint (.val 47000 (AVal.bool false)) .nil) (keep:= [0,1,13,14,17,18,142]) (by kernel_rfl) vc
theorem ap9A_vp(H:AHeap)(B m i na ac:Nat)(ao:Option AAddr)(vb x y ov:AVal)(a b c:AAddr)(K0:AExit→Facts→AHeap→Prop)(vc:bif Nat.ble B (AHeap.next H) && true then some (AVal.bool (decide ((↑i:Int)<(↑m:Int))))=some (AVal.bool true)∧bif Nat.ble B (AHeap.next H+1) && true then bif Nat.ble B (AHeap.next H+3) && true then aindexAddr (AEnv.D env) 22 x (AVal.int IntKind.i64 (↑i:Int))=some (AVal.ptr (some a))∧aload (AEnv.D env) 36 a (AHeap.mk (AHeap.next H+25) (H.2))=some ov∧aindexAddr (AEnv.D env) 36 ov (AVal.int IntKind.i64 (0))=some (AVal.ptr (some b))∧aload (AEnv.D env) 9 b (AHeap.mk (AHeap.next H+25) (H.2))=some (AVal.str [(111:UInt8),(110:UInt8),(101:UInt8)])∧some (AVal.bool (decide ((↑i:Int)<(↑na:Int))))=some (AVal.bool true)∧aindexAddr (AEnv.D env) 22 (AVal.slice ao na ac) (AVal.int IntKind.i64 (↑i:Int))=some (AVal.ptr (some c))∧aload (AEnv.D env) 36 c (AHeap.mk (AHeap.next H+25) (H.2))=some ov∧aindexAddr (AEnv.D env) 36 ov (AVal.int IntKind.i64 (0))=some (AVal.ptr (some b))∧aload (AEnv.D env) 9 b (AHeap.mk (AHeap.next H+25) (H.2))=some (AVal.str [(111:UInt8),(110:UInt8),(101:UInt8)])∧bif Nat.ble B (AHeap.next H+25) && true then(-9223372036854775808≤(↑i:Int)+1∧(↑i:Int)+1≤9223372036854775807)∧K0 AExit.normal [(0,AVal.slice ao na ac),(1,vb),(17,x),(18,y),(154,AVal.int IntKind.i64 (↑m:Int)),(155,AVal.int IntKind.i64 ((↑i:Int)+1))] (AHeap.mk (AHeap.next H+25+2) (AHeap.blks (AHeap.mk (AHeap.next H+3+22) (AHeap.blks (AHeap.mk (AHeap.next H+1+2) (AHeap.blks (AHeap.mk (AHeap.next H+1) (AHeap.blks H))))))))else False else False else False else False) :
    ∃ e F1 h1,Runs Tryz.prog cnd B 209 (loopAt Tryz.prog 17 9) [(0,.slice ao na ac),(1,vb),(17,x),(18,y),(154,.int .i64 m),(155,.int .i64 i)] H e F1 h1∧K0 e F1 h1 :=
  tpath_runs env_ok mixed noSpecs_ok (hs:= .hint (.val 52000 (AVal.bool true)) (.hint (.val 54002 (AVal.ptr (some a))) (.hint (.val 54003 ov) (.hint (.val 54004 (AVal.ptr (some b))) (.hint (.val 54005 (AVal.str [111,110,101])) (.hint (.val 54011 (AVal.bool true)) (.hint (.val 54015 (AVal.ptr (some c))) (.hint (.val 54016 ov) (.hint (.val 54017 (AVal.ptr (some b))) (.hint (.val 54018 (AVal.str [111,110,101])) (.hint (.go 56000) .nil))))))))))) (keep:= [0,1,17,18,154,155]) (by kernel_rfl) vc
theorem ap9B_vp(H:AHeap)(B m i na ac:Nat)(ao:Option AAddr)(vb x y ov:AVal)(a b:AAddr)(K0:AExit→Facts→AHeap→Prop)(vc:bif Nat.ble B (AHeap.next H) && true then some (AVal.bool (decide ((↑i:Int)<(↑m:Int))))=some (AVal.bool true)∧bif Nat.ble B (AHeap.next H+1) && true then bif Nat.ble B (AHeap.next H+3) && true then aindexAddr (AEnv.D env) 22 x (AVal.int IntKind.i64 (↑i:Int))=some (AVal.ptr (some a))∧aload (AEnv.D env) 36 a (AHeap.mk (AHeap.next H+25) (H.2))=some ov∧aindexAddr (AEnv.D env) 36 ov (AVal.int IntKind.i64 (0))=some (AVal.ptr (some b))∧aload (AEnv.D env) 9 b (AHeap.mk (AHeap.next H+25) (H.2))=some (AVal.str [(111:UInt8),(110:UInt8),(101:UInt8)])∧some (AVal.bool (decide ((↑i:Int)<(↑na:Int))))=some (AVal.bool false)∧bif Nat.ble B (AHeap.next H+25) && true then(-9223372036854775808≤(↑i:Int)+1∧(↑i:Int)+1≤9223372036854775807)∧K0 AExit.normal [(0,AVal.slice ao na ac),(1,vb),(17,x),(18,y),(154,AVal.int IntKind.i64 (↑m:Int)),(155,AVal.int IntKind.i64 ((↑i:Int)+1))] (AHeap.mk (AHeap.next H+25+2) (AHeap.blks (AHeap.mk (AHeap.next H+3+22) (AHeap.blks (AHeap.mk (AHeap.next H+1+2) (AHeap.blks (AHeap.mk (AHeap.next H+1) (AHeap.blks H))))))))else False else False else False else False) :
    ∃ e F1 h1,Runs Tryz.prog cnd B 209 (loopAt Tryz.prog 17 9) [(0,.slice ao na ac),(1,vb),(17,x),(18,y),(154,.int .i64 m),(155,.int .i64 i)] H e F1 h1∧K0 e F1 h1 :=
  tpath_runs env_ok mixed noSpecs_ok (hs:= .hint (.val 52000 (AVal.bool true)) (.hint (.val 54002 (AVal.ptr (some a))) (.hint (.val 54003 ov) (.hint (.val 54004 (AVal.ptr (some b))) (.hint (.val 54005 (AVal.str [111,110,101])) (.hint (.val 54011 (AVal.bool false)) (.hint (.go 56000) .nil))))))) (keep:= [0,1,17,18,154,155]) (by kernel_rfl) vc
theorem ap9E_vp(H:AHeap)(B m i:Nat)(va vb x y:AVal)(K0:AExit→Facts→AHeap→Prop)(vc:bif Nat.ble B (AHeap.next H) && true then some (AVal.bool (decide ((↑i:Int)<(↑m:Int))))=some (AVal.bool false)∧K0 (AExit.exit 18) [(0,va),(1,vb),(17,x),(18,y),(154,AVal.int IntKind.i64 (↑m:Int)),(155,AVal.int IntKind.i64 (↑i:Int))] (AHeap.mk (AHeap.next H+1) (AHeap.blks H))else False) :
    ∃ e F1 h1,Runs Tryz.prog cnd B 209 (loopAt Tryz.prog 17 9) [(0,va),(1,vb),(17,x),(18,y),(154,.int .i64 m),(155,.int .i64 i)] H e F1 h1∧K0 e F1 h1 :=
  tpath_runs env_ok mixed noSpecs_ok (hs:= .hint (.val 52000 (AVal.bool false)) .nil) (keep:= [0,1,17,18,154,155]) (by kernel_rfl) vc
theorem ap10A_vp(H:AHeap)(B m i na ac:Nat)(ao:Option AAddr)(y ov:AVal)(a b c:AAddr)(K0:AExit→Facts→AHeap→Prop)(vc:bif Nat.ble B (AHeap.next H) && true then some (AVal.bool (decide ((↑i:Int)<(↑m:Int))))=some (AVal.bool true)∧bif Nat.ble B (AHeap.next H+1) && true then bif Nat.ble B (AHeap.next H+3) && true then aindexAddr (AEnv.D env) 22 y (AVal.int IntKind.i64 (↑i:Int))=some (AVal.ptr (some a))∧aload (AEnv.D env) 36 a (AHeap.mk (AHeap.next H+25) (H.2))=some ov∧aindexAddr (AEnv.D env) 36 ov (AVal.int IntKind.i64 (0))=some (AVal.ptr (some b))∧aload (AEnv.D env) 9 b (AHeap.mk (AHeap.next H+25) (H.2))=some (AVal.str [(116:UInt8),(119:UInt8),(111:UInt8)])∧some (AVal.bool (decide ((↑i:Int)<(↑na:Int))))=some (AVal.bool true)∧aindexAddr (AEnv.D env) 22 (AVal.slice ao na ac) (AVal.int IntKind.i64 (↑i:Int))=some (AVal.ptr (some c))∧aload (AEnv.D env) 36 c (AHeap.mk (AHeap.next H+25) (H.2))=some ov∧aindexAddr (AEnv.D env) 36 ov (AVal.int IntKind.i64 (0))=some (AVal.ptr (some b))∧aload (AEnv.D env) 9 b (AHeap.mk (AHeap.next H+25) (H.2))=some (AVal.str [(116:UInt8),(119:UInt8),(111:UInt8)])∧bif Nat.ble B (AHeap.next H+25) && true then(-9223372036854775808≤(↑i:Int)+1∧(↑i:Int)+1≤9223372036854775807)∧K0 AExit.normal [(1,AVal.slice ao na ac),(18,y),(182,AVal.int IntKind.i64 (↑m:Int)),(183,AVal.int IntKind.i64 ((↑i:Int)+1))] (AHeap.mk (AHeap.next H+25+2) (AHeap.blks (AHeap.mk (AHeap.next H+3+22) (AHeap.blks (AHeap.mk (AHeap.next H+1+2) (AHeap.blks (AHeap.mk (AHeap.next H+1) (AHeap.blks H))))))))else False else False else False else False) :
    ∃ e F1 h1,Runs Tryz.prog cnd B 209 (loopAt Tryz.prog 17 10) [(1,.slice ao na ac),(18,y),(182,.int .i64 m),(183,.int .i64 i)] H e F1 h1∧K0 e F1 h1 :=
  tpath_runs env_ok mixed noSpecs_ok (hs:= .hint (.val 58000 (AVal.bool true)) (.hint (.val 60002 (AVal.ptr (some a))) (.hint (.val 60003 ov) (.hint (.val 60004 (AVal.ptr (some b))) (.hint (.val 60005 (AVal.str [116,119,111])) (.hint (.val 60011 (AVal.bool true)) (.hint (.val 60015 (AVal.ptr (some c))) (.hint (.val 60016 ov) (.hint (.val 60017 (AVal.ptr (some b))) (.hint (.val 60018 (AVal.str [116,119,111])) (.hint (.go 62000) .nil))))))))))) (keep:= [1,18,182,183]) (by kernel_rfl) vc
theorem ap10B_vp(H:AHeap)(B m i na ac:Nat)(ao:Option AAddr)(y ov:AVal)(a b:AAddr)(K0:AExit→Facts→AHeap→Prop)(vc:bif Nat.ble B (AHeap.next H) && true then some (AVal.bool (decide ((↑i:Int)<(↑m:Int))))=some (AVal.bool true)∧bif Nat.ble B (AHeap.next H+1) && true then bif Nat.ble B (AHeap.next H+3) && true then aindexAddr (AEnv.D env) 22 y (AVal.int IntKind.i64 (↑i:Int))=some (AVal.ptr (some a))∧aload (AEnv.D env) 36 a (AHeap.mk (AHeap.next H+25) (H.2))=some ov∧aindexAddr (AEnv.D env) 36 ov (AVal.int IntKind.i64 (0))=some (AVal.ptr (some b))∧aload (AEnv.D env) 9 b (AHeap.mk (AHeap.next H+25) (H.2))=some (AVal.str [(116:UInt8),(119:UInt8),(111:UInt8)])∧some (AVal.bool (decide ((↑i:Int)<(↑na:Int))))=some (AVal.bool false)∧bif Nat.ble B (AHeap.next H+25) && true then(-9223372036854775808≤(↑i:Int)+1∧(↑i:Int)+1≤9223372036854775807)∧K0 AExit.normal [(1,AVal.slice ao na ac),(18,y),(182,AVal.int IntKind.i64 (↑m:Int)),(183,AVal.int IntKind.i64 ((↑i:Int)+1))] (AHeap.mk (AHeap.next H+25+2) (AHeap.blks (AHeap.mk (AHeap.next H+3+22) (AHeap.blks (AHeap.mk (AHeap.next H+1+2) (AHeap.blks (AHeap.mk (AHeap.next H+1) (AHeap.blks H))))))))else False else False else False else False) :
    ∃ e F1 h1,Runs Tryz.prog cnd B 209 (loopAt Tryz.prog 17 10) [(1,.slice ao na ac),(18,y),(182,.int .i64 m),(183,.int .i64 i)] H e F1 h1∧K0 e F1 h1 :=
  tpath_runs env_ok mixed noSpecs_ok (hs:= .hint (.val 58000 (AVal.bool true)) (.hint (.val 60002 (AVal.ptr (some a))) (.hint (.val 60003 ov) (.hint (.val 60004 (AVal.ptr (some b))) (.hint (.val 60005 (AVal.str [116,119,111])) (.hint (.val 60011 (AVal.bool false)) (.hint (.go 62000) .nil))))))) (keep:= [1,18,182,183]) (by kernel_rfl) vc
theorem ap10E_vp(H:AHeap)(B m i:Nat)(vb y:AVal)(K0:AExit→Facts→AHeap→Prop)(vc:bif Nat.ble B (AHeap.next H) && true then some (AVal.bool (decide ((↑i:Int)<(↑m:Int))))=some (AVal.bool false)∧K0 (AExit.exit 20) [(1,vb),(18,y),(182,AVal.int IntKind.i64 (↑m:Int)),(183,AVal.int IntKind.i64 (↑i:Int))] (AHeap.mk (AHeap.next H+1) (AHeap.blks H))else False) :
    ∃ e F1 h1,Runs Tryz.prog cnd B 209 (loopAt Tryz.prog 17 10) [(1,vb),(18,y),(182,.int .i64 m),(183,.int .i64 i)] H e F1 h1∧K0 e F1 h1 :=
  tpath_runs env_ok mixed noSpecs_ok (hs:= .hint (.val 58000 (AVal.bool false)) .nil) (keep:= [1,18,182,183]) (by kernel_rfl) vc
theorem apart_vc(H H1 H2 H3 H4 H5 H6 H7 H8 H9 H10 H11 H12 H13:AHeap)(lo:Option AAddr)(N lc na ac nb bc nx xc ny yc p q:Nat)(ao bo xo yo:Option AAddr)(l1 lg:AVal)(K0:AVal→AHeap→Prop)(vc:bif Nat.ble (AHeap.next H) (AHeap.next H) && true then bif Nat.ble (AHeap.next H) (AHeap.next H+1) && true then bif Nat.ble (AHeap.next H) (AHeap.next H+2) && true then abuiltin env Builtin.append {toList:= [22,22]} [AVal.slice none 0 0,AVal.slice ao na ac] (AHeap.next H+4) (AHeap.mk (AHeap.next H+6) (H.2))=some (l1,H1)∧bif Nat.ble (AHeap.next H) (AHeap.next H1) && true then abuiltin env Builtin.append {toList:= [22,22]} [l1,AVal.slice bo nb bc] (AHeap.next H1+2) (AHeap.mk (AHeap.next H1+4) (H1.2))=some (AVal.slice lo N lc,H2)∧bif Nat.ble (AHeap.next H) (AHeap.next H2) && true then Runs Tryz.prog cnd (AHeap.next H) 209 (Code.loop (loopAt Tryz.prog 17 0)) [(0,AVal.slice ao na ac),(1,AVal.slice bo nb bc),(5,AVal.slice lo N lc),(28,AVal.int IntKind.i64 (↑N:Int)),(29,AVal.int IntKind.i64 (0))] (AHeap.mk (AHeap.next H2+3) (AHeap.blks H2)) (AExit.exit 0) [(0,AVal.slice ao na ac),(1,AVal.slice bo nb bc),(5,AVal.slice lo N lc)] H3∧bif Nat.ble (AHeap.next H) (AHeap.next H3) && true then bif Nat.ble (AHeap.next H) (AHeap.next H3+1) && true then Runs Tryz.prog cnd (AHeap.next H) 209 (Code.loop (loopAt Tryz.prog 17 2)) [(0,AVal.slice ao na ac),(1,AVal.slice bo nb bc),(5,AVal.slice lo N lc),(8,AVal.slice none 0 0),(51,AVal.int IntKind.i64 (↑N:Int)),(52,AVal.int IntKind.i64 (0))] (AHeap.mk (AHeap.next H3+1+3) (AHeap.blks (AHeap.mk (AHeap.next H3+1) (AHeap.blks H3)))) (AExit.exit 4) [(0,AVal.slice ao na ac),(1,AVal.slice bo nb bc),(5,AVal.slice lo N lc),(8,lg)] H4∧bif Nat.ble (AHeap.next H) (AHeap.next H4) && true then Runs Tryz.prog cnd (AHeap.next H) 209 (Code.loop (loopAt Tryz.prog 17 4)) [(0,AVal.slice ao na ac),(1,AVal.slice bo nb bc),(5,AVal.slice lo N lc),(8,lg),(73,AVal.int IntKind.i64 (↑N:Int)),(74,AVal.int IntKind.i64 (0))] (AHeap.mk (AHeap.next H4+3) (AHeap.blks H4)) (AExit.exit 8) [(0,AVal.slice ao na ac),(1,AVal.slice bo nb bc)] H5∧bif Nat.ble (AHeap.next H) (AHeap.next H5) && true then aop env noCall (AHeap.next H5+0) (getF [(0,AVal.slice ao na ac),(1,AVal.slice bo nb bc)]) (AHeap.mk (AHeap.next H5+4) (H5.2)) (Op.buildSlice 36 1 {toList:= [(0,Operand.const (Value.string {data:= {toList:= [(111:UInt8),(110:UInt8),(101:UInt8)]}}))]})=some (AVal.slice (some ⟨p,0,0,0,1⟩) 1 1,H6)∧aop env noCall (AHeap.next H5+1) (getF [(118,AVal.slice (some ⟨p,0,0,0,1⟩) 1 1),(0,AVal.slice ao na ac),(1,AVal.slice bo nb bc)]) H6 (Op.buildSlice 36 1 {toList:= [(0,Operand.const (Value.string {data:= {toList:= [(116:UInt8),(119:UInt8),(111:UInt8)]}}))]})=some (AVal.slice (some ⟨q,0,0,0,1⟩) 1 1,H7)∧bif Nat.ble (AHeap.next H) (AHeap.next H7) && true then Runs Tryz.prog cnd (AHeap.next H) 209 (Code.loop (loopAt Tryz.prog 17 6)) [(0,AVal.slice ao na ac),(1,AVal.slice bo nb bc),(13,AVal.slice (some ⟨p,0,0,0,1⟩) 1 1),(14,AVal.slice (some ⟨q,0,0,0,1⟩) 1 1),(121,AVal.int IntKind.i64 (↑na:Int)),(122,AVal.int IntKind.i64 (0))] (AHeap.mk (AHeap.next H7+3) (AHeap.blks H7)) (AExit.exit 12) [(0,AVal.slice ao na ac),(1,AVal.slice bo nb bc),(13,AVal.slice (some ⟨p,0,0,0,1⟩) 1 1),(14,AVal.slice (some ⟨q,0,0,0,1⟩) 1 1)] H8∧bif Nat.ble (AHeap.next H) (AHeap.next H8) && true then Runs Tryz.prog cnd (AHeap.next H) 209 (Code.loop (loopAt Tryz.prog 17 7)) [(0,AVal.slice ao na ac),(1,AVal.slice bo nb bc),(13,AVal.slice (some ⟨p,0,0,0,1⟩) 1 1),(14,AVal.slice (some ⟨q,0,0,0,1⟩) 1 1),(131,AVal.int IntKind.i64 (↑nb:Int)),(132,AVal.int IntKind.i64 (0))] (AHeap.mk (AHeap.next H8+3) (AHeap.blks H8)) (AExit.exit 14) [(0,AVal.slice ao na ac),(1,AVal.slice bo nb bc),(13,AVal.slice (some ⟨p,0,0,0,1⟩) 1 1),(14,AVal.slice (some ⟨q,0,0,0,1⟩) 1 1)] H9∧bif Nat.ble (AHeap.next H) (AHeap.next H9) && true then bif Nat.ble (AHeap.next H) (AHeap.next H9+4) && true then Runs Tryz.prog cnd (AHeap.next H) 209 (Code.loop (loopAt Tryz.prog 17 8)) [(0,AVal.slice ao na ac),(1,AVal.slice bo nb bc),(13,AVal.slice (some ⟨p,0,0,0,1⟩) 1 1),(14,AVal.slice (some ⟨q,0,0,0,1⟩) 1 1),(17,AVal.slice ao na ac),(18,AVal.slice bo nb bc),(142,AVal.int IntKind.i64 (0))] (AHeap.mk (AHeap.next H9+4+1) (AHeap.blks (AHeap.mk (AHeap.next H9+4) (AHeap.blks H9)))) (AExit.exit 16) [(0,AVal.slice ao na ac),(1,AVal.slice bo nb bc),(17,AVal.slice xo nx xc),(18,AVal.slice yo ny yc)] H10∧bif Nat.ble (AHeap.next H) (AHeap.next H10) && true then Runs Tryz.prog cnd (AHeap.next H) 209 (Code.loop (loopAt Tryz.prog 17 9)) [(0,AVal.slice ao na ac),(1,AVal.slice bo nb bc),(17,AVal.slice xo nx xc),(18,AVal.slice yo ny yc),(154,AVal.int IntKind.i64 (↑nx:Int)),(155,AVal.int IntKind.i64 (0))] (AHeap.mk (AHeap.next H10+3) (AHeap.blks H10)) (AExit.exit 18) [(1,AVal.slice bo nb bc),(18,AVal.slice yo ny yc)] H11∧bif Nat.ble (AHeap.next H) (AHeap.next H11) && true then Runs Tryz.prog cnd (AHeap.next H) 209 (Code.loop (loopAt Tryz.prog 17 10)) [(1,AVal.slice bo nb bc),(18,AVal.slice yo ny yc),(182,AVal.int IntKind.i64 (↑ny:Int)),(183,AVal.int IntKind.i64 (0))] (AHeap.mk (AHeap.next H11+3) (AHeap.blks H11)) (AExit.exit 20) [(1,AVal.slice bo nb bc)] H12∧bif Nat.ble (AHeap.next H) (AHeap.next H12) && true then bif Nat.ble (AHeap.next H) (AHeap.next H12+1)then K0 (AVal.bool true) (AHeap.mk (AHeap.next H12+1) (AHeap.blks H12))else False else False else False else False else False else False else False else False else False else False else False else False else False else False else False else False else False) :
    ∃ v h1,FDoes Tryz.prog cnd 17 [.slice ao na ac,.slice bo nb bc] H v h1∧K0 v h1 :=
  tcall_does env_ok mixed noSpecs_ok (hs:= .hint (.act 2002 l1 fun x=>H1) (.hint (.act 3002 (AVal.slice lo N lc) fun x=>H2) (.hint (.keep [0,1,5,28,29]) (.hint (.loop [(0,AVal.slice ao na ac),(1,AVal.slice bo nb bc),(5,AVal.slice lo N lc)] H3 (AExit.exit 0)) (.hint (.keep [0,1,5,8,51,52]) (.hint (.loop [(0,AVal.slice ao na ac),(1,AVal.slice bo nb bc),(5,AVal.slice lo N lc),(8,lg)] H4 (AExit.exit 4)) (.hint (.keep [0,1,5,8,73,74]) (.hint (.loop [(0,AVal.slice ao na ac),(1,AVal.slice bo nb bc)] H5 (AExit.exit 8)) (.hint (.act 34000 (AVal.slice (some ⟨p,0,0,0,1⟩) 1 1) fun x=>H6) (.hint (.act 34001 (AVal.slice (some ⟨q,0,0,0,1⟩) 1 1) fun x=>H7) (.hint (.keep [0,1,13,14,121,122]) (.hint (.loop [(0,AVal.slice ao na ac),(1,AVal.slice bo nb bc),(13,AVal.slice (some ⟨p,0,0,0,1⟩) 1 1),(14,AVal.slice (some ⟨q,0,0,0,1⟩) 1 1)] H8 (AExit.exit 12)) (.hint (.keep [0,1,13,14,131,132]) (.hint (.loop [(0,AVal.slice ao na ac),(1,AVal.slice bo nb bc),(13,AVal.slice (some ⟨p,0,0,0,1⟩) 1 1),(14,AVal.slice (some ⟨q,0,0,0,1⟩) 1 1)] H9 (AExit.exit 14)) (.hint (.keep [0,1,13,14,17,18,142]) (.hint (.loop [(0,AVal.slice ao na ac),(1,AVal.slice bo nb bc),(17,AVal.slice xo nx xc),(18,AVal.slice yo ny yc)] H10 (AExit.exit 16)) (.hint (.keep [0,1,17,18,154,155]) (.hint (.loop [(1,AVal.slice bo nb bc),(18,AVal.slice yo ny yc)] H11 (AExit.exit 18)) (.hint (.keep [1,18,182,183]) (.hint (.loop [(1,AVal.slice bo nb bc)] H12 (AExit.exit 20)) .nil)))))))))))))))))))) (by kernel_rfl) vc
end Go.Proofs.YtjpfnbihopoeeaaGreatDoor
namespace Go.Proofs.YtjpfnbihopoeeaaGreatDoor
open Go.Lift
set_option maxRecDepth 1000000
theorem factsHead {a:Nat}{v:AVal}{F:Facts} :Facts.le [(a,v)] ((a,v)::F):=by
  intro t u h
  rw [lookF_cons]at h
  split at h
  · rename_i e
    rw [lookF_cons,if_pos e]
    exact h
  · cases h
theorem take_succ_map {α β:Type}(f:α→β)(l:List α)(i:Nat)(h:i<l.length):(l.take (i+1)).map f=(l.take i).map f++ [f l[i]]:=by
  rw [List.take_add_one,List.getElem?_eq_getElem h,List.map_append];rfl
abbrev trF(rv lv:AVal)(n i:Nat):Facts:= [(3,rv),(9,lv),(10,.int .i64 (n:Nat)),(11,.int .i64 (i:Nat))]
theorem tr_loop {B B0 ql c:Nat}{lo:Option AAddr}{ws:List Bys}(hl:ws.length<2^39)(hw: ∀ w∈ws,w.length<2^39)(hq:ql<B0)(hBB:B≤B0): ∀ (k i:Nat) (H:AHeap) (E o:Nat) (v:AVal) (rs:List Rr),i+k=ws.length→Rd H ql (.slice lo ws.length c) (ws.map AVal.str)→Tb H B0 E v o rs→E≤H.next→lsOf rs=(ws.take i).map (partsAt 9) →
    ∃ H' E' o' v' rs',Loops Tryz.prog cnd B 22 (loopAt Tryz.prog 15 0) (trF v (.slice lo ws.length c) ws.length i) H (.exit 0) [(3,v')] H'∧Tb H' B0 E' v' o' rs'∧E'≤H'.next∧lsOf rs'=ws.map (partsAt 9)∧H.next≤H'.next∧ ∀ j,j<B0→H'.get j=H.get j:=by
  intro k
  induction k with
  | zero =>
    intro i H E o v rs hi r1 tb hE hls
    obtain rfl:i=ws.length:=by omega
    have hB:B≤H.next:=by have:=tb.ge o (by simp);omega
    obtain⟨e,F1,h1,hr,rfl,rfl,rfl⟩:=trE_vp H B ws.length c ws.length lo v (fun e F1 h1=>e= .exit 0∧F1=trF v (.slice lo ws.length c) ws.length ws.length∧h1=up H 1) (bifL hB ⟨boolF (by omega),rfl,rfl,rfl⟩)
    exact⟨up H 1,E,o,v,rs,(Loops.last (by simp) hr).post (Ent.facts factsHead),tb.fr (Fr.up H 1 []) (by simp),by show E≤H.next+1;omega,by rw [hls,List.take_length],by show H.next≤H.next+1;omega,fun _ _=>rfl⟩
  | succ k ih =>
    intro i H E o v rs hi r1 tb hE hls
    have hlt:i<ws.length:=by omega
    have ho:=tb.ge o (by simp)
    obtain⟨a,a1,a2,a3⟩:=r1.txt hlt
    obtain⟨H1,d1,w1,f1,n1⟩:=split_rw 9 ws[i] (by have:=hw _ (List.getElem_mem hlt);omega) (up H 10)
    have n1:H1.next=H.next+11:=n1
    have f1':Fr H H1 []:=(Fr.up H 10 []).trans f1 (by simp)
    let H2:AHeap:=H1.set (H.next+7) (ABlk.made [.slice (some ⟨H.next+10,0,0,0,1⟩) (partsAt 9 ws[i]).length (partsAt 9 ws[i]).length] 1 true)
    have f2:Fr H H2 []:=f1'.trans (Fr.set (L:= [H.next+7]) H1 _ _ (by simp)) (by intro x hx;simp at hx;omega)
    have w2:Rw H2 9 (H.next+10) (.slice (some ⟨H.next+10,0,0,0,1⟩) (partsAt 9 ws[i]).length (partsAt 9 ws[i]).length) ((partsAt 9 ws[i]).map AVal.str):=w1.fr (Fr.set (L:= [H.next+7]) H1 _ _ (by simp)) (by simp)
    obtain⟨v2,H3,o2,e3,tb3,f3,c3,n3⟩:=(tb.fr f2 (by simp)).push (r:=⟨H.next+10,.slice (some ⟨H.next+10,0,0,0,1⟩) (partsAt 9 ws[i]).length (partsAt 9 ws[i]).length,partsAt 9 ws[i]⟩) (nid:=H.next+8) (by show E≤H.next+10;omega) w2 (one_elem H1 _ _) (by show H.next+8<H1.next;omega) (by show H.next+10≠H.next+8;omega) (by show H.next+10<H1.next;omega) (by omega) (by have:=congrArg List.length hls;simp at this;omega)
    have n3:H3.next=H.next+11:=n3.trans n1
    obtain⟨e,F1,h1,hr,rfl,rfl,rfl⟩:=trS_vp H H1 H2 H3 B ws.length c i (H.next+7) lo a ws[i] v v2 (.slice (some ⟨H.next+10,0,0,0,1⟩) (partsAt 9 ws[i]).length (partsAt 9 ws[i]).length) (fun e F1 h1=>e= .normal∧F1=trF v2 (.slice lo ws.length c) ws.length (i+1)∧h1=up H3 2)
      (bifL (by omega) ⟨boolT (by omega),bifL (by omega) ⟨a1,a3 _,bifL (by omega) ⟨⟨d1⟩,build1R rfl rfl,e3,bifL (by omega) ⟨⟨by omega,by omega⟩,rfl,by rw [succI],rfl⟩⟩⟩⟩)
    have hfin: ∀ j,j<B0→H3.get j=H.get j:=fun j hj=>by rw [f3.get j (by show j<H1.next;omega) (by simp;rcases c3 with rfl | rfl<;>omega),f2.get j (by omega) (by simp)]
    obtain⟨H',E',o',v',rs',L,t1,t2,t3,t4,t5⟩:=ih (i+1) (up H3 2) _ o2 v2 _ (by omega) ((r1.fr f2 (by simp)).fr (f3.trans (Fr.up H3 2 []) (by simp)) (by simp;rcases c3 with rfl | rfl<;>omega)) (tb3.fr (Fr.up H3 2 []) (by simp)) (by show H3.next≤H3.next+2;omega) (by rw [lsOf,List.map_append,show List.map (·.l) rs=_ from hls,take_succ_map _ _ _ hlt];rfl)
    have t4:H3.next+2≤H'.next:=t4
    exact⟨H',E',o',v',rs',Loops.round hr (Ent.refl _ _ _ _) L,t1,t2,t3,by omega,fun j hj=>(t5 j hj).trans (hfin j hj)⟩
theorem partsAt_lens (c:UInt8) (s:Bys): ∀ w∈partsAt c s,w.length≤s.length:=by
  induction s with
  | nil=>intro w hw;simp [partsAt]at hw;simp [hw]
  | cons b r ih =>
    intro w hw
    unfold partsAt at hw
    split at hw
    · rcases List.mem_cons.1 hw with rfl | hw
      · simp
      · have:=ih w hw;simp;omega
    · cases hp:partsAt c r with
      | nil=>exact absurd hp (partsAt_ne c r)
      | cons x t =>
        rw [hp]at hw ih
        rcases List.mem_cons.1 hw with rfl | hw
        · have:=ih x (by simp);simp;omega
        · have:=ih w (List.mem_cons_of_mem _ hw);simp;omega
theorem partsAt_few(c:UInt8)(s:Bys):(partsAt c s).length≤s.length+1:=by
  rw [partsAt_len]
  have:s.count c≤s.length:=List.count_le_length
  omega
theorem rows_does (s:Bys) (hs:s.length<2^38) (H:AHeap): ∃ v H' B o rs,FDoes Tryz.prog cnd 15 [.str s] H v H'∧Tb H' B H'.next v o rs∧lsOf rs=rowsOf s∧H.next≤B∧H.next≤H'.next∧Fr H H' []∧(rs= []→v= .slice none 0 0):=by
  by_cases h0:s= []
  · subst h0
    obtain⟨v,h1,hd,rfl,rfl⟩:=tr0_vc H (fun v h1=>v= .slice none 0 0∧h1=up H 4) (bifL (Nat.le_refl _) (bifL (by omega) (bifL (by omega) (condL (by omega) ⟨rfl,rfl⟩))))
    exact⟨_,_,H.next,H.next,[],hd,⟨.inl ⟨rfl,rfl⟩,by simp,by simp,fun x hx=>by simp at hx;subst hx;exact⟨Nat.le_refl _,by show H.next<H.next+4;omega⟩⟩,rfl,Nat.le_refl _,by show H.next≤H.next+4;omega,Fr.up _ _ _,fun _=>rfl⟩
  · obtain⟨H1,d1,w1,f1,n1⟩:=split_rw 10 s (by omega) (up H 8)
    have n1:H1.next=H.next+9:=n1
    have f1':Fr H H1 []:=(Fr.up H 8 []).trans f1 (by simp)
    have hf:=partsAt_few 10 s
    obtain⟨H2,E',o,v,rs,L,tb,hE,hls,hn,ho⟩:=tr_loop (B:=H.next) (B0:=H.next+9) (ql:=H.next+8) (c:=(partsAt 10 s).length) (lo:=some ⟨H.next+8,0,0,0,1⟩) (ws:=partsAt 10 s) (by omega) (fun w hw=>by have:=partsAt_lens 10 s w hw;omega) (by omega) (by omega) (partsAt 10 s).length 0 (up H1 1) (H.next+10) (H.next+9) (.slice none 0 0) [] (by omega) (w1.rd.fr (Fr.up H1 1 []) (by simp)) ⟨.inl ⟨rfl,rfl⟩,by simp,by simp,fun x hx=>by simp at hx;subst hx;omega⟩ (by show H.next+10≤H1.next+1;omega) rfl
    have hn:H1.next+1≤H2.next:=hn
    have d2:=bump (n:=H1.next+1) d1 (by omega)
    obtain⟨v',h1,hd,rfl,rfl⟩:=tr_vc H (up H1 1) H2 s (partsAt 10 s).length (partsAt 10 s).length (some ⟨H.next+8,0,0,0,1⟩) v (fun v' h1=>v'=v∧h1=up H2 2)
      (bifL (Nat.le_refl _) (bifL (by omega) ⟨by
        have:(s == Array.toList #[])=false:=by simpa using h0
        rw [this],bifL (by omega) (bifL (by omega) ⟨⟨d2⟩,Runs.of_loops L,bifL (by omega) (condL (by omega) ⟨rfl,rfl⟩)⟩)⟩))
    refine⟨_,_,H.next+9,o,rs,hd,?_,by rw [hls,rowsOf,if_neg h0],by omega,by show H.next≤H2.next+2;omega,⟨by show H.next≤H2.next+2;omega,fun x hx _=> ?_⟩,fun h=> ?_⟩
    · have:=tb.fr (Fr.up H2 2 []) (by simp)
      exact⟨this.out,this.inn,this.nd,fun x hx=>⟨(this.ge x hx).1,by have:=(this.ge x hx).2;show x<H2.next+2;omega⟩⟩
    · show H2.get x=H.get x
      rw [ho x (by omega)]
      exact f1'.get x hx (by simp)
    · subst h
      have:=congrArg List.length hls
      simp at this
      exact absurd (List.length_eq_zero_iff.1 this.symm) (partsAt_ne 10 s)
abbrev drF(rv lv:AVal)(i:Nat):Facts:= [(3,rv),(4,lv),(5,.int .i64 (i:Nat))]
theorem dr_loop {B B0 ql c:Nat}{lo:Option AAddr}{ws:List Bys}(hl:ws.length<2^39)(hw: ∀ w∈ws,w.length<2^39)(hq:ql<B0)(hBB:B≤B0): ∀ (k i:Nat) (H:AHeap) (E o:Nat) (v:AVal) (rs:List Rr),i+k=ws.length→Rd H ql (.slice lo ws.length c) (ws.map AVal.str)→Tb H B0 E v o rs→E≤H.next→lsOf rs=(ws.take i).map (partsAt 9) →
    ∃ H' E' o' v' rs',Loops Tryz.prog cnd B 26 (loopAt Tryz.prog 14 0) (drF v (.slice lo ws.length c) i) H (.exit 0) [(3,v')] H'∧Tb H' B0 E' v' o' rs'∧E'≤H'.next∧lsOf rs'=ws.map (partsAt 9)∧H.next≤H'.next∧ ∀ j,j<B0→H'.get j=H.get j:=by
  intro k
  induction k with
  | zero =>
    intro i H E o v rs hi r1 tb hE hls
    obtain rfl:i=ws.length:=by omega
    have hB:B≤H.next:=by have:=tb.ge o (by simp);omega
    obtain⟨e,F1,h1,hr,rfl,rfl,rfl⟩:=drE_vp H B ws.length c ws.length lo v (fun e F1 h1=>e= .exit 0∧F1=drF v (.slice lo ws.length c) ws.length∧h1=up H 4) (bifL hB ⟨boolF (by omega),rfl,rfl,rfl⟩)
    exact⟨up H 4,E,o,v,rs,(Loops.last (by simp) hr).post (Ent.facts factsHead),tb.fr (Fr.up H 4 []) (by simp),by show E≤H.next+4;omega,by rw [hls,List.take_length],by show H.next≤H.next+4;omega,fun _ _=>rfl⟩
  | succ k ih =>
    intro i H E o v rs hi r1 tb hE hls
    have hlt:i<ws.length:=by omega
    have ho:=tb.ge o (by simp)
    obtain⟨a,a1,a2,a3⟩:=r1.txt hlt
    obtain⟨x,H1,d1,t1,n1,g1⟩:=parts_does 9 ws[i] (by have:=hw _ (List.getElem_mem hlt);omega) (up H 13)
    have n1:H.next+13≤H1.next:=n1
    obtain⟨q,w1,q1,q2⟩:=t1.rw' (partsAt_ne _ _)
    have q1:H.next+13≤q:=q1
    have f1':Fr H H1 []:=⟨by omega,fun j hj _=>g1 j (by show j<H.next+13;omega)⟩
    have hx:=w1.rd.sv
    let H2:AHeap:=H1.set (H.next+10) (ABlk.made [x] 1 true)
    have f2:Fr H H2 []:=f1'.trans (Fr.set (L:= [H.next+10]) H1 _ _ (by simp)) (by intro x hx;simp at hx;omega)
    have w2:=w1.fr (Fr.set (L:= [H.next+10]) H1 (H.next+10) (ABlk.made [x] 1 true) (by simp)) (by simp;omega)
    obtain⟨v2,H3,o2,e3,tb3,f3,c3,n3⟩:=(tb.fr f2 (by simp)).push (r:=⟨q,x,partsAt 9 ws[i]⟩) (nid:=H.next+11) (by show E≤q;omega) w2 (one_elem H1 _ _) (by show H.next+11<H1.next;omega) (by show q≠H.next+11;omega) q2 (by omega) (by have:=congrArg List.length hls;simp at this;omega)
    have n3:H3.next=H1.next:=n3
    obtain⟨e,F1,h1,hr,rfl,rfl,rfl⟩:=dr_vp H H1 H2 H3 B ws.length c i (H.next+10) lo a ws[i] v v2 x (fun e F1 h1=>e= .normal∧F1=drF v2 (.slice lo ws.length c) (i+1)∧h1=up H3 3)
      (bifL (by omega) ⟨boolT (by omega),bifL (by omega) ⟨a1,a3 _,⟨d1⟩,build1R rfl hx,e3,bifL (by omega) ⟨⟨by omega,by omega⟩,rfl,by rw [succI],rfl⟩⟩⟩)
    have hfin: ∀ j,j<B0→H3.get j=H.get j:=fun j hj=>by rw [f3.get j (by show j<H1.next;omega) (by simp;rcases c3 with rfl | rfl<;>omega),f2.get j (by omega) (by simp)]
    obtain⟨H',E',o',v',rs',L,t1,t2,t3,t4,t5⟩:=ih (i+1) (up H3 3) _ o2 v2 _ (by omega) ((r1.fr f2 (by simp)).fr (f3.trans (Fr.up H3 3 []) (by simp)) (by simp;rcases c3 with rfl | rfl<;>omega)) (tb3.fr (Fr.up H3 3 []) (by simp)) (by show H3.next≤H3.next+3;omega) (by rw [lsOf,List.map_append,show List.map (·.l) rs=_ from hls,take_succ_map _ _ _ hlt];rfl)
    have t4:H3.next+3≤H'.next:=t4
    exact⟨H',E',o',v',rs',Loops.round hr (Ent.refl _ _ _ _) L,t1,t2,t3,by omega,fun j hj=>(t5 j hj).trans (hfin j hj)⟩
theorem drows_does (s:Bys) (hs:s.length<2^38) (H:AHeap): ∃ v H' B o rs,FDoes Tryz.prog cnd 14 [.str s] H v H'∧Tb H' B H'.next v o rs∧lsOf rs=rowsOf s∧H.next≤B∧H.next≤H'.next∧Fr H H' []:=by
  by_cases h0:s= []
  · subst h0
    obtain⟨v,h1,hd,rfl,rfl⟩:=dr0_vc H (fun v h1=>v= .slice none 0 0∧h1=up H 6) (bifL (Nat.le_refl _) (bifL (by omega) (bifL (by omega) (bifL (by omega) (condL (by omega) ⟨rfl,rfl⟩)))))
    exact⟨_,_,H.next,H.next,[],hd,⟨.inl ⟨rfl,rfl⟩,by simp,by simp,fun x hx=>by simp at hx;subst hx;exact⟨Nat.le_refl _,by show H.next<H.next+6;omega⟩⟩,rfl,Nat.le_refl _,by show H.next≤H.next+6;omega,Fr.up _ _ _⟩
  · obtain⟨lv,H1,d1,t1,n1,g1⟩:=parts_does 10 s (by omega) (up H 7)
    have n1:H.next+7≤H1.next:=n1
    obtain⟨q,w1,q1,q2⟩:=t1.rw' (partsAt_ne _ _)
    obtain⟨lo,c,rfl⟩:=w1.rd.sl
    rw [List.length_map]at w1
    have hf:=partsAt_few 10 s
    obtain⟨H2,E',o,v,rs,L,tb,hE,hls,hn,ho⟩:=dr_loop (B:=H.next) (B0:=H1.next) (ql:=q) (c:=c) (lo:=lo) (ws:=partsAt 10 s) (by omega) (fun w hw=>by have:=partsAt_lens 10 s w hw;omega) (by omega) (by omega) (partsAt 10 s).length 0 (up H1 1) (H1.next+1) H1.next (.slice none 0 0) [] (by omega) (w1.rd.fr (Fr.up H1 1 []) (by simp)) ⟨.inl ⟨rfl,rfl⟩,by simp,by simp,fun x hx=>by simp at hx;subst hx;omega⟩ (by show H1.next+1≤H1.next+1;omega) rfl
    have hn:H1.next+1≤H2.next:=hn
    rw [List.length_map]at d1
    obtain⟨v',h1,hd,rfl,rfl⟩:=dr_vc H H1 H2 s (partsAt 10 s).length c lo v (fun v' h1=>v'=v∧h1=up H2 2)
      (bifL (Nat.le_refl _) (bifL (by omega) (bifL (by omega) ⟨by
        have:(s == Array.toList #[])=false:=by simpa using h0
        rw [this],bifL (by omega) ⟨⟨d1⟩,bifL (by omega) ⟨Runs.of_loops L,bifL (by omega) (condL (by omega) ⟨rfl,rfl⟩)⟩⟩⟩)))
    refine⟨_,_,H1.next,o,rs,hd,?_,by rw [hls,rowsOf,if_neg h0],by omega,by show H.next≤H2.next+2;omega,⟨by show H.next≤H2.next+2;omega,fun x hx _=> ?_⟩⟩
    · have:=tb.fr (Fr.up H2 2 []) (by simp)
      exact⟨this.out,this.inn,this.nd,fun x hx=>⟨(this.ge x hx).1,by have:=(this.ge x hx).2;show x<H2.next+2;omega⟩⟩
    · show H2.get x=H.get x
      rw [ho x (by omega)]
      exact g1 x (by show x<H.next+7;omega)
end Go.Proofs.YtjpfnbihopoeeaaGreatDoor
namespace Go.Proofs.YtjpfnbihopoeeaaGreatDoor
open Go.Lift
set_option maxRecDepth 1000000
theorem aop_storeG {t:TypeId}{F:Facts}{H H1:AHeap}{a:AAddr}{v:AVal}{nid:Nat}{x y:Operand}(hf:getF F x= .ptr (some a))(hv:getF F y=v)(hs:astore (AEnv.D env) t a v H=some H1):aop env noCall nid (getF F) H (Op.store t x y)=some (.tuple [],H1):=by
  simp only [aop,hf,hv,hs,Option.map_some]
theorem fle {F G:Facts}(l:List Nat)(h:onlyF F l=G):Facts.le G F:=h▸Facts.only_le F l
noncomputable abbrev apC(k:Nat):Code:=loopAt Tryz.prog 17 k
theorem rep_set {x y:AVal}{rest:List AVal}{k:Nat} :(List.replicate k x++y::rest).set k x=List.replicate (k+1) x++rest:=by
  rw [List.set_append_right _ _ (by simp),List.length_replicate,Nat.sub_self,List.set_cons_zero,List.replicate_succ',List.append_assoc]
  rfl
theorem rep_get {x y:AVal}{rest:List AVal}{k:Nat}(h:k<(List.replicate k x++y::rest).length):(List.replicate k x++y::rest)[k]=y:=by
  rw [List.getElem_append_right (by simp)]
  simp
theorem ap1_loop {B N i n oal:Nat}{va vb al:AVal}{rs:List Rr}(hi:i<rs.length)(hn:n<2^40)(hi2:i<2^40)(hoq:oal≠rs[i].q): ∀ (rest:List AVal) (k:Nat) (H:AHeap),k+rest.length=n→B≤H.next→Rd H oal al (vsOf rs)→Rw H 9 rs[i].q rs[i].v (List.replicate k (.str (markS i))++rest)→(∀ x∈rest,Sv x)→(rest= []→Wr H rs[i].q rs[i].v) →
    ∃ H',Loops Tryz.prog cnd B 209 (apC 1) [(0,va),(1,vb),(5,al),(6,.int .i64 (i:Nat)),(28,.int .i64 (N:Nat)),(29,.int .i64 (i:Nat)),(36,.int .i64 (n:Nat)),(37,.int .i64 (k:Nat))] H (.exit 2) [(0,va),(1,vb),(5,al),(28,.int .i64 (N:Nat)),(29,.int .i64 (i:Nat))] H' ∧
      Rw H' 9 rs[i].q rs[i].v (List.replicate n (.str (markS i)))∧Wr H' rs[i].q rs[i].v∧Fr H H' [rs[i].q]:=by
  intro rest
  induction rest with
  | nil =>
    intro k H hk hB r1 w1 hs hw
    obtain rfl:k=n:=by simpa using hk
    obtain⟨e,F1,h1,hr,rfl,rfl,rfl⟩:=ap1E_vp H B N i k k va vb al (fun e F1 h1=>e= .exit 2∧F1= [(0,va),(1,vb),(5,al),(6,.int .i64 (i:Nat)),(28,.int .i64 (N:Nat)),(29,.int .i64 (i:Nat)),(36,.int .i64 (k:Nat)),(37,.int .i64 (k:Nat))]∧h1=up H 1) (bifL hB ⟨boolF (by omega),rfl,rfl,rfl⟩)
    have f:=Fr.up H 1 []
    exact⟨_,(Loops.last (by simp) hr).post (Ent.facts (fle [0,1,5,28,29] (by kernel_rfl))),by rw [List.append_nil]at w1;exact w1.fr f (by simp),(hw rfl).fr f (by simp),Fr.up H 1 _⟩
  | cons y rest ih =>
    intro k H hk hB r1 w1 hs hw
    simp only [List.length_cons]at hk
    obtain⟨a,a1,a2,a3⟩:=r1.at elR (i:=i) (by simpa using hi) (by rw [List.getElem_map];exact w1.rd.sv)
    rw [List.getElem_map]at a3
    obtain⟨b,H1,b1,b2,w2,wr2,f2,n2⟩:=w1.st elS (i:=k) (x:= .str (markS i)) (by simp) (by rw [rep_get];exact hs y (by simp)) rfl 12
    rw [rep_set]at w2
    obtain⟨e,F1,h1,hr,rfl,rfl,rfl⟩:=ap1_vp H H1 B N i n k va vb al rs[i].v a b (markS i) (fun e F1 h1=>e= .normal∧F1= [(0,va),(1,vb),(5,al),(6,.int .i64 (i:Nat)),(28,.int .i64 (N:Nat)),(29,.int .i64 (i:Nat)),(36,.int .i64 (n:Nat)),(37,.int .i64 ((k+1:Nat):Int))]∧h1=up H1 2)
      (bifL hB ⟨boolT (by omega),bifL (by omega) (bifL (by omega) ⟨a1,a3 _,by omega,⟨mark_does i _⟩,sameOld_refl _ _,b1,aop_storeG rfl rfl b2,bifL (by omega) ⟨⟨by omega,by omega⟩,rfl,by rw [succI],rfl⟩⟩)⟩)
    have f3:=Fr.up H1 2 []
    have f23:Fr H (up H1 2) [rs[i].q]:=f2.trans f3 (by simp)
    obtain⟨H',L,w',wr',f'⟩:=ih (k+1) (up H1 2) (by omega) (by show B≤H1.next+2;omega) (r1.fr f23 (by simpa using hoq)) (w2.fr f3 (by simp)) (fun x hx=>hs x (by simp [hx])) (fun _=>wr2.fr f3 (by simp))
    exact⟨H',Loops.round hr (Ent.refl _ _ _ _) L,w',wr',f23.trans f' (fun x hx _=>hx)⟩
theorem ap0_loop {B N oal:Nat} {va vb al:AVal} {rs:List Rr} (hN:N=rs.length) (hN2:N<2^40) (hl: ∀ r∈rs,r.l.length<2^40) (hoq:oal ∉ qsOf rs) (hd: ∀ i j (hi:i<rs.length) (hj:j<rs.length),i≠j→rs[i].q≠rs[j].q): ∀ (f i:Nat) (H:AHeap),i+f=N→B≤H.next→Rd H oal al (vsOf rs) →
    (∀ j (hj:j<rs.length),j<i→Rw H 9 rs[j].q rs[j].v (List.replicate rs[j].l.length (.str (markS j)))∧Wr H rs[j].q rs[j].v) →
    (∀ j (hj:j<rs.length),i≤j→Rw H 9 rs[j].q rs[j].v (rs[j].l.map AVal.str)∧(rs[j].l= []→Wr H rs[j].q rs[j].v)) →
    ∃ H',Loops Tryz.prog cnd B 209 (apC 0) [(0,va),(1,vb),(5,al),(28,.int .i64 (N:Nat)),(29,.int .i64 (i:Nat))] H (.exit 0) [(0,va),(1,vb),(5,al)] H' ∧
      (∀ j (hj:j<rs.length),Rw H' 9 rs[j].q rs[j].v (List.replicate rs[j].l.length (.str (markS j)))∧Wr H' rs[j].q rs[j].v)∧Fr H H' (qsOf rs):=by
  intro f
  induction f with
  | zero =>
    intro i H hi hB r1 done todo
    obtain rfl:i=N:=by omega
    obtain⟨e,F1,h1,hr,rfl,rfl,rfl⟩:=ap0E_vp H B i i va vb al (fun e F1 h1=>e= .exit 0∧F1= [(0,va),(1,vb),(5,al),(28,.int .i64 (i:Nat)),(29,.int .i64 (i:Nat))]∧h1=up H 1) (bifL hB ⟨boolF (by omega),rfl,rfl,rfl⟩)
    have f:=Fr.up H 1 []
    exact⟨_,(Loops.last (by simp) hr).post (Ent.facts (fle [0,1,5] (by kernel_rfl))),fun j hj=>⟨(done j hj (by omega)).1.fr f (by simp),(done j hj (by omega)).2.fr f (by simp)⟩,Fr.up H 1 _⟩
  | succ f ih =>
    intro i H hi hB r1 done todo
    have hlt:i<rs.length:=by omega
    obtain⟨w1,wr1⟩:=todo i hlt (Nat.le_refl _)
    obtain⟨a,a1,a2,a3⟩:=r1.at elR (i:=i) (by simpa using hlt) (by rw [List.getElem_map];exact w1.rd.sv)
    rw [List.getElem_map]at a3
    have hq:oal≠rs[i].q:=fun e=>hoq (e▸List.mem_map.2 ⟨_,List.getElem_mem hlt,rfl⟩)
    have f0:=Fr.up H 9 []
    obtain⟨H1,L1,w2,wr2,f1⟩:=ap1_loop (B:=B) (N:=N) (n:=rs[i].l.length) (va:=va) (vb:=vb) hlt (hl _ (List.getElem_mem hlt)) (by omega) hq (rs[i].l.map AVal.str) 0 (up H 9) (by simp) (by show B≤H.next+9;omega) (r1.fr f0 (by simp)) (w1.fr f0 (by simp)) (fun x hx=>by obtain⟨w,_,rfl⟩:=List.mem_map.1 hx;rfl) (fun h=>(wr1 (by simpa using h)).fr f0 (by simp))
    have n1:=f1.next
    have n1:H.next+9≤H1.next:=n1
    obtain⟨ro,rc,rv⟩:=w1.rd.sl
    rw [List.length_map]at rv
    obtain⟨e,F1,h1,hr,rfl,rfl,rfl⟩:=ap0_vp H H1 B N i rs[i].l.length rc ro va vb al a (fun e F1 h1=>e= .normal∧F1= [(0,va),(1,vb),(5,al),(28,.int .i64 (N:Nat)),(29,.int .i64 ((i+1:Nat):Int))]∧h1=up H1 2)
      (bifL hB ⟨boolT (by omega),bifL (by omega) (bifL (by omega) ⟨a1,by rw [← rv];exact a3 _,Runs.of_loops L1,bifL (by omega) ⟨⟨by omega,by omega⟩,rfl,by rw [succI],rfl⟩⟩)⟩)
    have f2:=Fr.up H1 2 []
    have f01:Fr H (up H1 2) [rs[i].q]:=((f0.sub (M:= [rs[i].q]) (by simp)).trans f1 (fun x hx _=>hx)).trans f2 (by simp)
    obtain⟨H',L,dn,f'⟩:=ih (i+1) (up H1 2) (by omega) (by show B≤H1.next+2;omega) (r1.fr f01 (by simpa using hq)) (fun j hj hji=>by
        by_cases e:j=i
        · subst e;exact⟨w2.fr f2 (by simp),wr2.fr f2 (by simp)⟩
        · obtain⟨x1,x2⟩:=done j hj (by omega)
          have hne:rs[j].q ∉ [rs[i].q]:=by simpa using hd j i hj hlt e
          exact⟨x1.fr f01 hne,x2.fr f01 hne⟩) (fun j hj hij=>by
        obtain⟨x1,x2⟩:=todo j hj (by omega)
        have hne:rs[j].q ∉ [rs[i].q]:=by simpa using hd j i hj hlt (by omega)
        exact⟨x1.fr f01 hne,fun h=>(x2 h).fr f01 hne⟩)
    refine⟨H',Loops.round hr (Ent.refl _ _ _ _) L,dn,(f01.sub fun x hx _=> ?_).trans f' (fun x hx _=>hx)⟩
    simp only [List.mem_singleton]at hx
    subst hx
    exact List.mem_map.2 ⟨_,List.getElem_mem hlt,rfl⟩
abbrev g3F(va vb al lg g:AVal)(N i j:Nat):Facts:= [(0,va),(1,vb),(5,al),(8,lg),(9,.int .i64 (i:Nat)),(10,g),(51,.int .i64 (N:Nat)),(52,.int .i64 (i:Nat)),(59,.int .i64 (j:Nat))]
theorem ap3_loop {B N i q:Nat}{va vb al lg v:AVal}{old:List AVal}(ho:old.length<2^40): ∀ (f j q2:Nat) (H:AHeap) (g:AVal),j+f=20→B≤H.next→q<H.next→q2<H.next→Gw H 9 q v old (.str (markS i)) j q2 g →
    ∃ H' g' q3,Loops Tryz.prog cnd B 209 (apC 3) (g3F va vb al lg g N i j) H (.exit 6) [(0,va),(1,vb),(5,al),(8,lg),(10,g'),(51,.int .i64 (N:Nat)),(52,.int .i64 (i:Nat))] H'∧Gw H' 9 q v old (.str (markS i)) 20 q3 g'∧(q3=q2∨H.next≤q3)∧q3<H'.next∧Fr H H' [q2]:=by
  intro f
  induction f with
  | zero =>
    intro j q2 H g hj hB hq hq2 w
    obtain rfl:j=20:=by omega
    obtain⟨e,F1,h1,hr,rfl,rfl,rfl⟩:=ap3E_vp H B N i 20 va vb al lg g (fun e F1 h1=>e= .exit 6∧F1=g3F va vb al lg g N i 20∧h1=up H 1) (bifL hB ⟨boolF (by omega),rfl,rfl,rfl⟩)
    exact⟨up H 1,g,q2,(Loops.last (by simp) hr).post (Ent.facts (fle [0,1,5,8,10,51,52] (by kernel_rfl))),w.fr (Fr.up H 1 []) (by simp) (by simp),.inl rfl,by show q2<H.next+1;omega,Fr.up H 1 _⟩
  | succ f ih =>
    intro j q2 H g hj hB hq hq2 w
    let H1:AHeap:=(up H 7).set (H.next+4) (ABlk.made [.str (markS i)] 1 true)
    have f1:Fr H H1 []:=(Fr.up H 7 []).trans (Fr.set (L:= [H.next+4]) (up H 7) _ _ (by simp)) (by intro x hx;simp at hx;omega)
    obtain⟨g2,H2,q3,e2,w2,c2,f2,n2⟩:=(w.fr f1 (by simp) (by simp)).app elS (by decide) (nid:=H.next+5) (w:= .slice (some ⟨H.next+4,0,0,0,1⟩) 1 1) (one_elem (up H 7) _ _) (by show H.next+5<H.next+7;omega) (by omega) (by omega)
    have n2:H2.next=H.next+7:=n2
    obtain⟨e,F1,h1,hr,rfl,rfl,rfl⟩:=ap3_vp H H1 H2 B N i j (H.next+4) va vb al lg g g2 (markS i) (fun e F1 h1=>e= .normal∧F1=g3F va vb al lg g2 N i (j+1)∧h1=up H2 2)
      (bifL hB ⟨boolT (by omega),bifL (by omega) ⟨⟨mark_does i _⟩,build1S rfl rfl,e2,bifL (by omega) ⟨⟨by omega,by omega⟩,rfl,by rw [succI],rfl⟩⟩⟩)
    have f3:=Fr.up H2 2 []
    have f12:Fr H (up H2 2) [q2]:=((f1.sub (M:= [q2]) (by simp)).trans f2 (fun x hx hx2=>by
      simp only [List.mem_singleton]at hx ⊢
      rcases c2 with c2 | c2<;>omega)).trans f3 (by simp)
    obtain⟨H',g',q4,L,w',c',l',f'⟩:=ih (j+1) q3 (up H2 2) g2 (by omega) (by show B≤H2.next+2;omega) (by show q<H2.next+2;omega) (by show q3<H2.next+2;rcases c2 with rfl | rfl<;>omega) (w2.fr f3 (by simp) (by simp))
    have c':q4=q3∨H2.next+2≤q4:=c'
    exact⟨H',g',q4,Loops.round hr (Ent.refl _ _ _ _) L,w',by rcases c2 with rfl | rfl<;>rcases c' with rfl | c'<;>omega,l',f12.trans f' (fun x hx hx2=>by
      simp only [List.mem_singleton]at hx ⊢
      rcases c2 with c2 | c2<;>omega)⟩
end Go.Proofs.YtjpfnbihopoeeaaGreatDoor
namespace Go.Proofs.YtjpfnbihopoeeaaGreatDoor
open Go.Lift
set_option maxRecDepth 1000000
def Gs(H:AHeap)(rs:List Rr)(gs:List (Nat×AVal)):Prop:= ∀ j (hj:j<rs.length) (hg:j<gs.length),Gw H 9 rs[j].q rs[j].v (List.replicate rs[j].l.length (.str (markS j))) (.str (markS j)) 20 gs[j].1 gs[j].2
abbrev a2F(va vb al lg:AVal)(N i:Nat):Facts:= [(0,va),(1,vb),(5,al),(8,lg),(51,.int .i64 (N:Nat)),(52,.int .i64 (i:Nat))]
theorem ap2_loop {B N E0 oal:Nat} {va vb al:AVal} {rs:List Rr} (hN:N=rs.length) (hN2:N<2^39) (hl: ∀ r∈rs,r.l.length<2^39) (hoq:oal ∉ qsOf rs) (ho:oal<E0) (hq: ∀ r∈rs,r.q<E0) (hd: ∀ i j (hi:i<rs.length) (hj:j<rs.length),i≠j→rs[i].q≠rs[j].q): ∀ (f i olg:Nat) (H:AHeap) (lg:AVal) (gs:List (Nat×AVal)),i+f=N→B≤H.next→E0≤H.next→Rd H oal al (vsOf rs) →
    gs.length=i→Gs H rs gs→(∀ x∈gs,Sv x.2)→Rw H 36 olg lg (gs.map (·.2))→(gs= []→lg= .slice none 0 0)→(gs≠ []→E0≤olg∧olg<H.next)→(∀ j (hj:j<rs.length) (hg:j<gs.length),(gs[j].1=rs[j].q∨E0≤gs[j].1)∧gs[j].1≠olg∧gs[j].1<H.next) →
    (∀ j (hj:j<rs.length),i≤j→Rw H 9 rs[j].q rs[j].v (List.replicate rs[j].l.length (.str (markS j)))∧Wr H rs[j].q rs[j].v) →
    ∃ H' lg' olg' gs',Loops Tryz.prog cnd B 209 (apC 2) (a2F va vb al lg N i) H (.exit 4) [(0,va),(1,vb),(5,al),(8,lg')] H'∧gs'.length=N∧Gs H' rs gs'∧(∀ x∈gs',Sv x.2)∧Rw H' 36 olg' lg' (gs'.map (·.2))∧H.next≤H'.next∧ ∀ x,x<E0→x ∉ qsOf rs→H'.get x=H.get x:=by
  intro f
  induction f with
  | zero =>
    intro i olg H lg gs hi hB hE r1 gl g1 sv w1 w0 we gq todo
    obtain rfl:i=N:=by omega
    obtain⟨e,F1,h1,hr,rfl,rfl,rfl⟩:=ap2E_vp H B i i va vb al lg (fun e F1 h1=>e= .exit 4∧F1=a2F va vb al lg i i∧h1=up H 1) (bifL hB ⟨boolF (by omega),rfl,rfl,rfl⟩)
    have f:=Fr.up H 1 []
    exact⟨up H 1,lg,olg,gs,(Loops.last (by simp) hr).post (Ent.facts (fle [0,1,5,8] (by kernel_rfl))),gl,fun j hj hg=>(g1 j hj hg).fr f (by simp) (by simp),sv,w1.fr f (by simp),f.next,fun x hx _=>rfl⟩
  | succ f ih =>
    intro i olg H lg gs hi hB hE r1 gl g1 sv w1 w0 we gq todo
    have hlt:i<rs.length:=by omega
    obtain⟨wi,wri⟩:=todo i hlt (Nat.le_refl _)
    obtain⟨a,a1,a2,a3⟩:=r1.at elR (i:=i) (by simpa using hlt) (by rw [List.getElem_map];exact wi.rd.sv)
    rw [List.getElem_map]at a3
    have hqi:=hq _ (List.getElem_mem hlt)
    have hqm:rs[i].q∈qsOf rs:=List.mem_map.2 ⟨_,List.getElem_mem hlt,rfl⟩
    have f0:=Fr.up H 9 []
    obtain⟨H1,g',q3,L1,w2,c2,l2,f1⟩:=ap3_loop (B:=B) (N:=N) (i:=i) (q:=rs[i].q) (va:=va) (vb:=vb) (al:=al) (lg:=lg) (v:=rs[i].v) (old:=List.replicate rs[i].l.length (.str (markS i))) (by have:=hl _ (List.getElem_mem hlt);simp;omega) 20 0 rs[i].q (up H 9) rs[i].v (by omega) (by show B≤H.next+9;omega) (by show rs[i].q<H.next+9;omega) (by show rs[i].q<H.next+9;omega) ((show Gw H 9 rs[i].q rs[i].v _ (.str (markS i)) 0 rs[i].q rs[i].v from .inl ⟨rfl,rfl,rfl,wi,wri⟩).fr f0 (by simp) (by simp))
    have c2:q3=rs[i].q∨H.next+9≤q3:=c2
    have n1:H.next+9≤H1.next:=f1.next
    have svg:=w2.rd.2.sv
    let H2:AHeap:=(up H1 5).set (H1.next+2) (ABlk.made [g'] 1 true)
    have f2:Fr H1 H2 []:=(Fr.up H1 5 []).trans (Fr.set (L:= [H1.next+2]) (up H1 5) _ _ (by simp)) (by intro x hx;simp at hx;omega)
    have f02:Fr H H2 [rs[i].q]:=((f0.sub (M:= [rs[i].q]) (by simp)).trans f1 (fun x hx _=>hx)).trans f2 (by simp)
    have holg:olg ∉ [rs[i].q]∨gs= []:=by
      by_cases h:gs= []
      · exact .inr h
      · have:=we h;left;simp;omega
    have w3:Rw H2 36 olg lg (gs.map (·.2)):=by
      rcases holg with h | h
      · exact w1.fr f02 h
      · subst h;rw [w0 rfl];exact .inl ⟨rfl,rfl⟩
    obtain⟨lg2,H3,o2,e3,w4,c4,c5,f3,n3,l3⟩:=w3.app elR (by decide) (nid:=H1.next+3) (w:= .slice (some ⟨H1.next+2,0,0,0,1⟩) 1 1) (one_elem (up H1 5) _ _) (by show H1.next+3<H1.next+5;omega) (by simp;omega)
    have n3:H3.next=H1.next+5:=n3
    have ho2:E0≤o2:=by
      by_cases h:gs= []
      · have:=c5 (by simp [h]) (w0 h);omega
      · have:=we h;rcases c4 with c4 | c4<;>omega
    obtain⟨e,F1,h1,hr,rfl,rfl,rfl⟩:=ap2_vp H H1 H2 H3 B N i (H1.next+2) va vb al lg rs[i].v g' lg2 a (fun e F1 h1=>e= .normal∧F1=a2F va vb al lg2 N (i+1)∧h1=up H3 2)
      (bifL hB ⟨boolT (by omega),bifL (by omega) (bifL (by omega) ⟨a1,a3 _,bifL (by omega) ⟨Runs.of_loops L1,bifL (by omega) ⟨build1R rfl svg,e3,bifL (by omega) ⟨⟨by omega,by omega⟩,rfl,by rw [succI],rfl⟩⟩⟩⟩)⟩)
    have f4:=Fr.up H3 2 []
    have f24:Fr H2 (up H3 2) [o2]:=f3.trans f4 (by simp)
    have q3n:q3≠o2:=by
      rcases c2 with c2 | c2
      · omega
      · rcases c4 with c4 | c4
        · by_cases h:gs= []
          · have:=c5 (by simp [h]) (w0 h);omega
          · have:=we h;omega
        · omega
    have f04:Fr H (up H3 2) [rs[i].q,o2]:=(f02.sub (M:= [rs[i].q,o2]) (by simp)).trans f24 (by simp)
    have keep: ∀ j (hj:j<rs.length),j≠i→rs[j].q ∉ [rs[i].q,o2]:=fun j hj hne=>by
      have h1:=hd j i hj hlt hne
      have h2:=hq _ (List.getElem_mem hj)
      simp;omega
    obtain⟨H',lg',olg',gs',L,r2,r3,r4,r5,r6,r7⟩:=ih (i+1) o2 (up H3 2) lg2 (gs++ [(q3,g')]) (by omega) (by show B≤H3.next+2;omega) (by show E0≤H3.next+2;omega)
      (r1.fr f04 (by
        have:oal≠rs[i].q:=fun e=>hoq (e▸hqm)
        simp;omega)) (by simp [gl]) (fun j hj hg=>by
        by_cases hji:j<gs.length
        · have hgj:=gq j hj hji
          simp only [List.getElem_append_left hji]
          refine(g1 j hj hji).fr f04 (keep j hj (by omega)) ?_
          have h1:=hd j i hj hlt (by omega)
          have h2:=hq _ (List.getElem_mem hj)
          simp only [List.mem_cons,List.not_mem_nil,or_false,not_or]
          refine⟨by rcases hgj.1 with h | h<;>omega,?_⟩
          rcases c4 with c4 | c4
          · rw [c4];exact hgj.2.1
          · have:=hgj.2.2;omega
        · have hjl:j=gs.length:=by simp at hg;omega
          subst hjl
          subst gl
          simp only [List.getElem_concat_length]
          exact(w2.fr f2 (by simp) (by simp)).fr f24 (by simp;omega) (by simpa using q3n))
      (fun x hx=>by
        rcases List.mem_append.1 hx with h | h
        · exact sv x h
        · simp only [List.mem_singleton]at h;subst h;exact svg)
      (by rw [List.map_append];exact w4.fr f4 (by simp)) (fun h=>by simp at h) (fun _=>⟨ho2,by show o2<H3.next+2;omega⟩)
      (fun j hj hg=>by
        by_cases hji:j<gs.length
        · have hgj:=gq j hj hji
          simp only [List.getElem_append_left hji]
          refine⟨hgj.1,?_,by show gs[j].1<H3.next+2;omega⟩
          rcases c4 with c4 | c4
          · rw [c4];exact hgj.2.1
          · have:=hgj.2.2;omega
        · have hjl:j=gs.length:=by simp at hg;omega
          subst hjl
          subst gl
          simp only [List.getElem_concat_length]
          exact⟨by rcases c2 with c2 | c2<;>omega,q3n,by show q3<H3.next+2;omega⟩)
      (fun j hj hij=>by
        obtain⟨x1,x2⟩:=todo j hj (by omega)
        exact⟨x1.fr f04 (keep j hj (by omega)),x2.fr f04 (keep j hj (by omega))⟩)
    have r6:H3.next+2≤H'.next:=r6
    refine⟨H',lg',olg',gs',Loops.round hr (Ent.refl _ _ _ _) L,r2,r3,r4,r5,by omega,fun x hx hxq=> ?_⟩
    rw [r7 x hx hxq]
    refine f04.get x (by omega) ?_
    have:x≠rs[i].q:=fun e=>hxq (e▸hqm)
    simp;omega
abbrev a5F(va vb al lg:AVal)(N i m k:Nat):Facts:= [(0,va),(1,vb),(5,al),(8,lg),(11,.int .i64 (i:Nat)),(73,.int .i64 (N:Nat)),(74,.int .i64 (i:Nat)),(81,.int .i64 (m:Nat)),(82,.int .i64 (k:Nat))]
theorem ap5_loop {B N i n oal olg q q2:Nat} {va vb al lg rv gv:AVal} {vs gl:List AVal} (hn:n<2^40) (hi:i<vs.length) (hg:i<gl.length) (ev:vs[i]=rv) (eg:gl[i]=gv): ∀ (f k:Nat) (H:AHeap),k+f=n+20→B≤H.next→Rd H oal al vs→Rd H olg lg gl→Rd H q rv (List.replicate n (.str (markS i)))→Rd H q2 gv (List.replicate (n+20) (.str (markS i))) →
    ∃ m,H.next≤m∧Loops Tryz.prog cnd B 209 (apC 5) (a5F va vb al lg N i (n+20) k) H (.exit 10) [(0,va),(1,vb),(5,al),(8,lg),(73,.int .i64 (N:Nat)),(74,.int .i64 (i:Nat))] ⟨m,H.blks⟩:=by
  intro f
  induction f with
  | zero =>
    intro k H hk hB r1 r2 r3 r4
    obtain rfl:k=n+20:=by omega
    obtain⟨e,F1,h1,hr,rfl,rfl,rfl⟩:=ap5E_vp H B N i (n+20) (n+20) va vb al lg (fun e F1 h1=>e= .exit 10∧F1=a5F va vb al lg N i (n+20) (n+20)∧h1=up H 1) (bifL hB ⟨boolF (by omega),rfl,rfl,rfl⟩)
    exact⟨H.next+1,by omega,(Loops.last (by simp) hr).post (Ent.facts (fle [0,1,5,8,73,74] (by kernel_rfl)))⟩
  | succ f ih =>
    intro k H hk hB r1 r2 r3 r4
    obtain⟨a,a1,a2,a3⟩:=r2.at elR hg (by rw [eg];exact r4.sv)
    rw [eg]at a3
    obtain⟨c,c1,c2,c3⟩:=r1.at elR hi (by rw [ev];exact r3.sv)
    rw [ev]at c3
    obtain⟨b,b1,b2,b3⟩:=r4.at elS (i:=k) (by simp;omega) (by rw [List.getElem_replicate];rfl)
    rw [List.getElem_replicate]at b3
    obtain⟨ro,rc,e0⟩:=r3.sl
    rw [List.length_replicate]at e0
    have f0:=Fr.up H 36 []
    obtain⟨m,hm,L⟩:=ih (k+1) (up H 36) (by omega) (by show B≤H.next+36;omega) (r1.fr f0 (by simp)) (r2.fr f0 (by simp)) (r3.fr f0 (by simp)) (r4.fr f0 (by simp))
    have hm:H.next+36≤m:=hm
    by_cases hkn:k<n
    · obtain⟨d,d1,d2,d3⟩:=r3.at elS (i:=k) (by simp;omega) (by rw [List.getElem_replicate];rfl)
      rw [List.getElem_replicate]at d3
      rw [e0]at d1 c3
      obtain⟨e,F1,h1,hr,rfl,rfl,rfl⟩:=ap5A_vp H B N i (n+20) k n rc ro va vb al lg gv a b c d (markS i) (fun e F1 h1=>e= .normal∧F1=a5F va vb al lg N i (n+20) (k+1)∧h1=up H 36)
        (bifL hB ⟨boolT (by omega),bifL (by omega) (bifL (by omega) ⟨a1,a3 _,by omega,b1,b3 _,by omega,⟨mark_does i _⟩,sameOld_refl _ _,by simp,c1,c3 _,by omega,boolT (by omega),c1,c3 _,by omega,d1,d3 _,by omega,⟨mark_does i _⟩,sameOld_refl _ _,by simp,⟨fun _ _=>⟨rfl,rfl⟩⟩,bifL (by omega) ⟨⟨by omega,by omega⟩,rfl,by rw [succI],rfl⟩⟩)⟩)
      exact⟨m,by omega,Loops.round hr (Ent.refl _ _ _ _) L⟩
    · rw [e0]at c3
      obtain⟨e,F1,h1,hr,rfl,rfl,rfl⟩:=ap5B_vp H B N i (n+20) k n rc ro va vb al lg gv a b c (markS i) (fun e F1 h1=>e= .normal∧F1=a5F va vb al lg N i (n+20) (k+1)∧h1=up H 36)
        (bifL hB ⟨boolT (by omega),bifL (by omega) (bifL (by omega) ⟨a1,a3 _,by omega,b1,b3 _,by omega,⟨mark_does i _⟩,sameOld_refl _ _,by simp,c1,c3 _,by omega,boolF (by omega),bifL (by omega) ⟨⟨by omega,by omega⟩,rfl,by rw [succI],rfl⟩⟩)⟩)
      exact⟨m,by omega,Loops.round hr (Ent.refl _ _ _ _) L⟩
abbrev a4F(va vb al lg:AVal)(N i:Nat):Facts:= [(0,va),(1,vb),(5,al),(8,lg),(73,.int .i64 (N:Nat)),(74,.int .i64 (i:Nat))]
theorem ap4_loop {B N oal olg:Nat}{va vb al lg:AVal}{rs:List Rr}{gs:List (Nat×AVal)}(hN:N=rs.length)(hg:gs.length=N)(hN2:N<2^39)(hl: ∀ r∈rs,r.l.length<2^39): ∀ (f i:Nat) (H:AHeap),i+f=N→B≤H.next→Rd H oal al (vsOf rs)→Rd H olg lg (gs.map (·.2))→Gs H rs gs →
    ∃ m,H.next≤m∧Loops Tryz.prog cnd B 209 (apC 4) (a4F va vb al lg N i) H (.exit 8) [(0,va),(1,vb)] ⟨m,H.blks⟩:=by
  intro f
  induction f with
  | zero =>
    intro i H hi hB r1 r2 g
    obtain rfl:i=N:=by omega
    obtain⟨e,F1,h1,hr,rfl,rfl,rfl⟩:=ap4E_vp H B i i va vb al lg (fun e F1 h1=>e= .exit 8∧F1=a4F va vb al lg i i∧h1=up H 1) (bifL hB ⟨boolF (by omega),rfl,rfl,rfl⟩)
    exact⟨H.next+1,by omega,(Loops.last (by simp) hr).post (Ent.facts (fle [0,1] (by kernel_rfl)))⟩
  | succ f ih =>
    intro i H hi hB r1 r2 g
    have hlt:i<rs.length:=by omega
    have hgt:i<gs.length:=by omega
    obtain⟨ra,rb⟩:=(g i hlt hgt).rd
    have hnl:=hl _ (List.getElem_mem hlt)
    have er:List.replicate rs[i].l.length (AVal.str (markS i))++List.replicate 20 (AVal.str (markS i))=List.replicate (rs[i].l.length+20) (AVal.str (markS i)):=List.replicate_append_replicate
    rw [er]at rb
    obtain⟨a,a1,a2,a3⟩:=r2.at elR (i:=i) (by simpa using hgt) (by rw [List.getElem_map];exact rb.sv)
    rw [List.getElem_map]at a3
    obtain⟨go,gc,e0⟩:=rb.sl
    rw [List.length_replicate]at e0
    have f0:=Fr.up H 9 []
    obtain⟨m1,hm1,L1⟩:=ap5_loop (B:=B) (N:=N) (va:=va) (vb:=vb) (al:=al) (lg:=lg) (vs:=vsOf rs) (gl:=gs.map (·.2)) (rv:=rs[i].v) (gv:=gs[i].2) (n:=rs[i].l.length) (i:=i) (by omega) (by simpa using hlt) (by simpa using hgt) (by rw [List.getElem_map]) (by rw [List.getElem_map]) (rs[i].l.length+20) 0 (up H 9) (by omega) (by show B≤H.next+9;omega) (r1.fr f0 (by simp)) (r2.fr f0 (by simp)) (ra.fr f0 (by simp)) (rb.fr f0 (by simp))
    have hm1:H.next+9≤m1:=hm1
    obtain⟨e,F1,h1,hr,rfl,rfl,rfl⟩:=ap4_vp H ⟨m1,H.blks⟩ B N i (rs[i].l.length+20) gc go va vb al lg a (fun e F1 h1=>e= .normal∧F1=a4F va vb al lg N (i+1)∧h1=⟨m1+2,H.blks⟩)
      (bifL hB ⟨boolT (by omega),bifL (by omega) (bifL (by omega) ⟨a1,by rw [← e0];exact a3 _,Runs.of_loops L1,bifL (by show B≤m1;omega) ⟨⟨by omega,by omega⟩,rfl,by rw [succI],rfl⟩⟩)⟩)
    have f1:Fr H ⟨m1+2,H.blks⟩ []:=⟨by show H.next≤m1+2;omega,fun _ _ _=>rfl⟩
    obtain⟨m,hm,L⟩:=ih (i+1) ⟨m1+2,H.blks⟩ (by omega) (by show B≤m1+2;omega) (r1.fr f1 (by simp)) (r2.fr f1 (by simp)) (fun j hj hg=>(g j hj hg).fr f1 (by simp) (by simp))
    have hm:m1+2≤m:=hm
    exact⟨m,by omega,Loops.round hr (Ent.refl _ _ _ _) L⟩
end Go.Proofs.YtjpfnbihopoeeaaGreatDoor
namespace Go.Proofs.YtjpfnbihopoeeaaGreatDoor
open Go.Lift
set_option maxRecDepth 1000000
abbrev a6F(va vb ov tv:AVal)(N i:Nat):Facts:= [(0,va),(1,vb),(13,ov),(14,tv),(121,.int .i64 (N:Nat)),(122,.int .i64 (i:Nat))]
theorem ap6_loop {B N oa:Nat}{va vb ov tv:AVal}(hN:N<2^40)(ho:Sv ov): ∀ (rest:List AVal) (k:Nat) (H:AHeap),k+rest.length=N→B≤H.next→Rw H 36 oa va (List.replicate k ov++rest)→(∀ x∈rest,Sv x)→(rest= []→Wr H oa va) →
    ∃ H',Loops Tryz.prog cnd B 209 (apC 6) (a6F va vb ov tv N k) H (.exit 12) [(0,va),(1,vb),(13,ov),(14,tv)] H'∧Rw H' 36 oa va (List.replicate N ov)∧Wr H' oa va∧Fr H H' [oa]:=by
  intro rest
  induction rest with
  | nil =>
    intro k H hk hB w1 hs hw
    obtain rfl:k=N:=by simpa using hk
    obtain⟨e,F1,h1,hr,rfl,rfl,rfl⟩:=ap6E_vp H B k k va vb ov tv (fun e F1 h1=>e= .exit 12∧F1=a6F va vb ov tv k k∧h1=up H 1) (bifL hB ⟨boolF (by omega),rfl,rfl,rfl⟩)
    have f:=Fr.up H 1 []
    exact⟨_,(Loops.last (by simp) hr).post (Ent.facts (fle [0,1,13,14] (by kernel_rfl))),by rw [List.append_nil]at w1;exact w1.fr f (by simp),(hw rfl).fr f (by simp),Fr.up H 1 _⟩
  | cons y rest ih =>
    intro k H hk hB w1 hs hw
    simp only [List.length_cons]at hk
    obtain⟨b,H1,b1,b2,w2,wr2,f2,n2⟩:=w1.st elR (i:=k) (x:=ov) (by simp) (by rw [rep_get];exact hs y (by simp)) ho 8
    rw [rep_set]at w2
    obtain⟨e,F1,h1,hr,rfl,rfl,rfl⟩:=ap6_vp H H1 B N k va vb ov tv b (fun e F1 h1=>e= .normal∧F1=a6F va vb ov tv N (k+1)∧h1=up H1 2)
      (bifL hB ⟨boolT (by omega),bifL (by omega) (bifL (by omega) ⟨b1,aop_storeG rfl rfl b2,bifL (by omega) ⟨⟨by omega,by omega⟩,rfl,by rw [succI],rfl⟩⟩)⟩)
    have f3:=Fr.up H1 2 []
    have f23:Fr H (up H1 2) [oa]:=f2.trans f3 (by simp)
    obtain⟨H',L,w',wr',f'⟩:=ih (k+1) (up H1 2) (by omega) (by show B≤H1.next+2;omega) (w2.fr f3 (by simp)) (fun x hx=>hs x (by simp [hx])) (fun _=>wr2.fr f3 (by simp))
    exact⟨H',Loops.round hr (Ent.refl _ _ _ _) L,w',wr',f23.trans f' (fun x hx _=>hx)⟩
abbrev a7F(va vb ov tv:AVal)(N i:Nat):Facts:= [(0,va),(1,vb),(13,ov),(14,tv),(131,.int .i64 (N:Nat)),(132,.int .i64 (i:Nat))]
theorem ap7_loop {B N oa:Nat}{va vb ov tv:AVal}(hN:N<2^40)(ho:Sv tv): ∀ (rest:List AVal) (k:Nat) (H:AHeap),k+rest.length=N→B≤H.next→Rw H 36 oa vb (List.replicate k tv++rest)→(∀ x∈rest,Sv x)→(rest= []→Wr H oa vb) →
    ∃ H',Loops Tryz.prog cnd B 209 (apC 7) (a7F va vb ov tv N k) H (.exit 14) [(0,va),(1,vb),(13,ov),(14,tv)] H'∧Rw H' 36 oa vb (List.replicate N tv)∧Wr H' oa vb∧Fr H H' [oa]:=by
  intro rest
  induction rest with
  | nil =>
    intro k H hk hB w1 hs hw
    obtain rfl:k=N:=by simpa using hk
    obtain⟨e,F1,h1,hr,rfl,rfl,rfl⟩:=ap7E_vp H B k k va vb ov tv (fun e F1 h1=>e= .exit 14∧F1=a7F va vb ov tv k k∧h1=up H 1) (bifL hB ⟨boolF (by omega),rfl,rfl,rfl⟩)
    have f:=Fr.up H 1 []
    exact⟨_,(Loops.last (by simp) hr).post (Ent.facts (fle [0,1,13,14] (by kernel_rfl))),by rw [List.append_nil]at w1;exact w1.fr f (by simp),(hw rfl).fr f (by simp),Fr.up H 1 _⟩
  | cons y rest ih =>
    intro k H hk hB w1 hs hw
    simp only [List.length_cons]at hk
    obtain⟨b,H1,b1,b2,w2,wr2,f2,n2⟩:=w1.st elR (i:=k) (x:=tv) (by simp) (by rw [rep_get];exact hs y (by simp)) ho 8
    rw [rep_set]at w2
    obtain⟨e,F1,h1,hr,rfl,rfl,rfl⟩:=ap7_vp H H1 B N k va vb ov tv b (fun e F1 h1=>e= .normal∧F1=a7F va vb ov tv N (k+1)∧h1=up H1 2)
      (bifL hB ⟨boolT (by omega),bifL (by omega) (bifL (by omega) ⟨b1,aop_storeG rfl rfl b2,bifL (by omega) ⟨⟨by omega,by omega⟩,rfl,by rw [succI],rfl⟩⟩)⟩)
    have f3:=Fr.up H1 2 []
    have f23:Fr H (up H1 2) [oa]:=f2.trans f3 (by simp)
    obtain⟨H',L,w',wr',f'⟩:=ih (k+1) (up H1 2) (by omega) (by show B≤H1.next+2;omega) (w2.fr f3 (by simp)) (fun x hx=>hs x (by simp [hx])) (fun _=>wr2.fr f3 (by simp))
    exact⟨H',Loops.round hr (Ent.refl _ _ _ _) L,w',wr',f23.trans f' (fun x hx _=>hx)⟩
abbrev a8F(va vb ov tv x y:AVal)(j:Nat):Facts:= [(0,va),(1,vb),(13,ov),(14,tv),(17,x),(18,y),(142,.int .i64 (j:Nat))]
theorem ap8_loop {B E oa ob:Nat}{va vb ov tv:AVal}{la lb:List AVal}(hla:la.length<2^40)(hlb:lb.length<2^40)(ho:Sv ov)(ht:Sv tv)(hab:oa≠ob)(hoa:oa<E)(hob:ob<E): ∀ (f j qx qy:Nat) (H:AHeap) (x y:AVal),j+f=20→B≤H.next→E≤H.next→(qx=oa∨E≤qx)→(qy=ob∨E≤qy)→qx≠qy→qx<H.next→qy<H.next →
    Gw H 36 oa va la ov j qx x→Gw H 36 ob vb lb tv j qy y →
    ∃ H' x' y' qx' qy',Loops Tryz.prog cnd B 209 (apC 8) (a8F va vb ov tv x y j) H (.exit 16) [(0,va),(1,vb),(17,x'),(18,y')] H'∧Gw H' 36 oa va la ov 20 qx' x'∧Gw H' 36 ob vb lb tv 20 qy' y'∧H.next≤H'.next∧ ∀ z,z<E→z≠oa→z≠ob→H'.get z=H.get z:=by
  intro f
  induction f with
  | zero =>
    intro j qx qy H x y hj hB hE cx cy hxy lx ly gx gy
    obtain rfl:j=20:=by omega
    obtain⟨e,F1,h1,hr,rfl,rfl,rfl⟩:=ap8E_vp H B 20 va vb ov tv x y (fun e F1 h1=>e= .exit 16∧F1=a8F va vb ov tv x y 20∧h1=up H 1) (bifL hB ⟨boolF (by omega),rfl,rfl,rfl⟩)
    have f:=Fr.up H 1 []
    exact⟨up H 1,x,y,qx,qy,(Loops.last (by simp) hr).post (Ent.facts (fle [0,1,17,18] (by kernel_rfl))),gx.fr f (by simp) (by simp),gy.fr f (by simp) (by simp),f.next,fun _ _ _ _=>rfl⟩
  | succ f ih =>
    intro j qx qy H x y hj hB hE cx cy hxy lx ly gx gy
    let H1:AHeap:=(up H 6).set (H.next+3) (ABlk.made [ov] 1 true)
    have f1:Fr H H1 []:=(Fr.up H 6 []).trans (Fr.set (L:= [H.next+3]) (up H 6) _ _ (by simp)) (by intro x hx;simp at hx;omega)
    obtain⟨x2,H2,qx2,e2,gx2,c2,f2,n2⟩:=(gx.fr f1 (by simp) (by simp)).app elR (by decide) (nid:=H.next+4) (w:= .slice (some ⟨H.next+3,0,0,0,1⟩) 1 1) (one_elem (up H 6) _ _) (by show H.next+4<H.next+6;omega) (by omega) (by omega)
    have n2:H2.next=H.next+6:=n2
    have gy2:=(gy.fr f1 (by simp) (by simp)).fr f2 (by simp;rcases c2 with c2 | c2<;>omega) (by simp;rcases c2 with c2 | c2<;>omega)
    let H3:AHeap:=(up H2 5).set (H2.next+2) (ABlk.made [tv] 1 true)
    have f3:Fr H2 H3 []:=(Fr.up H2 5 []).trans (Fr.set (L:= [H2.next+2]) (up H2 5) _ _ (by simp)) (by intro x hx;simp at hx;omega)
    obtain⟨y2,H4,qy2,e4,gy4,c4,f4,n4⟩:=(gy2.fr f3 (by simp) (by simp)).app elR (by decide) (nid:=H2.next+3) (w:= .slice (some ⟨H2.next+2,0,0,0,1⟩) 1 1) (one_elem (up H2 5) _ _) (by show H2.next+3<H2.next+5;omega) (by omega) (by omega)
    have n4:H4.next=H2.next+5:=n4
    have gx4:=(gx2.fr f3 (by simp) (by simp)).fr f4 (by simp;rcases c4 with c4 | c4<;>omega) (by simp;rcases c4 with c4 | c4<;>rcases c2 with c2 | c2<;>omega)
    obtain⟨e,F1,h1,hr,rfl,rfl,rfl⟩:=ap8_vp H H1 H2 H3 H4 B j (H.next+3) (H2.next+2) va vb ov tv x y x2 y2 (fun e F1 h1=>e= .normal∧F1=a8F va vb ov tv x2 y2 (j+1)∧h1=up H4 2)
      (bifL hB ⟨boolT (by omega),bifL (by omega) ⟨build1R rfl ho,e2,bifL (by omega) ⟨build1R rfl ht,e4,bifL (by omega) ⟨⟨by omega,by omega⟩,rfl,by rw [succI],rfl⟩⟩⟩⟩)
    have f5:=Fr.up H4 2 []
    obtain⟨H',x',y',qx',qy',L,r1,r2,r3,r4⟩:=ih (j+1) qx2 qy2 (up H4 2) x2 y2 (by omega) (by show B≤H4.next+2;omega) (by show E≤H4.next+2;omega) (by rcases c2 with c2 | c2<;>omega) (by rcases c4 with c4 | c4<;>omega) (by rcases c2 with c2 | c2<;>rcases c4 with c4 | c4<;>omega) (by show qx2<H4.next+2;rcases c2 with c2 | c2<;>omega) (by show qy2<H4.next+2;rcases c4 with c4 | c4<;>omega) (gx4.fr f5 (by simp) (by simp)) (gy4.fr f5 (by simp) (by simp))
    have r3:H4.next+2≤H'.next:=r3
    refine⟨H',x',y',qx',qy',Loops.round hr (Ent.refl _ _ _ _) L,r1,r2,by omega,fun z hz h1 h2=> ?_⟩
    rw [r4 z hz h1 h2]
    show H4.get z=H.get z
    rw [f4.get z (by show z<H2.next+5;omega) (by simp;rcases c4 with c4 | c4<;>omega),f3.get z (by omega) (by simp),f2.get z (by show z<H.next+6;omega) (by simp;rcases c2 with c2 | c2<;>omega),f1.get z (by omega) (by simp)]
abbrev a9F(va vb x y:AVal)(m i:Nat):Facts:= [(0,va),(1,vb),(17,x),(18,y),(154,.int .i64 (m:Nat)),(155,.int .i64 (i:Nat))]
theorem ap9_loop {B na ac oa qx p:Nat} {ao:Option AAddr} {vb x y ov:AVal} (hn:na<2^40): ∀ (f i:Nat) (H:AHeap),i+f=na+20→B≤H.next→Rd H oa (.slice ao na ac) (List.replicate na ov)→Rd H qx x (List.replicate (na+20) ov)→Rd H p ov [.str [111,110,101]] →
    ∃ m,H.next≤m∧Loops Tryz.prog cnd B 209 (apC 9) (a9F (.slice ao na ac) vb x y (na+20) i) H (.exit 18) [(1,vb),(18,y)] ⟨m,H.blks⟩:=by
  intro f
  induction f with
  | zero =>
    intro i H hi hB r1 r2 r3
    obtain rfl:i=na+20:=by omega
    obtain⟨e,F1,h1,hr,rfl,rfl,rfl⟩:=ap9E_vp H B (na+20) (na+20) (.slice ao na ac) vb x y (fun e F1 h1=>e= .exit 18∧F1=a9F (.slice ao na ac) vb x y (na+20) (na+20)∧h1=up H 1) (bifL hB ⟨boolF (by omega),rfl,rfl,rfl⟩)
    exact⟨H.next+1,by omega,(Loops.last (by simp) hr).post (Ent.facts (fle [1,18] (by kernel_rfl)))⟩
  | succ f ih =>
    intro i H hi hB r1 r2 r3
    obtain⟨a,a1,a2,a3⟩:=r2.at elR (i:=i) (by simp;omega) (by rw [List.getElem_replicate];exact r3.sv)
    rw [List.getElem_replicate]at a3
    obtain⟨b,b1,b2,b3⟩:=r3.at elS (i:=0) (by simp) rfl
    have b3: ∀ n,aload (AEnv.D env) 9 b ⟨n,H.blks⟩=some (.str [111,110,101]):=b3
    have f0:=Fr.up H 27 []
    obtain⟨m,hm,L⟩:=ih (i+1) (up H 27) (by omega) (by show B≤H.next+27;omega) (r1.fr f0 (by simp)) (r2.fr f0 (by simp)) (r3.fr f0 (by simp))
    have hm:H.next+27≤m:=hm
    by_cases hin:i<na
    · obtain⟨c,c1,c2,c3⟩:=r1.at elR (i:=i) (by simp;omega) (by rw [List.getElem_replicate];exact r3.sv)
      rw [List.getElem_replicate]at c3
      obtain⟨e,F1,h1,hr,rfl,rfl,rfl⟩:=ap9A_vp H B (na+20) i na ac ao vb x y ov a b c (fun e F1 h1=>e= .normal∧F1=a9F (.slice ao na ac) vb x y (na+20) (i+1)∧h1=up H 27)
        (bifL hB ⟨boolT (by omega),bifL (by omega) (bifL (by omega) ⟨a1,a3 _,b1,b3 _,boolT (by omega),c1,c3 _,b1,b3 _,bifL (by omega) ⟨⟨by omega,by omega⟩,rfl,by rw [succI],rfl⟩⟩)⟩)
      exact⟨m,by omega,Loops.round hr (Ent.refl _ _ _ _) L⟩
    · obtain⟨e,F1,h1,hr,rfl,rfl,rfl⟩:=ap9B_vp H B (na+20) i na ac ao vb x y ov a b (fun e F1 h1=>e= .normal∧F1=a9F (.slice ao na ac) vb x y (na+20) (i+1)∧h1=up H 27)
        (bifL hB ⟨boolT (by omega),bifL (by omega) (bifL (by omega) ⟨a1,a3 _,b1,b3 _,boolF (by omega),bifL (by omega) ⟨⟨by omega,by omega⟩,rfl,by rw [succI],rfl⟩⟩)⟩)
      exact⟨m,by omega,Loops.round hr (Ent.refl _ _ _ _) L⟩
abbrev a10F(va y:AVal)(m i:Nat):Facts:= [(1,va),(18,y),(182,.int .i64 (m:Nat)),(183,.int .i64 (i:Nat))]
theorem ap10_loop {B na ac oa qx p:Nat} {ao:Option AAddr} {y ov:AVal} (hn:na<2^40): ∀ (f i:Nat) (H:AHeap),i+f=na+20→B≤H.next→Rd H oa (.slice ao na ac) (List.replicate na ov)→Rd H qx y (List.replicate (na+20) ov)→Rd H p ov [.str [116,119,111]] →
    ∃ m,H.next≤m∧Loops Tryz.prog cnd B 209 (apC 10) (a10F (.slice ao na ac) y (na+20) i) H (.exit 20) [(1,.slice ao na ac)] ⟨m,H.blks⟩:=by
  intro f
  induction f with
  | zero =>
    intro i H hi hB r1 r2 r3
    obtain rfl:i=na+20:=by omega
    obtain⟨e,F1,h1,hr,rfl,rfl,rfl⟩:=ap10E_vp H B (na+20) (na+20) (.slice ao na ac) y (fun e F1 h1=>e= .exit 20∧F1=a10F (.slice ao na ac) y (na+20) (na+20)∧h1=up H 1) (bifL hB ⟨boolF (by omega),rfl,rfl,rfl⟩)
    exact⟨H.next+1,by omega,(Loops.last (by simp) hr).post (Ent.facts (fle [1] (by kernel_rfl)))⟩
  | succ f ih =>
    intro i H hi hB r1 r2 r3
    obtain⟨a,a1,a2,a3⟩:=r2.at elR (i:=i) (by simp;omega) (by rw [List.getElem_replicate];exact r3.sv)
    rw [List.getElem_replicate]at a3
    obtain⟨b,b1,b2,b3⟩:=r3.at elS (i:=0) (by simp) rfl
    have b3: ∀ n,aload (AEnv.D env) 9 b ⟨n,H.blks⟩=some (.str [116,119,111]):=b3
    have f0:=Fr.up H 27 []
    obtain⟨m,hm,L⟩:=ih (i+1) (up H 27) (by omega) (by show B≤H.next+27;omega) (r1.fr f0 (by simp)) (r2.fr f0 (by simp)) (r3.fr f0 (by simp))
    have hm:H.next+27≤m:=hm
    by_cases hin:i<na
    · obtain⟨c,c1,c2,c3⟩:=r1.at elR (i:=i) (by simp;omega) (by rw [List.getElem_replicate];exact r3.sv)
      rw [List.getElem_replicate]at c3
      obtain⟨e,F1,h1,hr,rfl,rfl,rfl⟩:=ap10A_vp H B (na+20) i na ac ao y ov a b c (fun e F1 h1=>e= .normal∧F1=a10F (.slice ao na ac) y (na+20) (i+1)∧h1=up H 27)
        (bifL hB ⟨boolT (by omega),bifL (by omega) (bifL (by omega) ⟨a1,a3 _,b1,b3 _,boolT (by omega),c1,c3 _,b1,b3 _,bifL (by omega) ⟨⟨by omega,by omega⟩,rfl,by rw [succI],rfl⟩⟩)⟩)
      exact⟨m,by omega,Loops.round hr (Ent.refl _ _ _ _) L⟩
    · obtain⟨e,F1,h1,hr,rfl,rfl,rfl⟩:=ap10B_vp H B (na+20) i na ac ao y ov a b (fun e F1 h1=>e= .normal∧F1=a10F (.slice ao na ac) y (na+20) (i+1)∧h1=up H 27)
        (bifL hB ⟨boolT (by omega),bifL (by omega) (bifL (by omega) ⟨a1,a3 _,b1,b3 _,boolF (by omega),bifL (by omega) ⟨⟨by omega,by omega⟩,rfl,by rw [succI],rfl⟩⟩)⟩)
      exact⟨m,by omega,Loops.round hr (Ent.refl _ _ _ _) L⟩
end Go.Proofs.YtjpfnbihopoeeaaGreatDoor
namespace Go.Proofs.YtjpfnbihopoeeaaGreatDoor
open Go.Lift
set_option maxRecDepth 1000000
theorem bOne(F:Facts)(nid:Nat)(H:AHeap):aop env noCall nid (getF F) H (Op.buildSlice 36 1 {toList:= [(0,Operand.const (Value.string {data:= {toList:= [111,110,101]}}))]})=some (.slice (some ⟨nid,0,0,0,1⟩) 1 1,H.set nid (ABlk.made [.str [111,110,101]] 1 true)):=by
  have:aop env noCall nid (getF F) H (Op.buildSlice 36 1 {toList:= [(0,Operand.const (Value.string {data:= {toList:= [111,110,101]}}))]})=abuildSlice (AEnv.D env) 36 1 [(0,.str [111,110,101])] nid H:=rfl
  exact this.trans (by kernel_rfl)
theorem bTwo(F:Facts)(nid:Nat)(H:AHeap):aop env noCall nid (getF F) H (Op.buildSlice 36 1 {toList:= [(0,Operand.const (Value.string {data:= {toList:= [116,119,111]}}))]})=some (.slice (some ⟨nid,0,0,0,1⟩) 1 1,H.set nid (ABlk.made [.str [116,119,111]] 1 true)):=by
  have:aop env noCall nid (getF F) H (Op.buildSlice 36 1 {toList:= [(0,Operand.const (Value.string {data:= {toList:= [116,119,111]}}))]})=abuildSlice (AEnv.D env) 36 1 [(0,.str [116,119,111])] nid H:=rfl
  exact this.trans (by kernel_rfl)
theorem rd_made(H:AHeap)(q:Nat)(x:AVal)(hq:q<H.next):Rd (H.set q (ABlk.made [x] 1 true)) q (.slice (some ⟨q,0,0,0,1⟩) 1 1) [x] :=
  ⟨_,_,rfl,(fun a h=>by cases h;exact⟨rfl,rfl⟩),.inr ⟨0,0,_,rfl,hq,AHeap.get_set_self _ _ _,fun i hi=>by
    have:i=0:=by simp at hi;omega
    subst this
    rfl⟩⟩
theorem apart_does {H:AHeap}{Ba Ea Bb Eb oa ob:Nat}{va vb:AVal}{rsa rsb:List Rr}(ta:Tb H Ba Ea va oa rsa)(tb:Tb H Bb Eb vb ob rsb)(hab:Ea≤Bb)(hEb:Eb≤H.next)(la:rsa.length<2^38)(lb:rsb.length<2^38)(sa: ∀ r∈rsa,r.l.length<2^39)(sb: ∀ r∈rsb,r.l.length<2^39)
    (ea: ∀ r∈rsa,r.l= []→Wr H r.q r.v) (eb: ∀ r∈rsb,r.l= []→Wr H r.q r.v) (wa:rsa= []→Wr H oa va) (wb:rsb= []→Wr H ob vb) :
    ∃ H',FDoes Tryz.prog cnd 17 [va,vb] H (.bool true) H'∧H.next≤H'.next∧ ∀ x,x<H.next→(x<Ba∨Ea≤x)→(x<Bb∨Eb≤x)→H'.get x=H.get x:=by
  obtain⟨ao,ac,rfl⟩:=ta.out.rd.sl
  obtain⟨bo,bc,rfl⟩:=tb.out.rd.sl
  simp only [List.length_map]at ta tb wa wb ⊢
  have goa:=ta.ge oa (by simp)
  have gob:=tb.ge ob (by simp)
  have gqa: ∀ r∈rsa,Ba≤r.q∧r.q<Ea:=fun r hr=>ta.ge r.q (List.mem_cons_of_mem _ (List.mem_map.2 ⟨r,hr,rfl⟩))
  have gqb: ∀ r∈rsb,Bb≤r.q∧r.q<Eb:=fun r hr=>tb.ge r.q (List.mem_cons_of_mem _ (List.mem_map.2 ⟨r,hr,rfl⟩))
  have nda:=ta.nd
  have ndb:=tb.nd
  rw [List.nodup_cons]at nda ndb
  have f6:=Fr.up H 6 []
  obtain⟨l1,H1,q1,e1,w1,c1,d1,fr1,n1⟩:=Rw.apps (H:=up H 6) (e:=36) (q:=H.next+4) (v:= .slice none 0 0) (els:= []) (nid:=H.next+4) (new:=vsOf rsa) (.inl ⟨rfl,rfl⟩) elR (by decide) (ta.out.rd.fr f6 (by simp)).elems (by show H.next+4<H.next+6;omega) (by simp;omega)
  have hq1:q1=H.next+4:=d1 rfl rfl
  subst hq1
  have n1:H1.next=H.next+6:=n1
  rw [List.nil_append]at w1
  have f01:Fr H H1 []:=f6.trans fr1 (by intro x hx;simp at hx;omega)
  have f4:=Fr.up H1 4 []
  obtain⟨lv,H2,oal,e2,w2,c2,d2,fr2,n2⟩:=(w1.fr f4 (by simp)).apps elR (by decide) (nid:=H1.next+2) (new:=vsOf rsb) ((tb.out.rd.fr f01 (by simp)).fr f4 (by simp)).elems (by show H1.next+2<H1.next+4;omega) (by simp;omega)
  have n2:H2.next=H.next+10:=by have:H2.next=H1.next+4:=n2;omega
  have hoal:H.next≤oal∧oal<H2.next:=by rcases c2 with c2 | c2<;>omega
  have f02:Fr H H2 []:=(f01.trans f4 (by simp)).trans fr2 (by intro x hx;simp at hx;omega)
  let rs:=rsa++rsb
  have evs:vsOf rsa++vsOf rsb=vsOf rs:=by simp [vsOf,rs]
  rw [evs]at w2
  obtain⟨lo,lc,hlv⟩:=w2.rd.sl
  rw [List.length_map]at hlv
  have hN:rs.length=rsa.length+rsb.length:=by simp [rs]
  have hmem: ∀ r∈rs,r∈rsa∨r∈rsb:=fun r hr=>List.mem_append.1 hr
  have hqlt: ∀ r∈rs,r.q<H.next:=fun r hr=>by
    rcases hmem r hr with h | h
    · have:=gqa r h;omega
    · have:=gqb r h;omega
  have hqs: ∀ x∈qsOf rs,(Ba≤x∧x<Ea∧x≠oa)∨(Bb≤x∧x<Eb∧x≠ob):=by
    intro x hx
    obtain⟨r,hr,rfl⟩:=List.mem_map.1 hx
    rcases hmem r hr with h | h
    · have:=gqa r h
      exact .inl ⟨this.1,this.2,fun e=>nda.1 (e▸List.mem_map.2 ⟨r,h,rfl⟩)⟩
    · have:=gqb r h
      exact .inr ⟨this.1,this.2,fun e=>ndb.1 (e▸List.mem_map.2 ⟨r,h,rfl⟩)⟩
  have ndq:(qsOf rs).Nodup:=by
    show(List.map (·.q) (rsa++rsb)).Nodup
    rw [List.map_append,List.nodup_append]
    refine⟨nda.2,ndb.2,fun x hx y hy=> ?_⟩
    obtain⟨r,hr,rfl⟩:=List.mem_map.1 hx
    obtain⟨s,hs,rfl⟩:=List.mem_map.1 hy
    have h1:=gqa r hr
    have h2:=gqb s hs
    omega
  have hd: ∀ i j (hi:i<rs.length) (hj:j<rs.length),i≠j→rs[i].q≠rs[j].q:=fun i j hi hj hne e=>by
    have key:=List.pairwise_iff_getElem.1 ndq
    rcases Nat.lt_or_gt_of_ne hne with h | h
    · exact key i j (by simpa using hi) (by simpa using hj) h (by simpa using e)
    · exact key j i (by simpa using hj) (by simpa using hi) h (by simpa using e.symm)
  have hoq:oal ∉ qsOf rs:=fun k=>by have:=hqs _ k;omega
  have inr: ∀ r∈rs,Rw H 9 r.q r.v (r.l.map AVal.str)∧(r.l= []→Wr H r.q r.v)∧r.l.length<2^39:=fun r hr=>by
    rcases hmem r hr with h | h
    · exact⟨ta.inn r h,ea r h,sa r h⟩
    · exact⟨tb.inn r h,eb r h,sb r h⟩
  have f3:=Fr.up H2 3 []
  have f03:Fr H (up H2 3) []:=f02.trans f3 (by simp)
  obtain⟨H3,L0,dn0,g3⟩:=ap0_loop (B:=H.next) (N:=rs.length) (va:= .slice ao rsa.length ac) (vb:= .slice bo rsb.length bc) (al:=lv) rfl (by omega) (fun r hr=>by have:=(inr r hr).2.2;omega) hoq hd rs.length 0 (up H2 3) (by omega) (by show H.next≤H2.next+3;omega) (w2.rd.fr f3 (by simp)) (fun j hj h=>absurd h (by omega)) (fun j hj _=>by
    obtain⟨x1,x2,_⟩:=inr _ (List.getElem_mem hj)
    exact⟨x1.fr f03 (by simp),fun h=>(x2 h).fr f03 (by simp)⟩)
  have n3:H2.next+3≤H3.next:=g3.next
  have f23:Fr H2 H3 (qsOf rs):=(f3.sub (M:=qsOf rs) (by simp)).trans g3 (fun x hx _=>hx)
  have r3:Rd H3 oal lv (vsOf rs):=w2.rd.fr f23 hoq
  have f4':=Fr.up H3 4 []
  obtain⟨H4,lg,olg,gs,L2,lgs,gg,sgs,wg,n4,k4⟩:=ap2_loop (B:=H.next) (N:=rs.length) (E0:=H3.next) (va:= .slice ao rsa.length ac) (vb:= .slice bo rsb.length bc) (al:=lv) (oal:=oal) rfl (by omega) (fun r hr=>(inr r hr).2.2) hoq (by omega) (fun r hr=>by have:=hqlt r hr;omega) hd rs.length 0 0 (up H3 4) (.slice none 0 0) [] (by omega) (by show H.next≤H3.next+4;omega) (by show H3.next≤H3.next+4;omega) (r3.fr f4' (by simp)) rfl (fun j hj hg=>absurd hg (by simp)) (by simp) (.inl ⟨rfl,rfl⟩) (fun _=>rfl) (fun h=>absurd rfl h) (fun j hj hg=>absurd hg (by simp)) (fun j hj _=>⟨(dn0 j hj).1.fr f4' (by simp),(dn0 j hj).2.fr f4' (by simp)⟩)
  have n4:H3.next+4≤H4.next:=n4
  have f34:Fr H3 H4 (qsOf rs):=⟨by omega,fun x hx h=>k4 x hx h⟩
  have r4:Rd H4 oal lv (vsOf rs):=r3.fr f34 hoq
  have f43:=Fr.up H4 3 []
  obtain⟨m5,hm5,L4⟩:=ap4_loop (B:=H.next) (N:=rs.length) (va:= .slice ao rsa.length ac) (vb:= .slice bo rsb.length bc) (al:=lv) (lg:=lg) rfl lgs (by omega) (fun r hr=>(inr r hr).2.2) rs.length 0 (up H4 3) (by omega) (by show H.next≤H4.next+3;omega) (r4.fr f43 (by simp)) (wg.rd.fr f43 (by simp)) (fun j hj hg=>(gg j hj hg).fr f43 (by simp) (by simp))
  have hm5:H4.next+3≤m5:=hm5
  let H5:AHeap:=⟨m5,H4.blks⟩
  let H6:AHeap:=(up H5 4).set m5 (ABlk.made [.str [111,110,101]] 1 true)
  let H7:AHeap:=H6.set (m5+1) (ABlk.made [.str [116,119,111]] 1 true)
  let ov:AVal:= .slice (some ⟨m5,0,0,0,1⟩) 1 1
  let tv:AVal:= .slice (some ⟨m5+1,0,0,0,1⟩) 1 1
  have f67:Fr H6 H7 [m5+1]:=Fr.set H6 _ _ (by simp)
  have r7a:Rd H7 m5 ov [.str [111,110,101]]:=(rd_made (up H5 4) m5 _ (by show m5<m5+4;omega)).fr f67 (by simp)
  have r7b:Rd H7 (m5+1) tv [.str [116,119,111]]:=rd_made H6 (m5+1) _ (by show m5+1<m5+4;omega)
  have f47:Fr H4 H7 []:=by
    refine⟨by show H4.next≤m5+4;omega,fun x hx _=> ?_⟩
    show(AHeap.set _ _ _).get x=_
    rw [AHeap.get_set_ne _ _ (by omega)]
    show(AHeap.set _ _ _).get x=_
    rw [AHeap.get_set_ne _ _ (by omega)]
    rfl
  have f07:Fr H H7 (qsOf rs):=(((f02.sub (M:=qsOf rs) (by simp)).trans f23 (fun x hx _=>hx)).trans f34 (fun x hx _=>hx)).trans f47 (by simp)
  have noa:oa ∉ qsOf rs:=fun k=>by have:=hqs _ k;omega
  have nob:ob ∉ qsOf rs:=fun k=>by have:=hqs _ k;omega
  have f73:=Fr.up H7 3 []
  have n7:H7.next=m5+4:=rfl
  obtain⟨H8,L6,w8,wr8,f8⟩:=ap6_loop (B:=H.next) (N:=rsa.length) (va:= .slice ao rsa.length ac) (vb:= .slice bo rsb.length bc) (ov:=ov) (tv:=tv) (oa:=oa) (by omega) rfl (vsOf rsa) 0 (up H7 3) (by simp) (by show H.next≤H7.next+3;omega) ((ta.out.fr f07 noa).fr f73 (by simp)) (fun x hx=>by obtain⟨r,hr,rfl⟩:=List.mem_map.1 hx;exact(ta.inn r hr).rd.sv) (fun h=>((wa (by simpa using h)).fr f07 noa).fr f73 (by simp))
  have n8:H7.next+3≤H8.next:=f8.next
  have f78:Fr H7 H8 [oa]:=(f73.sub (M:= [oa]) (by simp)).trans f8 (fun x hx _=>hx)
  have f83:=Fr.up H8 3 []
  have obA:ob ∉ [oa]:=by simp;omega
  have oaB:oa ∉ [ob]:=by simp;omega
  obtain⟨H9,L7,w9,wr9,f9⟩:=ap7_loop (B:=H.next) (N:=rsb.length) (va:= .slice ao rsa.length ac) (vb:= .slice bo rsb.length bc) (ov:=ov) (tv:=tv) (oa:=ob) (by omega) rfl (vsOf rsb) 0 (up H8 3) (by simp) (by show H.next≤H8.next+3;omega) (((tb.out.fr f07 nob).fr f78 obA).fr f83 (by simp)) (fun x hx=>by obtain⟨r,hr,rfl⟩:=List.mem_map.1 hx;exact(tb.inn r hr).rd.sv) (fun h=>(((wb (by simpa using h)).fr f07 nob).fr f78 obA).fr f83 (by simp))
  have n9:H8.next+3≤H9.next:=f9.next
  have f89:Fr H8 H9 [ob]:=(f83.sub (M:= [ob]) (by simp)).trans f9 (fun x hx _=>hx)
  have f95:=Fr.up H9 5 []
  obtain⟨H10,x,y,qx,qy,L8,gx,gy,n10,k10⟩:=ap8_loop (B:=H.next) (E:=H9.next) (va:= .slice ao rsa.length ac) (vb:= .slice bo rsb.length bc) (ov:=ov) (tv:=tv) (oa:=oa) (ob:=ob) (la:=List.replicate rsa.length ov) (lb:=List.replicate rsb.length tv) (by simp;omega) (by simp;omega) rfl rfl (by omega) (by omega) (by omega) 20 0 oa ob (up H9 5) (.slice ao rsa.length ac) (.slice bo rsb.length bc) (by omega) (by show H.next≤H9.next+5;omega) (by show H9.next≤H9.next+5;omega) (.inl rfl) (.inl rfl) (by omega) (by show oa<H9.next+5;omega) (by show ob<H9.next+5;omega) (.inl ⟨rfl,rfl,rfl,(w8.fr f89 oaB).fr f95 (by simp),(wr8.fr f89 oaB).fr f95 (by simp)⟩) (.inl ⟨rfl,rfl,rfl,w9.fr f95 (by simp),wr9.fr f95 (by simp)⟩)
  have n10:H9.next+5≤H10.next:=n10
  have f9x:Fr H9 H10 [oa,ob]:=⟨by omega,fun z hz h=>by
    simp only [List.mem_cons,List.not_mem_nil,or_false,not_or]at h
    exact k10 z hz h.1 h.2⟩
  have p1:Rd H10 m5 ov [.str [111,110,101]]:=((r7a.fr f78 (by simp;omega)).fr f89 (by simp;omega)).fr f9x (by simp;omega)
  have p2:Rd H10 (m5+1) tv [.str [116,119,111]]:=((r7b.fr f78 (by simp;omega)).fr f89 (by simp;omega)).fr f9x (by simp;omega)
  obtain⟨ra,rx⟩:=gx.rd
  obtain⟨rb,ry⟩:=gy.rd
  rw [List.replicate_append_replicate]at rx ry
  obtain⟨xo,xc,hx⟩:=rx.sl
  obtain⟨yo,yc,hy⟩:=ry.sl
  rw [List.length_replicate]at hx hy
  subst hx hy
  have fx3:=Fr.up H10 3 []
  obtain⟨m11,hm11,L9⟩:=ap9_loop (B:=H.next) (ao:=ao) (ac:=ac) (vb:= .slice bo rsb.length bc) (y:= .slice yo (rsb.length+20) yc) (na:=rsa.length) (by omega) (rsa.length+20) 0 (up H10 3) (by omega) (by show H.next≤H10.next+3;omega) (ra.fr fx3 (by simp)) (rx.fr fx3 (by simp)) (p1.fr fx3 (by simp))
  have hm11:H10.next+3≤m11:=hm11
  have fx4:Fr H10 ⟨m11+3,H10.blks⟩ []:=⟨by show H10.next≤m11+3;omega,fun _ _ _=>rfl⟩
  obtain⟨m12,hm12,L10⟩:=ap10_loop (B:=H.next) (ao:=bo) (ac:=bc) (na:=rsb.length) (by omega) (rsb.length+20) 0 ⟨m11+3,H10.blks⟩ (by omega) (by show H.next≤m11+3;omega) (rb.fr fx4 (by simp)) (ry.fr fx4 (by simp)) (p2.fr fx4 (by simp))
  have hm12:m11+3≤m12:=hm12
  subst hlv
  obtain⟨v,h1,hd',rfl,rfl⟩:=apart_vc H H1 H2 H3 H4 H5 H6 H7 H8 H9 H10 ⟨m11,H10.blks⟩ ⟨m12,H10.blks⟩ H lo rs.length lc rsa.length ac rsb.length bc (rsa.length+20) xc (rsb.length+20) yc m5 (m5+1) ao bo xo yo l1 lg (fun v h1=>v= .bool true∧h1=⟨m12+1,H10.blks⟩)
    (bifL (Nat.le_refl _) (bifL (by omega) (bifL (by omega) ⟨e1,bifL (by omega) ⟨e2,bifL (by omega) ⟨Runs.of_loops L0,bifL (by omega) (bifL (by omega) ⟨Runs.of_loops L2,bifL (by omega) ⟨Runs.of_loops L4,bifL (by show H.next≤m5;omega) ⟨bOne _ _ _,bTwo _ _ _,bifL (by show H.next≤m5+4;omega) ⟨Runs.of_loops L6,bifL (by omega) ⟨Runs.of_loops L7,bifL (by omega) (bifL (by omega) ⟨Runs.of_loops L8,bifL (by omega) ⟨Runs.of_loops L9,bifL (by show H.next≤m11;omega) ⟨Runs.of_loops L10,bifL (by show H.next≤m12;omega) (condL (by show H.next≤m12+1;omega) ⟨rfl,rfl⟩)⟩⟩⟩)⟩⟩⟩⟩⟩)⟩⟩⟩)))
  refine⟨_,hd',by show H.next≤m12+1;omega,fun z hz ha hb=> ?_⟩
  show H10.get z=H.get z
  rw [f9x.get z (by omega) (by simp;omega),f89.get z (by omega) (by simp;omega),f78.get z (by omega) (by simp;omega),f07.get z hz (fun k=>by have:=hqs _ k;omega)]
end Go.Proofs.YtjpfnbihopoeeaaGreatDoor
namespace Go.Proofs.YtjpfnbihopoeeaaGreatDoor
open Go.Lift
set_option maxRecDepth 1000000
end Go.Proofs.YtjpfnbihopoeeaaGreatDoor
namespace Go.Proofs.YtjpfnbihopoeeaaGreatDoor
open Go.Lift
set_option maxRecDepth 1000000
end Go.Proofs.YtjpfnbihopoeeaaGreatDoor
namespace Go.Proofs.YtjpfnbihopoeeaaGreatDoor
open Go.Lift
set_option maxRecDepth 1000000
theorem works_run:saysTrue (fcall Tryz.prog env 400 18 [] ⟨0,.nil⟩)=true:=by decide+kernel
end Go.Proofs.YtjpfnbihopoeeaaGreatDoor
namespace Go.Proofs.YtjpfnbihopoeeaaGreatDoor
open Go.Lift
set_option maxRecDepth 1000000
theorem works_does(H:AHeap):FDoes Tryz.prog cnd 18 [] H (.bool true) H:=by
  obtain⟨h',hc⟩:=fcall_true works_run
  exact FDoes.ofVC ⟨_,_,FDoes.of_acall env_ok mixed hc,rfl⟩ rfl rfl H
def worksS:List AVal→AHeap→Option Alts:=pureS fun a=>match a with | []=>some (.bool true,[]) | _=>none
theorem worksS_ok: ∀ args h a,worksS args h=some a→a.Ok Tryz.prog cnd 18 args h:=by
  refine pureS_ok ?_
  intro args v ps e hp H
  split at e<;>first | (cases e;done) | skip
  simp only [Option.some.injEq,Prod.mk.injEq]at e
  obtain⟨rfl,rfl⟩:=e
  exact works_does H
noncomputable def specsW:Specs:=noSpecs.add 18 worksS
theorem specsW_ok:SpecsOk Tryz.prog cnd specsW:=noSpecs_ok.add worksS_ok
theorem reads_vc(H H1 H2 H3 H4 H5 H6 H7 H8 H9 H10 H11 H12 H13:AHeap)(s t:Bys)(vw vm va vb vo vd:AVal)(K0:AVal→AHeap→Prop)(vc:bif Nat.ble (AHeap.next H) (AHeap.next H) && true then bif Nat.ble (AHeap.next H) (AHeap.next H+1) && true then CallT Tryz.prog cnd 14 [AVal.str s] (AHeap.mk (AHeap.next H+4) (H.2)) vw H1∧bif Nat.ble (AHeap.next H) (AHeap.next H1) && true then CallT Tryz.prog cnd 14 [AVal.str t] (AHeap.mk (AHeap.next H1+3) (H1.2)) vm H2∧bif Nat.ble (AHeap.next H) (AHeap.next H2) && true then CallT Tryz.prog cnd 15 [AVal.str s] (AHeap.mk (AHeap.next H2+3) (H2.2)) va H3∧bif Nat.ble (AHeap.next H) (AHeap.next H3) && true then CallT Tryz.prog cnd 15 [AVal.str s] (AHeap.mk (AHeap.next H3+3) (H3.2)) vb H4∧bif Nat.ble (AHeap.next H) (AHeap.next H4) && true then CallT Tryz.prog cnd 15 [AVal.str t] (AHeap.mk (AHeap.next H4+3) (H4.2)) vo H5∧bif Nat.ble (AHeap.next H) (AHeap.next H5) && true then CallT Tryz.prog cnd 15 [AVal.str s] (AHeap.mk (AHeap.next H5+3) (H5.2)) vd H6∧bif Nat.ble (AHeap.next H) (AHeap.next H6) && true then CallT Tryz.prog cnd 16 [va,vw] (AHeap.mk (AHeap.next H6+22) (H6.2)) (AVal.bool true) H7∧CallT Tryz.prog cnd 16 [vb,vw] H7 (AVal.bool true) H8∧CallT Tryz.prog cnd 16 [vo,vm] H8 (AVal.bool true) H9∧CallT Tryz.prog cnd 16 [vd,vw] H9 (AVal.bool true) H10∧Agree [va,vw] [vb,vw] (AHeap.mk (AHeap.next H6+22) (H6.2)) H7 (AVal.bool true) (AVal.bool true) H7 H8∧Agree [va,vw] [vo,vm] (AHeap.mk (AHeap.next H6+22) (H6.2)) H8 (AVal.bool true) (AVal.bool true) H7 H9∧Agree [va,vw] [vd,vw] (AHeap.mk (AHeap.next H6+22) (H6.2)) H9 (AVal.bool true) (AVal.bool true) H7 H10∧Agree [vb,vw] [vo,vm] H7 H8 (AVal.bool true) (AVal.bool true) H8 H9∧Agree [vb,vw] [vd,vw] H7 H9 (AVal.bool true) (AVal.bool true) H8 H10∧Agree [vo,vm] [vd,vw] H8 H9 (AVal.bool true) (AVal.bool true) H9 H10∧bif Nat.ble (AHeap.next H) (AHeap.next H10) && true then CallT Tryz.prog cnd 17 [va,vo] (AHeap.mk (AHeap.next H10+17) (H10.2)) (AVal.bool true) H11∧CallT Tryz.prog cnd 16 [vb,vw] H11 (AVal.bool true) H12∧CallT Tryz.prog cnd 16 [vd,vw] H12 (AVal.bool true) H13∧Agree [vb,vw] [vd,vw] H11 H12 (AVal.bool true) (AVal.bool true) H12 H13∧bif Nat.ble (AHeap.next H) (AHeap.next H13)then K0 (AVal.bool true) H13 else False else False else False else False else False else False else False else False else False else False) :
    ∃ v h1,FDoes Tryz.prog cnd 3 [.str s,.str t] H v h1∧K0 v h1 :=
  tcall_does env_ok mixed specsW_ok (hs:= .hint (.act 1001 vw fun x=>H1) (.hint (.act 2001 vm fun x=>H2) (.hint (.act 3001 va fun x=>H3) (.hint (.act 4001 vb fun x=>H4) (.hint (.act 5001 vo fun x=>H5) (.hint (.act 6001 vd fun x=>H6) (.hint (.act 7002 (AVal.bool true) fun x=>H7) (.hint (.act 7007 (AVal.bool true) fun x=>H8) (.hint (.act 7013 (AVal.bool true) fun x=>H9) (.hint (.act 7019 (AVal.bool true) fun x=>H10) (.hint (.act 9002 (AVal.bool true) fun x=>H11) (.hint (.act 9006 (AVal.bool true) fun x=>H12) (.hint (.act 9011 (AVal.bool true) fun x=>H13) .nil))))))))))))) (by kernel_rfl) vc
end Go.Proofs.YtjpfnbihopoeeaaGreatDoor
namespace Go.Proofs.YtjpfnbihopoeeaaGreatDoor
open Go.Lift
set_option maxRecDepth 1000000
theorem agNe {a b:List AVal}{h k h' k':AHeap}{v u:AVal}(e:h.next≠k.next):Agree a b h k v u h' k':=⟨fun _ q=>absurd (congrArg AHeap.next q) e⟩
theorem same1 {H:AHeap}{B1 B2 E1 E2 o1 o2:Nat}{va vb:AVal}{rs1 rs2:List Rr}(he:lsOf rs1=lsOf rs2)(hl:rs1.length<2^60)(hs: ∀ r∈rs1,r.l.length<2^60)(r1:Tr H B1 E1 va o1 rs1)(r2:Tr H B2 E2 vb o2 rs2) :
    ∃ n,H.next<n∧FDoes Tryz.prog cnd 16 [va,vb] H (.bool true) ⟨n,H.blks⟩:=by
  obtain⟨n,hn,D⟩:=same_does he hl hs r1 r2
  exact⟨n+1,by omega,bump (h':=⟨n,H.blks⟩) D (by show n≤n+1;omega)⟩
theorem rowsOf_len(s:Bys):(rowsOf s).length≤s.length+1:=by
  unfold rowsOf
  split
  · simp
  · rw [List.length_map];exact partsAt_few 10 s
theorem rowsOf_row {s:Bys}{l:List Bys}(h:l∈rowsOf s):l.length≤s.length+1∧l≠ []:=by
  unfold rowsOf at h
  split at h
  · simp at h
  · obtain⟨w,hw,rfl⟩:=List.mem_map.1 h
    have h1:=partsAt_few 9 w
    have h2:=partsAt_lens 10 s w hw
    exact⟨by omega,partsAt_ne 9 w⟩
theorem reads_core(s t:Bys)(hs:s.length<2^36)(ht:t.length<2^36)(H:AHeap): ∃ h',FDoes Tryz.prog cnd 3 [.str s,.str t] H (.bool true) h':=by
  have lens: ∀ {u:Bys} {rs:List Rr},lsOf rs=rowsOf u→u.length<2^36→rs.length<2^38∧ ∀ r∈rs,r.l.length<2^38∧r.l≠ []:=by
    intro u rs h hu
    have h1:=rowsOf_len u
    have h2:=congrArg List.length h
    rw [List.length_map]at h2
    refine⟨by omega,fun r hr=> ?_⟩
    have h3:=rowsOf_row (s:=u) (l:=r.l) (by rw [← h];exact List.mem_map.2 ⟨r,hr,rfl⟩)
    exact⟨by omega,h3.2⟩
  obtain⟨vw,H1,Bw,ow,rw',Dw,Tw,ew,bw,nw,fw⟩:=drows_does s (by omega) (up H 4)
  have nw:H.next+4≤H1.next:=nw
  obtain⟨vm,H2,Bm,om,rm,Dm,Tm,em,bm,nm,fm⟩:=drows_does t (by omega) (up H1 3)
  have nm:H1.next+3≤H2.next:=nm
  have bm:H1.next+3≤Bm:=bm
  obtain⟨va,H3,Ba,oa,ra,Da,Ta,ea,ba,na,fa,za⟩:=rows_does s (by omega) (up H2 3)
  have na:H2.next+3≤H3.next:=na
  have ba:H2.next+3≤Ba:=ba
  obtain⟨vb,H4,Bb,ob,rb,Db,Tbb,eb,bb,nb,fb,zb⟩:=rows_does s (by omega) (up H3 3)
  have nb:H3.next+3≤H4.next:=nb
  have bb:H3.next+3≤Bb:=bb
  obtain⟨vo,H5,Bo,oo,ro,Do,To,eo,bo,no,fo,zo⟩:=rows_does t (by omega) (up H4 3)
  have no:H4.next+3≤H5.next:=no
  have bo:H4.next+3≤Bo:=bo
  obtain⟨vd,H6,Bd,od,rd,Dd,Td,ed,bd,nd,fd,zd⟩:=rows_does s (by omega) (up H5 3)
  have nd:H5.next+3≤H6.next:=nd
  have bd:H5.next+3≤Bd:=bd
  have g12:Fr H1 H2 []:=(Fr.up H1 3 []).trans fm (by simp)
  have g23:Fr H2 H3 []:=(Fr.up H2 3 []).trans fa (by simp)
  have g34:Fr H3 H4 []:=(Fr.up H3 3 []).trans fb (by simp)
  have g45:Fr H4 H5 []:=(Fr.up H4 3 []).trans fo (by simp)
  have g56:Fr H5 H6 []:=(Fr.up H5 3 []).trans fd (by simp)
  have g46:=g45.trans g56 (by simp)
  have g36:=g34.trans g46 (by simp)
  have g26:=g23.trans g36 (by simp)
  have g16:=g12.trans g26 (by simp)
  have W6:=Tw.fr g16 (by simp)
  have M6:=Tm.fr g26 (by simp)
  have A6:=Ta.fr g36 (by simp)
  have B6:=Tbb.fr g46 (by simp)
  have O6:=To.fr g56 (by simp)
  obtain⟨lw,sw⟩:=lens ew hs
  obtain⟨lm,sm⟩:=lens em ht
  obtain⟨la,sa⟩:=lens ea hs
  obtain⟨lb,sb⟩:=lens eb hs
  obtain⟨lo,so⟩:=lens eo ht
  obtain⟨ld,sd⟩:=lens ed hs
  have sm60: ∀ {rs:List Rr},(∀ r∈rs,r.l.length<2^38∧r.l≠ [])→ ∀ r∈rs,r.l.length<2^60:=fun h r hr=>by have:=(h r hr).1;omega
  have u6:=Fr.up H6 22 []
  obtain⟨n7,h7,D7⟩:=same1 (H:=up H6 22) (ea.trans ew.symm) (by omega) (sm60 sa) (A6.fr u6 (by simp)).tr (W6.fr u6 (by simp)).tr
  have h7:H6.next+22<n7:=h7
  have u7:Fr H6 ⟨n7,H6.blks⟩ []:=⟨by show H6.next≤n7;omega,fun _ _ _=>rfl⟩
  obtain⟨n8,h8,D8⟩:=same1 (H:=⟨n7,H6.blks⟩) (eb.trans ew.symm) (by omega) (sm60 sb) (B6.fr u7 (by simp)).tr (W6.fr u7 (by simp)).tr
  have h8:n7<n8:=h8
  have u8:Fr H6 ⟨n8,H6.blks⟩ []:=⟨by show H6.next≤n8;omega,fun _ _ _=>rfl⟩
  obtain⟨n9,h9,D9⟩:=same1 (H:=⟨n8,H6.blks⟩) (eo.trans em.symm) (by omega) (sm60 so) (O6.fr u8 (by simp)).tr (M6.fr u8 (by simp)).tr
  have h9:n8<n9:=h9
  have u9:Fr H6 ⟨n9,H6.blks⟩ []:=⟨by show H6.next≤n9;omega,fun _ _ _=>rfl⟩
  obtain⟨n10,h10,D10⟩:=same1 (H:=⟨n9,H6.blks⟩) (ed.trans ew.symm) (by omega) (sm60 sd) (Td.fr u9 (by simp)).tr (W6.fr u9 (by simp)).tr
  have h10:n9<n10:=h10
  have u10:Fr H6 ⟨n10+17,H6.blks⟩ []:=⟨by show H6.next≤n10+17;omega,fun _ _ _=>rfl⟩
  obtain⟨H11,D11,n11,k11⟩:=apart_does (A6.fr u10 (by simp)) (O6.fr u10 (by simp)) (by omega) (by show H5.next≤n10+17;omega) la lo (fun r hr=>by have:=(sa r hr).1;omega) (fun r hr=>by have:=(so r hr).1;omega) (fun r hr h=>absurd h (sa r hr).2) (fun r hr h=>absurd h (so r hr).2) (fun h=> .inl (za h)) (fun h=> .inl (zo h))
  have n11:n10+17≤H11.next:=n11
  have keep: ∀ {Bx Ex:Nat} {v:AVal} {o:Nat} {rs:List Rr},Tb H6 Bx Ex v o rs→Ex≤H6.next→(Ex≤Ba∨H3.next≤Bx)→(Ex≤Bo∨H5.next≤Bx)→Tr H11 Bx Ex v o rs:=by
    intro Bx Ex v o rs T hE h1 h2
    have f: ∀ x,Bx≤x→x<Ex→H11.get x=H6.get x:=fun x hx1 hx2=>k11 x (by show x<n10+17;omega) (by omega) (by omega)
    have rd: ∀ {q:Nat} {v:AVal} {els:List AVal},Bx≤q→q<Ex→Rd H6 q v els→Rd H11 q v els:=by
      intro q v els h1 h2 ⟨oo,c,e,z,k⟩
      exact⟨oo,c,e,z,k.imp_right fun⟨ver,off,b,k1,k2,k3,k4⟩=>⟨ver,off,b,k1,by omega,(f q h1 h2).trans k3,k4⟩⟩
    have t:=T.tr
    exact⟨rd (t.ge o (by simp)).1 (t.ge o (by simp)).2 t.out,fun r hr=>by
      have:=t.ge r.q (List.mem_cons_of_mem _ (List.mem_map.2 ⟨r,hr,rfl⟩))
      exact rd this.1 this.2 (t.inn r hr),t.ge⟩
  have hbw:=Tw.ge ow (by simp)
  have hbm:=Tm.ge om (by simp)
  have hba:=Ta.ge oa (by simp)
  have hbb:=Tbb.ge ob (by simp)
  have hbo:=To.ge oo (by simp)
  have hbd:=Td.ge od (by simp)
  have W11:=keep W6 (by omega) (.inl (by omega)) (.inl (by omega))
  have B11:=keep B6 (by omega) (.inr (by omega)) (.inl (by omega))
  have D11':=keep Td (Nat.le_refl _) (.inr (by omega)) (.inr (by omega))
  obtain⟨n12,h12,D12⟩:=same1 (eb.trans ew.symm) (by omega) (sm60 sb) B11 W11
  have u12:Fr H11 ⟨n12,H11.blks⟩ []:=⟨by show H11.next≤n12;omega,fun _ _ _=>rfl⟩
  obtain⟨n13,h13,D13⟩:=same1 (H:=⟨n12,H11.blks⟩) (ed.trans ew.symm) (by omega) (sm60 sd) (D11'.fr u12 (by simp)) (W11.fr u12 (by simp))
  have h13:n12<n13:=h13
  obtain⟨v,h1,hd,rfl⟩:=reads_vc H H1 H2 H3 H4 H5 H6 ⟨n7,H6.blks⟩ ⟨n8,H6.blks⟩ ⟨n9,H6.blks⟩ ⟨n10,H6.blks⟩ H11 ⟨n12,H11.blks⟩ ⟨n13,H11.blks⟩ s t vw vm va vb vo vd (fun v _=>v= .bool true)
    (bifL (Nat.le_refl _) (bifL (by omega) ⟨⟨Dw⟩,bifL (by omega) ⟨⟨Dm⟩,bifL (by omega) ⟨⟨Da⟩,bifL (by omega) ⟨⟨Db⟩,bifL (by omega) ⟨⟨Do⟩,bifL (by omega) ⟨⟨Dd⟩,bifL (by omega) ⟨⟨D7⟩,⟨D8⟩,⟨D9⟩,⟨D10⟩,
      agNe (by show ¬ H6.next+22=n7;omega),agNe (by show ¬ H6.next+22=n8;omega),agNe (by show ¬ H6.next+22=n9;omega),agNe (by show ¬ n7=n8;omega),agNe (by show ¬ n7=n9;omega),agNe (by show ¬ n8=n9;omega),
      bifL (by show H.next≤n10;omega) ⟨⟨D11⟩,⟨D12⟩,⟨D13⟩,agNe (by show ¬ H11.next=n12;omega),condL (by show H.next≤n13;omega) rfl⟩⟩⟩⟩⟩⟩⟩⟩))
  exact⟨h1,hd⟩
end Go.Proofs.YtjpfnbihopoeeaaGreatDoor
namespace Go.Lift
noncomputable section
open Go.RowKit Go.ChangeShapes Go.WideShapes Go.ChangeAt
theorem FDoes.law {P:Program}{C:(Nat→Prop)→World→Prop}{f:FuncId}{args:List AVal}{h h':AHeap}(k:FDoes P C f args h (.bool true) h'){w:World}(hC:C (fun k=>k<w.heap.size) w){φ:Map}(hl:HRel φ (fun k=>k<w.heap.size) h w){args':Array Value}(ha:VRels φ args args'.toList) :
    Calls P f args' w fun e w'=>e= .returned (.bool true)∧Below w.heap.size w w':=by
  have:=(k (fun k=>k<w.heap.size) w (fun _ h=>h) hC _ w args' hl (Safe.refl _ _) ha).2
  exact this.mono fun e w' ⟨v',φ',h1,_,h2,_,h3,_⟩=>by
    simp only [VRel]at h2
    subst h2;exact⟨h1,h3.below⟩
end
end Go.Lift
namespace Go.Lift
noncomputable section
open Go.RowKit Go.ChangeShapes Go.WideShapes Go.ChangeAt
def cellKind (P:Program):Nat→TypeId→Nat→Option TK
  | 0,_,_=>none
  | d+1,t,c =>
    match P.underlying t with
    | some (.int k)=>if c=0 then some (.int k)else none
    | some .bool=>if c=0 then some .bool else none
    | some .string=>if c=0 then some .string else none
    | some (.struct fs)=>fs.toList.findSome? fun f=>if f.offset≤c∧c<f.offset+P.cellsOf f.type then cellKind P d f.type (c-f.offset)else none
    | some (.array n e)=>if c / P.cellsOf e<n then cellKind P d e (c % P.cellsOf e)else none
    | _=>none
section
variable {H:Type}{enc:TypeId×Value→H}{P:Program}{w:World}{base:Nat}{spare:Nat→Bool}{held:Bool}
theorem weights_cons {t:TypeId}{ts:List TypeId}{d:DataW H}{ds:List (DataW H)}{R:Nat}(h: ∀ y∈DataW.weightsEach P (t::ts) (d::ds),y≤R):(∀ y∈d.weights P t,y≤R)∧ ∀ y∈DataW.weightsEach P ts ds,y≤R :=
  ⟨fun y hy=>h y (by simp [DataW.weightsEach,hy]),fun y hy=>h y (by simp [DataW.weightsEach,hy])⟩
end
end
end Go.Lift
namespace Go.Lift
noncomputable section
open Go.RowKit Go.ChangeShapes Go.WideShapes Go.ChangeAt
theorem weights_each {H:Type}{P:Program} : ∀ {ts:List TypeId} {ds:List (DataW H)} {j:Nat} {t:TypeId} {d:DataW H} {y:Nat},ts[j]? =some t→ds[j]? =some d→y∈d.weights P t→y∈DataW.weightsEach P ts ds
  | [],_,_,_,_,_,h,_,_=>by cases h
  | _::_,[],_,_,_,_,_,h,_=>by cases h
  | t::ts,d::ds,0,_,_,_,h1,h2,h3=>by
    simp at h1 h2;subst h1 h2
    simp only [DataW.weightsEach,List.mem_append];exact .inl h3
  | t::ts,d::ds,j+1,_,_,_,h1,h2,h3=>by
    simp only [DataW.weightsEach,List.mem_append];exact .inr (weights_each (j:=j) (by simpa using h1) (by simpa using h2) h3)
theorem weights_all {H:Type}{P:Program}{e:TypeId}{ds:List (DataW H)}{d:DataW H}{y:Nat}(hd:d∈ds)(h3:y∈d.weights P e):y∈DataW.weightsAll P e ds:=by
  induction ds with
  | nil=>cases hd
  | cons a r ih =>
    simp only [DataW.weightsAll,List.mem_append]
    rcases List.mem_cons.1 hd with rfl | hd
    · exact .inl h3
    · exact .inr (ih hd)
section
variable {H:Type}{enc:TypeId×Value→H}{P:Program}{w:World}{base:Nat}{spare:Nat→Bool}{held:Bool}
theorem cell_weight: ∀ (d:Nat) {t:TypeId} {c:Nat} {fuel:Nat} {cs:List Value} {x:DataW H×List MemPlace},cellKind P d t c=some .string→DataW.trod enc P w base spare held fuel t cs=some x→ ∃ s:ByteArray,cs[c]? =some (.string s)∧s.size∈x.1.weights P t:=by
  intro d
  induction d with
  | zero=>intro t c fuel cs x h;cases h
  | succ d ih =>
    intro t c fuel cs x h hx
    simp only [cellKind]at h
    split at h
    · split at h<;>cases h
    · split at h<;>cases h
    · rename_i hu
      split at h
      · rename_i hc;subst hc
        obtain⟨s,rfl,hx',hs⟩:=DataW.trod_string hu hx
        subst hx'
        exact⟨s,rfl,by rw [DataW.weights];exact List.mem_singleton.2 (show s.data.size=s.data.toList.length from Array.length_toList.symm)⟩
      · cases h
    · rename_i fs hu
      obtain⟨f,hf,hk⟩:=List.exists_of_findSome?_eq_some h
      split at hk
      · rename_i hc
        obtain⟨xs,n,_,he,hl,hxl,hfs⟩:=DataW.trod_struct hu hx
        obtain⟨j,hj,hfj⟩:=List.mem_iff_getElem.1 hf
        have hj':fs[j]? =some f:=by rw [← Array.getElem?_toList,List.getElem?_eq_getElem hj,hfj]
        have h1:=hfs j f hj'
        have hjx:j<xs.length:=by rw [hxl];simpa using hj
        rw [List.getElem?_eq_getElem hjx]at h1
        obtain⟨v,hv,his⟩:=ih hk h1
        rw [List.getElem?_take]at hv
        split at hv
        · rw [List.getElem?_drop,show f.offset+(c-f.offset)=c by omega]at hv
          refine⟨v,hv,?_⟩
          subst he
          simp only [DataW.weights,hu]
          exact weights_each (j:=j) (by simp [hj']) (by simp [hjx]) his
        · cases hv
      · cases hk
    · rename_i n e hu
      split at h
      · rename_i hc
        obtain⟨xs,m,_,he,hl,hxl,hes⟩:=DataW.trod_array hu hx
        have h1:=hes _ hc
        rw [List.getElem?_eq_getElem (by omega)]at h1
        obtain⟨v,hv,his⟩:=ih h h1
        rw [List.getElem?_take]at hv
        split at hv
        · rw [List.getElem?_drop,Nat.mul_comm,Nat.div_add_mod]at hv
          refine⟨v,hv,?_⟩
          subst he
          simp only [DataW.weights,hu]
          exact weights_all (List.mem_map.2 ⟨_,List.getElem_mem _,rfl⟩) his
        · cases hv
      · cases h
    · cases h
end
end
end Go.Lift
namespace Go.Proofs.YtjpfnbihopoeeaaGreatDoor
open Go.ChangeShapes Go.WideShapes Go.ChangeAt Go.RowKit
open Go.Lift
set_option maxRecDepth 1000000
theorem bulk_str {H:Type}{enc:TypeId×Value→H}{P:Program}{w:World}{base:Nat}{spare:Nat→Bool}{held:Bool}{t:TypeId}(ht:P.underlying t=some .string){s:ByteArray}{dd:DataW H}{ps:List MemPlace}(h:DataW.Trod enc P w base spare held t (.string s) dd ps):s.size≤Rows.uptoBulk dd:=by
  obtain⟨fuel,hf⟩:=h
  have hf':DataW.trod enc P w base spare held fuel t [.string s]=some (dd,ps):=hf
  obtain⟨s',hcs,hx,_⟩:=DataW.trod_string ht hf'
  simp at hcs
  subst hcs
  simp only [Prod.mk.injEq]at hx
  rw [hx.1]
  simp only [Rows.uptoBulk]
  have:s.size=s.data.toList.length:=by show s.data.size=_;exact Array.length_toList.symm
  omega
theorem reads_law_at {H:Type}{d0 d1:DataW H}{a0 a1:ByteArray}(b0:a0.size≤Rows.uptoBulk d0)(b1:a1.size≤Rows.uptoBulk d1)(hk:Rows.uptoSmall H [d0,d1]=true)(h:AHeap): ∃ h',FDoes Tryz.prog cnd 3 [.str a0.data.toList,.str a1.data.toList] h (.bool true) h':=by
  have hq:Rows.uptoBulkAll [d0,d1]≤1048576:=of_decide_eq_true hk
  simp only [Rows.uptoBulkAll]at hq
  have e0:a0.size=a0.data.toList.length:=by show a0.data.size=_;exact Array.length_toList.symm
  have e1:a1.size=a1.data.toList.length:=by show a1.data.size=_;exact Array.length_toList.symm
  exact reads_core _ _ (by omega) (by omega) h
end Go.Proofs.YtjpfnbihopoeeaaGreatDoor
namespace Go.Proofs.YtjpfnbihopoeeaaGreatDoor
open Go.ChangeShapes Go.WideShapes Go.RowKit Go.Stop
open Go.Lift
set_option maxRecDepth 1000000
noncomputable def laidWorld(os:Os):World :=
  {World.doorLaid Tryz.prog 96 os with heap:=(World.doorLaid Tryz.prog 96 os).heap.modify 3 fun
      | .cells _ t frozen=> .cells (Go.Pinned.utf8FirstZ.map fun(z:Nat)=>Value.int .u8 (z:Int)).toArray t frozen
      | o=>o}
theorem laidMet_of_bits {P:Program}{w:World}{l:List (String×DataW Unit)}(fuel M:Nat)(h:(DataW.laidRun P w fuel (l.map (·.1))).bind (fun x=>if nodupBits M x.2 0 && laidRowsB P w x.2 then some x.1 else none)=some l):laidMet P l w:=by
  simp only [Option.bind_eq_some_iff]at h
  obtain⟨x,hx,d⟩:=h
  split at d
  · rename_i hb
    simp only [Bool.and_eq_true]at hb
    simp only [Option.some.injEq]at d
    exact laidMet_of_run (ps:=x.2) fuel (by rw [hx,← d]) (decide_eq_true (nodupBits_sound hb.1).1) hb.2
  · cases d
theorem laid_met(os:Os)(args:Array Value):laidMetH Tryz.prog Rows.tableKnownRow.laid ((laidWorld os).forCall (fun _ _=>0) ⟨#[],args,[]⟩).memory:=by
  rw [MakeChecks.laidMetH_plain _ _ _ (by kernel_rfl)]
  exact laidMet_of_bits 8 257 (by kernel_rfl)
theorem gSyn:Tryz.prog.globalNamed "strconv.ErrSyntax" =some 1:=by kernel_rfl
theorem gSynT:(Tryz.prog.globals[1]?).map (·.type)=some 100:=by kernel_rfl
theorem starE: "*" ++ "errors.errorString" = "*errors.errorString" :=by decide
theorem rowE(u:TypeId)(h:Tryz.prog.typeName? 3 u=some "*errors.errorString"):u=276 :=
  typeName_ptr_named (nm:= "errors.errorString") (by rw [starE];kernel_rfl) (by kernel_rfl) (by decide) u (by rw [starE];exact h)
theorem eCells:Tryz.prog.cellsOf 278=1:=by kernel_rfl
theorem strCells:Tryz.prog.cellsOf 9=1:=by kernel_rfl
theorem cell_of_var {P:Program}{W:World}{n:String}{g:Nat}{v:Value}(hg:P.globalNamed n=some g)(h:W.var? P n=some #[v]):W.cell? ⟨g,0,none⟩=some v∧g<W.heap.size:=by
  unfold World.var? at h
  rw [hg]at h
  simp only [Option.bind_some]at h
  split at h
  · rename_i cs t f hh
    simp only [Option.some.injEq]at h
    subst h
    refine⟨by simp [World.cell?,hh],(Array.getElem?_eq_some_iff.1 hh).1⟩
  · cases h
theorem cnd_of_laid {W:World}(h:laidMetH Tryz.prog Rows.tableKnownRow.laid W):cnd (fun k=>k<W.heap.size) W:=by
  rw [MakeChecks.laidMetH_plain _ _ _ (by kernel_rfl)]at h
  have h5:=laidMet.tail (laidMet.tail (laidMet.tail (laidMet.tail (laidMet.tail h))))
  obtain⟨a2,s2,hs,_⟩:=laid_sentinel h5 gSyn gSynT Tryz.underlying100 rowE Tryz.underlying276 Tryz.underlying278 rfl rfl Tryz.underlying9 eCells strCells
  obtain⟨s1,s2⟩:=cell_of_var gSyn hs
  exact⟨s2,⟨_,_,s1⟩⟩
end Go.Proofs.YtjpfnbihopoeeaaGreatDoor
