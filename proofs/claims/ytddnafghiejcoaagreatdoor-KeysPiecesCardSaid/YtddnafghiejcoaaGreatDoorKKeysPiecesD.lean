/-
  Parts of the proof of KeysPieces.
-/
import Derived.Test.YtddnafghiejcoaaGreatDoorKKeysPiecesC
set_option linter.unusedVariables false
set_option linter.unusedSimpArgs false
set_option linter.unusedSectionVars false
namespace Go.Proofs.YtddnafghiejcoaaGreatDoor
open Go.Lift Go.Keys
set_option maxRecDepth 1000000
abbrev byRow(l:List AVal)(v f:Nat):ABlk:= {elems:=l,es:=1,exact:=false,ro:=false,ver:=v,minVer:=0,forkLen:=f,ty:=some (5,0)}
abbrev zv22_0(v:Nat)(n:Nat):AVal:=AVal.slice (some ⟨0,v,0,0,1⟩) n n
abbrev zv22_1:AVal:=AVal.slice (some ⟨68,0,0,0,1⟩) 3 3
abbrev zv22_2:HT:=(hg 21001 (hg 21005 (hg 6000 .nil)))
abbrev zv22_3(v:Nat)(f:Nat)(l:List AVal):ABlk:=⟨l,1,false,false,v,0,f,some (21,0)⟩
abbrev zv22_4:AVal:=AVal.agg [.int .u8 239,.int .u8 191,.int .u8 189,.int .u8 0]
abbrev zv22_5(i:Nat)(l:List AVal):AVal:=AVal.agg [.int .u8 (ior IntKind.u8 (ishr IntKind.i32 (intAt l (0+Int.toNat (i:Int))) (6)) (192)),.int .u8 (ior IntKind.u8 (128) (iand IntKind.i32 (intAt l (0+Int.toNat (i:Int))) (63))),.int .u8 0,.int .u8 0]
abbrev zv22_6(i:Nat)(l:List AVal):AVal:=AVal.agg [.int .u8 (ior IntKind.u8 (ishr IntKind.i32 (ishr IntKind.i32 (intAt l (0+Int.toNat (i:Int))) (6)) (6)) (224)),.int .u8 (ior IntKind.u8 (128) (iand IntKind.i32 (ishr IntKind.i32 (intAt l (0+Int.toNat (i:Int))) (6)) (63))),.int .u8 (ior IntKind.u8 (128) (iand IntKind.i32 (intAt l (0+Int.toNat (i:Int))) (63))),.int .u8 0]
abbrev zv22_7(i:Nat)(l:List AVal):AVal:=AVal.agg [.int .u8 (ior IntKind.u8 (ishr IntKind.i32 (ishr IntKind.i32 (ishr IntKind.i32 (intAt l (0+Int.toNat (i:Int))) (6)) (6)) (6)) (240)),.int .u8 (ior IntKind.u8 (128) (iand IntKind.i32 (ishr IntKind.i32 (ishr IntKind.i32 (intAt l (0+Int.toNat (i:Int))) (6)) (6)) (63))),.int .u8 (ior IntKind.u8 (128) (iand IntKind.i32 (ishr IntKind.i32 (intAt l (0+Int.toNat (i:Int))) (6)) (63))),.int .u8 (ior IntKind.u8 (128) (iand IntKind.i32 (intAt l (0+Int.toNat (i:Int))) (63)))]
abbrev zv22_8:ABlk:=(ABlk.made ([zv22_4]) 4 true (some (95,4)))
abbrev zv22_9:HT:=(hg 19002 (hg 19003 (hg 20001 zv22_2)))
abbrev zv22_10(i:Nat)(v:Nat)(f:Nat)(l:List AVal):AHeap:=(AHeap.rowsT 34 [(0,(zv22_3 v f l)),(29,ABlk.made [.int .u8 (intAt l (0+Int.toNat (i:Int)))] 1 true),(30,ABlk.made [.int .u8 (intAt l (0+Int.toNat (i:Int)))] 1 false (some (5,0)))])
abbrev zv22_11(i:Nat)(v:Nat)(f:Nat)(l:List AVal):AHeap:=(AHeap.rowsT 63 [(0,(zv22_3 v f l)),(31,(ABlk.made ([(zv22_5 i l)]) 4 true (some (95,4)))),(59,ABlk.made [.int .u8 (ior IntKind.u8 (ishr IntKind.i32 (intAt l (0+Int.toNat (i:Int))) (6)) (192)),.int .u8 (ior IntKind.u8 (128) (iand IntKind.i32 (intAt l (0+Int.toNat (i:Int))) (63)))] 1 false (some (5,0)))])
abbrev zv22_12(i:Nat)(v:Nat)(f:Nat)(l:List AVal):AHeap:=(AHeap.rowsT 71 [(0,(zv22_3 v f l)),(32,(ABlk.made ([(zv22_6 i l)]) 4 true (some (95,4)))),(67,ABlk.made [.int .u8 (ior IntKind.u8 (ishr IntKind.i32 (ishr IntKind.i32 (intAt l (0+Int.toNat (i:Int))) (6)) (6)) (224)),.int .u8 (ior IntKind.u8 (128) (iand IntKind.i32 (ishr IntKind.i32 (intAt l (0+Int.toNat (i:Int))) (6)) (63))),.int .u8 (ior IntKind.u8 (128) (iand IntKind.i32 (intAt l (0+Int.toNat (i:Int))) (63)))] 1 false (some (5,0)))])
abbrev zv22_13(i:Nat)(v:Nat)(f:Nat)(l:List AVal):AHeap:=(AHeap.rowsT 78 [(0,(zv22_3 v f l)),(32,(ABlk.made ([(zv22_7 i l)]) 4 true (some (95,4)))),(74,ABlk.made [.int .u8 (ior IntKind.u8 (ishr IntKind.i32 (ishr IntKind.i32 (ishr IntKind.i32 (intAt l (0+Int.toNat (i:Int))) (6)) (6)) (6)) (240)),.int .u8 (ior IntKind.u8 (128) (iand IntKind.i32 (ishr IntKind.i32 (ishr IntKind.i32 (intAt l (0+Int.toNat (i:Int))) (6)) (6)) (63))),.int .u8 (ior IntKind.u8 (128) (iand IntKind.i32 (ishr IntKind.i32 (intAt l (0+Int.toNat (i:Int))) (6)) (63))),.int .u8 (ior IntKind.u8 (128) (iand IntKind.i32 (intAt l (0+Int.toNat (i:Int))) (63)))] 1 false (some (5,0)))])
abbrev zv22_14(i:Nat)(v:Nat)(f:Nat)(l:List AVal):AHeap:=(AHeap.rowsT 79 [(0,(zv22_3 v f l)),(33,(ABlk.made ([(zv22_7 i l)]) 4 true (some (95,4)))),(75,ABlk.made [.int .u8 (ior IntKind.u8 (ishr IntKind.i32 (ishr IntKind.i32 (ishr IntKind.i32 (intAt l (0+Int.toNat (i:Int))) (6)) (6)) (6)) (240)),.int .u8 (ior IntKind.u8 (128) (iand IntKind.i32 (ishr IntKind.i32 (ishr IntKind.i32 (intAt l (0+Int.toNat (i:Int))) (6)) (6)) (63))),.int .u8 (ior IntKind.u8 (128) (iand IntKind.i32 (ishr IntKind.i32 (intAt l (0+Int.toNat (i:Int))) (6)) (63))),.int .u8 (ior IntKind.u8 (128) (iand IntKind.i32 (intAt l (0+Int.toNat (i:Int))) (63)))] 1 false (some (5,0)))])
abbrev zv22_15:HT:=(hg 17003 (hg 18001 (hg 19001 zv22_9)))
abbrev zv22_16(v:Nat)(f:Nat)(l:List AVal):AHeap:=(AHeap.rowsT 72 [(0,(zv22_3 v f l)),(33,zv22_8),(68,ABlk.made [.int .u8 239,.int .u8 191,.int .u8 189] 1 false (some (5,0)))])
abbrev zv22_17(i:Nat)(v:Nat)(f:Nat)(n:Nat)(l:List AVal)(K0:AExit→Facts→AHeap→Prop):Prop:=(intAt l (0+Int.toNat (i:Int))<128→(0≤intAt l (0+Int.toNat (i:Int))∧intAt l (0+Int.toNat (i:Int))≤255)∧(-9223372036854775808≤(i:Int)+1∧(i:Int)+1≤9223372036854775807)∧K0 .normal [(3,.slice (some ⟨30,0,0,0,1⟩) 1 1),(6,(zv22_0 v n)),(7,.int .i64 (n:Int)),(8,.int .i64 ((i:Int)+1))] (zv22_10 i v f l))
abbrev zv22_18(i:Nat)(v:Nat)(f:Nat)(n:Nat)(l:List AVal)(K0:AExit→Facts→AHeap→Prop):Prop:=(¬65536≤intAt l (0+Int.toNat (i:Int))→True∧(0≤iand IntKind.i32 (intAt l (0+Int.toNat (i:Int))) (63)∧iand IntKind.i32 (intAt l (0+Int.toNat (i:Int))) (63)≤255)∧True∧Int.NonNeg (6-0)∧(0≤ishr IntKind.i32 (intAt l (0+Int.toNat (i:Int))) (6)∧ishr IntKind.i32 (intAt l (0+Int.toNat (i:Int))) (6)≤255)∧True∧(-9223372036854775808≤(i:Int)+1∧(i:Int)+1≤9223372036854775807)∧K0 .normal [(3,.slice (some ⟨59,0,0,0,1⟩) 2 2),(6,(zv22_0 v n)),(7,.int .i64 (n:Int)),(8,.int .i64 ((i:Int)+1))] (zv22_11 i v f l))
abbrev zv22_19(i:Nat)(v:Nat)(f:Nat)(n:Nat)(l:List AVal)(K0:AExit→Facts→AHeap→Prop):Prop:=(¬65536≤intAt l (0+Int.toNat (i:Int))→True∧(0≤iand IntKind.i32 (intAt l (0+Int.toNat (i:Int))) (63)∧iand IntKind.i32 (intAt l (0+Int.toNat (i:Int))) (63)≤255)∧True∧Int.NonNeg (6-0)∧True∧(0≤iand IntKind.i32 (ishr IntKind.i32 (intAt l (0+Int.toNat (i:Int))) (6)) (63)∧iand IntKind.i32 (ishr IntKind.i32 (intAt l (0+Int.toNat (i:Int))) (6)) (63)≤255)∧True∧Int.NonNeg (6-0)∧(0≤ishr IntKind.i32 (ishr IntKind.i32 (intAt l (0+Int.toNat (i:Int))) (6)) (6)∧ishr IntKind.i32 (ishr IntKind.i32 (intAt l (0+Int.toNat (i:Int))) (6)) (6)≤255)∧True∧(-9223372036854775808≤(i:Int)+1∧(i:Int)+1≤9223372036854775807)∧K0 .normal [(3,.slice (some ⟨67,0,0,0,1⟩) 3 3),(6,(zv22_0 v n)),(7,.int .i64 (n:Int)),(8,.int .i64 ((i:Int)+1))] (zv22_12 i v f l))
abbrev zv22_20(i:Nat)(v:Nat)(f:Nat)(n:Nat)(l:List AVal)(K0:AExit→Facts→AHeap→Prop):Prop:=(65536≤intAt l (0+Int.toNat (i:Int))→True∧(0≤iand IntKind.i32 (intAt l (0+Int.toNat (i:Int))) (63)∧iand IntKind.i32 (intAt l (0+Int.toNat (i:Int))) (63)≤255)∧True∧Int.NonNeg (6-0)∧True∧(0≤iand IntKind.i32 (ishr IntKind.i32 (intAt l (0+Int.toNat (i:Int))) (6)) (63)∧iand IntKind.i32 (ishr IntKind.i32 (intAt l (0+Int.toNat (i:Int))) (6)) (63)≤255)∧True∧Int.NonNeg (6-0)∧True∧(0≤iand IntKind.i32 (ishr IntKind.i32 (ishr IntKind.i32 (intAt l (0+Int.toNat (i:Int))) (6)) (6)) (63)∧iand IntKind.i32 (ishr IntKind.i32 (ishr IntKind.i32 (intAt l (0+Int.toNat (i:Int))) (6)) (6)) (63)≤255)∧True∧Int.NonNeg (6-0)∧(0≤ishr IntKind.i32 (ishr IntKind.i32 (ishr IntKind.i32 (intAt l (0+Int.toNat (i:Int))) (6)) (6)) (6)∧ishr IntKind.i32 (ishr IntKind.i32 (ishr IntKind.i32 (intAt l (0+Int.toNat (i:Int))) (6)) (6)) (6)≤255)∧True∧(-9223372036854775808≤(i:Int)+1∧(i:Int)+1≤9223372036854775807)∧K0 .normal [(3,.slice (some ⟨74,0,0,0,1⟩) 4 4),(6,(zv22_0 v n)),(7,.int .i64 (n:Int)),(8,.int .i64 ((i:Int)+1))] (zv22_13 i v f l))
abbrev zv22_21(i:Nat)(v:Nat)(f:Nat)(n:Nat)(l:List AVal)(K0:AExit→Facts→AHeap→Prop):Prop:=(65536≤intAt l (0+Int.toNat (i:Int))→True∧(0≤iand IntKind.i32 (intAt l (0+Int.toNat (i:Int))) (63)∧iand IntKind.i32 (intAt l (0+Int.toNat (i:Int))) (63)≤255)∧True∧Int.NonNeg (6-0)∧True∧(0≤iand IntKind.i32 (ishr IntKind.i32 (intAt l (0+Int.toNat (i:Int))) (6)) (63)∧iand IntKind.i32 (ishr IntKind.i32 (intAt l (0+Int.toNat (i:Int))) (6)) (63)≤255)∧True∧Int.NonNeg (6-0)∧True∧(0≤iand IntKind.i32 (ishr IntKind.i32 (ishr IntKind.i32 (intAt l (0+Int.toNat (i:Int))) (6)) (6)) (63)∧iand IntKind.i32 (ishr IntKind.i32 (ishr IntKind.i32 (intAt l (0+Int.toNat (i:Int))) (6)) (6)) (63)≤255)∧True∧Int.NonNeg (6-0)∧(0≤ishr IntKind.i32 (ishr IntKind.i32 (ishr IntKind.i32 (intAt l (0+Int.toNat (i:Int))) (6)) (6)) (6)∧ishr IntKind.i32 (ishr IntKind.i32 (ishr IntKind.i32 (intAt l (0+Int.toNat (i:Int))) (6)) (6)) (6)≤255)∧True∧(-9223372036854775808≤(i:Int)+1∧(i:Int)+1≤9223372036854775807)∧K0 .normal [(3,.slice (some ⟨75,0,0,0,1⟩) 4 4),(6,(zv22_0 v n)),(7,.int .i64 (n:Int)),(8,.int .i64 ((i:Int)+1))] (zv22_14 i v f l))
abbrev zv22_22:HT:=(hg 16001 (hg 17001 (hg 17002 zv22_15)))
abbrev zv22_23(i:Nat)(v:Nat)(f:Nat)(n:Nat)(l:List AVal)(K0:AExit→Facts→AHeap→Prop):Prop:=(1114111<intAt l (0+Int.toNat (i:Int))→(-9223372036854775808≤(i:Int)+1∧(i:Int)+1≤9223372036854775807)∧K0 .normal [(3,zv22_1),(6,(zv22_0 v n)),(7,.int .i64 (n:Int)),(8,.int .i64 ((i:Int)+1))] (zv22_16 v f l))
abbrev zv22_24:HT:=(hg 15001 (hg 15002 (hg 15003 zv22_22)))
abbrev zv22_25:HT:=(.br 6001 (.br 8001 zv22_24 (hg 17001 (hg 17002 zv22_15))) (.br 8001 zv22_24 (hg 19001 zv22_9)))
theorem text0_vp(i v f n:Nat)(l:List AVal)(K0:AExit→Facts→AHeap→Prop)(vc:((i:Int)<(n:Int)→(0≤(i:Int)∧(i:Int)<(n:Int))∧v=v∧l[0+Int.toNat (i:Int)]? =some (.int .i32 (intAt l (0+Int.toNat (i:Int))))∧(intAt l (0+Int.toNat (i:Int))<0→(-9223372036854775808≤(i:Int)+1∧(i:Int)+1≤9223372036854775807)∧K0 .normal [(3,zv22_1),(6,(zv22_0 v n)),(7,.int .i64 (n:Int)),(8,.int .i64 ((i:Int)+1))] (zv22_16 v f l))∧(¬intAt l (0+Int.toNat (i:Int))<0→(55296≤intAt l (0+Int.toNat (i:Int))→(intAt l (0+Int.toNat (i:Int))≤57343→(-9223372036854775808≤(i:Int)+1∧(i:Int)+1≤9223372036854775807)∧K0 .normal [(3,zv22_1),(6,(zv22_0 v n)),(7,.int .i64 (n:Int)),(8,.int .i64 ((i:Int)+1))] (zv22_16 v f l))∧(¬intAt l (0+Int.toNat (i:Int))≤57343→(zv22_23 i v f n l K0)∧(¬1114111<intAt l (0+Int.toNat (i:Int))→(zv22_17 i v f n l K0)∧(¬intAt l (0+Int.toNat (i:Int))<128→(2048≤intAt l (0+Int.toNat (i:Int))→(zv22_21 i v f n l K0)∧(zv22_19 i v f n l K0))∧(¬2048≤intAt l (0+Int.toNat (i:Int))→(zv22_20 i v f n l K0)∧(zv22_18 i v f n l K0))))))∧(¬55296≤intAt l (0+Int.toNat (i:Int))→(zv22_23 i v f n l K0)∧(¬1114111<intAt l (0+Int.toNat (i:Int))→(zv22_17 i v f n l K0)∧(¬intAt l (0+Int.toNat (i:Int))<128→(2048≤intAt l (0+Int.toNat (i:Int))→(zv22_21 i v f n l K0)∧(zv22_19 i v f n l K0))∧(¬2048≤intAt l (0+Int.toNat (i:Int))→(zv22_20 i v f n l K0)∧(zv22_18 i v f n l K0)))))))∧(¬(i:Int)<(n:Int)→K0 (.exit 0) [(3,.slice none 0 0),(6,(zv22_0 v n)),(7,.int .i64 (n:Int)),(8,.int .i64 (i:Int))] (AHeap.rowsT 2 [(0,(zv22_3 v f l))]))) :
    ∃ e F1 h1,Runs Tryz.prog cnd 1 18 (loopAt Tryz.prog 51 0) [(3,.slice none 0 0),(6,.slice (some ⟨0,v,0,0,1⟩) n n),(7,.int .i64 n),(8,.int .i64 i)] (AHeap.rows 1 [(0,rRow l v f)]) e F1 h1∧K0 e F1 h1 :=
  tpath_runs env_ok mixed specs1_ok (hs:= .br 3000 (hg 4000 (hg 4001 (he 5002 (.br 1001 (.skip 6000 (hg 6000 .nil)) (.br 1004 (.br 1007 (.skip 6000 (hg 6000 .nil)) (.br 1012 (.skip 6000 (hg 6000 .nil)) (.br 3001 (hg 4002 (hg 6000 .nil)) zv22_25))) (.br 1012 (.skip 6000 (hg 6000 .nil)) (.br 3001 (hg 4002 (hg 6000 .nil)) zv22_25))))))) .nil) (keep:= [3,6,7,8]) (by kernel_rfl) vc
abbrev zv23_0:HT:=(hg 21005 (hg 22003 (hg 6000 .nil)))
abbrev zv23_1(v2:Nat)(n2:Nat):AVal:=AVal.slice (some {id:=50,ver:=v2+1,idx:=0,fld:=0,es:=1}) (n2+3) (n2+3)
abbrev zv23_2(v2:Nat)(n2:Nat):AVal:=AVal.slice (some {id:=50,ver:=v2+1,idx:=0,fld:=0,es:=1}) (n2+4) (n2+4)
abbrev zv23_3(i:Nat)(v2:Nat)(f2:Nat)(l:List AVal)(l2:List AVal):ABlk:=⟨l2++ [.int .u8 (intAt l (0+Int.toNat (i:Int)))],1,false,false,v2+1,0,if 0=v2 then List.length l2 else min f2 (List.length l2),some (5,0)⟩
abbrev zv23_4(v2:Nat)(f2:Nat)(l2:List AVal):ABlk:=⟨l2++ [.int .u8 239,.int .u8 191,.int .u8 189],1,false,false,v2+1,0,if 0=v2 then List.length l2 else min f2 (List.length l2),some (5,0)⟩
abbrev zv23_5(i:Nat)(v2:Nat)(f2:Nat)(l:List AVal)(l2:List AVal):ABlk:=⟨l2++ [.int .u8 (ior IntKind.u8 (ishr IntKind.i32 (intAt l (0+Int.toNat (i:Int))) (6)) (192)),.int .u8 (ior IntKind.u8 (128) (iand IntKind.i32 (intAt l (0+Int.toNat (i:Int))) (63)))],1,false,false,v2+1,0,if 0=v2 then List.length l2 else min f2 (List.length l2),some (5,0)⟩
abbrev zv23_6(i:Nat)(v2:Nat)(f2:Nat)(l:List AVal)(l2:List AVal):ABlk:=⟨l2++ [.int .u8 (ior IntKind.u8 (ishr IntKind.i32 (ishr IntKind.i32 (intAt l (0+Int.toNat (i:Int))) (6)) (6)) (224)),.int .u8 (ior IntKind.u8 (128) (iand IntKind.i32 (ishr IntKind.i32 (intAt l (0+Int.toNat (i:Int))) (6)) (63))),.int .u8 (ior IntKind.u8 (128) (iand IntKind.i32 (intAt l (0+Int.toNat (i:Int))) (63)))],1,false,false,v2+1,0,if 0=v2 then List.length l2 else min f2 (List.length l2),some (5,0)⟩
abbrev zv23_7(i:Nat)(v2:Nat)(f2:Nat)(l:List AVal)(l2:List AVal):ABlk:=⟨l2++ [.int .u8 (ior IntKind.u8 (ishr IntKind.i32 (ishr IntKind.i32 (ishr IntKind.i32 (intAt l (0+Int.toNat (i:Int))) (6)) (6)) (6)) (240)),.int .u8 (ior IntKind.u8 (128) (iand IntKind.i32 (ishr IntKind.i32 (ishr IntKind.i32 (intAt l (0+Int.toNat (i:Int))) (6)) (6)) (63))),.int .u8 (ior IntKind.u8 (128) (iand IntKind.i32 (ishr IntKind.i32 (intAt l (0+Int.toNat (i:Int))) (6)) (63))),.int .u8 (ior IntKind.u8 (128) (iand IntKind.i32 (intAt l (0+Int.toNat (i:Int))) (63)))],1,false,false,v2+1,0,if 0=v2 then List.length l2 else min f2 (List.length l2),some (5,0)⟩
abbrev zv23_8:HT:=(hg 19003 (hg 20001 (hg 21001 zv23_0)))
abbrev zv23_9(i:Nat)(v:Nat)(f:Nat)(n:Nat)(v2:Nat)(f2:Nat)(n2:Nat)(l:List AVal)(l2:List AVal)(K0:AExit→Facts→AHeap→Prop):Prop:=(intAt l (0+Int.toNat (i:Int))<128→(0≤intAt l (0+Int.toNat (i:Int))∧intAt l (0+Int.toNat (i:Int))≤255)∧(v2=v2∧0+n2=List.length l2∧n2<n2+1∧(n2+1+(n2+1) / 4+512)*1≤281474976710656∧n2+1<4611686018427387904)∧(-9223372036854775808≤(i:Int)+1∧(i:Int)+1≤9223372036854775807)∧K0 .normal [(3,.slice (some {id:=50,ver:=v2+1,idx:=0,fld:=0,es:=1}) (n2+1) (n2+1)),(6,(zv22_0 v n)),(7,.int .i64 (n:Int)),(8,.int .i64 ((i:Int)+1))] (AHeap.rowsT 93 [(0,(zv22_3 v f l)),(50,(zv23_3 i v2 f2 l l2)),(88,ABlk.made [.int .u8 (intAt l (0+Int.toNat (i:Int)))] 1 true)]))
abbrev zv23_10(i:Nat)(v:Nat)(f:Nat)(n:Nat)(v2:Nat)(f2:Nat)(n2:Nat)(l:List AVal)(l2:List AVal)(K0:AExit→Facts→AHeap→Prop):Prop:=(¬65536≤intAt l (0+Int.toNat (i:Int))→True∧(0≤iand IntKind.i32 (intAt l (0+Int.toNat (i:Int))) (63)∧iand IntKind.i32 (intAt l (0+Int.toNat (i:Int))) (63)≤255)∧True∧Int.NonNeg (6-0)∧(0≤ishr IntKind.i32 (intAt l (0+Int.toNat (i:Int))) (6)∧ishr IntKind.i32 (intAt l (0+Int.toNat (i:Int))) (6)≤255)∧True∧(v2=v2∧0+n2=List.length l2∧n2<n2+2∧(n2+2+(n2+2) / 4+512)*1≤281474976710656∧n2+2<4611686018427387904)∧(-9223372036854775808≤(i:Int)+1∧(i:Int)+1≤9223372036854775807)∧K0 .normal [(3,.slice (some {id:=50,ver:=v2+1,idx:=0,fld:=0,es:=1}) (n2+2) (n2+2)),(6,(zv22_0 v n)),(7,.int .i64 (n:Int)),(8,.int .i64 ((i:Int)+1))] (AHeap.rowsT 122 [(0,(zv22_3 v f l)),(50,(zv23_5 i v2 f2 l l2)),(90,(ABlk.made ([(zv22_5 i l)]) 4 true (some (95,4))))]))
abbrev zv23_11(i:Nat)(v:Nat)(f:Nat)(n:Nat)(v2:Nat)(f2:Nat)(n2:Nat)(l:List AVal)(l2:List AVal)(K0:AExit→Facts→AHeap→Prop):Prop:=(¬65536≤intAt l (0+Int.toNat (i:Int))→True∧(0≤iand IntKind.i32 (intAt l (0+Int.toNat (i:Int))) (63)∧iand IntKind.i32 (intAt l (0+Int.toNat (i:Int))) (63)≤255)∧True∧Int.NonNeg (6-0)∧True∧(0≤iand IntKind.i32 (ishr IntKind.i32 (intAt l (0+Int.toNat (i:Int))) (6)) (63)∧iand IntKind.i32 (ishr IntKind.i32 (intAt l (0+Int.toNat (i:Int))) (6)) (63)≤255)∧True∧Int.NonNeg (6-0)∧(0≤ishr IntKind.i32 (ishr IntKind.i32 (intAt l (0+Int.toNat (i:Int))) (6)) (6)∧ishr IntKind.i32 (ishr IntKind.i32 (intAt l (0+Int.toNat (i:Int))) (6)) (6)≤255)∧True∧(v2=v2∧0+n2=List.length l2∧n2<n2+3∧(n2+3+(n2+3) / 4+512)*1≤281474976710656∧n2+3<4611686018427387904)∧(-9223372036854775808≤(i:Int)+1∧(i:Int)+1≤9223372036854775807)∧K0 .normal [(3,(zv23_1 v2 n2)),(6,(zv22_0 v n)),(7,.int .i64 (n:Int)),(8,.int .i64 ((i:Int)+1))] (AHeap.rowsT 130 [(0,(zv22_3 v f l)),(50,(zv23_6 i v2 f2 l l2)),(91,(ABlk.made ([(zv22_6 i l)]) 4 true (some (95,4))))]))
abbrev zv23_12(i:Nat)(v:Nat)(f:Nat)(n:Nat)(v2:Nat)(f2:Nat)(n2:Nat)(l:List AVal)(l2:List AVal)(K0:AExit→Facts→AHeap→Prop):Prop:=(65536≤intAt l (0+Int.toNat (i:Int))→True∧(0≤iand IntKind.i32 (intAt l (0+Int.toNat (i:Int))) (63)∧iand IntKind.i32 (intAt l (0+Int.toNat (i:Int))) (63)≤255)∧True∧Int.NonNeg (6-0)∧True∧(0≤iand IntKind.i32 (ishr IntKind.i32 (intAt l (0+Int.toNat (i:Int))) (6)) (63)∧iand IntKind.i32 (ishr IntKind.i32 (intAt l (0+Int.toNat (i:Int))) (6)) (63)≤255)∧True∧Int.NonNeg (6-0)∧True∧(0≤iand IntKind.i32 (ishr IntKind.i32 (ishr IntKind.i32 (intAt l (0+Int.toNat (i:Int))) (6)) (6)) (63)∧iand IntKind.i32 (ishr IntKind.i32 (ishr IntKind.i32 (intAt l (0+Int.toNat (i:Int))) (6)) (6)) (63)≤255)∧True∧Int.NonNeg (6-0)∧(0≤ishr IntKind.i32 (ishr IntKind.i32 (ishr IntKind.i32 (intAt l (0+Int.toNat (i:Int))) (6)) (6)) (6)∧ishr IntKind.i32 (ishr IntKind.i32 (ishr IntKind.i32 (intAt l (0+Int.toNat (i:Int))) (6)) (6)) (6)≤255)∧True∧(v2=v2∧0+n2=List.length l2∧n2<n2+4∧(n2+4+(n2+4) / 4+512)*1≤281474976710656∧n2+4<4611686018427387904)∧(-9223372036854775808≤(i:Int)+1∧(i:Int)+1≤9223372036854775807)∧K0 .normal [(3,(zv23_2 v2 n2)),(6,(zv22_0 v n)),(7,.int .i64 (n:Int)),(8,.int .i64 ((i:Int)+1))] (AHeap.rowsT 137 [(0,(zv22_3 v f l)),(50,(zv23_7 i v2 f2 l l2)),(91,(ABlk.made ([(zv22_7 i l)]) 4 true (some (95,4))))]))
abbrev zv23_13(i:Nat)(v:Nat)(f:Nat)(n:Nat)(v2:Nat)(f2:Nat)(n2:Nat)(l:List AVal)(l2:List AVal)(K0:AExit→Facts→AHeap→Prop):Prop:=(65536≤intAt l (0+Int.toNat (i:Int))→True∧(0≤iand IntKind.i32 (intAt l (0+Int.toNat (i:Int))) (63)∧iand IntKind.i32 (intAt l (0+Int.toNat (i:Int))) (63)≤255)∧True∧Int.NonNeg (6-0)∧True∧(0≤iand IntKind.i32 (ishr IntKind.i32 (intAt l (0+Int.toNat (i:Int))) (6)) (63)∧iand IntKind.i32 (ishr IntKind.i32 (intAt l (0+Int.toNat (i:Int))) (6)) (63)≤255)∧True∧Int.NonNeg (6-0)∧True∧(0≤iand IntKind.i32 (ishr IntKind.i32 (ishr IntKind.i32 (intAt l (0+Int.toNat (i:Int))) (6)) (6)) (63)∧iand IntKind.i32 (ishr IntKind.i32 (ishr IntKind.i32 (intAt l (0+Int.toNat (i:Int))) (6)) (6)) (63)≤255)∧True∧Int.NonNeg (6-0)∧(0≤ishr IntKind.i32 (ishr IntKind.i32 (ishr IntKind.i32 (intAt l (0+Int.toNat (i:Int))) (6)) (6)) (6)∧ishr IntKind.i32 (ishr IntKind.i32 (ishr IntKind.i32 (intAt l (0+Int.toNat (i:Int))) (6)) (6)) (6)≤255)∧True∧(v2=v2∧0+n2=List.length l2∧n2<n2+4∧(n2+4+(n2+4) / 4+512)*1≤281474976710656∧n2+4<4611686018427387904)∧(-9223372036854775808≤(i:Int)+1∧(i:Int)+1≤9223372036854775807)∧K0 .normal [(3,(zv23_2 v2 n2)),(6,(zv22_0 v n)),(7,.int .i64 (n:Int)),(8,.int .i64 ((i:Int)+1))] (AHeap.rowsT 138 [(0,(zv22_3 v f l)),(50,(zv23_7 i v2 f2 l l2)),(92,(ABlk.made ([(zv22_7 i l)]) 4 true (some (95,4))))]))
abbrev zv23_14:HT:=(hg 18001 (hg 19001 (hg 19002 zv23_8)))
abbrev zv23_15(i:Nat)(v:Nat)(f:Nat)(n:Nat)(v2:Nat)(f2:Nat)(n2:Nat)(l:List AVal)(l2:List AVal)(K0:AExit→Facts→AHeap→Prop):Prop:=(1114111<intAt l (0+Int.toNat (i:Int))→(v2=v2∧0+n2=List.length l2∧n2<n2+3∧(n2+3+(n2+3) / 4+512)*1≤281474976710656∧n2+3<4611686018427387904)∧(-9223372036854775808≤(i:Int)+1∧(i:Int)+1≤9223372036854775807)∧K0 .normal [(3,(zv23_1 v2 n2)),(6,(zv22_0 v n)),(7,.int .i64 (n:Int)),(8,.int .i64 ((i:Int)+1))] (AHeap.rowsT 131 [(0,(zv22_3 v f l)),(50,(zv23_4 v2 f2 l2)),(92,zv22_8)]))
abbrev zv23_16:HT:=(hg 17001 (hg 17002 (hg 17003 zv23_14)))
abbrev zv23_17:HT:=(hg 15002 (hg 15003 (hg 16001 zv23_16)))
abbrev zv23_18:HT:=(.br 6001 (.br 8001 (hg 15001 zv23_17) zv23_16) (.br 8001 (hg 15001 zv23_17) (hg 19001 (hg 19002 zv23_8))))
theorem text1_vp(i v f n v2 f2 n2:Nat)(l l2:List AVal)(K0:AExit→Facts→AHeap→Prop)(vc:((i:Int)<(n:Int)→(0≤(i:Int)∧(i:Int)<(n:Int))∧v=v∧l[0+Int.toNat (i:Int)]? =some (.int .i32 (intAt l (0+Int.toNat (i:Int))))∧(intAt l (0+Int.toNat (i:Int))<0→(v2=v2∧0+n2=List.length l2∧n2<n2+3∧(n2+3+(n2+3) / 4+512)*1≤281474976710656∧n2+3<4611686018427387904)∧(-9223372036854775808≤(i:Int)+1∧(i:Int)+1≤9223372036854775807)∧K0 .normal [(3,(zv23_1 v2 n2)),(6,(zv22_0 v n)),(7,.int .i64 (n:Int)),(8,.int .i64 ((i:Int)+1))] (AHeap.rowsT 131 [(0,(zv22_3 v f l)),(50,(zv23_4 v2 f2 l2)),(92,zv22_8)]))∧(¬intAt l (0+Int.toNat (i:Int))<0→(55296≤intAt l (0+Int.toNat (i:Int))→(intAt l (0+Int.toNat (i:Int))≤57343→(v2=v2∧0+n2=List.length l2∧n2<n2+3∧(n2+3+(n2+3) / 4+512)*1≤281474976710656∧n2+3<4611686018427387904)∧(-9223372036854775808≤(i:Int)+1∧(i:Int)+1≤9223372036854775807)∧K0 .normal [(3,(zv23_1 v2 n2)),(6,(zv22_0 v n)),(7,.int .i64 (n:Int)),(8,.int .i64 ((i:Int)+1))] (AHeap.rowsT 131 [(0,(zv22_3 v f l)),(50,(zv23_4 v2 f2 l2)),(92,zv22_8)]))∧(¬intAt l (0+Int.toNat (i:Int))≤57343→(zv23_15 i v f n v2 f2 n2 l l2 K0)∧(¬1114111<intAt l (0+Int.toNat (i:Int))→(zv23_9 i v f n v2 f2 n2 l l2 K0)∧(¬intAt l (0+Int.toNat (i:Int))<128→(2048≤intAt l (0+Int.toNat (i:Int))→(zv23_13 i v f n v2 f2 n2 l l2 K0)∧(zv23_11 i v f n v2 f2 n2 l l2 K0))∧(¬2048≤intAt l (0+Int.toNat (i:Int))→(zv23_12 i v f n v2 f2 n2 l l2 K0)∧(zv23_10 i v f n v2 f2 n2 l l2 K0))))))∧(¬55296≤intAt l (0+Int.toNat (i:Int))→(zv23_15 i v f n v2 f2 n2 l l2 K0)∧(¬1114111<intAt l (0+Int.toNat (i:Int))→(zv23_9 i v f n v2 f2 n2 l l2 K0)∧(¬intAt l (0+Int.toNat (i:Int))<128→(2048≤intAt l (0+Int.toNat (i:Int))→(zv23_13 i v f n v2 f2 n2 l l2 K0)∧(zv23_11 i v f n v2 f2 n2 l l2 K0))∧(¬2048≤intAt l (0+Int.toNat (i:Int))→(zv23_12 i v f n v2 f2 n2 l l2 K0)∧(zv23_10 i v f n v2 f2 n2 l l2 K0)))))))∧(¬(i:Int)<(n:Int)→K0 (.exit 0) [(3,.slice (some ⟨50,v2,0,0,1⟩) n2 n2),(6,(zv22_0 v n)),(7,.int .i64 (n:Int)),(8,.int .i64 (i:Int))] (AHeap.rowsT 61 [(0,(zv22_3 v f l)),(50,⟨l2,1,false,false,v2,0,f2,some (5,0)⟩)]))) :
    ∃ e F1 h1,Runs Tryz.prog cnd 1 18 (loopAt Tryz.prog 51 0) [(3,.slice (some ⟨50,v2,0,0,1⟩) n2 n2),(6,.slice (some ⟨0,v,0,0,1⟩) n n),(7,.int .i64 n),(8,.int .i64 i)] (AHeap.rows 60 [(0,rRow l v f),(50,byRow l2 v2 f2)]) e F1 h1∧K0 e F1 h1 :=
  tpath_runs env_ok mixed specs1_ok (hs:= .br 3000 (hg 4000 (hg 4001 (he 5002 (.br 1001 (hg 22003 (hg 6000 .nil)) (.br 1004 (.br 1007 (hg 22003 (hg 6000 .nil)) (.br 1012 (hg 22003 (hg 6000 .nil)) (.br 3001 (hg 4002 (hg 4004 (hg 6000 .nil))) zv23_18))) (.br 1012 (hg 22003 (hg 6000 .nil)) (.br 3001 (hg 4002 (hg 4004 (hg 6000 .nil))) zv23_18))))))) .nil) (keep:= [3,6,7,8]) (by kernel_rfl) vc
end Go.Proofs.YtddnafghiejcoaaGreatDoor
namespace Go.Lift
theorem and63(x:Nat)(h:x<2^31):iand .i32 (x:Int) 63=((x % 64:Nat):Int):=by
  unfold iand
  rw [BitVec.toNat_and]
  have a:(BitVec.ofInt IntKind.i32.bits (x:Int)).toNat=x:=by
    show(BitVec.ofInt 32 (x:Int)).toNat=x
    rw [BitVec.toNat_ofInt];omega
  have b:(BitVec.ofInt IntKind.i32.bits 63).toNat=63:=by decide
  rw [a,b,show x &&& 63=x % 64 from Nat.and_two_pow_sub_one_eq_mod x 6]
  exact wrap_fit (k:= .i32) (by simp only [FitK];omega)
theorem shr6(x:Nat):ishr .i32 (x:Int) 6=((x / 64:Nat):Int):=by
  unfold ishr
  show Int.fdiv (x:Int) 64=_
  rw [Int.fdiv_eq_ediv_of_nonneg _ (by decide)];rfl
theorem or128: ∀ m:Fin 64,ior .u8 128 (m.val:Int)=((128+m.val:Nat):Int):=by decide+kernel
theorem or192: ∀ m:Fin 32,ior .u8 (m.val:Int) 192=((192+m.val:Nat):Int):=by decide+kernel
theorem or224: ∀ m:Fin 16,ior .u8 (m.val:Int) 224=((224+m.val:Nat):Int):=by decide+kernel
theorem or240: ∀ m:Fin 8,ior .u8 (m.val:Int) 240=((240+m.val:Nat):Int):=by decide+kernel
end Go.Lift
namespace Go.Proofs.YtddnafghiejcoaaGreatDoor
open Go.Lift Go.Keys
set_option maxRecDepth 1000000
theorem u8B {n:Nat}(h:n<256):((u8 n).toNat:Int)=n:=by
  have:(u8 n).toNat=n % 256:=by unfold u8;simp [UInt8.toNat_ofNat']
  rw [this];omega
theorem put_ok {x:Nat}(h: ¬ (55296≤x∧x≤57343∨1114111<x)):put x=if x<128 then [u8 x]else if x<2048 then [u8 (192+x / 64),u8 (128+x % 64)]else if x<65536 then [u8 (224+x / 4096),u8 (128+x / 64 % 64),u8 (128+x % 64)]else [u8 (240+x / 262144),u8 (128+x / 4096 % 64),u8 (128+x / 64 % 64),u8 (128+x % 64)]:=by
  unfold put
  simp only [if_neg h]
theorem put_1 {x:Nat}(h:x<128): [AVal.int .u8 (x:Int)]=bytesA (put x):=by
  rw [put_ok (by omega),if_pos h]
  simp only [bytesA,List.map_cons,List.map_nil,u8B (show x<256 by omega)]
theorem put_2 {x:Nat}(h:128≤x)(h2:x<2048): [AVal.int .u8 (ior .u8 (ishr .i32 (x:Int) 6) 192),AVal.int .u8 (ior .u8 128 (iand .i32 (x:Int) 63))]=bytesA (put x):=by
  rw [put_ok (by omega),if_neg (by omega),if_pos h2]
  simp only [bytesA,List.map_cons,List.map_nil,u8B (show 192+x / 64<256 by omega),u8B (show 128+x % 64<256 by omega)]
  rw [and63 x (by omega),shr6,or192 ⟨x / 64,by omega⟩,or128 ⟨x % 64,by omega⟩]
theorem put_3 {x:Nat}(h:2048≤x)(h2:x<65536)(h3: ¬ (55296≤x∧x≤57343)): [AVal.int .u8 (ior .u8 (ishr .i32 (ishr .i32 (x:Int) 6) 6) 224),AVal.int .u8 (ior .u8 128 (iand .i32 (ishr .i32 (x:Int) 6) 63)),AVal.int .u8 (ior .u8 128 (iand .i32 (x:Int) 63))]=bytesA (put x):=by
  rw [put_ok (by omega),if_neg (by omega),if_neg (by omega),if_pos h2]
  simp only [bytesA,List.map_cons,List.map_nil,u8B (show 224+x / 4096<256 by omega),u8B (show 128+x / 64 % 64<256 by omega),u8B (show 128+x % 64<256 by omega)]
  rw [and63 x (by omega),shr6,shr6,and63 (x / 64) (by omega),or224 ⟨x / 64 / 64,by omega⟩,or128 ⟨x % 64,by omega⟩,or128 ⟨x / 64 % 64,by omega⟩]
  simp only [show x / 64 / 64=x / 4096 by omega]
theorem put_4 {x:Nat}(h:65536≤x)(h2:x≤1114111): [AVal.int .u8 (ior .u8 (ishr .i32 (ishr .i32 (ishr .i32 (x:Int) 6) 6) 6) 240),AVal.int .u8 (ior .u8 128 (iand .i32 (ishr .i32 (ishr .i32 (x:Int) 6) 6) 63)),AVal.int .u8 (ior .u8 128 (iand .i32 (ishr .i32 (x:Int) 6) 63)),AVal.int .u8 (ior .u8 128 (iand .i32 (x:Int) 63))]=bytesA (put x):=by
  rw [put_ok (by omega),if_neg (by omega),if_neg (by omega),if_neg (by omega)]
  simp only [bytesA,List.map_cons,List.map_nil,u8B (show 240+x / 262144<256 by omega),u8B (show 128+x / 4096 % 64<256 by omega),u8B (show 128+x / 64 % 64<256 by omega),u8B (show 128+x % 64<256 by omega)]
  rw [and63 x (by omega),shr6,shr6,shr6,and63 (x / 64) (by omega),and63 (x / 64 / 64) (by omega),or240 ⟨x / 64 / 64 / 64,by omega⟩,or128 ⟨x % 64,by omega⟩,or128 ⟨x / 64 % 64,by omega⟩,or128 ⟨x / 64 / 64 % 64,by omega⟩]
  simp only [show x / 64 / 64=x / 4096 by omega,show x / 4096 / 64=x / 262144 by omega]
theorem put_b {x:Nat}(h:(55296≤x∧x≤57343)∨1114111<x): [AVal.int .u8 239,AVal.int .u8 191,AVal.int .u8 189]=bytesA (put x):=by
  unfold put
  simp only
  rw [if_pos h];rfl
theorem and63_fit {x:Nat}(h:x<2^31):0≤iand .i32 (x:Int) 63∧iand .i32 (x:Int) 63≤255:=by rw [and63 x h];omega
theorem and63_fit6 {x:Nat}(h:x<2^31):0≤iand .i32 (ishr .i32 (x:Int) 6) 63∧iand .i32 (ishr .i32 (x:Int) 6) 63≤255:=by rw [shr6,and63 _ (by omega)];omega
theorem and63_fit66 {x:Nat}(h:x<2^31):0≤iand .i32 (ishr .i32 (ishr .i32 (x:Int) 6) 6) 63∧iand .i32 (ishr .i32 (ishr .i32 (x:Int) 6) 6) 63≤255:=by rw [shr6,shr6,and63 _ (by omega)];omega
theorem shr_fit1 {x:Nat}(h:x<2048):0≤ishr .i32 (x:Int) 6∧ishr .i32 (x:Int) 6≤255:=by rw [shr6];omega
theorem shr_fit2 {x:Nat}(h:x<65536):0≤ishr .i32 (ishr .i32 (x:Int) 6) 6∧ishr .i32 (ishr .i32 (x:Int) 6) 6≤255:=by rw [shr6,shr6];omega
theorem shr_fit3 {x:Nat}(h:x≤1114111):0≤ishr .i32 (ishr .i32 (ishr .i32 (x:Int) 6) 6) 6∧ishr .i32 (ishr .i32 (ishr .i32 (x:Int) 6) 6) 6≤255:=by rw [shr6,shr6,shr6];omega
theorem rs_get {L:List Nat}{i:Nat}(h:i<L.length):(rs L)[i]? =some (.int .i32 (L[i]:Nat)):=by simp [rs,h]
theorem rs_int {L:List Nat}{i:Nat}(h:i<L.length):intAt (rs L) i=(L[i]:Nat):=by unfold intAt;rw [rs_get h]
theorem len_bytesA(l:Bytes):(bytesA l).length=l.length:=by simp [bytesA]
theorem bytesA_app(a b:Bytes):bytesA (a++b)=bytesA a++bytesA b:=by simp [bytesA]
abbrev tF(v n i v2 n2 j:Nat):Facts:= [(3,.slice (some ⟨j,v2,0,0,1⟩) n2 n2),(6,.slice (some ⟨0,v,0,0,1⟩) n n),(7,.int .i64 (n:Nat)),(8,.int .i64 (i:Nat))]
def TxtPost(v f n i v2:Nat)(R:ABlk)(acc:Bytes)(x fo:Nat)(e:AExit)(F1:Facts)(h1:AHeap):Prop :=
  ∃ j,1≤j∧e= .normal∧F1=tF v n (i+1) v2 (acc.length+(put x).length) j∧h1.get 0=some R∧h1.get j=some (byRow (bytesA (acc++put x)) v2 fo)
theorem txt_leaf {v f n i v2 x fo j n2:Nat}{R:ABlk}{acc:Bytes}{bs:List AVal}{h1:AHeap}{i1:Int}(hb:bs=bytesA (put x))(hj:1≤j)(hk:n2=acc.length+bs.length)(hi:i1=((i+1:Nat):Int))(h0:h1.get 0=some R)(hg:h1.get j=some (byRow (bytesA acc++bs) v2 fo)) :
    TxtPost v f n i v2 R acc x fo .normal [(3,.slice (some ⟨j,v2,0,0,1⟩) n2 n2),(6,.slice (some ⟨0,v,0,0,1⟩) n n),(7,.int .i64 (n:Nat)),(8,.int .i64 i1)] h1:=by
  subst hb hi hk
  rw [len_bytesA]
  exact⟨j,hj,rfl,rfl,h0,by rw [bytesA_app];exact hg⟩
theorem text0_round(L:List Nat)(v f i:Nat)(hi:i<L.length)(hl:L.length<2^41)(hx:L[i]<2^31): ∃ e F1 h1,Runs Tryz.prog cnd 1 18 (loopAt Tryz.prog 51 0) [(3,.slice none 0 0),(6,.slice (some ⟨0,v,0,0,1⟩) L.length L.length),(7,.int .i64 L.length),(8,.int .i64 i)] (AHeap.rows 1 [(0,rRow (rs L) v f)]) e F1 h1∧TxtPost v f L.length i 0 (rRow (rs L) v f) [] L[i] 0 e F1 h1:=by
  refine text0_vp i v f L.length (rs L) (TxtPost v f L.length i 0 (rRow (rs L) v f) [] L[i] 0) ?_
  delta zv22_3 zv22_0 zv22_18 zv22_11 zv22_5 zv22_20 zv22_13 zv22_7 zv22_19 zv22_12 zv22_6 zv22_21 zv22_14 zv22_17 zv22_10 zv22_23 zv22_16 zv22_8 zv22_4 zv22_1
  rw [show 0+Int.toNat (i:Int)=i by simp,rs_int hi,rs_get hi]
  generalize L[i]=x at hx
  have si:((i:Int)+1)=((i+1:Nat):Int):=by omega
  refine⟨fun _=>⟨⟨by omega,by omega⟩,rfl,rfl,?_⟩,fun h=>by omega⟩
  repeat' (first | exact True.intro | apply And.intro | intro _)
  all_goals first
    | omega
    | (exfalso;omega)
    | exact nn6
    | exact(and63_fit hx).1 | exact(and63_fit hx).2 | exact(and63_fit6 hx).1 | exact(and63_fit6 hx).2 | exact(and63_fit66 hx).1 | exact(and63_fit66 hx).2
    | exact(shr_fit1 (by omega)).1 | exact(shr_fit1 (by omega)).2 | exact(shr_fit2 (by omega)).1 | exact(shr_fit2 (by omega)).2 | exact(shr_fit3 (by omega)).1 | exact(shr_fit3 (by omega)).2
    | exact txt_leaf (acc:= []) (put_1 (by omega)) (by decide) rfl si rfl rfl
    | exact txt_leaf (acc:= []) (put_2 (by omega) (by omega)) (by decide) rfl si rfl rfl
    | exact txt_leaf (acc:= []) (put_b (by omega)) (by decide) rfl si rfl rfl
    | exact txt_leaf (acc:= []) (put_3 (by omega) (by omega) (by omega)) (by decide) rfl si rfl rfl
    | exact txt_leaf (acc:= []) (put_4 (by omega) (by omega)) (by decide) rfl si rfl rfl
theorem text1_round(L:List Nat)(acc:Bytes)(v f i v2 f2:Nat)(hi:i<L.length)(hl:L.length<2^41)(ha:acc.length<2^44)(hx:L[i]<2^31): ∃ e F1 h1,Runs Tryz.prog cnd 1 18 (loopAt Tryz.prog 51 0) (tF v L.length i v2 acc.length 50) (AHeap.rows 60 [(0,rRow (rs L) v f),(50,byRow (bytesA acc) v2 f2)]) e F1 h1 ∧
    TxtPost v f L.length i (v2+1) (rRow (rs L) v f) acc L[i] (if 0=v2 then(bytesA acc).length else min f2 (bytesA acc).length) e F1 h1:=by
  refine text1_vp i v f L.length v2 f2 acc.length (rs L) (bytesA acc) (TxtPost v f L.length i (v2+1) (rRow (rs L) v f) acc L[i] (if 0=v2 then(bytesA acc).length else min f2 (bytesA acc).length)) ?_
  delta zv22_3 zv22_0 zv23_10 zv22_5 zv23_5 zv23_12 zv22_7 zv23_7 zv23_2 zv23_11 zv22_6 zv23_6 zv23_1 zv23_13 zv23_9 zv23_3 zv23_15 zv22_8 zv22_4 zv23_4
  rw [show 0+Int.toNat (i:Int)=i by simp,rs_int hi,rs_get hi]
  generalize L[i]=x at hx
  have si:((i:Int)+1)=((i+1:Nat):Int):=by omega
  have lb:=len_bytesA acc
  refine⟨fun _=>⟨⟨by omega,by omega⟩,rfl,rfl,?_⟩,fun h=>by omega⟩
  repeat' (first | exact True.intro | apply And.intro | intro _)
  all_goals first
    | omega
    | (exfalso;omega)
    | exact nn6
    | exact(and63_fit hx).1 | exact(and63_fit hx).2 | exact(and63_fit6 hx).1 | exact(and63_fit6 hx).2 | exact(and63_fit66 hx).1 | exact(and63_fit66 hx).2
    | exact(shr_fit1 (by omega)).1 | exact(shr_fit1 (by omega)).2 | exact(shr_fit2 (by omega)).1 | exact(shr_fit2 (by omega)).2 | exact(shr_fit3 (by omega)).1 | exact(shr_fit3 (by omega)).2
    | exact txt_leaf (put_1 (by omega)) (by decide) rfl si rfl rfl
    | exact txt_leaf (put_2 (by omega) (by omega)) (by decide) rfl si rfl rfl
    | exact txt_leaf (put_b (by omega)) (by decide) rfl si rfl rfl
    | exact txt_leaf (put_3 (by omega) (by omega) (by omega)) (by decide) rfl si rfl rfl
    | exact txt_leaf (put_4 (by omega) (by omega)) (by decide) rfl si rfl rfl
theorem textE_vc(K0:AVal→AHeap→Prop)(vc:K0 (.str []) (AHeap.rowsT 9 [])) :
    ∃ v h1,FDoes Tryz.prog cnd 51 [.slice none 0 0] (⟨0,.nil⟩) v h1∧K0 v h1 :=
  tcall_does env_ok mixed specs1_ok (hs:= .hint (.rounds 300) .nil) (by kernel_rfl) vc
theorem text_vc(vr f n v2 f2 n2:Nat)(l l2:List AVal)(K0:AVal→AHeap→Prop)(vc:Runs Tryz.prog cnd 1 18 (Code.loop (loopAt Tryz.prog 51 0)) [(3,.slice none 0 0),(6,.slice (some ⟨0,vr,0,0,1⟩) n n),(7,.int .i64 (n:Int)),(8,.int .i64 0)] (AHeap.rowsT 6 [(0,⟨l,1,false,false,vr,0,f,some (21,0)⟩)]) (.exit 0) (tF vr n n v2 n2 50) (AHeap.rowsT 60 [(0,rRow l vr f),(50,byRow l2 v2 f2)])∧v2=v2∧0+n2≤List.length l2∧(∃ l,List.take n2 (List.drop (AAddr.idx ⟨50,v2,0,0,1⟩) (ABlk.elems ⟨l2,1,false,false,v2,0,f2,some (5,0)⟩))=bytesA l)∧K0 (.str (strOf (List.take n2 l2))) (AHeap.rowsT 63 [(0,⟨l,1,false,false,vr,0,f,some (21,0)⟩),(50,⟨l2,1,false,false,v2,0,f2,some (5,0)⟩)])) :
    ∃ v h1,FDoes Tryz.prog cnd 51 [.slice (some ⟨0,vr,0,0,1⟩) n n] (AHeap.of [rRow l vr f]) v h1∧K0 v h1 :=
  tcall_does env_ok mixed specs1_ok (hs:= .hint (.keep [3,6,7,8]) (.hint (.loop (tF vr n n v2 n2 50) (AHeap.rowsT 60 [(0,rRow l vr f),(50,byRow l2 v2 f2)]) (.exit 0)) (hg 7001 .nil))) (by kernel_rfl) vc
end Go.Proofs.YtddnafghiejcoaaGreatDoor
namespace Go.Lift
noncomputable section
open Go.RowKit
theorem lookF_mem {F:Facts}{t:Nat}{v:AVal}(hv:lookF F t=some v):(t,v)∈F:=by
  induction F with
  | nil=>cases hv
  | cons p r ih =>
    obtain⟨k,u⟩:=p
    rw [lookF_cons]at hv
    split at hv
    · rename_i e;simp only [Option.some.injEq]at hv;subst e;subst hv;simp
    · exact List.mem_cons_of_mem _ (ih hv)
theorem lookF_map {F:Facts}{g:AVal→AVal}{t:Nat}{v:AVal}(hv:lookF F t=some v):lookF (F.map fun p=>(p.1,g p.2)) t=some (g v):=by
  induction F with
  | nil=>cases hv
  | cons p r ih =>
    obtain⟨k,u⟩:=p
    rw [List.map_cons,lookF_cons]
    rw [lookF_cons]at hv
    split at hv
    · rename_i e;simp only [Option.some.injEq]at hv;subst hv;rw [if_pos e]
    · rename_i e;rw [if_neg e];exact ih hv
theorem Ent.move {base n:Nat}{F F1:Facts}{h:AHeap}{K:Nat}{l:List (Nat×ABlk)}(r:Nat→Nat)(hl:l.map (fun p=>h.get (r p.1))=l.map (fun p=>some (p.2.ren r)))(hK:l.all (fun p=>Nat.blt p.1 K)=true)
    (hr:((l.map (·.1)).map r).Nodup) (hb:(List.range base).all (fun i=>(l.map (·.1)).contains i && Nat.beq (r i) i)=true) (hnew:l.all (fun p=>Nat.blt p.1 base || Nat.ble base (r p.1))=true)
    (hFF:F=F1.map fun p=>(p.1,p.2.ren r)) (hn:F1.all (fun p=>Nat.blt p.1 n)=true) (hF:All (F1.map fun p=>Clo (Ids (l.map (·.1))) p.2))
    (hc:All (l.map fun p=> ∀ e∈p.2.elems,Clo (Ids (l.map (·.1))) e)):Ent base n F h F1 (AHeap.rows K l):=by
  have hget: ∀ i b,(AHeap.rows K l).get i=some b→i<K∧h.get (r i)=some (b.ren r):=by
    intro i b k
    have hm:=AHeap.rows_get k
    refine⟨Nat.blt_eq.mp (List.all_eq_true.1 hK _ hm),?_⟩
    obtain⟨j,hj,e⟩:=List.mem_iff_getElem.1 hm
    have h1:=congrArg (fun(x:List (Option ABlk))=>x[j]?) hl
    simp only [List.getElem?_map,List.getElem?_eq_getElem hj,Option.map_some,e,Option.some.injEq]at h1
    exact h1
  have hmono: ∀ {v:AVal},Clo (Ids (l.map (·.1))) v→Clo (In (AHeap.rows K l)) v:=Clo.mono fun i hi=>AHeap.rows_in hi
  subst hFF
  refine Ent.ren (r:=r) ⟨fun i b k=>⟨by rw [AHeap.rows_next];exact(hget i b k).1,(hget i b k).2⟩,?_,?_⟩ ?_ ?_ ?_ ?_
  · intro i j hi hj e
    have hi:=AHeap.rows_in_of hi
    have hj:=AHeap.rows_in_of hj
    obtain⟨a,ha,rfl⟩:=List.mem_iff_getElem.1 hi
    obtain⟨b,hb',rfl⟩:=List.mem_iff_getElem.1 hj
    have h1:((l.map (·.1)).map r)[a]'(by simpa using ha)=((l.map (·.1)).map r)[b]'(by simpa using hb'):=by simpa using e
    have:=(List.getElem_inj hr).1 h1
    subst this;rfl
  · intro i b k e he
    have hm:=AHeap.rows_get k
    exact hmono (hc _ (List.mem_map.2 ⟨_,hm,rfl⟩) e he)
  · intro t v hv
    have hm:=lookF_mem hv
    exact⟨Nat.blt_eq.mp (List.all_eq_true.1 hn _ hm),lookF_map hv,hmono (hF _ (List.mem_map.2 ⟨_,hm,rfl⟩))⟩
  · intro i hi _
    have:=List.all_eq_true.1 hb i (List.mem_range.2 hi)
    simp only [Bool.and_eq_true]at this
    exact AHeap.rows_in (by simpa using this.1)
  · intro i hi _
    have:=List.all_eq_true.1 hb i (List.mem_range.2 hi)
    simp only [Bool.and_eq_true]at this
    exact Nat.eq_of_beq_eq_true this.2
  · intro i hi hlt
    have hi:=AHeap.rows_in_of hi
    obtain⟨p,hm,rfl⟩:=List.mem_map.1 hi
    have:=List.all_eq_true.1 hnew p hm
    simp only [Bool.or_eq_true]at this
    rcases this with h1 | h1
    · exact Nat.blt_eq.mp h1
    · have:=Nat.le_of_ble_eq_true h1;omega
theorem AHeap.foldl_get_eq(l:List (Nat×ABlk)): ∀ (h g:AHeap) (i:Nat),h.get i=g.get i→(l.foldl (fun h p=>h.set p.1 p.2) h).get i=(l.foldl (fun h p=>h.set p.1 p.2) g).get i:=by
  induction l with
  | nil=>intro h g i e;exact e
  | cons p r ih =>
    intro h g i e
    refine ih _ _ i ?_
    rw [AHeap.get_set,AHeap.get_set,e]
theorem AHeap.foldl_out(l:List (Nat×ABlk)): ∀ (h:AHeap) (i:Nat),i ∉ l.map (·.1)→(l.foldl (fun h p=>h.set p.1 p.2) h).get i=h.get i:=by
  induction l with
  | nil=>intro h i _;rfl
  | cons p r ih =>
    intro h i hi
    simp only [List.map_cons,List.mem_cons,not_or]at hi
    rw [List.foldl_cons,ih _ i hi.2,AHeap.get_set_ne _ _ (Ne.symm hi.1)]
theorem Ent.more {base n:Nat}{F:Facts}{K K2:Nat}{l l2:List (Nat×ABlk)}(hK:Nat.ble K K2=true)(h2:l2.all (fun p=>Nat.ble K p.1)=true):Ent base n F (AHeap.rows K l) F (AHeap.rows K2 (l++l2)):=by
  refine Ent.pad (by rw [AHeap.rows_next,AHeap.rows_next];exact Nat.le_of_ble_eq_true hK) fun i hi=> ?_
  rw [AHeap.rows_next]at hi
  unfold AHeap.rows
  rw [List.foldl_append,AHeap.foldl_out l2 _ i fun hm=> ?_]
  · exact AHeap.foldl_get_eq l _ _ i rfl
  · obtain⟨p,hp,rfl⟩:=List.mem_map.1 hm
    have:=Nat.le_of_ble_eq_true (List.all_eq_true.1 h2 p hp)
    omega
def noRow0:ABlk:= .made [] 1 true
end
end Go.Lift
namespace Go.Keys
theorem textOf_cons(x:Nat)(l:List Nat):textOf (x::l)=put x++textOf l:=rfl
theorem textOf_nil:textOf []= []:=rfl
theorem put_le(r:Nat):(put r).length≤4:=by
  unfold put
  simp only
  repeat' split
  all_goals simp
end Go.Keys
namespace Go.Proofs.YtddnafghiejcoaaGreatDoor
open Go.Lift Go.Keys
set_option maxRecDepth 1000000
theorem bytesA_bareT(l:Bytes): ∀ e∈bytesA l,Bare e:=by
  intro e he
  obtain⟨b,_,rfl⟩:=List.mem_map.1 he
  exact Bare.int _ _
theorem byRow_bare(acc:Bytes)(v f:Nat):BareB (byRow (bytesA acc) v f):=bytesA_bareT acc
theorem rows60(a b:ABlk):AHeap.rows 60 [(0,a),(50,b)]=AHeap.rowsT 60 [(0,a),(50,b)]:=by kernel_rfl
theorem clo0 {n l c v:Nat} :Clo (Go.Lift.Ids [0,50]) (.slice (some ⟨0,v,0,0,1⟩) l c):=(by show(0:Nat)∈ [0,50];simp)
theorem clo50 {n l c v:Nat} :Clo (Go.Lift.Ids [0,50]) (.slice (some ⟨50,v,0,0,1⟩) l c):=(by show(50:Nat)∈ [0,50];simp)
theorem text_ent {v n i v2 n2 j:Nat}{h1:AHeap}{R B:ABlk}(hj:1≤j)(hR:BareB R)(hB:BareB B)(h0:h1.get 0=some R)(hg:h1.get j=some B):Ent 1 18 (tF v n i v2 n2 j) h1 (tF v n i v2 n2 50) (AHeap.rows 60 [(0,R),(50,B)]):=by
  refine Ent.move (K:=60) (l:= [(0,R),(50,B)]) (fun k=>if k=0 then 0 else j) ?_ rfl ?_ rfl ?_ ?_ rfl ?_ ?_
  · simp [h0,hg,hR.ren,hB.ren]
  · simp;omega
  · simp;exact hj
  · simp [AVal.ren,AAddr.ren]
  · exact All.cons (clo50 (n:=0)) (All.cons (clo0 (n:=0)) (All.cons trivial (All.cons trivial All.nil)))
  · exact All.cons (fun e he=>(hR e he).clo _) (All.cons (fun e he=>(hB e he).clo _) All.nil)
theorem text_loop (L:List Nat) (v f:Nat) (hl:L.length<2^41) (hx: ∀ x∈L,x<2^31): ∀ (k i:Nat) (acc:Bytes) (v2 f2:Nat),L.length-i≤k→i≤L.length→acc.length≤4*i→ ∃ v3 f3,
    Loops Tryz.prog cnd 1 18 (loopAt Tryz.prog 51 0) (tF v L.length i v2 acc.length 50) (AHeap.rows 60 [(0,rRow (rs L) v f),(50,byRow (bytesA acc) v2 f2)]) (.exit 0) (tF v L.length L.length v3 (acc++textOf (L.drop i)).length 50)
      (AHeap.rows 60 [(0,rRow (rs L) v f),(50,byRow (bytesA (acc++textOf (L.drop i))) v3 f3)]):=by
  intro k
  have fin: ∀ (acc:Bytes) (v2 f2:Nat),∃ v3 f3,Loops Tryz.prog cnd 1 18 (loopAt Tryz.prog 51 0) (tF v L.length L.length v2 acc.length 50) (AHeap.rows 60 [(0,rRow (rs L) v f),(50,byRow (bytesA acc) v2 f2)]) (.exit 0) (tF v L.length L.length v3 (acc++textOf (L.drop L.length)).length 50)
      (AHeap.rows 60 [(0,rRow (rs L) v f),(50,byRow (bytesA (acc++textOf (L.drop L.length))) v3 f3)]):=by
    intro acc v2 f2
    obtain⟨e,F1,h1,hr,rfl,rfl,h0,hg⟩:=text1_vp L.length v f L.length v2 f2 acc.length (rs L) (bytesA acc) (fun e F1 h1=>e= .exit 0∧F1=tF v L.length L.length v2 acc.length 50∧h1.get 0=some (rRow (rs L) v f)∧h1.get 50=some (byRow (bytesA acc) v2 f2)) ⟨fun h=>by omega,fun _=>⟨rfl,rfl,rfl,rfl⟩⟩
    refine⟨v2,f2,?_⟩
    rw [List.drop_length,textOf_nil,List.append_nil]
    exact(Loops.last (by simp) hr).post (text_ent (R:=rRow (rs L) v f) (by decide) (rs_bare L) (byRow_bare _ _ _) h0 hg)
  induction k with
  | zero =>
    intro i acc v2 f2 hk hi ha
    obtain rfl:i=L.length:=by omega
    exact fin acc v2 f2
  | succ k ih =>
    intro i acc v2 f2 hk hi ha
    by_cases hc:i<L.length
    · obtain⟨e,F1,h1,hr,j,hj,rfl,rfl,h0,hg⟩:=text1_round L acc v f i v2 f2 hc hl (by omega) (hx _ (List.getElem_mem hc))
      have hp:=put_le L[i]
      obtain⟨v3,f3,hL⟩:=ih (i+1) (acc++put L[i]) (v2+1) _ (by omega) (by omega) (by rw [List.length_append];omega)
      have e1:(acc++put L[i])++textOf (L.drop (i+1))=acc++textOf (L.drop i):=by
        rw [List.drop_eq_getElem_cons hc,textOf_cons,List.append_assoc]
      rw [e1]at hL
      refine⟨v3,f3,Loops.step (hr.post ?_) hL⟩
      rw [List.length_append]
      exact text_ent (R:=rRow (rs L) v f) hj (rs_bare L) (byRow_bare _ _ _) h0 hg
    · obtain rfl:i=L.length:=by omega
      exact fin acc v2 f2
theorem text0_does(H:AHeap):FDoes Tryz.prog cnd 51 [.slice none 0 0] H (.str []) H:=FDoes.ofVC (textE_vc (fun v _=>v= .str []) rfl) rfl rfl H
theorem text_does {L:List Nat}{v f:Nat}(hl:L.length<2^41)(hx: ∀ x∈L,x<2^31)(h0:L≠ []){H:AHeap}{id:Nat}(hid:id<H.next)(hg:H.get id=some (rRow (rs L) v f)) :
    FDoes Tryz.prog cnd 51 [.slice (some ⟨id,v,0,0,1⟩) L.length L.length] H (.str (textOf L)) H:=by
  have hpos:0<L.length:=List.length_pos_iff.2 h0
  obtain⟨e,F1,h1,hr,j,hj,rfl,rfl,k0,kg⟩:=text0_round L v f 0 hpos hl (hx _ (List.getElem_mem hpos))
  obtain⟨v3,f3,hL⟩:=text_loop L v f hl hx L.length 1 ([]++put L[0]) 0 0 (by omega) (by omega) (by have:=put_le L[0];simp only [List.nil_append];omega)
  have e1:([]++put L[0])++textOf (L.drop 1)=textOf L:=by
    have:L=L[0]::L.drop 1:=by rw [← List.drop_eq_getElem_cons hpos,List.drop_zero]
    conv=>rhs;rw [this,textOf_cons]
    rfl
  rw [e1]at hL
  have hent:=text_ent (R:=rRow (rs L) v f) (v:=v) (n:=L.length) (i:=0+1) (v2:=0) (n2:=([]:Bytes).length+(put L[0]).length) hj (rs_bare L) (byRow_bare _ _ _) k0 kg
  have e2:([]:Bytes).length+(put L[0]).length=([]++put L[0]:Bytes).length:=by simp
  rw [e2]at hent hr
  have hLL:=(Loops.step (hr.post hent) hL).pre (Ent.drop (h:=AHeap.rowsT 6 [(0,rRow (rs L) v f)]) (F:= [(3,AVal.slice none 0 0),(6,AVal.slice (some ⟨0,v,0,0,1⟩) L.length L.length),(7,AVal.int IntKind.i64 L.length),(8,AVal.int IntKind.i64 (0:Nat))]) (K:=1) (l:= [(0,rRow (rs L) v f)]) rfl rfl rfl rfl (All.cons trivial (All.cons (show(0:Nat)∈ [0]by simp) (All.cons trivial (All.cons trivial All.nil)))) (All.cons (fun e he=>((rs_bare L) e he).clo _) All.nil))
  rw [rows60]at hLL
  have el:List.take (textOf L).length (bytesA (textOf L))=bytesA (textOf L):=by rw [← len_bytesA,List.take_length]
  have k:=text_vc v f L.length v3 f3 (textOf L).length (rs L) (bytesA (textOf L)) (fun v1 h2=>v1= .str (textOf L)∧h2.get 0=some (rRow (rs L) v f)) ⟨Runs.of_loops hLL,rfl,by rw [len_bytesA];omega,⟨textOf L,by simpa using el⟩,by rw [el,strOf_bytesA],rfl⟩
  obtain⟨v1,h2,hd,rfl,hg2⟩:=k
  have:=FDoes.pure (l:= [rRow (rs L) v f]) hd (fun b hb=>by rw [List.mem_singleton.1 hb];exact rs_bare L) (by show [h2.get 0]=_;rw [hg2];rfl) (Bare.str _) (by exact⟨by show 0<1;decide,trivial⟩) (H:=H) [id] (by simp) (by intro j hj;rw [List.mem_singleton.1 hj];exact hid) (by simp [hg])
  simpa [AVal.ren,AAddr.ren,toBig]using this
noncomputable def runesS:List AVal→AHeap→Option Alts:=fun args h=>match args with
  | [.str s]=>some (.or (s= []) (.one (.slice none 0 0) h []) (.one (.slice (some ⟨h.next,(runes s).length-1,0,0,1⟩) (runes s).length (runes s).length) (h.upd [] [rRowL (runes s)]) [s.length<2^40]))
  | _=>none
theorem runesS_ok: ∀ args h a,runesS args h=some a→a.Ok Tryz.prog cnd 150 args h:=by
  intro args h a e
  unfold runesS at e
  split at e<;>first | (cases e;done) | skip
  simp only [Option.some.injEq]at e
  subst e
  refine⟨fun h0 _=> ?_,fun h0 hp=> ?_⟩
  · subst h0;exact runes0_does h
  · exact runes_does _ hp.head h0 h
noncomputable def specsV:Specs:=specs1.add 150 runesS
theorem specsV_ok:SpecsOk Tryz.prog cnd specsV:=specs1_ok.add runesS_ok
abbrev zv26_0(s:Bytes):ABlk:=⟨rs (runes s),1,false,false,List.length (runes s)-1,0,fk (List.length (runes s)),some (21,0)⟩
theorem valid_vc(s:Bytes)(K0:AVal→AHeap→Prop)(vc:(s= []→CallT Tryz.prog cnd 51 [.slice none 0 0] (AHeap.rowsT 11 []) (.str (textOf (runes s))) (AHeap.rowsT 11 [])∧(textOf (runes s)=s→K0 (.bool true) (AHeap.rowsT 11 []))∧(¬textOf (runes s)=s→K0 (.bool false) (AHeap.rowsT 11 [])))∧(¬s= []→List.length s<1099511627776∧CallT Tryz.prog cnd 51 [.slice (some {id:=11,ver:=List.length (runes s)-1,idx:=0,fld:=0,es:=1}) (List.length (runes s)) (List.length (runes s))] (AHeap.upd (AHeap.rowsT 11 []) [] [(zv26_0 s)]) (.str (textOf (runes s))) (AHeap.upd (AHeap.rowsT 11 []) [] [(zv26_0 s)])∧(textOf (runes s)=s→K0 (.bool true) (AHeap.upd (AHeap.rowsT 11 []) [] [(zv26_0 s)]))∧(¬textOf (runes s)=s→K0 (.bool false) (AHeap.upd (AHeap.rowsT 11 []) [] [(zv26_0 s)])))) :
    ∃ v h1,FDoes Tryz.prog cnd 109 [.str s] (⟨0,.nil⟩) v h1∧K0 v h1 :=
  tcall_does env_ok mixed specsV_ok (hs:=he 1001 (.br 1001 (.hint (.val 1002 (.str (textOf (runes s)))) (.skip 1003 (.br 1003 .nil .nil))) (.hint (.val 1002 (.str (textOf (runes s)))) (.skip 1003 (.br 1003 .nil .nil))))) (by kernel_rfl) vc
end Go.Proofs.YtddnafghiejcoaaGreatDoor
namespace Go.Keys
theorem tail_lt: ∀ (k i lo hi v:Nat) (l:Bytes),(tail k i lo hi v l).1<(v+1)*64^k∨(tail k i lo hi v l).1=65533
  | 0,i,lo,hi,v,l=>by simp [tail]
  | k+1,i,lo,hi,v,[]=>by simp [tail]
  | k + 1,i,lo,hi,v,c::r=>by
    simp only [tail]
    split
    · exact .inr rfl
    · rcases tail_lt k (i+1) 128 191 (v*64+c.toNat % 64) r with h | h
      · refine .inl (Nat.lt_of_lt_of_le h ?_)
        rw [Nat.pow_succ,← Nat.mul_assoc,Nat.mul_right_comm]
        exact Nat.mul_le_mul_right _ (by omega)
      · exact .inr h
theorem first_lt (s:Bytes):(first s).1<2^31:=by
  cases s with
  | nil=>simp [first]
  | cons b r =>
    simp only [first]
    have hb:=b.toNat_lt
    split
    · simp
    · split
      · simp only;omega
      · have hn:(lead b.toNat).1≤4:=lead_le _
        rcases tail_lt ((lead b.toNat).1-1) 1 (lead b.toNat).2.1 (lead b.toNat).2.2 (b.toNat % 2^(7- (lead b.toNat).1)) r with h | h
        · have h1:b.toNat % 2^(7- (lead b.toNat).1)+1≤256:=by
            have:=Nat.mod_le b.toNat (2^(7- (lead b.toNat).1));omega
          have h2:64^((lead b.toNat).1-1)≤64^3:=Nat.pow_le_pow_right (by decide) (by omega)
          have h3:=Nat.mul_le_mul h1 h2
          have h4:(256:Nat)*64^3<2^31:=by decide
          omega
        · rw [h];decide
theorem runesN_lt: ∀ (k:Nat) (s:Bytes),∀ x∈runesN k s,x<2^31
  | 0,s,x,h=>by simp [runesN]at h
  | k+1,[],x,h=>by simp [runesN]at h
  | k+1,b::r,x,h=>by
    simp only [runesN,List.mem_cons]at h
    rcases h with rfl | h
    · exact first_lt _
    · exact runesN_lt k _ x h
theorem runes_lt(s:Bytes): ∀ x∈runes s,x<2^31:=runesN_lt _ s
theorem runes_ne {s:Bytes}(h:s≠ []):runes s≠ []:=by rw [runes_cons h];simp
end Go.Keys
namespace Go.Proofs.YtddnafghiejcoaaGreatDoor
open Go.Lift Go.Keys
set_option maxRecDepth 1000000
theorem valid_does(s:Bytes)(hs:s.length<2^40)(H:AHeap):FDoes Tryz.prog cnd 109 [.str s] H (.bool (valid s)) H:=by
  have ht:textOf (runes s)=s→valid s=true:=fun h=>by unfold valid;rw [h];simp
  have hf: ¬ textOf (runes s)=s→valid s=false:=fun h=>by unfold valid;rw [beq_eq_false_iff_ne];exact h
  refine FDoes.ofVC (valid_vc s (fun v _=>v= .bool (valid s)) ⟨fun h0=>⟨⟨?_⟩,fun h=>by rw [ht h],fun h=>by rw [hf h]⟩,fun h0=>⟨hs,⟨?_⟩,fun h=>by rw [ht h],fun h=>by rw [hf h]⟩⟩) rfl rfl H
  · subst h0;exact text0_does _
  · have hn:=runes_len_le s.length s (Nat.le_refl _)
    exact text_does (id:=11) (by omega) (runes_lt s) (runes_ne h0) (by show 11<12;decide) rfl
def byteI(k:Int):UInt8:=UInt8.ofNat k.toNat
def holdOf(a0 a1 a2 a3 n:Int):Bytes:=([a0,a1,a2,a3].take n.toNat).map byteI
def feedQ(a0 a1 a2 a3 n c:Int):List Nat×Bytes:=feed1 (holdOf a0 a1 a2 a3 n) (byteI c)
structure FeedPre(a0 a1 a2 a3 n c:Int):Prop where
  hn:0≤n∧n≤3
  b0:0<n→0≤a0∧a0≤255
  b1:1<n→0≤a1∧a1≤255
  b2:2<n→0≤a2∧a2≤255
  hc:0≤c∧c≤255
  op:n=0∨(first (holdOf a0 a1 a2 a3 n)).2.2=true
noncomputable def feedS:List AVal→AHeap→Option Alts:=fun args h =>
  match args with
  | [.ptr (some u),.slice (some b) bl bc] =>
    match h.get u.id,h.get b.id with
    | some ub,some bb =>
      match ub.elems,bb.elems with
      | [.agg [.int .u8 a0,.int .u8 a1,.int .u8 a2,.int .u8 a3,.int .i64 n]],[.int .u8 c] =>
        cond (Nat.beq u.ver 0 && Nat.beq u.idx 0 && Nat.beq u.fld 0 && Nat.beq u.es 5 && Nat.beq b.ver 0 && Nat.beq b.idx 0 && Nat.beq b.fld 0 && Nat.beq b.es 1 && Nat.beq bl 1 && Nat.beq bc 1
          && Nat.beq ub.es 5 && ub.exact && !ub.ro && Nat.beq ub.ver 0 && Nat.beq ub.minVer 0 && Nat.beq ub.forkLen 0 && Nat.beq bb.es 1 && bb.exact && !bb.ro && Nat.beq bb.ver 0 && Nat.beq bb.minVer 0 && Nat.beq bb.forkLen 0 && bb.ty.isNone && Nat.blt u.id h.next && Nat.blt b.id h.next && !(Nat.beq u.id b.id))
          (some (.or ((feedQ a0 a1 a2 a3 n c).1= [])
            (.one (.slice none 0 0) (h.upd [u.id,b.id] [uRowH (feedQ a0 a1 a2 a3 n c).2 a0 a1 a2 a3 ub.ty,bRow c]) [FeedPre a0 a1 a2 a3 n c])
            (.or ((feedQ a0 a1 a2 a3 n c).1.length=1)
              (.one (.slice (some ⟨h.next,0,0,0,1⟩) 1 1) (h.upd [u.id,b.id] [uRowH (feedQ a0 a1 a2 a3 n c).2 a0 a1 a2 a3 ub.ty,bRow c,lRow1 ((feedQ a0 a1 a2 a3 n c).1.getD 0 0)]) [FeedPre a0 a1 a2 a3 n c])
              (.one (.slice (some ⟨h.next,1,0,0,1⟩) 2 2) (h.upd [u.id,b.id] [uRowH (feedQ a0 a1 a2 a3 n c).2 a0 a1 a2 a3 ub.ty,bRow c,lRow2 ((feedQ a0 a1 a2 a3 n c).1.getD 0 0) ((feedQ a0 a1 a2 a3 n c).1.getD 1 0)]) [FeedPre a0 a1 a2 a3 n c])))) none
      | _,_=>none
    | _,_=>none
  | _=>none
noncomputable def validS:List AVal→AHeap→Option Alts:=pureS fun a=>match a with | [.str s]=>some (.bool (valid s),[s.length<2^40]) | _=>none
noncomputable def specs2:Specs:=(specs1.add 107 feedS).add 109 validS
theorem byteT {c:Int}(h:0≤c∧c≤255):((byteI c).toNat:Int)=c:=by
  unfold byteI
  have:(UInt8.ofNat c.toNat).toNat=c.toNat % 256:=by simp [UInt8.toNat_ofNat']
  rw [this];omega
abbrev feedD(v:AVal)(R:ABlk)(c:Int)(h1:AHeap):Prop:=FDoes Tryz.prog cnd 107 [.ptr (some ⟨0,0,0,0,5⟩),.slice (some ⟨1,0,0,0,1⟩) 1 1] (AHeap.of [R,bRow c]) v h1
theorem feed_small {a0 a1 a2 a3 n c:Int} (p:FeedPre a0 a1 a2 a3 n c) (ty:Option (TypeId×Nat)): ∃ v h1,feedD v (uRow a0 a1 a2 a3 n ty) c h1∧FeedPost a0 a1 a2 a3 c ty (feedQ a0 a1 a2 a3 n c) v h1:=by
  have hc:=byteT p.hc
  obtain⟨n0,n3⟩:=p.hn
  have hn:n=0∨n=1∨n=2∨n=3:=by omega
  unfold feedQ
  generalize byteI c=C at hc
  subst hc
  rcases hn with rfl | rfl | rfl | rfl
  · exact feed0_post C a0 a1 a2 a3 ty
  · have e0:=byteT (p.b0 (by decide))
    have op:=p.op.resolve_left (by decide)
    have hh:holdOf a0 a1 a2 a3 1= [byteI a0]:=rfl
    rw [hh]at op ⊢
    generalize byteI a0=B0 at e0 op
    subst e0
    obtain⟨b,r,e,hl,hf⟩:=first_open op
    simp only [List.cons.injEq]at e
    obtain⟨rfl,rfl⟩:=e
    rcases lead_cases B0.toNat with h | h | h | h | h
    · omega
    · omega
    · exact feed12_post B0 C a1 a2 a3 ty h
    · exact feed13_post B0 C a1 a2 a3 ty h
    · exact feed14_post B0 C a1 a2 a3 ty h
  · have e0:=byteT (p.b0 (by decide))
    have e1:=byteT (p.b1 (by decide))
    have op:=p.op.resolve_left (by decide)
    have hh:holdOf a0 a1 a2 a3 2= [byteI a0,byteI a1]:=rfl
    rw [hh]at op ⊢
    generalize byteI a0=B0 at e0 op
    generalize byteI a1=B1 at e1 op
    subst e0 e1
    obtain⟨b,r,e,hl,hf⟩:=first_open op
    simp only [List.cons.injEq]at e
    obtain⟨rfl,rfl⟩:=e
    rw [hf]at op
    rcases lead_cases B0.toNat with h | h | h | h | h
    · omega
    · omega
    · rw [h]at op;simp only [tail]at op;split at op<;>simp at op
    · have h1: ¬ (B1.toNat<(lead B0.toNat).2.1∨(lead B0.toNat).2.2<B1.toNat):=by
        intro q;rw [h]at op;simp only [tail]at op;rw [if_pos q]at op;simp at op
      exact feed23_post B0 B1 C a2 a3 ty h h1
    · have h1: ¬ (B1.toNat<(lead B0.toNat).2.1∨(lead B0.toNat).2.2<B1.toNat):=by
        intro q;rw [h]at op;simp only [tail]at op;rw [if_pos q]at op;simp at op
      exact feed24_post B0 B1 C a2 a3 ty h h1
  · have e0:=byteT (p.b0 (by decide))
    have e1:=byteT (p.b1 (by decide))
    have e2:=byteT (p.b2 (by decide))
    have op:=p.op.resolve_left (by decide)
    have hh:holdOf a0 a1 a2 a3 3= [byteI a0,byteI a1,byteI a2]:=rfl
    rw [hh]at op ⊢
    generalize byteI a0=B0 at e0 op
    generalize byteI a1=B1 at e1 op
    generalize byteI a2=B2 at e2 op
    subst e0 e1 e2
    obtain⟨b,r,e,hl,hf⟩:=first_open op
    simp only [List.cons.injEq]at e
    obtain⟨rfl,rfl⟩:=e
    rw [hf]at op
    have h1: ¬ (B1.toNat<(lead B0.toNat).2.1∨(lead B0.toNat).2.2<B1.toNat):=by
      intro q
      obtain⟨m,hm⟩: ∃ m,(lead B0.toNat).1-1=m+1:=⟨(lead B0.toNat).1-2,by omega⟩
      rw [hm]at op;simp only [tail]at op;rw [if_pos q]at op;simp at op
    rcases lead_cases B0.toNat with h | h | h | h | h
    · omega
    · omega
    · rw [h]at op;simp only [tail]at op;rw [if_neg h1]at op;simp at op
    · rw [h]at op;simp only [tail]at op;rw [if_neg h1]at op;split at op<;>simp at op
    · have h2: ¬ (B2.toNat<128∨191<B2.toNat):=by
        intro q;rw [h]at op;simp only [tail]at op;rw [if_neg h1,if_pos q]at op;simp at op
      exact feed34_post B0 B1 B2 C a3 ty h h1 h2
theorem uRow_bareF(k0 k1 k2 k3 n:Int)(ty:Option (TypeId×Nat)):BareB (uRow k0 k1 k2 k3 n ty):=by
  intro e he
  rw [List.mem_singleton.1 he];exact Bare.of rfl
theorem bRow_bareF(c:Int):BareB (bRow c):=by
  intro e he
  rw [List.mem_singleton.1 he];exact Bare.int _ _
theorem two_bare {a b:ABlk}(ha:BareB a)(hb:BareB b): ∀ x∈ [a,b],BareB x:=by
  intro x hx
  simp only [List.mem_cons,List.not_mem_nil,or_false]at hx
  rcases hx with rfl | rfl
  · exact ha
  · exact hb
theorem lRow1_bare(r:Nat):BareB (lRow1 r):=by
  intro e he
  rw [List.mem_singleton.1 he];exact Bare.int _ _
theorem lRow2_bare(r s:Nat):BareB (lRow2 r s):=by
  intro e he
  simp only [List.mem_cons,List.not_mem_nil,or_false]at he
  rcases he with rfl | rfl<;>exact Bare.int _ _
theorem feed_up {R R':ABlk}{c:Int}{v v2:AVal}{h1:AHeap}(k:feedD v R c h1)(hR:BareB R)(hR':BareB R')(js:List Nat)(l:List ABlk)(hl: ∀ x∈l,BareB x)(hjl:l.length=js.length)(hget:(List.range (l.length+2)).map (fun i=>h1.get (finR 2 js i))=(R'::bRow c::l).map some)(hv:v=v2.ren (finR 2 js))(hvc:Clo (fun i=>i<l.length+2) v2)
    (hjs:js.all (fun j=>Nat.ble 2 j)=true) (hnd:js.Nodup) {H:AHeap} {u b:Nat} (hub:u≠b) (hu:u<H.next) (hb:b<H.next) (gu:H.get u=some R) (gb:H.get b=some (bRow c)) :
    FDoes Tryz.prog cnd 107 [.ptr (some ⟨u,0,0,0,5⟩),.slice (some ⟨b,0,0,0,1⟩) 1 1] H (v2.ren (toBig [u,b] H.next)) (H.upd [u,b] (R'::bRow c::l)):=by
  have hb': ∀ x∈R'::bRow c::l,BareB x:=by
    intro x hx
    rcases List.mem_cons.1 hx with rfl | hx
    · exact hR'
    · rcases List.mem_cons.1 hx with rfl | hx
      · exact bRow_bareF c
      · exact hl x hx
  have k1:=k.fin js (R'::bRow c::l) v2 hb' (by simp [hjl];omega) hget hv hvc hjs hnd
  have k2:=k1.upW (two_bare hR (bRow_bareF c)) hb' (by simp) (by exact⟨by show 0<2;decide,by show 1<2;decide,trivial⟩) (H:=H) [u,b] (by simp [hub]) (by intro j hj;simp at hj;omega) (by simp [gu,gb])
  simpa [AVal.ren,AAddr.ren,toBig]using k2
theorem feedS_ok: ∀ args h a,feedS args h=some a→a.Ok Tryz.prog cnd 107 args h:=by
  intro args H a e
  unfold feedS at e
  split at e<;>first | (cases e;done) | skip
  rename_i u b bl bc
  split at e<;>first | (cases e;done) | skip
  rename_i ub bb hub hbb
  split at e<;>first | (cases e;done) | skip
  rename_i a0 a1 a2 a3 n c he1 he2
  cases hq:(Nat.beq u.ver 0 && Nat.beq u.idx 0 && Nat.beq u.fld 0 && Nat.beq u.es 5 && Nat.beq b.ver 0 && Nat.beq b.idx 0 && Nat.beq b.fld 0 && Nat.beq b.es 1 && Nat.beq bl 1 && Nat.beq bc 1
          && Nat.beq ub.es 5 && ub.exact && !ub.ro && Nat.beq ub.ver 0 && Nat.beq ub.minVer 0 && Nat.beq ub.forkLen 0 && Nat.beq bb.es 1 && bb.exact && !bb.ro && Nat.beq bb.ver 0 && Nat.beq bb.minVer 0 && Nat.beq bb.forkLen 0 && bb.ty.isNone && Nat.blt u.id H.next && Nat.blt b.id H.next && !(Nat.beq u.id b.id))with
  | false=>rw [hq]at e;cases e
  | true =>
    rw [hq,cond_true]at e
    simp only [Bool.and_eq_true,Nat.beq_eq,Bool.not_eq_true',Nat.blt_eq,Option.isNone_iff_eq_none]at hq
    simp only [Option.some.injEq]at e
    subst e
    obtain⟨⟨⟨⟨⟨⟨⟨⟨⟨⟨⟨⟨⟨⟨⟨⟨⟨⟨⟨⟨⟨⟨⟨⟨⟨q1,q2⟩,q3⟩,q4⟩,q5⟩,q6⟩,q7⟩,q8⟩,q9⟩,q10⟩,q11⟩,q12⟩,q13⟩,q14⟩,q15⟩,q16⟩,q17⟩,q18⟩,q19⟩,q20⟩,q21⟩,q22⟩,q23⟩,q24⟩,q25⟩,q26⟩:=hq
    obtain⟨ui,uv,ux,uf,ue⟩:=u
    obtain⟨bi,bv,bx,bf,be⟩:=b
    obtain⟨l1,l2,l3,l4,l5,l6,l7,l8⟩:=ub
    obtain⟨m1,m2,m3,m4,m5,m6,m7,m8⟩:=bb
    simp only at q1 q2 q3 q4 q5 q6 q7 q8 q9 q10 q11 q12 q13 q14 q15 q16 q17 q18 q19 q20 q21 q22 q23 q24 q25 q26 he1 he2
    subst q1 q2 q3 q4 q5 q6 q7 q8 q9 q10 q11 q12 q13 q14 q15 q16 q17 q18 q19 q20 q21 q22 q23 he1 he2
    have hne:ui≠bi:=fun h=>by rw [h]at q26;simp at q26
    have ok:FeedPre a0 a1 a2 a3 n c→ ∃ v h1,feedD v (uRow a0 a1 a2 a3 n l8) c h1∧FeedPost a0 a1 a2 a3 c l8 (feedQ a0 a1 a2 a3 n c) v h1:=fun p=>feed_small p l8
    refine⟨fun h0 hp=> ?_,fun h0=>⟨fun h1 hp=> ?_,fun h1 hp=> ?_⟩⟩
    · obtain⟨v,h1,hd,g0,g1,g2⟩:=ok hp.head
      rw [h0]at g2
      simp only at g2
      have:=feed_up (v2:= .slice none 0 0) hd (uRow_bareF _ _ _ _ _ _) (uRow_bareF _ _ _ _ _ _) [] [] (fun x hx=>by cases hx) rfl (R':=uRowH (feedQ a0 a1 a2 a3 n c).2 a0 a1 a2 a3 l8) (by simp [finR,List.range_succ,g0,g1]) (by rw [g2];rfl) trivial rfl List.nodup_nil hne q24 q25 hub hbb
      simpa [AVal.ren]using this
    · obtain⟨v,h2,hd,g0,g1,g2⟩:=ok hp.head
      cases hl:(feedQ a0 a1 a2 a3 n c).1 with
      | nil=>exact absurd hl h0
      | cons r t =>
        cases t with
        | cons x y=>rw [hl]at h1;simp at h1
        | nil =>
          rw [hl]at g2
          obtain⟨j,hj,hv,hg⟩:=g2
          have:=feed_up (v2:= .slice (some ⟨2,0,0,0,1⟩) 1 1) hd (uRow_bareF _ _ _ _ _ _) (uRow_bareF _ _ _ _ _ _) [j] [lRow1 r] (fun x hx=>by rw [List.mem_singleton.1 hx];exact lRow1_bare r) rfl (R':=uRowH (feedQ a0 a1 a2 a3 n c).2 a0 a1 a2 a3 l8) (by simp [finR,List.range_succ,g0,g1,hg]) (by rw [hv];simp [AVal.ren,AAddr.ren,finR]) (by show 2<3;decide) (by simp [hj]) (by simp) hne q24 q25 hub hbb
          simpa [AVal.ren,AAddr.ren,toBig,hl]using this
    · obtain⟨v,h2,hd,g0,g1,g2⟩:=ok hp.head
      cases hl:(feedQ a0 a1 a2 a3 n c).1 with
      | nil=>exact absurd hl h0
      | cons r t =>
        cases t with
        | nil=>rw [hl]at h1;simp at h1
        | cons x y =>
          cases y with
          | cons _ _=>rw [hl]at g2;exact g2.elim
          | nil =>
            rw [hl]at g2
            obtain⟨j,hj,hv,hg⟩:=g2
            have:=feed_up (v2:= .slice (some ⟨2,1,0,0,1⟩) 2 2) hd (uRow_bareF _ _ _ _ _ _) (uRow_bareF _ _ _ _ _ _) [j] [lRow2 r x] (fun z hz=>by rw [List.mem_singleton.1 hz];exact lRow2_bare r x) rfl (R':=uRowH (feedQ a0 a1 a2 a3 n c).2 a0 a1 a2 a3 l8) (by simp [finR,List.range_succ,g0,g1,hg]) (by rw [hv];simp [AVal.ren,AAddr.ren,finR]) (by show 2<3;decide) (by simp [hj]) (by simp) hne q24 q25 hub hbb
            simpa [AVal.ren,AAddr.ren,toBig,hl]using this
theorem validS_ok: ∀ args h a,validS args h=some a→a.Ok Tryz.prog cnd 109 args h:=by
  refine pureS_ok ?_
  intro args v ps e hp H
  split at e<;>first | (cases e;done) | skip
  simp only [Option.some.injEq,Prod.mk.injEq]at e
  obtain⟨rfl,rfl⟩:=e
  exact valid_does _ hp.head H
theorem specs2_ok:SpecsOk Tryz.prog cnd specs2:=(specs1_ok.add feedS_ok).add validS_ok
def fnOf:Nx→Nat
  | .ground=>30
  | .escape=>59
  | .char=>90
  | .sequence=>87
  | .single=>88
  | .pasted=>129
theorem fnOf_inj {a b:Nx}(h:fnOf a=fnOf b):a=b:=by
  cases a<;>cases b<;>first | rfl | (exact absurd h (by decide))
structure Ids where
  u:Nat
  k:Nat
  p:Nat
  o:Nat
def Ids.map(r:Nat→Nat)(I:Ids):Ids:=⟨r I.u,r I.k,r I.p,r I.o⟩
abbrev dRowV(d f u:Nat)(kv pv:AVal)(pas:Bool)(ov:AVal)(ty:Option (TypeId×Nat)):ABlk :=
  ABlk.made [.agg [.func (.func f) [.ptr (some ⟨d,0,0,0,6⟩)] [],kv,pv,.bool pas,.ptr (some ⟨u,0,0,0,5⟩),ov]] 6 true ty
abbrev gRowB(l:List AVal)(es v m f:Nat)(ty:Option (TypeId×Nat)):ABlk:= {elems:=l,es:=es,exact:=false,ro:=false,ver:=v,minVer:=m,forkLen:=f,ty:=ty}
abbrev byteTy:Option (TypeId×Nat):=some (5,0)
abbrev evTy:Option (TypeId×Nat):=some (42,0)
inductive KS where
  | nil | one | grown (junk:Bytes)
def Grown(H:AHeap)(k:Nat)(v:AVal)(l:Bytes)(junk:Bytes):Prop :=
  ∃ ver m f,v= .slice (some ⟨k,ver,junk.length,0,1⟩) l.length l.length∧H.get k=some (gRowB (bytesA (junk++l)) 1 ver m f byteTy)
def KAt(H:AHeap)(d k:Nat)(v:AVal):KS→Bytes→Prop
  | .nil,l=>v= .slice none 0 0∧l= []∧k=d
  | .one,l=>k≠d∧v= .slice (some ⟨k,0,0,0,1⟩) 1 1∧H.get k=some (ABlk.made [.int .u8 27] 1 true)∧l= [27]
  | .grown junk,l=>k≠d∧Grown H k v l junk
def PAt(H:AHeap)(d p:Nat)(v:AVal)(l:Bytes):Prop :=
  (v= .slice none 0 0∧l= []∧p=d)∨(p≠d∧l≠ []∧Grown H p v l [])
def OAt(H:AHeap)(d o:Nat)(v:AVal)(es:List Ev):Prop :=
  (v= .slice none 0 0∧es= []∧o=d)∨(o≠d∧es≠ []∧ ∃ ver m f,v= .slice (some ⟨o,ver,0,0,6⟩) es.length es.length∧H.get o=some (gRowB (es.map evA) 6 ver m f evTy))
structure GAt(H:AHeap)(d:Nat)(I:Ids)(f:Nat)(pas:Bool)(ks:KS)(kept hold paste:Bytes)(es:List Ev):Prop where
  ex: ∃ kv pv ov ty,H.get d=some (dRowV d f I.u kv pv pas ov ty)∧KAt H d I.k kv ks kept∧PAt H d I.p pv paste∧OAt H d I.o ov es
  us: ∃ j0 j1 j2 j3 ty,H.get I.u=some (uRowH hold j0 j1 j2 j3 ty)
  lt:d<H.next∧I.u<H.next∧I.k<H.next∧I.p<H.next∧I.o<H.next
  ne:I.k=d∨I.p=d∨I.k≠I.p
def ShapeOk:Nx→KS→Bytes→Prop
  | .ground,.nil,_=>True
  | .escape,.one,_=>True
  | .pasted,.nil,_=>True
  | .pasted,.grown _,_=>True
  | .char,.grown [],l=>l≠ []
  | .sequence,.grown [],l=>l≠ []
  | .single,.grown [],l=>l≠ []
  | _,_,_=>False
def DAt(H:AHeap)(d:Nat)(I:Ids)(s:DS)(es:List Ev):Prop:= ∃ ks,GAt H d I (fnOf s.nx) (decide (s.nx= .pasted)) ks s.kept s.hold s.paste es∧ShapeOk s.nx ks s.kept
theorem bytesA_inj {a b:Bytes}(h:bytesA a=bytesA b):a=b:=by
  have:=congrArg strOf h
  rwa [strOf_bytesA,strOf_bytesA]at this
theorem evA_inj {a b:Ev}(h:evA a=evA b):a=b:=by
  unfold evA at h
  simp only [AVal.agg.injEq,List.cons.injEq,AVal.int.injEq,AVal.str.injEq,and_true,true_and]at h
  cases a;cases b;simp_all
theorem evsA_inj: ∀ {a b:List Ev},a.map evA=b.map evA→a=b
  | [],[],_=>rfl
  | [],_::_,h=>by simp at h
  | _::_,[],h=>by simp at h
  | x::a,y::b,h=>by
    simp only [List.map_cons,List.cons.injEq]at h
    rw [evA_inj h.1,evsA_inj h.2]
theorem grown_uniq {H:AHeap}{k k2:Nat}{v:AVal}{l l2 j j2:Bytes}(h:Grown H k v l j)(h2:Grown H k2 v l2 j2):k=k2∧l=l2∧j=j2:=by
  obtain⟨ver,m,f,e,g⟩:=h
  obtain⟨ver2,m2,f2,e2,g2⟩:=h2
  rw [e]at e2
  simp only [AVal.slice.injEq,Option.some.injEq,AAddr.mk.injEq]at e2
  obtain⟨⟨hk,_,hj,_⟩,_,_⟩:=e2
  subst hk
  rw [g]at g2
  simp only [Option.some.injEq,ABlk.mk.injEq]at g2
  have:=bytesA_inj g2.1
  exact⟨rfl,(List.append_inj this hj).2,(List.append_inj this hj).1⟩
theorem kat_uniq {H:AHeap}{d k k2:Nat}{v:AVal}{ks ks2:KS}{l l2:Bytes}(h:KAt H d k v ks l)(h2:KAt H d k2 v ks2 l2):k=k2∧l=l2∧ks=ks2:=by
  cases ks<;>cases ks2<;>simp only [KAt]at h h2
  · exact⟨by omega,by rw [h.2.1,h2.2.1],rfl⟩
  · have:=h.1.symm.trans h2.2.1;simp at this
  · obtain⟨_,_,_,_,e,_⟩:=h2;rw [h.1]at e;simp at e
  · have:=h2.1.symm.trans h.2.1;simp at this
  · have:=h.2.1.symm.trans h2.2.1
    exact⟨by simpa using this,by rw [h.2.2.2,h2.2.2.2],rfl⟩
  · obtain⟨_,_,_,_,e,g⟩:=h2
    have:=h.2.1.symm.trans e
    simp only [AVal.slice.injEq,Option.some.injEq,AAddr.mk.injEq]at this
    obtain⟨⟨hk,_⟩,_⟩:=this
    rw [hk,g]at h
    simp [ABlk.made]at h
  · obtain⟨_,_,_,_,e,_⟩:=h;rw [h2.1]at e;simp at e
  · obtain⟨_,_,_,_,e,g⟩:=h
    have:=h2.2.1.symm.trans e
    simp only [AVal.slice.injEq,Option.some.injEq,AAddr.mk.injEq]at this
    obtain⟨⟨hk,_⟩,_⟩:=this
    rw [hk,g]at h2
    simp [ABlk.made]at h2
  · obtain⟨a,b,c⟩:=grown_uniq h.2 h2.2
    exact⟨a,b,by rw [c]⟩
theorem pat_uniq {H:AHeap}{d k k2:Nat}{v:AVal}{l l2:Bytes}(h:PAt H d k v l)(h2:PAt H d k2 v l2):k=k2∧l=l2:=by
  rcases h with ⟨a,b,c⟩ | ⟨a,b,g⟩<;>rcases h2 with ⟨a2,b2,c2⟩ | ⟨a2,b2,g2⟩
  · exact⟨by omega,by rw [b,b2]⟩
  · obtain⟨_,_,_,e,_⟩:=g2;rw [a]at e;simp at e
  · obtain⟨_,_,_,e,_⟩:=g;rw [a2]at e;simp at e
  · exact⟨(grown_uniq g g2).1,(grown_uniq g g2).2.1⟩
theorem oat_uniq {H:AHeap}{d k k2:Nat}{v:AVal}{l l2:List Ev}(h:OAt H d k v l)(h2:OAt H d k2 v l2):k=k2∧l=l2:=by
  rcases h with ⟨a,b,c⟩ | ⟨a,b,ver,m,f,e,g⟩<;>rcases h2 with ⟨a2,b2,c2⟩ | ⟨a2,b2,ver2,m2,f2,e2,g2⟩
  · exact⟨by omega,by rw [b,b2]⟩
  · rw [a]at e2;simp at e2
  · rw [a2]at e;simp at e
  · rw [e]at e2
    simp only [AVal.slice.injEq,Option.some.injEq,AAddr.mk.injEq]at e2
    obtain⟨⟨hk,_⟩,_⟩:=e2
    subst hk
    rw [g]at g2
    simp only [Option.some.injEq,ABlk.mk.injEq]at g2
    exact⟨rfl,evsA_inj g2.1⟩
theorem uK_inj {h h2:Bytes}{j0 j1 j2 j3 i0 i1 i2 i3:Int}{ty ty2:Option (TypeId×Nat)}(hl:h.length≤4)(e:uRowH h j0 j1 j2 j3 ty=uRowH h2 i0 i1 i2 i3 ty2):h=h2:=by
  simp only [ABlk.made,ABlk.mk.injEq,List.cons.injEq,AVal.agg.injEq,AVal.int.injEq,true_and,and_true]at e
  obtain⟨⟨e0,e1,e2,e3,en⟩,_⟩:=e
  have en:h.length=h2.length:=by omega
  apply List.ext_getElem? fun i=> ?_
  by_cases hi:i<h.length
  · have hi2:i<h2.length:=by omega
    have key:uK h i 0=uK h2 i 0:=by
      have:i=0∨i=1∨i=2∨i=3:=by omega
      have g: ∀ (x:Bytes) (a b:Int),i<x.length→uK x i a=uK x i b:=fun x a b hx=>by simp [uK,List.getElem?_eq_getElem hx]
      rcases this with rfl | rfl | rfl | rfl
      · rw [g h 0 j0 hi,g h2 0 i0 hi2];exact e0
      · rw [g h 0 j1 hi,g h2 0 i1 hi2];exact e1
      · rw [g h 0 j2 hi,g h2 0 i2 hi2];exact e2
      · rw [g h 0 j3 hi,g h2 0 i3 hi2];exact e3
    simp only [uK,List.getElem?_eq_getElem hi,List.getElem?_eq_getElem hi2]at key
    rw [List.getElem?_eq_getElem hi,List.getElem?_eq_getElem hi2]
    congr 1
    exact UInt8.toNat_inj.1 (by omega)
  · rw [List.getElem?_eq_none (by omega),List.getElem?_eq_none (by omega)]
theorem GAt.uniq {H:AHeap}{d:Nat}{I I2:Ids}{f f2:Nat}{pas pas2:Bool}{ks ks2:KS}{kept kept2 hold hold2 paste paste2:Bytes}{es es2:List Ev}(h:GAt H d I f pas ks kept hold paste es)(h2:GAt H d I2 f2 pas2 ks2 kept2 hold2 paste2 es2)(hl:hold.length≤4) :
    I=I2∧f=f2∧pas=pas2∧ks=ks2∧kept=kept2∧hold=hold2∧paste=paste2∧es=es2:=by
  obtain⟨kv,pv,ov,ty,e,hk,hp,ho⟩:=h.ex
  obtain⟨kv2,pv2,ov2,ty2,e2,hk2,hp2,ho2⟩:=h2.ex
  rw [e]at e2
  simp only [ABlk.made,Option.some.injEq,ABlk.mk.injEq,List.cons.injEq,AVal.agg.injEq,AVal.func.injEq,Fn.func.injEq,AVal.ptr.injEq,AAddr.mk.injEq,AVal.bool.injEq,true_and,and_true]at e2
  obtain⟨⟨hf,rfl,rfl,hpas,hu,rfl⟩,_⟩:=e2
  obtain⟨j0,j1,j2,j3,uty,u1⟩:=h.us
  obtain⟨i0,i1,i2,i3,uty2,u2⟩:=h2.us
  rw [← hu,u1]at u2
  have hh:=uK_inj hl (Option.some.inj u2)
  obtain⟨k1,k2,k3⟩:=kat_uniq hk hk2
  obtain⟨p1,p2⟩:=pat_uniq hp hp2
  obtain⟨o1,o2⟩:=oat_uniq ho ho2
  cases I;cases I2
  simp_all
theorem DAt.uniq {H:AHeap}{d:Nat}{I I2:Ids}{s s2:DS}{es es2:List Ev}(h:DAt H d I s es)(h2:DAt H d I2 s2 es2)(hl:s.hold.length≤4):I=I2∧s=s2∧es=es2:=by
  obtain⟨ks,g,_⟩:=h
  obtain⟨ks2,g2,_⟩:=h2
  obtain⟨a,b,c,d,e,f,g,i⟩:=g.uniq g2 hl
  have:=fnOf_inj b
  cases s;cases s2
  simp_all
theorem bytesA_bare(l:Bytes): ∀ e∈bytesA l,Bare e:=by
  intro e he
  obtain⟨b,_,rfl⟩:=List.mem_map.1 he
  exact Bare.int _ _
theorem evA_bare(e:Ev):Bare (evA e):=Bare.of rfl
theorem evsA_bare(l:List Ev): ∀ e∈l.map evA,Bare e:=by
  intro e he
  obtain⟨b,_,rfl⟩:=List.mem_map.1 he
  exact evA_bare b
theorem uRow_bare(k0 k1 k2 k3 n:Int)(ty:Option (TypeId×Nat)):BareB (uRow k0 k1 k2 k3 n ty):=by
  intro e he
  rw [List.mem_singleton.1 he];exact Bare.of rfl
theorem gRowB_bare {l:List AVal}(h: ∀ e∈l,Bare e)(es v m f:Nat)(ty:Option (TypeId×Nat)):BareB (gRowB l es v m f ty):=h
theorem one_bare:BareB (ABlk.made [.int .u8 27] 1 true):=by
  intro e he
  rw [List.mem_singleton.1 he];exact Bare.of rfl
theorem Grown.big {h' H':AHeap}{r:Nat→Nat}(hr: ∀ i b,h'.get i=some b→H'.get (r i)=some (b.ren r)){k:Nat}{v:AVal}{l junk:Bytes}(g:Grown h' k v l junk):Grown H' (r k) (v.ren r) l junk:=by
  obtain⟨ver,m,f,rfl,hg⟩:=g
  refine⟨ver,m,f,rfl,?_⟩
  have:=hr _ _ hg
  rwa [(gRowB_bare (bytesA_bare _) _ _ _ _ _).ren]at this
theorem GAt.big {h' H':AHeap} {r:Nat→Nat} (hr: ∀ i b,h'.get i=some b→H'.get (r i)=some (b.ren r)) (hinj: ∀ i j,r i=r j→i=j) (hlt: ∀ i,i<h'.next→r i<H'.next) {d:Nat} {I:Ids} {f:Nat} {pas:Bool} {ks:KS} {kept hold paste:Bytes} {es:List Ev}
    (g:GAt h' d I f pas ks kept hold paste es):GAt H' (r d) (I.map r) f pas ks kept hold paste es where
  ex := by
    obtain⟨kv,pv,ov,ty,e,hk,hp,ho⟩:=g.ex
    refine⟨kv.ren r,pv.ren r,ov.ren r,ty,?_,?_,?_,?_⟩
    · rw [hr _ _ e];simp [ABlk.ren,ABlk.made,AVal.ren,AVal.rens,AAddr.ren,Ids.map]
    · cases ks with
      | nil =>
        obtain⟨rfl,rfl,hk⟩:=hk
        exact⟨rfl,rfl,by show r I.k=r d;rw [hk]⟩
      | one =>
        obtain⟨hne,rfl,hk,rfl⟩:=hk
        refine⟨fun e=>hne (hinj _ _ e),rfl,?_,rfl⟩
        have:=hr _ _ hk
        rwa [one_bare.ren]at this
      | grown junk=>exact⟨fun e=>hk.1 (hinj _ _ e),hk.2.big hr⟩
    · rcases hp with ⟨rfl,rfl,hp⟩ | ⟨h1,h2,h3⟩
      · exact .inl ⟨rfl,rfl,by show r I.p=r d;rw [hp]⟩
      · exact .inr ⟨fun e=>h1 (hinj _ _ e),h2,h3.big hr⟩
    · rcases ho with ⟨rfl,rfl,ho⟩ | ⟨h1,h2,ver,m,fl,rfl,hg⟩
      · exact .inl ⟨rfl,rfl,by show r I.o=r d;rw [ho]⟩
      · refine .inr ⟨fun e=>h1 (hinj _ _ e),h2,ver,m,fl,rfl,?_⟩
        have:=hr _ _ hg
        rwa [(gRowB_bare (evsA_bare _) _ _ _ _ _).ren]at this
  us:=by
    obtain⟨j0,j1,j2,j3,ty,hu⟩:=g.us
    refine⟨j0,j1,j2,j3,ty,?_⟩
    have:=hr _ _ hu
    rwa [(uRow_bare _ _ _ _ _ _).ren]at this
  lt:=⟨hlt _ g.lt.1,hlt _ g.lt.2.1,hlt _ g.lt.2.2.1,hlt _ g.lt.2.2.2.1,hlt _ g.lt.2.2.2.2⟩
  ne:=by
    rcases g.ne with h | h | h
    · exact .inl (by show r I.k=r d;rw [h])
    · exact .inr (.inl (by show r I.p=r d;rw [h]))
    · exact .inr (.inr fun e=>h (hinj _ _ e))
structure Fr(h h':AHeap)(d:Nat)(I I':Ids):Prop where
  next:h.next≤h'.next
  get: ∀ j,j<h.next→j≠d→j≠I.u→j≠I.k→j≠I.p→j≠I.o→h'.get j=h.get j
  ids: ∀ x,x=I'.u∨x=I'.k∨x=I'.p∨x=I'.o→x=d∨x=I.u∨x=I.k∨x=I.p∨x=I.o∨h.next≤x
theorem Fr.trans {h h1 h2:AHeap}{d:Nat}{I I1 I2:Ids}(a:Fr h h1 d I I1)(b:Fr h1 h2 d I1 I2):Fr h h2 d I I2 where
  next:=Nat.le_trans a.next b.next
  get j hj e1 e2 e3 e4 e5:=by
    have key: ∀ x,(x=I1.u∨x=I1.k∨x=I1.p∨x=I1.o)→j≠x:=by
      intro x hx e
      subst e
      have:=a.ids _ hx
      omega
    rw [b.get j (Nat.lt_of_lt_of_le hj a.next) e1 (key _ (.inl rfl)) (key _ (.inr (.inl rfl))) (key _ (.inr (.inr (.inl rfl)))) (key _ (.inr (.inr (.inr rfl)))),a.get j hj e1 e2 e3 e4 e5]
  ids x hx:=by
    rcases b.ids x hx with h | h | h | h | h | h
    · exact .inl h
    · exact a.ids x (.inl h)
    · exact a.ids x (.inr (.inl h))
    · exact a.ids x (.inr (.inr (.inl h)))
    · exact a.ids x (.inr (.inr (.inr h)))
    · have:=a.next;omega
def noRow:ABlk:=ABlk.made [] 1 true
theorem noRow_bare:BareB noRow:=by intro e he;cases he
noncomputable def more3(H:AHeap):AHeap:=⟨H.next+3,(((H.set H.next noRow).set (H.next+1) noRow).set (H.next+2) noRow).blks⟩
theorem more3_get(H:AHeap)(j:Nat):(more3 H).get j=if H.next+2=j then some noRow else if H.next+1=j then some noRow else if H.next=j then some noRow else H.get j:=by
  show(((H.set H.next noRow).set (H.next+1) noRow).set (H.next+2) noRow).get j=_
  rw [AHeap.get_set,AHeap.get_set,AHeap.get_set]
theorem more3_old(H:AHeap)(j:Nat)(h:j<H.next):(more3 H).get j=H.get j:=by
  rw [more3_get,if_neg (by omega),if_neg (by omega),if_neg (by omega)]
structure Part(H:AHeap)(d x i dum:Nat)(v v0:AVal)(B:ABlk)(j x0:Nat)(es:Nat):Prop where
  bare:BareB B
  ren: ∀ r:Nat→Nat,r i=j→v0.ren r=v
  clo: ∀ D:Nat→Prop,D i→Clo D v0
  row:(more3 H).get j=some B
  at':(x0=0∧x=d∧j=H.next+dum)∨(x0=i∧x=j∧j≠d∧j<H.next∧B.es=es)
theorem kat_small {H:AHeap}{d k:Nat}{v:AVal}{ks:KS}{l:Bytes}(h:KAt H d k v ks l)(hk:k<H.next): ∃ v0 B j x0,Part H d k 2 0 v v0 B j x0 1∧ ∀ h0:AHeap,h0.get 2=some B→KAt h0 0 x0 v0 ks l:=by
  cases ks with
  | nil =>
    obtain⟨rfl,rfl,rfl⟩:=h
    exact⟨.slice none 0 0,noRow,H.next,0,⟨noRow_bare,fun _ _=>rfl,fun _ _=>trivial,by rw [more3_get,if_neg (by omega),if_neg (by omega),if_pos rfl],.inl ⟨rfl,rfl,rfl⟩⟩,fun h0 _=>⟨rfl,rfl,rfl⟩⟩
  | one =>
    obtain⟨hne,rfl,hg,rfl⟩:=h
    exact⟨.slice (some ⟨2,0,0,0,1⟩) 1 1,ABlk.made [.int .u8 27] 1 true,k,2,⟨one_bare,fun r hr=>by simp [AVal.ren,AAddr.ren,hr],fun D hD=>hD,by rw [more3_old _ _ hk];exact hg,.inr ⟨rfl,rfl,hne,hk,rfl⟩⟩,fun h0 g0=>⟨by decide,rfl,g0,rfl⟩⟩
  | grown junk =>
    obtain⟨hne,ver,m,f,rfl,hg⟩:=h
    exact⟨.slice (some ⟨2,ver,junk.length,0,1⟩) l.length l.length,gRowB (bytesA (junk++l)) 1 ver m f byteTy,k,2,⟨gRowB_bare (bytesA_bare _) _ _ _ _ _,fun r hr=>by simp [AVal.ren,AAddr.ren,hr],fun D hD=>hD,by rw [more3_old _ _ hk];exact hg,.inr ⟨rfl,rfl,hne,hk,rfl⟩⟩,
      fun h0 g0=>⟨by decide,ver,m,f,rfl,g0⟩⟩
theorem pat_small {H:AHeap}{d k:Nat}{v:AVal}{l:Bytes}(h:PAt H d k v l)(hk:k<H.next): ∃ v0 B j x0,Part H d k 3 1 v v0 B j x0 1∧ ∀ h0:AHeap,h0.get 3=some B→PAt h0 0 x0 v0 l:=by
  rcases h with ⟨rfl,rfl,rfl⟩ | ⟨hne,hl,ver,m,f,rfl,hg⟩
  · exact⟨.slice none 0 0,noRow,H.next+1,0,⟨noRow_bare,fun _ _=>rfl,fun _ _=>trivial,by rw [more3_get,if_neg (by omega),if_pos rfl],.inl ⟨rfl,rfl,rfl⟩⟩,fun h0 _=> .inl ⟨rfl,rfl,rfl⟩⟩
  · exact⟨.slice (some ⟨3,ver,0,0,1⟩) l.length l.length,gRowB (bytesA ([]++l)) 1 ver m f byteTy,k,3,⟨gRowB_bare (bytesA_bare _) _ _ _ _ _,fun r hr=>by simp [AVal.ren,AAddr.ren,hr],fun D hD=>hD,by rw [more3_old _ _ hk];exact hg,.inr ⟨rfl,rfl,hne,hk,rfl⟩⟩,
      fun h0 g0=> .inr ⟨by decide,hl,ver,m,f,rfl,g0⟩⟩
theorem oat_small {H:AHeap}{d k:Nat}{v:AVal}{l:List Ev}(h:OAt H d k v l)(hk:k<H.next): ∃ v0 B j x0,Part H d k 4 2 v v0 B j x0 6∧(x0=4→B.exact=false)∧ ∀ h0:AHeap,h0.get 4=some B→OAt h0 0 x0 v0 l:=by
  rcases h with ⟨rfl,rfl,rfl⟩ | ⟨hne,hl,ver,m,f,rfl,hg⟩
  · exact⟨.slice none 0 0,noRow,H.next+2,0,⟨noRow_bare,fun _ _=>rfl,fun _ _=>trivial,by rw [more3_get,if_pos rfl],.inl ⟨rfl,rfl,rfl⟩⟩,(fun e=>by cases e),fun h0 _=> .inl ⟨rfl,rfl,rfl⟩⟩
  · exact⟨.slice (some ⟨4,ver,0,0,6⟩) l.length l.length,gRowB (l.map evA) 6 ver m f evTy,k,4,⟨gRowB_bare (evsA_bare _) _ _ _ _ _,fun r hr=>by simp [AVal.ren,AAddr.ren,hr],fun D hD=>hD,by rw [more3_old _ _ hk];exact hg,.inr ⟨rfl,rfl,hne,hk,rfl⟩⟩,fun _=>rfl,
      fun h0 g0=> .inr ⟨by decide,hl,ver,m,f,rfl,g0⟩⟩
theorem GAt.liftB {H:AHeap} {d:Nat} {I:Ids} {f:Nat} {pas:Bool} {ks:KS} {kept hold paste:Bytes} {es:List Ev} (g:GAt H d I f pas ks kept hold paste es) {fn:FuncId} {rest:List AVal} {v:AVal} (hrest: ∀ a∈rest,Bare a) (hv:Bare v)
    {Q:AHeap→Nat→Ids→Prop} (hQ: ∀ (h' H':AHeap) (r:Nat→Nat) (d:Nat) (I:Ids),(∀ i b,h'.get i=some b→H'.get (r i)=some (b.ren r))→(∀ i j,r i=r j→i=j)→(∀ i,i<h'.next→r i<H'.next)→Q h' d I→Q H' (r d) (I.map r))
    (small: ∀ kv pv ov ty uty j0 j1 j2 j3 K P O I0,GAt (AHeap.of [dRowV 0 f 1 kv pv pas ov ty,uRowH hold j0 j1 j2 j3 uty,K,P,O]) 0 I0 f pas ks kept hold paste es→(I0.u=1∧(I0.k=0∨I0.k=2)∧(I0.p=0∨I0.p=3)∧(I0.o=0∨I0.o=4))→BareB K→BareB P→BareB O →
      ∃ h',FDoes Tryz.prog cnd fn (.ptr (some ⟨0,0,0,0,6⟩)::rest) (AHeap.of [dRowV 0 f 1 kv pv pas ov ty,uRowH hold j0 j1 j2 j3 uty,K,P,O]) v h'∧ ∃ I',Q h' 0 I'∧Fr (AHeap.of [dRowV 0 f 1 kv pv pas ov ty,uRowH hold j0 j1 j2 j3 uty,K,P,O]) h' 0 I0 I') :
    ∃ H',FDoes Tryz.prog cnd fn (.ptr (some ⟨d,0,0,0,6⟩)::rest) H v H'∧ ∃ I',Q H' d I'∧Fr H H' d I I':=by
  obtain⟨kv,pv,ov,ty,e,hk,hp,ho⟩:=g.ex
  obtain⟨j0,j1,j2,j3,uty,hu⟩:=g.us
  obtain⟨l1,l2,l3,l4,l5⟩:=g.lt
  obtain⟨kv0,K,jk,xk,pk,ck⟩:=kat_small hk l3
  obtain⟨pv0,P,jp,xp,pp,cp⟩:=pat_small hp l4
  obtain⟨ov0,O,jo,xo,po,exo,co⟩:=oat_small ho l5
  have rowk:jk<H.next→H.get jk=some K:=fun h=>by rw [← more3_old _ _ h];exact pk.row
  have rowp:jp<H.next→H.get jp=some P:=fun h=>by rw [← more3_old _ _ h];exact pp.row
  have rowo:jo<H.next→H.get jo=some O:=fun h=>by rw [← more3_old _ _ h];exact po.row
  have ndu:d≠I.u:=by
    intro h;rw [← h,e]at hu;simp [ABlk.made]at hu
  have nuk:jk<H.next→K.es=1→I.u≠jk:=by
    intro h1 h2 h;have:=rowk h1;rw [← h,hu]at this;simp only [Option.some.injEq]at this;rw [← this]at h2;simp [ABlk.made]at h2
  have nup:jp<H.next→P.es=1→I.u≠jp:=by
    intro h1 h2 h;have:=rowp h1;rw [← h,hu]at this;simp only [Option.some.injEq]at this;rw [← this]at h2;simp [ABlk.made]at h2
  have nuo:jo<H.next→O.es=6→I.u≠jo:=by
    intro h1 h2 h;have:=rowo h1;rw [← h,hu]at this;simp only [Option.some.injEq]at this;rw [← this]at h2;simp [ABlk.made]at h2
  have nko:jk<H.next→K.es=1→jo<H.next→O.es=6→jk≠jo:=by
    intro h1 h2 h3 h4 h;have:=rowk h1;rw [h,rowo h3]at this;simp only [Option.some.injEq]at this;rw [this]at h4;omega
  have npo:jp<H.next→P.es=1→jo<H.next→O.es=6→jp≠jo:=by
    intro h1 h2 h3 h4 h;have:=rowp h1;rw [h,rowo h3]at this;simp only [Option.some.injEq]at this;rw [this]at h4;omega
  let ids:= [d,I.u,jk,jp,jo]
  let H2:=more3 H
  let r:=toBig ids H2.next
  have hnx:H2.next=H.next+3:=rfl
  have hnd:ids.Nodup:=by
    have a1:=pk.at';have a2:=pp.at';have a3:=po.at';have a4:=g.ne
    simp only [ids,List.nodup_cons,List.mem_cons,List.not_mem_nil,or_false,not_or,List.nodup_nil,and_true,not_false_eq_true]
    refine⟨⟨ndu,?_,?_,?_⟩,⟨?_,?_,?_⟩,⟨?_,?_⟩,?_⟩
    · omega
    · omega
    · omega
    · rcases a1 with ⟨_,_,h⟩ | ⟨_,_,_,h,h'⟩
      · omega
      · exact nuk h h'
    · rcases a2 with ⟨_,_,h⟩ | ⟨_,_,_,h,h'⟩
      · omega
      · exact nup h h'
    · rcases a3 with ⟨_,_,h⟩ | ⟨_,_,_,h,h'⟩
      · omega
      · exact nuo h h'
    · omega
    · rcases a1 with ⟨_,_,h⟩ | ⟨_,_,_,h,h'⟩<;>rcases a3 with ⟨_,_,q⟩ | ⟨_,_,_,q,q'⟩
      · omega
      · omega
      · omega
      · exact nko h h' q q'
    · rcases a2 with ⟨_,_,h⟩ | ⟨_,_,_,h,h'⟩<;>rcases a3 with ⟨_,_,q⟩ | ⟨_,_,_,q,q'⟩
      · omega
      · omega
      · omega
      · exact npo h h' q q'
  have hlt: ∀ j∈ids,j<H2.next:=by
    have a1:=pk.at';have a2:=pp.at';have a3:=po.at'
    intro j hj
    simp only [ids,List.mem_cons,List.not_mem_nil,or_false]at hj
    rcases hj with rfl | rfl | rfl | rfl | rfl<;>omega
  have r0:r 0=d:=rfl
  have r1:r 1=I.u:=rfl
  have r2:r 2=jk:=rfl
  have r3:r 3=jp:=rfl
  have r4:r 4=jo:=rfl
  let l:List ABlk:= [dRowV 0 f 1 kv0 pv0 pas ov0 ty,uRowH hold j0 j1 j2 j3 uty,K,P,O]
  have hclo: ∀ b∈l,CloB (fun i=>i<l.length) b:=by
    intro b hb
    simp only [l,List.mem_cons,List.not_mem_nil,or_false]at hb
    rcases hb with rfl | rfl | rfl | rfl | rfl
    · intro x hx
      rw [List.mem_singleton.1 hx]
      simp only [Clo,Clos,l,List.length_cons,List.length_nil]
      exact⟨⟨⟨by decide,trivial⟩,trivial⟩,pk.clo _ (by decide),pp.clo _ (by decide),trivial,by decide,po.clo _ (by decide),trivial⟩
    · exact(uRow_bare _ _ _ _ _ _).clo _
    · exact pk.bare.clo _
    · exact pp.bare.clo _
    · exact po.bare.clo _
  have hl: ∀ i b,l[i]? =some b→H2.get (r i)=some (b.ren r):=by
    intro i b hb
    have hi:=(List.getElem?_eq_some_iff.1 hb).1
    simp only [l,List.length_cons,List.length_nil]at hi
    have:i=0∨i=1∨i=2∨i=3∨i=4:=by omega
    rcases this with rfl | rfl | rfl | rfl | rfl
    · simp only [l,List.getElem?_cons_zero,Option.some.injEq]at hb
      subst hb
      rw [r0]
      show(more3 H).get d=_
      rw [more3_old _ _ l1,e]
      have e1:=pk.ren r r2;have e2:=pp.ren r r3;have e3:=po.ren r r4
      simp [ABlk.ren,ABlk.made,AVal.ren,AVal.rens,AAddr.ren,e1,e2,e3,r0,r1]
    · simp only [l,List.getElem?_cons_zero,List.getElem?_cons_succ,Option.some.injEq]at hb
      subst hb
      rw [r1,(uRow_bare _ _ _ _ _ _).ren]
      show(more3 H).get I.u=_
      rw [more3_old _ _ l2];exact hu
    · simp only [l,List.getElem?_cons_zero,List.getElem?_cons_succ,Option.some.injEq]at hb
      subst hb
      rw [r2,pk.bare.ren];exact pk.row
    · simp only [l,List.getElem?_cons_zero,List.getElem?_cons_succ,Option.some.injEq]at hb
      subst hb
      rw [r3,pp.bare.ren];exact pp.row
    · simp only [l,List.getElem?_cons_zero,List.getElem?_cons_succ,Option.some.injEq]at hb
      subst hb
      rw [r4,po.bare.ren];exact po.row
  have gs:GAt (AHeap.of l) 0 ⟨1,xk,xp,xo⟩ f pas ks kept hold paste es:=by
    refine⟨⟨kv0,pv0,ov0,ty,by rw [AHeap.of_get];rfl,ck _ (by rw [AHeap.of_get];rfl),cp _ (by rw [AHeap.of_get];rfl),co _ (by rw [AHeap.of_get];rfl)⟩,⟨j0,j1,j2,j3,uty,by rw [AHeap.of_get];rfl⟩,?_,?_⟩
    · have a1:=pk.at';have a2:=pp.at';have a3:=po.at'
      show 0<5∧1<5∧xk<5∧xp<5∧xo<5
      omega
    · have a1:=pk.at';have a2:=pp.at'
      show xk=0∨xp=0∨xk≠xp
      omega
  obtain⟨h',hd,I',hq,fr⟩:=small kv0 pv0 ov0 ty uty j0 j1 j2 j3 K P O _ gs (by have a1:=pk.at';have a2:=pp.at';have a3:=po.at';show 1=1∧(xk=0∨xk=2)∧(xp=0∨xp=3)∧(xo=0∨xo=4);omega) pk.bare pp.bare po.bare
  have hn5:5≤h'.next:=fr.next
  obtain⟨H',hd',hnext,hget,hout⟩:=hd.place (hn':=hn5) hclo (by
    refine Clos_iff.2 fun a ha=> ?_
    rcases List.mem_cons.1 ha with rfl | ha
    · show 0<5;decide
    · exact(hrest a ha).clo _) (H:=H2) ids hnd hlt rfl hl
  have hargs:(AVal.ptr (some ⟨0,0,0,0,6⟩)::rest).map (AVal.ren (toBig ids H2.next))=AVal.ptr (some ⟨d,0,0,0,6⟩)::rest:=by
    rw [List.map_cons]
    congr 1
    conv=>rhs;rw [← List.map_id rest]
    exact List.map_congr_left fun a ha=>(hrest a ha).1 _
  rw [hargs,hv.1]at hd'
  have hinj: ∀ i j,r i=r j→i=j:=fun i j h=>toBig_inj hnd hlt h
  have hltr: ∀ i,i<h'.next→r i<H'.next:=by
    intro i hi
    have hnext:H'.next=H.next+3+(h'.next-5):=hnext
    by_cases c:i<5
    · have h5:i<ids.length:=c
      have:=hlt _ (List.getElem_mem h5)
      show toBig ids H2.next i<_
      rw [toBig_lt h5];omega
    · show toBig ids H2.next i<_
      rw [toBig_ge (show ids.length≤i by show 5≤i;omega)]
      show H.next+3+(i-5)<_
      omega
  refine⟨H',hd'.less (by show H.next≤H.next+3;omega) (fun i hi=>more3_old H i hi),I'.map r,hQ h' H' r 0 I' hget hinj hltr hq,?_,?_,?_⟩
  · have hnext:H'.next=H.next+3+(h'.next-5):=hnext
    omega
  · intro j hj e1 e2 e3 e4 e5
    have hni:j ∉ ids:=by
      have a1:=pk.at';have a2:=pp.at';have a3:=po.at'
      simp only [ids,List.mem_cons,List.not_mem_nil,or_false,not_or]
      refine⟨e1,e2,?_,?_,?_⟩<;>omega
    rw [hout j (by show j<H.next+3;omega) hni]
    exact more3_old H j hj
  · intro x hx
    have key: ∀ y,(y=I'.u∨y=I'.k∨y=I'.p∨y=I'.o)→r y=d∨r y=I.u∨r y=I.k∨r y=I.p∨r y=I.o∨H.next≤r y:=by
      intro y hy
      have a1:=pk.at';have a2:=pp.at';have a3:=po.at'
      rcases fr.ids y hy with h | h | h | h | h | h
      · left;rw [h];exact r0
      · right;left;rw [h];exact r1
      · have h:y=xk:=h
        rcases a1 with ⟨b1,_,_⟩ | ⟨b1,b2,_⟩
        · left;rw [h,b1];exact r0
        · right;right;left;rw [h,b1,r2,b2]
      · have h:y=xp:=h
        rcases a2 with ⟨b1,_,_⟩ | ⟨b1,b2,_⟩
        · left;rw [h,b1];exact r0
        · right;right;right;left;rw [h,b1,r3,b2]
      · have h:y=xo:=h
        rcases a3 with ⟨b1,_,_⟩ | ⟨b1,b2,_⟩
        · left;rw [h,b1];exact r0
        · right;right;right;right;left;rw [h,b1,r4,b2]
      · right;right;right;right;right
        have h:5≤y:=h
        show H.next≤toBig ids H2.next y
        rw [toBig_ge (show ids.length≤y from h)]
        show H.next≤H.next+3+_
        omega
    rcases hx with h | h | h | h<;>(rw [h];exact key _ (by simp))
theorem GAt.lift {H:AHeap}{d:Nat}{I:Ids}{f:Nat}{pas:Bool}{ks:KS}{kept hold paste:Bytes}{es:List Ev}(g:GAt H d I f pas ks kept hold paste es){fn:FuncId}{rest:List AVal}{v:AVal}(hrest: ∀ a∈rest,Bare a)(hv:Bare v)
    {Q:AHeap→Nat→Ids→Prop} (hQ: ∀ (h' H':AHeap) (r:Nat→Nat) (d:Nat) (I:Ids),(∀ i b,h'.get i=some b→H'.get (r i)=some (b.ren r))→(∀ i j,r i=r j→i=j)→(∀ i,i<h'.next→r i<H'.next)→Q h' d I→Q H' (r d) (I.map r))
    (small: ∀ kv pv ov ty uty j0 j1 j2 j3 K P O I0,GAt (AHeap.of [dRowV 0 f 1 kv pv pas ov ty,uRowH hold j0 j1 j2 j3 uty,K,P,O]) 0 I0 f pas ks kept hold paste es→(I0.u=1∧(I0.k=0∨I0.k=2)∧(I0.p=0∨I0.p=3)∧(I0.o=0∨I0.o=4)) →
      ∃ h',FDoes Tryz.prog cnd fn (.ptr (some ⟨0,0,0,0,6⟩)::rest) (AHeap.of [dRowV 0 f 1 kv pv pas ov ty,uRowH hold j0 j1 j2 j3 uty,K,P,O]) v h'∧ ∃ I',Q h' 0 I'∧Fr (AHeap.of [dRowV 0 f 1 kv pv pas ov ty,uRowH hold j0 j1 j2 j3 uty,K,P,O]) h' 0 I0 I') :
    ∃ H',FDoes Tryz.prog cnd fn (.ptr (some ⟨d,0,0,0,6⟩)::rest) H v H'∧ ∃ I',Q H' d I'∧Fr H H' d I I' :=
  g.liftB hrest hv hQ fun kv pv ov ty uty j0 j1 j2 j3 K P O I0 gs hI _ _ _=>small kv pv ov ty uty j0 j1 j2 j3 K P O I0 gs hI
theorem KAt.keep {H H':AHeap}{d k:Nat}{v:AVal}{ks:KS}{l:Bytes}(h:KAt H d k v ks l)(hg:k≠d→H'.get k=H.get k):KAt H' d k v ks l:=by
  cases ks with
  | nil=>exact h
  | one=>exact⟨h.1,h.2.1,by rw [hg h.1];exact h.2.2.1,h.2.2.2⟩
  | grown junk =>
    obtain⟨h1,ver,m,f,e,g⟩:=h
    exact⟨h1,ver,m,f,e,by rw [hg h1];exact g⟩
theorem PAt.keep {H H':AHeap}{d k:Nat}{v:AVal}{l:Bytes}(h:PAt H d k v l)(hg:k≠d→H'.get k=H.get k):PAt H' d k v l:=by
  rcases h with h | ⟨h1,h2,ver,m,f,e,g⟩
  · exact .inl h
  · exact .inr ⟨h1,h2,ver,m,f,e,by rw [hg h1];exact g⟩
theorem OAt.keep {H H':AHeap}{d k:Nat}{v:AVal}{l:List Ev}(h:OAt H d k v l)(hg:k≠d→H'.get k=H.get k):OAt H' d k v l:=by
  rcases h with h | ⟨h1,h2,ver,m,f,e,g⟩
  · exact .inl h
  · exact .inr ⟨h1,h2,ver,m,f,e,by rw [hg h1];exact g⟩
abbrev zv27_0(ek:Int)(ec:Int)(em:Int)(ex:Int)(ey:Int)(et:Bytes):AVal:=AVal.agg [.int .i8 ek,.int .i32 ec,.int .u8 em,.int .i64 ex,.int .i64 ey,.str et]
theorem tellN_vc(f:Nat)(kv pv:AVal)(pas:Bool)(dty:Option (TypeId×Nat))(U K P O:ABlk)(ek ec em ex ey:Int)(et:Bytes)(K0:AVal→AHeap→Prop)(vc:K0 (.tuple []) (AHeap.rowsT 27 [(0,⟨[.agg [.func (.func 30) [.ptr (some ⟨0,0,0,0,6⟩)] [],.slice none 0 0,pv,.bool pas,.ptr (some ⟨1,0,0,0,5⟩),.slice (some ⟨13,0,0,0,6⟩) 1 1]],6,true,false,0,0,0,dty⟩),(1,U),(2,K),(3,P),(4,O),(5,ABlk.made [(zv27_0 ek ec em ex ey et)] 6 true (some (42,6))),(12,ABlk.made [(zv27_0 ek ec em ex ey et)] 6 true),(13,ABlk.made [(zv27_0 ek ec em ex ey et)] 6 false (some (42,0)))])) :
    ∃ v h1,FDoes Tryz.prog cnd 58 [.ptr (some ⟨0,0,0,0,6⟩),evA ⟨ek,ec,em,ex,ey,et⟩] (AHeap.of [dRowV 0 f 1 kv pv pas (.slice none 0 0) dty,U,K,P,O]) v h1∧K0 v h1 :=
  tcall_does env_ok mixed noSpecs_ok (hs:= .nil) (by kernel_rfl) vc
theorem tellG_vc(f:Nat)(kv pv:AVal)(pas:Bool)(dty:Option (TypeId×Nat))(U K P:ABlk)(ek ec em ex ey:Int)(et:Bytes)(es:List AVal)(ver m fl n:Nat)(K0:AVal→AHeap→Prop)(vc:(ver=ver∧0+n=List.length es∧n<n+1∧(n+1+(n+1) / 4+512)*48≤281474976710656∧n+1<4611686018427387904)∧K0 (.tuple []) (AHeap.rowsT 27 [(0,{elems:= [.agg [.func (.func 30) [.ptr (some ⟨0,0,0,0,6⟩)] [],.slice none 0 0,pv,.bool pas,.ptr (some ⟨1,0,0,0,5⟩),.slice (some {id:=4,ver:=ver+1,idx:=0,fld:=0,es:=6}) (n+1) (n+1)]],es:=6,exact:=true,ro:=false,ver:=0,minVer:=0,forkLen:=0,ty:=dty}),(1,U),(2,K),(3,P),(4,⟨es++ [(zv27_0 ek ec em ex ey et)],6,false,false,ver+1,m,if m=ver then List.length es else min fl (List.length es),some (42,0)⟩),(5,ABlk.made [(zv27_0 ek ec em ex ey et)] 6 true (some (42,6))),(12,ABlk.made [(zv27_0 ek ec em ex ey et)] 6 true)])) :
    ∃ v h1,FDoes Tryz.prog cnd 58 [.ptr (some ⟨0,0,0,0,6⟩),evA ⟨ek,ec,em,ex,ey,et⟩] (AHeap.of [dRowV 0 f 1 kv pv pas (.slice (some ⟨4,ver,0,0,6⟩) n n) dty,U,K,P,gRowB es 6 ver m fl evTy]) v h1∧K0 v h1 :=
  tcall_does env_ok mixed noSpecs_ok (hs:=hg 1007 .nil) (by kernel_rfl) vc
theorem tell_does {H:AHeap} {d:Nat} {I:Ids} {f:Nat} {pas:Bool} {ks:KS} {kept hold paste:Bytes} {es:List Ev} (g:GAt H d I f pas ks kept hold paste es) (e:Ev) (hes:es.length<2^30) :
    ∃ H',FDoes Tryz.prog cnd 58 [.ptr (some ⟨d,0,0,0,6⟩),evA e] H (.tuple []) H'∧ ∃ I',GAt H' d I' (fnOf .ground) pas .nil [] hold paste (es++ [e])∧Fr H H' d I I':=by
  refine g.lift (Q:=fun h d I=>GAt h d I (fnOf .ground) pas .nil [] hold paste (es++ [e])) (fun a ha=>by rw [List.mem_singleton.1 ha];exact evA_bare e) (Bare.of rfl) (fun h' H' r d I hr hinj hlt q=>q.big hr hinj hlt) ?_
  intro kv pv ov ty uty j0 j1 j2 j3 K P O I0 gs hI
  obtain⟨kv',pv',ov',ty',e0,hk,hp,ho⟩:=gs.ex
  rw [AHeap.of_get]at e0
  simp only [List.getElem?_cons_zero,Option.some.injEq,ABlk.made,ABlk.mk.injEq,List.cons.injEq,AVal.agg.injEq,AVal.func.injEq,AVal.ptr.injEq,AAddr.mk.injEq,true_and,and_true]at e0
  obtain⟨⟨rfl,rfl,hu,rfl⟩,rfl⟩:=e0
  obtain⟨i0,ik,ip,io⟩:=hI
  have fin: ∀ (v:AVal) (h':AHeap) (x:Nat),v= .tuple []∧(∃ I',GAt h' 0 I' (fnOf .ground) pas .nil [] hold paste (es++ [e])∧Fr (AHeap.of [dRowV 0 f 1 kv pv pas ov ty,uRowH hold j0 j1 j2 j3 uty,K,P,O]) h' 0 I0 I') →
      FDoes Tryz.prog cnd 58 [.ptr (some ⟨0,0,0,0,6⟩),evA e] (AHeap.of [dRowV 0 f 1 kv pv pas ov ty,uRowH hold j0 j1 j2 j3 uty,K,P,O]) v h' →
      ∃ h',FDoes Tryz.prog cnd 58 [.ptr (some ⟨0,0,0,0,6⟩),evA e] (AHeap.of [dRowV 0 f 1 kv pv pas ov ty,uRowH hold j0 j1 j2 j3 uty,K,P,O]) (.tuple []) h'∧ ∃ I',GAt h' 0 I' (fnOf .ground) pas .nil [] hold paste (es++ [e])∧Fr (AHeap.of [dRowV 0 f 1 kv pv pas ov ty,uRowH hold j0 j1 j2 j3 uty,K,P,O]) h' 0 I0 I':=by
    rintro v h' x ⟨rfl,q⟩ hd;exact⟨h',hd,q⟩
  rcases ho with ⟨rfl,rfl,ho⟩ | ⟨ho1,ho2,ver,m,fl,rfl,ho3⟩
  · obtain⟨v,h',hd,q⟩:=tellN_vc f kv pv pas ty (uRowH hold j0 j1 j2 j3 uty) K P O e.kind e.code e.mods e.x e.y e.text (fun v h'=>v= .tuple []∧ ∃ I',GAt h' 0 I' (fnOf .ground) pas .nil [] hold paste [e]∧Fr (AHeap.of [dRowV 0 f 1 kv pv pas (.slice none 0 0) ty,uRowH hold j0 j1 j2 j3 uty,K,P,O]) h' 0 I0 I') (by
      delta zv27_0
      refine⟨rfl,⟨1,0,I0.p,13⟩,⟨⟨.slice none 0 0,pv,.slice (some ⟨13,0,0,0,6⟩) 1 1,ty,by kernel_rfl,⟨rfl,rfl,rfl⟩,hp.keep ?_,.inr ⟨by show 13≠0;decide,by simp,0,0,0,rfl,?_⟩⟩,⟨j0,j1,j2,j3,uty,by kernel_rfl⟩,?_,.inl rfl⟩,⟨?_,?_,?_⟩⟩
      rotate_left
      · kernel_rfl
      rotate_right
      · intro hne;rw [AHeap.of_get]
        rcases ip with ip | ip
        · exact absurd ip hne
        · rw [ip];kernel_rfl
      · show 0<27∧1<27∧0<27∧I0.p<27∧13<27
        omega
      · show 5≤27;decide
      · intro j hj e1 e2 _ _ _
        have hj:j<5:=hj
        have:j=2∨j=3∨j=4:=by omega
        rw [AHeap.of_get]
        rcases this with rfl | rfl | rfl<;>(show _=_;kernel_rfl)
      · intro x hx
        show x=0∨x=I0.u∨x=I0.k∨x=I0.p∨x=I0.o∨5≤x
        have hx:x=1∨x=0∨x=I0.p∨x=13:=hx
        omega)
    exact fin v h' 0 q hd
  · have io:I0.o=4:=by omega
    rw [io,AHeap.of_get]at ho3
    simp only [List.getElem?_cons_zero,List.getElem?_cons_succ,Option.some.injEq]at ho3
    subst ho3
    obtain⟨v,h',hd,q⟩:=tellG_vc f kv pv pas ty (uRowH hold j0 j1 j2 j3 uty) K P e.kind e.code e.mods e.x e.y e.text (es.map evA) ver m fl es.length (fun v h'=>v= .tuple []∧ ∃ I',GAt h' 0 I' (fnOf .ground) pas .nil [] hold paste (es++ [e])∧Fr (AHeap.of [dRowV 0 f 1 kv pv pas (.slice (some ⟨4,ver,0,0,6⟩) es.length es.length) ty,uRowH hold j0 j1 j2 j3 uty,K,P,gRowB (es.map evA) 6 ver m fl evTy]) h' 0 I0 I') (by
      delta zv27_0
      refine⟨⟨rfl,by simp,by omega,by omega,by omega⟩,rfl,⟨1,0,I0.p,4⟩,⟨⟨.slice none 0 0,pv,.slice (some ⟨4,ver+1,0,0,6⟩) (es.length+1) (es.length+1),ty,by kernel_rfl,⟨rfl,rfl,rfl⟩,hp.keep ?_,.inr ⟨by show 4≠0;decide,by simp,ver+1,m,if m=ver then(es.map evA).length else min fl (es.map evA).length,by simp,?_⟩⟩,⟨j0,j1,j2,j3,uty,by kernel_rfl⟩,?_,.inl rfl⟩,⟨?_,?_,?_⟩⟩
      rotate_left
      · rw [List.map_append];kernel_rfl
      rotate_right
      · intro hne;rw [AHeap.of_get]
        rcases ip with ip | ip
        · exact absurd ip hne
        · rw [ip];kernel_rfl
      · show 0<27∧1<27∧0<27∧I0.p<27∧4<27
        omega
      · show 5≤27;decide
      · intro j hj e1 e2 _ _ e5
        have hj:j<5:=hj
        have:j=2∨j=3:=by omega
        rw [AHeap.of_get]
        rcases this with rfl | rfl<;>(show _=_;kernel_rfl)
      · intro x hx
        show x=0∨x=I0.u∨x=I0.k∨x=I0.p∨x=I0.o∨5≤x
        have hx:x=1∨x=0∨x=I0.p∨x=4:=hx
        omega)
    rw [io]at fin ⊢
    exact fin v h' 0 q hd
structure TellPre(h:AHeap)(a:AAddr)(ev:AVal):Prop where
  at':a=⟨a.id,0,0,0,6⟩
  ex: ∃ I f pas ks kept hold paste es e,ev=evA e∧GAt h a.id I f pas ks kept hold paste es∧es.length<2^30∧hold.length≤4
structure TellP(h:AHeap)(a:AAddr)(ev:AVal)(h':AHeap):Prop where
  all: ∀ I f pas ks kept hold paste es e,ev=evA e→GAt h a.id I f pas ks kept hold paste es→hold.length≤4→ ∃ I',GAt h' a.id I' (fnOf .ground) pas .nil [] hold paste (es++ [e])∧Fr h h' a.id I I'
  next:h.next≤h'.next
def tellS:List AVal→AHeap→Option Alts:=fun args h =>
  match args with
  | [.ptr (some a),.agg cs]=>some (.some (.tuple []) [TellPre h a (.agg cs)] (TellP h a (.agg cs)))
  | _=>none
theorem tellS_ok: ∀ args h a,tellS args h=some a→a.Ok Tryz.prog cnd 58 args h:=by
  intro args h a e
  unfold tellS at e
  split at e<;>first | (cases e;done) | skip
  rename_i a cs
  simp only [Option.some.injEq]at e
  subst e
  intro hp
  have ha:=hp.head.at'
  obtain⟨I,f,pas,ks,kept,hold,paste,es,e,he,g,hes,hl⟩:=hp.head.ex
  obtain⟨h',hd,I',g',fr⟩:=tell_does g e hes
  rw [← ha,← he]at hd
  refine⟨h',hd,⟨?_,fr.next⟩⟩
  intro I2 f2 pas2 ks2 kept2 hold2 paste2 es2 e2 he2 g2 hl2
  obtain⟨rfl,rfl,rfl,rfl,rfl,rfl,rfl,rfl⟩:=g.uniq g2 hl
  have:=evA_inj (he.symm.trans he2)
  subst this
  exact⟨I',g',fr⟩
structure StepPre(N:Nat)(R:DS→UInt8→Prop)(h:AHeap)(a:AAddr)(c:Int):Prop where
  at':a=⟨a.id,0,0,0,6⟩
  ex: ∃ I s es,DAt h a.id I s es∧es.length<N∧s.hold.length≤4∧R s (byteI c)
  c:0≤c∧c≤255
structure StepP(F:DS→UInt8→DS×List Ev)(h:AHeap)(a:AAddr)(c:Int)(h':AHeap):Prop where
  all: ∀ I s es,DAt h a.id I s es→s.hold.length≤4→ ∃ I',DAt h' a.id I' (F s (byteI c)).1 (es++(F s (byteI c)).2)∧Fr h h' a.id I I'
  next:h.next≤h'.next
def stepS(N:Nat)(R:DS→UInt8→Prop)(F:DS→UInt8→DS×List Ev):List AVal→AHeap→Option Alts:=fun args h =>
  match args with
  | [.ptr (some a),.int .u8 c]=>some (.some (.tuple []) [StepPre N R h a c] (StepP F h a c))
  | _=>none
theorem byteI_nat(c:UInt8):byteI (c.toNat:Int)=c:=by unfold byteI;simp
theorem byteI_toNat {c:Int}(h:0≤c∧c≤255):((byteI c).toNat:Int)=c:=by
  unfold byteI
  have:(UInt8.ofNat c.toNat).toNat=c.toNat % 256:=by simp [UInt8.toNat_ofNat']
  rw [this];omega
theorem stepS_ok {N:Nat}{f:FuncId}{R:DS→UInt8→Prop}{F:DS→UInt8→DS×List Ev}(k: ∀ H d I s es c,DAt H d I s es→es.length<N→s.hold.length≤4→R s c→ ∃ H',FDoes Tryz.prog cnd f [.ptr (some ⟨d,0,0,0,6⟩),.int .u8 (c:UInt8).toNat] H (.tuple []) H'∧ ∃ I',DAt H' d I' (F s c).1 (es++(F s c).2)∧Fr H H' d I I') :
    ∀ args h a,stepS N R F args h=some a→a.Ok Tryz.prog cnd f args h:=by
  intro args h a e
  unfold stepS at e
  split at e<;>first | (cases e;done) | skip
  rename_i a c
  simp only [Option.some.injEq]at e
  subst e
  intro hp
  have ha:=hp.head.at'
  obtain⟨_,⟨I,s,es,g,hes,hl,hR⟩,hc⟩:=hp.head
  obtain⟨h',hd,I',g',fr⟩:=k h a.id I s es (byteI c) g hes hl hR
  rw [← ha,byteI_toNat hc]at hd
  refine⟨h',hd,⟨?_,fr.next⟩⟩
  intro I2 s2 es2 g2 hl2
  obtain⟨rfl,rfl,rfl⟩:=g.uniq g2 hl
  exact⟨I',g',fr⟩
noncomputable def specs3:Specs:=specs2.add 58 tellS
theorem specs3_ok:SpecsOk Tryz.prog cnd specs3:=specs2_ok.add tellS_ok
theorem mkG {h:AHeap}{f:Nat}{kv pv ov:AVal}{pas:Bool}{ty uty:Option (TypeId×Nat)}{hold kept paste:Bytes}{j0 j1 j2 j3:Int}{D U K P O:ABlk}{ks:KS}{es:List Ev}{k p o:Nat}
    (e0:h.get 0=some (dRowV 0 f 1 kv pv pas ov ty)) (e1:h.get 1=some (uRowH hold j0 j1 j2 j3 uty)) (e3:h.get 3=some P) (e4:h.get 4=some O) (hk:KAt h 0 k kv ks kept) (hkn:k<h.next) (h5:5≤h.next)
    (hp:PAt (AHeap.of [D,U,K,P,O]) 0 p pv paste) (ho:OAt (AHeap.of [D,U,K,P,O]) 0 o ov es) (ip:p=0∨p=3) (io:o=0∨o=4) (hne:k=0∨k=2∨5≤k):GAt h 0 ⟨1,k,p,o⟩ f pas ks kept hold paste es where
  ex :=by
    refine⟨kv,pv,ov,ty,e0,hk,hp.keep fun hn=> ?_,ho.keep fun hn=> ?_⟩
    · rcases ip with rfl | rfl
      · exact absurd rfl hn
      · rw [e3,AHeap.of_get];rfl
    · rcases io with rfl | rfl
      · exact absurd rfl hn
      · rw [e4,AHeap.of_get];rfl
  us:=⟨j0,j1,j2,j3,uty,e1⟩
  lt:=by show 0<h.next∧1<h.next∧k<h.next∧p<h.next∧o<h.next;omega
  ne:=by show k=0∨p=0∨k≠p;omega
theorem mkFr {h:AHeap}{D U K P O:ABlk}{I0:Ids}{k:Nat}(hI:I0.u=1∧(I0.k=0∨I0.k=2)∧(I0.p=0∨I0.p=3)∧(I0.o=0∨I0.o=4))(e2:h.get 2=some K∨I0.k=2)(e3:h.get 3=some P)(e4:h.get 4=some O)(h5:5≤h.next)(hk:k=0∨5≤k∨(k=2∧I0.k=2)) :
    Fr (AHeap.of [D,U,K,P,O]) h 0 I0 ⟨1,k,I0.p,I0.o⟩ where
  next:=h5
  get j hj n1 n2 n3 n4 n5:=by
    have hj:j<5:=hj
    have:(j=2∧I0.k≠2)∨j=3∨j=4:=by omega
    rw [AHeap.of_get]
    rcases this with ⟨rfl,hk⟩ | rfl | rfl
    · rcases e2 with e | e
      · exact e
      · exact absurd e hk
    · exact e3
    · exact e4
  ids x hx:=by
    show x=0∨x=I0.u∨x=I0.k∨x=I0.p∨x=I0.o∨5≤x
    have hx:x=1∨x=k∨x=I0.p∨x=I0.o:=hx
    omega
theorem mk5 {h:AHeap}{f:Nat}{kv pv ov:AVal}{pas:Bool}{ty uty:Option (TypeId×Nat)}{hold kept paste:Bytes}{j0 j1 j2 j3:Int}{D U K P O:ABlk}{ks:KS}{es:List Ev}{I0:Ids}{k n:Nat}(hn:h.next=n)(h5:5≤n)
    (e0:h.get 0=some (dRowV 0 f 1 kv pv pas ov ty)) (e1:h.get 1=some (uRowH hold j0 j1 j2 j3 uty)) (e2:h.get 2=some K∨I0.k=2) (e3:h.get 3=some P) (e4:h.get 4=some O) (hk:KAt h 0 k kv ks kept) (hkn:k<n)
    (hp:PAt (AHeap.of [D,U,K,P,O]) 0 I0.p pv paste) (ho:OAt (AHeap.of [D,U,K,P,O]) 0 I0.o ov es) (hI:I0.u=1∧(I0.k=0∨I0.k=2)∧(I0.p=0∨I0.p=3)∧(I0.o=0∨I0.o=4)) (hne:k=0∨5≤k∨(k=2∧I0.k=2)) :
    GAt h 0 ⟨1,k,I0.p,I0.o⟩ f pas ks kept hold paste es∧Fr (AHeap.of [D,U,K,P,O]) h 0 I0 ⟨1,k,I0.p,I0.o⟩ :=
  ⟨mkG e0 e1 e3 e4 hk (by omega) (by omega) hp ho hI.2.2.1 hI.2.2.2 (by omega),mkFr hI e2 e3 e4 (by omega) hne⟩
theorem kNil(h:AHeap):KAt h 0 0 (.slice none 0 0) .nil []:=⟨rfl,rfl,rfl⟩
theorem kGrown {h:AHeap}{k ver m f n:Nat}{l:Bytes}{es:List AVal}(hk:k≠0)(hn:n=l.length)(he:es=bytesA l)(e:h.get k=some (gRowB es 1 ver m f byteTy)):KAt h 0 k (.slice (some ⟨k,ver,0,0,1⟩) n n) (.grown []) l:=by
  subst hn;subst he
  exact⟨hk,ver,m,f,rfl,e⟩
theorem tellP_done {l:AHeap}{h h':AHeap}{ev:AVal}{e:Ev}{I0 I:Ids}{f:Nat}{pas:Bool}{ks:KS}{kept hold paste:Bytes}{es:List Ev}(t:TellP h ⟨0,0,0,0,6⟩ ev h')(g:GAt h 0 I f pas ks kept hold paste es)(fr:Fr l h 0 I0 I)(he:ev=evA e)(hl:hold.length≤4) :
    ∃ I',GAt h' 0 I' (fnOf .ground) pas .nil [] hold paste (es++ [e])∧Fr l h' 0 I0 I':=by
  obtain⟨I',g',fr'⟩:=t.all I f pas ks kept hold paste es e he g hl
  exact⟨I',g',fr.trans fr'⟩
theorem tellPre_of {h:AHeap}{ev:AVal}{e:Ev}{I:Ids}{f:Nat}{pas:Bool}{ks:KS}{kept hold paste:Bytes}{es:List Ev}(g:GAt h 0 I f pas ks kept hold paste es)(he:ev=evA e)(hes:es.length<2^30)(hl:hold.length≤4):TellPre h ⟨0,0,0,0,6⟩ ev :=
  ⟨rfl,I,f,pas,ks,kept,hold,paste,es,e,he,g,hes,hl⟩
theorem cond_ble {a b:Nat}{p:Prop}(h:a≤b)(k:p):_root_.cond (Nat.ble a b) p False:=by rw [Nat.ble_eq.mpr h];exact k
abbrev zv29_0(c:Int):AVal:=AVal.str [UInt8.ofNat (Int.toNat c)]
abbrev zv29_1:AVal:=AVal.slice (some ⟨98,0,0,0,1⟩) 1 1
abbrev zv29_2(f:Nat):AVal:= .func (.func f) [.ptr (some ⟨0,0,0,0,6⟩)] []
abbrev zv29_3:AVal:= .func (.func 90) [.ptr (some ⟨0,0,0,0,6⟩)] []
abbrev zv29_4:HT:=(.br 6024 (.br 9001 .nil .nil) (he 12004 (.br 1007 .nil .nil)))
abbrev zv29_5(a0:Int)(a1:Int)(a2:Int)(a3:Int)(n:Int)(c:Int):ABlk:=(ABlk.made ([.int .i32 (↑(List.getD (Prod.fst (feedQ a0 a1 a2 a3 n c)) 0 0):Int)]) 1 false (some (21,0)))
abbrev zv29_6(a0:Int)(a1:Int)(a2:Int)(a3:Int)(n:Int):AVal:=AVal.agg [.int .u8 a0,.int .u8 a1,.int .u8 a2,.int .u8 a3,.int .i64 n]
abbrev zv29_7(a0:Int)(a1:Int)(a2:Int)(a3:Int)(n:Int)(c:Int):AVal:=AVal.agg [.int .i8 1,.int .i32 (↑(List.getD (Prod.fst (feedQ a0 a1 a2 a3 n c)) 0 0):Int),.int .u8 0,.int .i64 0,.int .i64 0,.str []]
abbrev zv29_8(a0:Int)(a1:Int)(a2:Int)(a3:Int)(n:Int)(c:Int):ABlk:=⟨[.int .i32 (↑(List.getD (Prod.fst (feedQ a0 a1 a2 a3 n c)) 0 0):Int),.int .i32 (↑(List.getD (Prod.fst (feedQ a0 a1 a2 a3 n c)) 1 0):Int)],1,false,false,1,0,1,some (21,0)⟩
abbrev zv29_9(c:Int):AVal:=AVal.agg [.int .i8 (Ev.kind (Keys.control (Int.toNat c))),.int .i32 (Ev.code (Keys.control (Int.toNat c))),.int .u8 (Ev.mods (Keys.control (Int.toNat c))),.int .i64 (Ev.x (Keys.control (Int.toNat c))),.int .i64 (Ev.y (Keys.control (Int.toNat c))),.str (Keys.control (Int.toNat c)).6]
abbrev zv29_10(a0:Int)(a1:Int)(a2:Int)(a3:Int)(n:Int)(c:Int):AVal:=AVal.agg [.int .u8 (uK (Prod.snd (feedQ a0 a1 a2 a3 n c)) 0 a0),.int .u8 (uK (Prod.snd (feedQ a0 a1 a2 a3 n c)) 1 a1),.int .u8 (uK (Prod.snd (feedQ a0 a1 a2 a3 n c)) 2 a2),.int .u8 (uK (Prod.snd (feedQ a0 a1 a2 a3 n c)) 3 a3),.int .i64 (↑(List.length (Prod.snd (feedQ a0 a1 a2 a3 n c))):Int)]
abbrev zv29_11(c:Int):ABlk:=(ABlk.made ([(zv29_9 c)]) 6 true (some (42,6)))
abbrev zv29_12(pv:AVal)(ov:AVal):AVal:=AVal.agg [zv29_3,zv29_1,pv,.bool false,.ptr (some ⟨1,0,0,0,5⟩),ov]
abbrev zv29_13(f:Nat)(pv:AVal)(ov:AVal):AVal:=AVal.agg [(zv29_2 f),.slice none 0 0,pv,.bool false,.ptr (some ⟨1,0,0,0,5⟩),ov]
abbrev zv29_14(uty:Option (TypeId×Nat))(a0:Int)(a1:Int)(a2:Int)(a3:Int)(n:Int):ABlk:=⟨[(zv29_6 a0 a1 a2 a3 n)],5,true,false,0,0,0,uty⟩
abbrev zv29_15(uty:Option (TypeId×Nat))(a0:Int)(a1:Int)(a2:Int)(a3:Int)(n:Int)(c:Int):ABlk:=⟨[(zv29_10 a0 a1 a2 a3 n c)],5,true,false,0,0,0,uty⟩
abbrev zv29_16(c:Int):AVal:=AVal.agg [.int .i8 7,.int .i32 0,.int .u8 0,.int .i64 0,.int .i64 0,(zv29_0 c)]
abbrev zv29_17(pv:AVal)(ov:AVal)(dty:Option (TypeId×Nat)):ABlk:=⟨[.agg [zv29_3,.slice (some ⟨97,0,0,0,1⟩) 1 1,pv,.bool false,.ptr (some ⟨1,0,0,0,5⟩),ov]],6,true,false,0,0,0,dty⟩
abbrev zv29_18(pv:AVal)(ov:AVal)(dty:Option (TypeId×Nat)):ABlk:=⟨[(zv29_12 pv ov)],6,true,false,0,0,0,dty⟩
abbrev zv29_19(f:Nat)(pv:AVal)(ov:AVal)(dty:Option (TypeId×Nat)):ABlk:=⟨[(zv29_13 f pv ov)],6,true,false,0,0,0,dty⟩
abbrev zv29_20(pv:AVal)(ov:AVal)(dty:Option (TypeId×Nat))(uty:Option (TypeId×Nat))(K:ABlk)(P:ABlk)(O:ABlk)(a0:Int)(a1:Int)(a2:Int)(a3:Int)(n:Int)(c:Int):AHeap:=(AHeap.rowsT 119 [(0,(zv29_18 pv ov dty)),(1,(zv29_15 uty a0 a1 a2 a3 n c)),(2,K),(3,P),(4,O),(42,(zv0_0 c)),(45,(zv29_5 a0 a1 a2 a3 n c)),(97,ABlk.made [.int .u8 c] 1 true),(98,ABlk.made [.int .u8 c] 1 false (some (5,0)))])
abbrev zv29_21(pv:AVal)(ov:AVal)(dty:Option (TypeId×Nat))(uty:Option (TypeId×Nat))(K:ABlk)(P:ABlk)(O:ABlk)(a0:Int)(a1:Int)(a2:Int)(a3:Int)(n:Int)(c:Int):AHeap:=(AHeap.rowsT 120 [(0,(zv29_18 pv ov dty)),(1,(zv29_15 uty a0 a1 a2 a3 n c)),(2,K),(3,P),(4,O),(42,(zv0_0 c)),(45,(zv29_5 a0 a1 a2 a3 n c)),(97,ABlk.made [.int .u8 c] 1 true),(98,ABlk.made [.int .u8 c] 1 false (some (5,0)))])
abbrev zv29_22(pv:AVal)(ov:AVal)(dty:Option (TypeId×Nat))(uty:Option (TypeId×Nat))(K:ABlk)(P:ABlk)(O:ABlk)(a0:Int)(a1:Int)(a2:Int)(a3:Int)(n:Int)(c:Int):AHeap:=(AHeap.rowsT 119 [(0,(zv29_18 pv ov dty)),(1,(zv29_15 uty a0 a1 a2 a3 n c)),(2,K),(3,P),(4,O),(42,(zv0_0 c)),(45,(zv29_8 a0 a1 a2 a3 n c)),(86,ABlk.made [.int .u8 c] 1 true),(97,ABlk.made [.int .u8 c] 1 true),(98,ABlk.made [.int .u8 c] 1 false (some (5,0)))])
abbrev zv29_23(pv:AVal)(ov:AVal)(dty:Option (TypeId×Nat))(uty:Option (TypeId×Nat))(K:ABlk)(P:ABlk)(O:ABlk)(a0:Int)(a1:Int)(a2:Int)(a3:Int)(n:Int)(c:Int):AHeap:=(AHeap.rowsT 120 [(0,(zv29_18 pv ov dty)),(1,(zv29_15 uty a0 a1 a2 a3 n c)),(2,K),(3,P),(4,O),(42,(zv0_0 c)),(45,(zv29_8 a0 a1 a2 a3 n c)),(86,ABlk.made [.int .u8 c] 1 true),(97,ABlk.made [.int .u8 c] 1 true),(98,ABlk.made [.int .u8 c] 1 false (some (5,0)))])
theorem plainN_vc(f:Nat)(pv ov:AVal)(dty uty:Option (TypeId×Nat))(K P O:ABlk)(a0 a1 a2 a3 n c:Int)(K0:AVal→AHeap→Prop)(vc:(c<32→(0≤c∧(c<32∨c=127))∧(c=27→False)∧TellPre (AHeap.rowsT 24 [(0,(zv29_19 f pv ov dty)),(1,(zv29_14 uty a0 a1 a2 a3 n)),(2,K),(3,P),(4,O),(13,(zv29_11 c))]) ⟨0,0,0,0,6⟩ ((zv29_9 c))∧ ∀ (h4002:AHeap),TellP (AHeap.rowsT 24 [(0,(zv29_19 f pv ov dty)),(1,(zv29_14 uty a0 a1 a2 a3 n)),(2,K),(3,P),(4,O),(13,(zv29_11 c))]) ⟨0,0,0,0,6⟩ ((zv29_9 c)) h4002→bif Nat.ble 5 (h4002.next)then K0 (.tuple []) h4002 else False)∧(¬c<32→(c=127→(0≤c∧(c<32∨c=127))∧(c=27→False)∧TellPre (AHeap.rowsT 24 [(0,(zv29_19 f pv ov dty)),(1,(zv29_14 uty a0 a1 a2 a3 n)),(2,K),(3,P),(4,O),(13,(zv29_11 c))]) ⟨0,0,0,0,6⟩ ((zv29_9 c))∧ ∀ (h4002:AHeap),TellP (AHeap.rowsT 24 [(0,(zv29_19 f pv ov dty)),(1,(zv29_14 uty a0 a1 a2 a3 n)),(2,K),(3,P),(4,O),(13,(zv29_11 c))]) ⟨0,0,0,0,6⟩ ((zv29_9 c)) h4002→bif Nat.ble 5 (h4002.next)then K0 (.tuple []) h4002 else False)∧(¬c=127→((feedQ a0 a1 a2 a3 n c).1= []→FeedPre a0 a1 a2 a3 n c∧(0<(↑(List.length (Prod.snd (feedQ a0 a1 a2 a3 n c))):Int)→K0 (.tuple []) (AHeap.rowsT 75 [(0,⟨[.agg [zv29_3,.slice (some ⟨71,0,0,0,1⟩) 1 1,pv,.bool false,.ptr (some ⟨1,0,0,0,5⟩),ov]],6,true,false,0,0,0,dty⟩),(1,(zv29_15 uty a0 a1 a2 a3 n c)),(2,K),(3,P),(4,O),(42,(zv0_0 c)),(70,ABlk.made [.int .u8 c] 1 true),(71,ABlk.made [.int .u8 c] 1 false (some (5,0)))]))∧(¬0<(↑(List.length (Prod.snd (feedQ a0 a1 a2 a3 n c))):Int)→1<1099511627776∧(valid [UInt8.ofNat (Int.toNat c)]=true→1<1099511627776∧(valid [UInt8.ofNat (Int.toNat c)]=true→False)∧(valid [UInt8.ofNat (Int.toNat c)]=false→TellPre (AHeap.rowsT 119 [(0,(zv29_17 pv ov dty)),(1,(zv29_15 uty a0 a1 a2 a3 n c)),(2,K),(3,P),(4,O),(42,(zv0_0 c)),(85,ABlk.made [.int .u8 c] 1 true),(96,ABlk.made [.int .u8 c] 1 true),(97,ABlk.made [.int .u8 c] 1 false (some (5,0)))]) ⟨0,0,0,0,6⟩ ((zv29_16 c))∧ ∀ (h11007:AHeap),TellP (AHeap.rowsT 119 [(0,(zv29_17 pv ov dty)),(1,(zv29_15 uty a0 a1 a2 a3 n c)),(2,K),(3,P),(4,O),(42,(zv0_0 c)),(85,ABlk.made [.int .u8 c] 1 true),(96,ABlk.made [.int .u8 c] 1 true),(97,ABlk.made [.int .u8 c] 1 false (some (5,0)))]) ⟨0,0,0,0,6⟩ ((zv29_16 c)) h11007→bif Nat.ble 20 (h11007.next)then bif Nat.ble 5 (h11007.next)then K0 (.tuple []) h11007 else False else False))∧(valid [UInt8.ofNat (Int.toNat c)]=false→((↑(List.length (Prod.snd (feedQ a0 a1 a2 a3 n c))):Int)=0→False)∧(¬(↑(List.length (Prod.snd (feedQ a0 a1 a2 a3 n c))):Int)=0→False))))∧(¬(feedQ a0 a1 a2 a3 n c).1= []→(List.length (Prod.fst (feedQ a0 a1 a2 a3 n c))=1→FeedPre a0 a1 a2 a3 n c∧(0<(↑(List.length (Prod.snd (feedQ a0 a1 a2 a3 n c))):Int)→1<1099511627776∧(valid [UInt8.ofNat (Int.toNat c)]=true→TellPre (zv29_20 pv ov dty uty K P O a0 a1 a2 a3 n c) ⟨0,0,0,0,6⟩ ((zv29_7 a0 a1 a2 a3 n c))∧ ∀ (h10006:AHeap),TellP (zv29_20 pv ov dty uty K P O a0 a1 a2 a3 n c) ⟨0,0,0,0,6⟩ ((zv29_7 a0 a1 a2 a3 n c)) h10006→bif Nat.ble 20 (h10006.next)then bif Nat.ble 5 (h10006.next)then K0 (.tuple []) h10006 else False else False)∧(valid [UInt8.ofNat (Int.toNat c)]=false→TellPre (zv29_21 pv ov dty uty K P O a0 a1 a2 a3 n c) ⟨0,0,0,0,6⟩ ((zv29_16 c))∧ ∀ (h11007:AHeap),TellP (zv29_21 pv ov dty uty K P O a0 a1 a2 a3 n c) ⟨0,0,0,0,6⟩ ((zv29_16 c)) h11007→bif Nat.ble 20 (h11007.next)then bif Nat.ble 5 (h11007.next)then K0 (.tuple []) h11007 else False else False))∧(¬0<(↑(List.length (Prod.snd (feedQ a0 a1 a2 a3 n c))):Int)→1<1099511627776∧(valid [UInt8.ofNat (Int.toNat c)]=true→TellPre (zv29_20 pv ov dty uty K P O a0 a1 a2 a3 n c) ⟨0,0,0,0,6⟩ ((zv29_7 a0 a1 a2 a3 n c))∧ ∀ (h10006:AHeap),TellP (zv29_20 pv ov dty uty K P O a0 a1 a2 a3 n c) ⟨0,0,0,0,6⟩ ((zv29_7 a0 a1 a2 a3 n c)) h10006→bif Nat.ble 20 (h10006.next)then bif Nat.ble 5 (h10006.next)then K0 (.tuple []) h10006 else False else False)∧(valid [UInt8.ofNat (Int.toNat c)]=false→TellPre (zv29_21 pv ov dty uty K P O a0 a1 a2 a3 n c) ⟨0,0,0,0,6⟩ ((zv29_16 c))∧ ∀ (h11007:AHeap),TellP (zv29_21 pv ov dty uty K P O a0 a1 a2 a3 n c) ⟨0,0,0,0,6⟩ ((zv29_16 c)) h11007→bif Nat.ble 20 (h11007.next)then bif Nat.ble 5 (h11007.next)then K0 (.tuple []) h11007 else False else False)))∧(¬List.length (Prod.fst (feedQ a0 a1 a2 a3 n c))=1→FeedPre a0 a1 a2 a3 n c∧(0<(↑(List.length (Prod.snd (feedQ a0 a1 a2 a3 n c))):Int)→1<1099511627776∧(valid [UInt8.ofNat (Int.toNat c)]=true→1<1099511627776∧(valid [UInt8.ofNat (Int.toNat c)]=true→TellPre (zv29_22 pv ov dty uty K P O a0 a1 a2 a3 n c) ⟨0,0,0,0,6⟩ ((zv29_7 a0 a1 a2 a3 n c))∧ ∀ (h10006:AHeap),TellP (zv29_22 pv ov dty uty K P O a0 a1 a2 a3 n c) ⟨0,0,0,0,6⟩ ((zv29_7 a0 a1 a2 a3 n c)) h10006→bif Nat.ble 20 (h10006.next)then bif Nat.ble 5 (h10006.next)then K0 (.tuple []) h10006 else False else False)∧(valid [UInt8.ofNat (Int.toNat c)]=false→TellPre (zv29_23 pv ov dty uty K P O a0 a1 a2 a3 n c) ⟨0,0,0,0,6⟩ ((zv29_16 c))∧ ∀ (h11007:AHeap),TellP (zv29_23 pv ov dty uty K P O a0 a1 a2 a3 n c) ⟨0,0,0,0,6⟩ ((zv29_16 c)) h11007→bif Nat.ble 20 (h11007.next)then bif Nat.ble 5 (h11007.next)then K0 (.tuple []) h11007 else False else False))∧(valid [UInt8.ofNat (Int.toNat c)]=false→((↑(List.length (Prod.snd (feedQ a0 a1 a2 a3 n c))):Int)=0→False)∧(¬(↑(List.length (Prod.snd (feedQ a0 a1 a2 a3 n c))):Int)=0→False)))∧(¬0<(↑(List.length (Prod.snd (feedQ a0 a1 a2 a3 n c))):Int)→1<1099511627776∧(valid [UInt8.ofNat (Int.toNat c)]=true→1<1099511627776∧(valid [UInt8.ofNat (Int.toNat c)]=true→TellPre (zv29_22 pv ov dty uty K P O a0 a1 a2 a3 n c) ⟨0,0,0,0,6⟩ ((zv29_7 a0 a1 a2 a3 n c))∧ ∀ (h10006:AHeap),TellP (zv29_22 pv ov dty uty K P O a0 a1 a2 a3 n c) ⟨0,0,0,0,6⟩ ((zv29_7 a0 a1 a2 a3 n c)) h10006→bif Nat.ble 20 (h10006.next)then bif Nat.ble 5 (h10006.next)then K0 (.tuple []) h10006 else False else False)∧(valid [UInt8.ofNat (Int.toNat c)]=false→TellPre (zv29_23 pv ov dty uty K P O a0 a1 a2 a3 n c) ⟨0,0,0,0,6⟩ ((zv29_16 c))∧ ∀ (h11007:AHeap),TellP (zv29_23 pv ov dty uty K P O a0 a1 a2 a3 n c) ⟨0,0,0,0,6⟩ ((zv29_16 c)) h11007→bif Nat.ble 20 (h11007.next)then bif Nat.ble 5 (h11007.next)then K0 (.tuple []) h11007 else False else False))∧(valid [UInt8.ofNat (Int.toNat c)]=false→((↑(List.length (Prod.snd (feedQ a0 a1 a2 a3 n c))):Int)=0→False)∧(¬(↑(List.length (Prod.snd (feedQ a0 a1 a2 a3 n c))):Int)=0→False)))))))) :
    ∃ v h1,FDoes Tryz.prog cnd 60 [.ptr (some ⟨0,0,0,0,6⟩),.int .u8 c] (AHeap.of [dRowV 0 f 1 (.slice none 0 0) pv false ov dty,uRow a0 a1 a2 a3 n uty,K,P,O]) v h1∧K0 v h1 :=
  tcall_does env_ok mixed specs3_ok (hs:= .br 1 .nil (.br 4 .nil (he 6002 (.br 3006 (he 4004 (.br 4005 .nil zv29_4)) (.br 3006 (he 4004 (.br 4005 (.br 9001 .nil .nil) (.br 9001 .nil .nil))) (he 4004 (.br 4005 zv29_4 zv29_4))))))) (by kernel_rfl) vc
abbrev zv30_0:AVal:=AVal.slice (some ⟨2,0,0,0,1⟩) 1 1
abbrev zv30_1:AVal:=AVal.slice (some ⟨100,0,0,0,1⟩) 2 2
abbrev zv30_2(c:Int):AVal:=AVal.str [{toBitVec:= {toFin:=⟨27,Nat.mod_lt (Int.toNat (27)) (BitVec.ofNat._proof_1 8)⟩}},UInt8.ofNat (Int.toNat c)]
abbrev zv30_3(a0:Int)(a1:Int)(a2:Int)(a3:Int)(n:Int)(c:Int):AVal:=AVal.agg [.int .i8 1,.int .i32 (↑(List.getD (Prod.fst (feedQ a0 a1 a2 a3 n c)) 0 0):Int),.int .u8 2,.int .i64 0,.int .i64 0,.str []]
abbrev zv30_4(c:Int):AVal:=AVal.agg [.int .i8 (Ev.kind (Keys.control (Int.toNat c))),.int .i32 (Ev.code (Keys.control (Int.toNat c))),.int .u8 (ior IntKind.u8 (Ev.mods (Keys.control (Int.toNat c))) (2)),.int .i64 (Ev.x (Keys.control (Int.toNat c))),.int .i64 (Ev.y (Keys.control (Int.toNat c))),.str (Keys.control (Int.toNat c)).6]
abbrev zv30_5(c:Int):ABlk:=(ABlk.made ([(zv30_4 c)]) 6 true (some (42,6)))
abbrev zv30_6(pv:AVal)(ov:AVal):AVal:=AVal.agg [zv29_3,zv30_1,pv,.bool false,.ptr (some ⟨1,0,0,0,5⟩),ov]
abbrev zv30_7(f:Nat)(pv:AVal)(ov:AVal):AVal:=AVal.agg [(zv29_2 f),zv30_0,pv,.bool false,.ptr (some ⟨1,0,0,0,5⟩),ov]
abbrev zv30_8(c:Int):AVal:=AVal.agg [.int .i8 7,.int .i32 0,.int .u8 0,.int .i64 0,.int .i64 0,(zv30_2 c)]
abbrev zv30_9(pv:AVal)(ov:AVal)(dty:Option (TypeId×Nat)):ABlk:=⟨[.agg [zv29_3,.slice (some ⟨99,0,0,0,1⟩) 2 2,pv,.bool false,.ptr (some ⟨1,0,0,0,5⟩),ov]],6,true,false,0,0,0,dty⟩
abbrev zv30_10(pv:AVal)(ov:AVal)(dty:Option (TypeId×Nat)):ABlk:=⟨[(zv30_6 pv ov)],6,true,false,0,0,0,dty⟩
abbrev zv30_11(f:Nat)(pv:AVal)(ov:AVal)(dty:Option (TypeId×Nat)):ABlk:=⟨[(zv30_7 f pv ov)],6,true,false,0,0,0,dty⟩
abbrev zv30_12(pv:AVal)(ov:AVal)(dty:Option (TypeId×Nat))(uty:Option (TypeId×Nat))(P:ABlk)(O:ABlk)(a0:Int)(a1:Int)(a2:Int)(a3:Int)(n:Int)(c:Int):AHeap:=(AHeap.rowsT 121 [(0,(zv30_9 pv ov dty)),(1,(zv29_15 uty a0 a1 a2 a3 n c)),(2,ABlk.made [.int .u8 27] 1 true),(3,P),(4,O),(44,(zv0_0 c)),(87,ABlk.made [.int .u8 c] 1 true),(98,ABlk.made [.int .u8 c] 1 true),(99,ABlk.made [.int .u8 27,.int .u8 c] 1 false (some (5,0)))])
abbrev zv30_13(f:Nat)(pv:AVal)(ov:AVal)(dty:Option (TypeId×Nat))(uty:Option (TypeId×Nat))(P:ABlk)(O:ABlk)(a0:Int)(a1:Int)(a2:Int)(a3:Int)(n:Int)(c:Int):AHeap:=(AHeap.rowsT 29 [(0,(zv30_11 f pv ov dty)),(1,(zv29_14 uty a0 a1 a2 a3 n)),(2,ABlk.made [.int .u8 27] 1 true),(3,P),(4,O),(13,(zv30_5 c))])
abbrev zv30_14(pv:AVal)(ov:AVal)(dty:Option (TypeId×Nat))(uty:Option (TypeId×Nat))(P:ABlk)(O:ABlk)(a0:Int)(a1:Int)(a2:Int)(a3:Int)(n:Int)(c:Int):AHeap:=(AHeap.rowsT 121 [(0,(zv30_10 pv ov dty)),(1,(zv29_15 uty a0 a1 a2 a3 n c)),(2,ABlk.made [.int .u8 27] 1 true),(3,P),(4,O),(44,(zv0_0 c)),(47,(zv29_5 a0 a1 a2 a3 n c)),(99,ABlk.made [.int .u8 c] 1 true),(100,ABlk.made [.int .u8 27,.int .u8 c] 1 false (some (5,0)))])
abbrev zv30_15(pv:AVal)(ov:AVal)(dty:Option (TypeId×Nat))(uty:Option (TypeId×Nat))(P:ABlk)(O:ABlk)(a0:Int)(a1:Int)(a2:Int)(a3:Int)(n:Int)(c:Int):AHeap:=(AHeap.rowsT 122 [(0,(zv30_10 pv ov dty)),(1,(zv29_15 uty a0 a1 a2 a3 n c)),(2,ABlk.made [.int .u8 27] 1 true),(3,P),(4,O),(44,(zv0_0 c)),(47,(zv29_5 a0 a1 a2 a3 n c)),(99,ABlk.made [.int .u8 c] 1 true),(100,ABlk.made [.int .u8 27,.int .u8 c] 1 false (some (5,0)))])
abbrev zv30_16(pv:AVal)(ov:AVal)(dty:Option (TypeId×Nat))(uty:Option (TypeId×Nat))(P:ABlk)(O:ABlk)(a0:Int)(a1:Int)(a2:Int)(a3:Int)(n:Int)(c:Int):AHeap:=(AHeap.rowsT 121 [(0,(zv30_10 pv ov dty)),(1,(zv29_15 uty a0 a1 a2 a3 n c)),(2,ABlk.made [.int .u8 27] 1 true),(3,P),(4,O),(44,(zv0_0 c)),(47,(zv29_8 a0 a1 a2 a3 n c)),(88,ABlk.made [.int .u8 c] 1 true),(99,ABlk.made [.int .u8 c] 1 true),(100,ABlk.made [.int .u8 27,.int .u8 c] 1 false (some (5,0)))])
abbrev zv30_17(pv:AVal)(ov:AVal)(dty:Option (TypeId×Nat))(uty:Option (TypeId×Nat))(P:ABlk)(O:ABlk)(a0:Int)(a1:Int)(a2:Int)(a3:Int)(n:Int)(c:Int):AHeap:=(AHeap.rowsT 122 [(0,(zv30_10 pv ov dty)),(1,(zv29_15 uty a0 a1 a2 a3 n c)),(2,ABlk.made [.int .u8 27] 1 true),(3,P),(4,O),(44,(zv0_0 c)),(47,(zv29_8 a0 a1 a2 a3 n c)),(88,ABlk.made [.int .u8 c] 1 true),(99,ABlk.made [.int .u8 c] 1 true),(100,ABlk.made [.int .u8 27,.int .u8 c] 1 false (some (5,0)))])
theorem plainE_vc(f:Nat)(pv ov:AVal)(dty uty:Option (TypeId×Nat))(P O:ABlk)(a0 a1 a2 a3 n c:Int)(K0:AVal→AHeap→Prop)(vc:(c<32→(0≤c∧(c<32∨c=127))∧(c=27→False)∧True∧TellPre (zv30_13 f pv ov dty uty P O a0 a1 a2 a3 n c) ⟨0,0,0,0,6⟩ ((zv30_4 c))∧ ∀ (h4002:AHeap),TellP (zv30_13 f pv ov dty uty P O a0 a1 a2 a3 n c) ⟨0,0,0,0,6⟩ ((zv30_4 c)) h4002→bif Nat.ble 5 (h4002.next)then K0 (.tuple []) h4002 else False)∧(¬c<32→(c=127→(0≤c∧(c<32∨c=127))∧(c=27→False)∧True∧TellPre (zv30_13 f pv ov dty uty P O a0 a1 a2 a3 n c) ⟨0,0,0,0,6⟩ ((zv30_4 c))∧ ∀ (h4002:AHeap),TellP (zv30_13 f pv ov dty uty P O a0 a1 a2 a3 n c) ⟨0,0,0,0,6⟩ ((zv30_4 c)) h4002→bif Nat.ble 5 (h4002.next)then K0 (.tuple []) h4002 else False)∧(¬c=127→((feedQ a0 a1 a2 a3 n c).1= []→FeedPre a0 a1 a2 a3 n c∧(0<(↑(List.length (Prod.snd (feedQ a0 a1 a2 a3 n c))):Int)→K0 (.tuple []) (AHeap.rowsT 77 [(0,⟨[.agg [zv29_3,.slice (some ⟨73,0,0,0,1⟩) 2 2,pv,.bool false,.ptr (some ⟨1,0,0,0,5⟩),ov]],6,true,false,0,0,0,dty⟩),(1,(zv29_15 uty a0 a1 a2 a3 n c)),(2,ABlk.made [.int .u8 27] 1 true),(3,P),(4,O),(44,(zv0_0 c)),(72,ABlk.made [.int .u8 c] 1 true),(73,ABlk.made [.int .u8 27,.int .u8 c] 1 false (some (5,0)))]))∧(¬0<(↑(List.length (Prod.snd (feedQ a0 a1 a2 a3 n c))):Int)→1<1099511627776∧(valid [UInt8.ofNat (Int.toNat c)]=true→1<1099511627776∧(valid [UInt8.ofNat (Int.toNat c)]=true→False)∧(valid [UInt8.ofNat (Int.toNat c)]=false→TellPre (zv30_12 pv ov dty uty P O a0 a1 a2 a3 n c) ⟨0,0,0,0,6⟩ ((zv30_8 c))∧ ∀ (h11007:AHeap),TellP (zv30_12 pv ov dty uty P O a0 a1 a2 a3 n c) ⟨0,0,0,0,6⟩ ((zv30_8 c)) h11007→bif Nat.ble 20 (h11007.next)then bif Nat.ble 5 (h11007.next)then K0 (.tuple []) h11007 else False else False))∧(valid [UInt8.ofNat (Int.toNat c)]=false→((↑(List.length (Prod.snd (feedQ a0 a1 a2 a3 n c))):Int)=0→False)∧(¬(↑(List.length (Prod.snd (feedQ a0 a1 a2 a3 n c))):Int)=0→False))))∧(¬(feedQ a0 a1 a2 a3 n c).1= []→(List.length (Prod.fst (feedQ a0 a1 a2 a3 n c))=1→FeedPre a0 a1 a2 a3 n c∧(0<(↑(List.length (Prod.snd (feedQ a0 a1 a2 a3 n c))):Int)→1<1099511627776∧(valid [UInt8.ofNat (Int.toNat c)]=true→TellPre (zv30_14 pv ov dty uty P O a0 a1 a2 a3 n c) ⟨0,0,0,0,6⟩ ((zv30_3 a0 a1 a2 a3 n c))∧ ∀ (h10006:AHeap),TellP (zv30_14 pv ov dty uty P O a0 a1 a2 a3 n c) ⟨0,0,0,0,6⟩ ((zv30_3 a0 a1 a2 a3 n c)) h10006→bif Nat.ble 20 (h10006.next)then bif Nat.ble 5 (h10006.next)then K0 (.tuple []) h10006 else False else False)∧(valid [UInt8.ofNat (Int.toNat c)]=false→TellPre (zv30_15 pv ov dty uty P O a0 a1 a2 a3 n c) ⟨0,0,0,0,6⟩ ((zv30_8 c))∧ ∀ (h11007:AHeap),TellP (zv30_15 pv ov dty uty P O a0 a1 a2 a3 n c) ⟨0,0,0,0,6⟩ ((zv30_8 c)) h11007→bif Nat.ble 20 (h11007.next)then bif Nat.ble 5 (h11007.next)then K0 (.tuple []) h11007 else False else False))∧(¬0<(↑(List.length (Prod.snd (feedQ a0 a1 a2 a3 n c))):Int)→1<1099511627776∧(valid [UInt8.ofNat (Int.toNat c)]=true→TellPre (zv30_14 pv ov dty uty P O a0 a1 a2 a3 n c) ⟨0,0,0,0,6⟩ ((zv30_3 a0 a1 a2 a3 n c))∧ ∀ (h10006:AHeap),TellP (zv30_14 pv ov dty uty P O a0 a1 a2 a3 n c) ⟨0,0,0,0,6⟩ ((zv30_3 a0 a1 a2 a3 n c)) h10006→bif Nat.ble 20 (h10006.next)then bif Nat.ble 5 (h10006.next)then K0 (.tuple []) h10006 else False else False)∧(valid [UInt8.ofNat (Int.toNat c)]=false→TellPre (zv30_15 pv ov dty uty P O a0 a1 a2 a3 n c) ⟨0,0,0,0,6⟩ ((zv30_8 c))∧ ∀ (h11007:AHeap),TellP (zv30_15 pv ov dty uty P O a0 a1 a2 a3 n c) ⟨0,0,0,0,6⟩ ((zv30_8 c)) h11007→bif Nat.ble 20 (h11007.next)then bif Nat.ble 5 (h11007.next)then K0 (.tuple []) h11007 else False else False)))∧(¬List.length (Prod.fst (feedQ a0 a1 a2 a3 n c))=1→FeedPre a0 a1 a2 a3 n c∧(0<(↑(List.length (Prod.snd (feedQ a0 a1 a2 a3 n c))):Int)→1<1099511627776∧(valid [UInt8.ofNat (Int.toNat c)]=true→1<1099511627776∧(valid [UInt8.ofNat (Int.toNat c)]=true→TellPre (zv30_16 pv ov dty uty P O a0 a1 a2 a3 n c) ⟨0,0,0,0,6⟩ ((zv30_3 a0 a1 a2 a3 n c))∧ ∀ (h10006:AHeap),TellP (zv30_16 pv ov dty uty P O a0 a1 a2 a3 n c) ⟨0,0,0,0,6⟩ ((zv30_3 a0 a1 a2 a3 n c)) h10006→bif Nat.ble 20 (h10006.next)then bif Nat.ble 5 (h10006.next)then K0 (.tuple []) h10006 else False else False)∧(valid [UInt8.ofNat (Int.toNat c)]=false→TellPre (zv30_17 pv ov dty uty P O a0 a1 a2 a3 n c) ⟨0,0,0,0,6⟩ ((zv30_8 c))∧ ∀ (h11007:AHeap),TellP (zv30_17 pv ov dty uty P O a0 a1 a2 a3 n c) ⟨0,0,0,0,6⟩ ((zv30_8 c)) h11007→bif Nat.ble 20 (h11007.next)then bif Nat.ble 5 (h11007.next)then K0 (.tuple []) h11007 else False else False))∧(valid [UInt8.ofNat (Int.toNat c)]=false→((↑(List.length (Prod.snd (feedQ a0 a1 a2 a3 n c))):Int)=0→False)∧(¬(↑(List.length (Prod.snd (feedQ a0 a1 a2 a3 n c))):Int)=0→False)))∧(¬0<(↑(List.length (Prod.snd (feedQ a0 a1 a2 a3 n c))):Int)→1<1099511627776∧(valid [UInt8.ofNat (Int.toNat c)]=true→1<1099511627776∧(valid [UInt8.ofNat (Int.toNat c)]=true→TellPre (zv30_16 pv ov dty uty P O a0 a1 a2 a3 n c) ⟨0,0,0,0,6⟩ ((zv30_3 a0 a1 a2 a3 n c))∧ ∀ (h10006:AHeap),TellP (zv30_16 pv ov dty uty P O a0 a1 a2 a3 n c) ⟨0,0,0,0,6⟩ ((zv30_3 a0 a1 a2 a3 n c)) h10006→bif Nat.ble 20 (h10006.next)then bif Nat.ble 5 (h10006.next)then K0 (.tuple []) h10006 else False else False)∧(valid [UInt8.ofNat (Int.toNat c)]=false→TellPre (zv30_17 pv ov dty uty P O a0 a1 a2 a3 n c) ⟨0,0,0,0,6⟩ ((zv30_8 c))∧ ∀ (h11007:AHeap),TellP (zv30_17 pv ov dty uty P O a0 a1 a2 a3 n c) ⟨0,0,0,0,6⟩ ((zv30_8 c)) h11007→bif Nat.ble 20 (h11007.next)then bif Nat.ble 5 (h11007.next)then K0 (.tuple []) h11007 else False else False))∧(valid [UInt8.ofNat (Int.toNat c)]=false→((↑(List.length (Prod.snd (feedQ a0 a1 a2 a3 n c))):Int)=0→False)∧(¬(↑(List.length (Prod.snd (feedQ a0 a1 a2 a3 n c))):Int)=0→False)))))))) :
    ∃ v h1,FDoes Tryz.prog cnd 60 [.ptr (some ⟨0,0,0,0,6⟩),.int .u8 c] (AHeap.of [dRowV 0 f 1 (.slice (some ⟨2,0,0,0,1⟩) 1 1) pv false ov dty,uRow a0 a1 a2 a3 n uty,ABlk.made [.int .u8 27] 1 true,P,O]) v h1∧K0 v h1 :=
  tcall_does env_ok mixed specs3_ok (hs:= .br 1 (hg 3002 .nil) (.br 4 (hg 3002 .nil) (he 6002 (.br 3006 (he 4004 (.br 4005 .nil zv29_4)) (.br 3006 (he 4004 (.br 4005 (.br 9001 .nil .nil) (.br 9001 .nil .nil))) (he 4004 (.br 4005 zv29_4 zv29_4))))))) (by kernel_rfl) vc
theorem gs_parts {f f':Nat}{kv pv ov:AVal}{pas pas':Bool}{ty:Option (TypeId×Nat)}{U K P O:ABlk}{I0:Ids}{ks:KS}{kept hold paste:Bytes}{es:List Ev}(gs:GAt (AHeap.of [dRowV 0 f 1 kv pv pas ov ty,U,K,P,O]) 0 I0 f' pas' ks kept hold paste es) :
    KAt (AHeap.of [dRowV 0 f 1 kv pv pas ov ty,U,K,P,O]) 0 I0.k kv ks kept∧PAt (AHeap.of [dRowV 0 f 1 kv pv pas ov ty,U,K,P,O]) 0 I0.p pv paste∧OAt (AHeap.of [dRowV 0 f 1 kv pv pas ov ty,U,K,P,O]) 0 I0.o ov es:=by
  obtain⟨kv',pv',ov',ty',e0,hk,hp,ho⟩:=gs.ex
  rw [AHeap.of_get]at e0
  simp only [List.getElem?_cons_zero,Option.some.injEq,ABlk.made,ABlk.mk.injEq,List.cons.injEq,AVal.agg.injEq,AVal.func.injEq,AVal.ptr.injEq,AAddr.mk.injEq,true_and,and_true]at e0
  obtain⟨⟨_,rfl,rfl,_,_,rfl⟩,rfl⟩:=e0
  exact⟨hk,hp,ho⟩
theorem tell_leaf {l h:AHeap}{ev:AVal}{e:Ev}{I0 I:Ids}{f:Nat}{pas:Bool}{ks:KS}{kept hold paste:Bytes}{es:List Ev}{n b1 b2:Nat}(hn:h.next=n)(hb1:b1≤n)(hb2:b2≤n)(gf:GAt h 0 I f pas ks kept hold paste es∧Fr l h 0 I0 I)(he:ev=evA e)(hes:es.length<2^30)(hl:hold.length≤4)
    {R:AHeap→Prop} (hR: ∀ h' I',GAt h' 0 I' (fnOf .ground) pas .nil [] hold paste (es++ [e])→Fr l h' 0 I0 I'→R h'):TellPre h ⟨0,0,0,0,6⟩ ev∧ ∀ h',TellP h ⟨0,0,0,0,6⟩ ev h'→_root_.cond (Nat.ble b1 h'.next) (_root_.cond (Nat.ble b2 h'.next) (R h') False) False:=by
  refine⟨tellPre_of gf.1 he hes hl,fun h' t=> ?_⟩
  have:=t.next
  obtain⟨I',g',fr'⟩:=tellP_done t gf.1 gf.2 he hl
  exact cond_ble (by omega) (cond_ble (by omega) (hR h' I' g' fr'))
theorem tell_leaf1 {l h:AHeap}{ev:AVal}{e:Ev}{I0 I:Ids}{f:Nat}{pas:Bool}{ks:KS}{kept hold paste:Bytes}{es:List Ev}{n b1:Nat}(hn:h.next=n)(hb1:b1≤n)(gf:GAt h 0 I f pas ks kept hold paste es∧Fr l h 0 I0 I)(he:ev=evA e)(hes:es.length<2^30)(hl:hold.length≤4)
    {R:AHeap→Prop} (hR: ∀ h' I',GAt h' 0 I' (fnOf .ground) pas .nil [] hold paste (es++ [e])→Fr l h' 0 I0 I'→R h'):TellPre h ⟨0,0,0,0,6⟩ ev∧ ∀ h',TellP h ⟨0,0,0,0,6⟩ ev h'→_root_.cond (Nat.ble b1 h'.next) (R h') False:=by
  refine⟨tellPre_of gf.1 he hes hl,fun h' t=> ?_⟩
  have:=t.next
  obtain⟨I',g',fr'⟩:=tellP_done t gf.1 gf.2 he hl
  exact cond_ble (by omega) (hR h' I' g' fr')
theorem dat_leaf {l h:AHeap}{I0 I:Ids}{s:DS}{ks:KS}{es:List Ev}(gf:GAt h 0 I (fnOf s.nx) (decide (s.nx= .pasted)) ks s.kept s.hold s.paste es∧Fr l h 0 I0 I)(hsh:ShapeOk s.nx ks s.kept): ∃ I',DAt h 0 I' s es∧Fr l h 0 I0 I':=⟨I,⟨ks,gf.1,hsh⟩,gf.2⟩
theorem dat_ground {h:AHeap}{I:Ids}{hold paste:Bytes}{es:List Ev}(g:GAt h 0 I (fnOf .ground) false .nil [] hold paste es):DAt h 0 I ⟨.ground,[],hold,paste⟩ es:=⟨.nil,g,trivial⟩
theorem byte_ne {c:UInt8}(h:c≠27):c.toNat≠27:=fun e=>h (UInt8.toNat_inj.1 e)
theorem ground_ctl(paste:Bytes){c:UInt8}(h27:c≠27)(h:c.toNat<32∨c.toNat=127):Keys.ground ⟨.ground,[],[],paste⟩ c=(⟨.ground,[],[],paste⟩,[control c.toNat]):=by
  simp [Keys.ground,h27,plain0,h,tell]
theorem ground_more(paste:Bytes){c:UInt8}(h27:c≠27)(h: ¬ (c.toNat<32∨c.toNat=127))(hq:feed1 [] c=([],[c])):Keys.ground ⟨.ground,[],[],paste⟩ c=(⟨.char,[c],[c],paste⟩,[]):=by
  simp [Keys.ground,h27,plain0,h,char0,hq]
theorem ground_one(paste:Bytes){c:UInt8}(h27:c≠27)(h: ¬ (c.toNat<32∨c.toNat=127)){r:Nat}(hq:feed1 [] c=([r],[])):Keys.ground ⟨.ground,[],[],paste⟩ c=(⟨.ground,[],[],paste⟩,[if valid [c]=true then EvRune r else EvBad [c]]):=by
  by_cases hv:valid [c]=true<;>simp [Keys.ground,h27,plain0,h,char0,hq,at',hv,tell]
theorem feed1_nil(c:UInt8):feed1 [] c=([],[c])∨ ∃ r,feed1 [] c=([r],[]):=by
  rcases lead_cases c.toNat with h | h | h | h | h
  · exact .inr ⟨_,feed1_nil0 c h⟩
  · exact .inr ⟨_,feed1_nil1 c h⟩
  · exact .inl (feed1_nil2 c 0 h)
  · exact .inl (feed1_nil2 c 1 h)
  · exact .inl (feed1_nil2 c 2 h)
theorem feedQ_nil(j0 j1 j2 j3:Int)(c:UInt8):feedQ j0 j1 j2 j3 0 c.toNat=feed1 [] c:=by
  unfold feedQ holdOf
  rw [byteI_nat];rfl
theorem feedPre_nil(j0 j1 j2 j3:Int)(c:UInt8):FeedPre j0 j1 j2 j3 0 c.toNat :=
  ⟨by omega,by omega,by omega,by omega,by have:=c.toNat_lt;omega,.inl rfl⟩
theorem small1:1<1099511627776:=by decide
theorem ofToNat(c:UInt8):UInt8.ofNat (Int.toNat (c.toNat:Int))=c:=by simp
theorem plainN_small {f:Nat} {pv ov:AVal} {ty uty:Option (TypeId×Nat)} {K P O:ABlk} {I0:Ids} {paste:Bytes} {es:List Ev} {j0 j1 j2 j3:Int} (gs:GAt (AHeap.of [dRowV 0 f 1 (.slice none 0 0) pv false ov ty,uRowH [] j0 j1 j2 j3 uty,K,P,O]) 0 I0 f false .nil [] [] paste es)
    (hI:I0.u=1∧(I0.k=0∨I0.k=2)∧(I0.p=0∨I0.p=3)∧(I0.o=0∨I0.o=4)) (c:UInt8) (h27:c≠27) (hes:es.length<2^30) :
    ∃ h',FDoes Tryz.prog cnd 60 [.ptr (some ⟨0,0,0,0,6⟩),.int .u8 c.toNat] (AHeap.of [dRowV 0 f 1 (.slice none 0 0) pv false ov ty,uRowH [] j0 j1 j2 j3 uty,K,P,O]) (.tuple []) h' ∧
      ∃ I',DAt h' 0 I' (Keys.ground ⟨.ground,[],[],paste⟩ c).1 (es++(Keys.ground ⟨.ground,[],[],paste⟩ c).2)∧Fr (AHeap.of [dRowV 0 f 1 (.slice none 0 0) pv false ov ty,uRowH [] j0 j1 j2 j3 uty,K,P,O]) h' 0 I0 I':=by
  obtain⟨hk,hp,ho⟩:=gs_parts gs
  have hc:=c.toNat_lt
  have hn:=byte_ne h27
  obtain ⟨v,h',hd,rfl,q⟩:=plainN_vc f pv ov ty uty K P O j0 j1 j2 j3 0 c.toNat (fun v h'=>v= .tuple []∧ ∃ I',DAt h' 0 I' (Keys.ground ⟨.ground,[],[],paste⟩ c).1 (es++(Keys.ground ⟨.ground,[],[],paste⟩ c).2)∧Fr (AHeap.of [dRowV 0 f 1 (.slice none 0 0) pv false ov ty,uRowH [] j0 j1 j2 j3 uty,K,P,O]) h' 0 I0 I') (by
    delta zv29_16 zv29_0 zv29_23 zv29_8 zv0_0 zv29_15 zv29_10 zv29_18 zv29_12 zv29_1 zv29_3 zv29_7 zv29_22 zv29_21 zv29_5 zv29_20 zv29_17 zv29_9 zv29_11 zv29_14 zv29_6 zv29_19 zv29_13 zv29_2
    have ctl:(c.toNat<32∨c.toNat=127)→ ∀ h' I',GAt h' 0 I' (fnOf .ground) false .nil [] [] paste (es++ [control c.toNat])→Fr (AHeap.of [dRowV 0 f 1 (.slice none 0 0) pv false ov ty,uRowH [] j0 j1 j2 j3 uty,K,P,O]) h' 0 I0 I'→AVal.tuple []= .tuple []∧ ∃ I',DAt h' 0 I' (Keys.ground ⟨.ground,[],[],paste⟩ c).1 (es++(Keys.ground ⟨.ground,[],[],paste⟩ c).2)∧Fr (AHeap.of [dRowV 0 f 1 (.slice none 0 0) pv false ov ty,uRowH [] j0 j1 j2 j3 uty,K,P,O]) h' 0 I0 I' :=
      fun hc2 h' I' g' fr'=>⟨rfl,I',by rw [ground_ctl paste h27 hc2];exact dat_ground g',fr'⟩
    refine⟨fun h1=>⟨by omega,by omega,?_⟩,fun h1=>⟨fun h2=>⟨by omega,by omega,?_⟩,fun h2=> ?_⟩⟩
    · exact tell_leaf1 (n:=24) (e:=control c.toNat) (I:=⟨1,0,I0.p,I0.o⟩) (f:=f) (pas:=false) (ks:= .nil) (kept:= []) (hold:= []) rfl (by decide) (mk5 (n:=24) (j0:=j0) (j1:=j1) (j2:=j2) (j3:=j3) (kv:= .slice none 0 0) (pv:=pv) (ov:=ov) (ty:=ty) (uty:=uty) rfl (by decide) (by kernel_rfl) (by kernel_rfl) (.inl (by kernel_rfl)) (by kernel_rfl) (by kernel_rfl) (kNil _) (by decide) hp ho hI (.inl rfl)) (by rw [Int.toNat_natCast];rfl) hes (by decide) (ctl (by omega))
    · exact tell_leaf1 (n:=24) (e:=control c.toNat) (I:=⟨1,0,I0.p,I0.o⟩) (f:=f) (pas:=false) (ks:= .nil) (kept:= []) (hold:= []) rfl (by decide) (mk5 (n:=24) (j0:=j0) (j1:=j1) (j2:=j2) (j3:=j3) (kv:= .slice none 0 0) (pv:=pv) (ov:=ov) (ty:=ty) (uty:=uty) rfl (by decide) (by kernel_rfl) (by kernel_rfl) (.inl (by kernel_rfl)) (by kernel_rfl) (by kernel_rfl) (kNil _) (by decide) hp ho hI (.inl rfl)) (by rw [Int.toNat_natCast];rfl) hes (by decide) (ctl (by omega))
    · have hnc: ¬ (c.toNat<32∨c.toNat=127):=by omega
      rw [feedQ_nil,ofToNat]
      have pre:=feedPre_nil j0 j1 j2 j3 c
      rcases feed1_nil c with hq | ⟨r,hq⟩
      · rw [hq]
        refine⟨fun _=>⟨pre,fun _=>⟨rfl,?_⟩,fun e=>absurd (by simp) e⟩,fun e=>absurd rfl e⟩
        rw [ground_more paste h27 hnc hq,List.append_nil]
        exact dat_leaf (s:=⟨.char,[c],[c],paste⟩) (mk5 (n:=75) (k:=71) (j0:=j0) (j1:=j1) (j2:=j2) (j3:=j3) (kv:= .slice (some ⟨71,0,0,0,1⟩) 1 1) (pv:=pv) (ov:=ov) (ty:=ty) (uty:=uty) rfl (by decide) (by kernel_rfl) (by kernel_rfl) (.inl (by kernel_rfl)) (by kernel_rfl) (by kernel_rfl)
          (kGrown (es:= [.int .u8 c.toNat]) (ver:=0) (m:=0) (f:=0) (by decide) rfl rfl (by kernel_rfl)) (by decide) hp ho hI (.inr (.inl (by decide)))) (by simp [ShapeOk])
      · rw [hq]
        have one: ∀ (n:Nat) (h:AHeap) (ev:AVal) (e:Ev),h.next=n→75≤n→h.get 0=some (dRowV 0 90 1 (.slice (some ⟨98,0,0,0,1⟩) 1 1) pv false ov ty)→h.get 1=some (uRowH [] j0 j1 j2 j3 uty)→h.get 2=some K→h.get 3=some P→h.get 4=some O→h.get 98=some (ABlk.made [.int .u8 c.toNat] 1 false byteTy)→98<n→ev=evA e →
            (if valid [c]=true then EvRune r else EvBad [c])=e →
            TellPre h ⟨0,0,0,0,6⟩ ev∧ ∀ h',TellP h ⟨0,0,0,0,6⟩ ev h'→_root_.cond (Nat.ble 20 h'.next) (_root_.cond (Nat.ble 5 h'.next) (AVal.tuple []= .tuple []∧ ∃ I',DAt h' 0 I' (Keys.ground ⟨.ground,[],[],paste⟩ c).1 (es++(Keys.ground ⟨.ground,[],[],paste⟩ c).2)∧Fr (AHeap.of [dRowV 0 f 1 (.slice none 0 0) pv false ov ty,uRowH [] j0 j1 j2 j3 uty,K,P,O]) h' 0 I0 I') False) False:=by
          intro n h ev e hn h75 e0 e1 e2 e3 e4 e5 h98 he hev
          rw [ground_one paste h27 hnc hq,hev]
          exact tell_leaf hn (by omega) (by omega) (mk5 (k:=98) hn (by omega) e0 e1 (.inl e2) e3 e4 (kGrown (l:= [c]) (by decide) rfl rfl e5) h98 hp ho hI (.inr (.inl (by decide)))) he hes (by decide) fun h' I' g' fr'=>⟨rfl,dat_leaf (s:=⟨.ground,[],[],paste⟩) ⟨g',fr'⟩ trivial⟩
        refine⟨fun e=>absurd e (by simp),fun _=>⟨fun _=>⟨pre,fun e=>absurd e (by simp),fun _=>⟨small1,fun hv=> ?_,fun hv=> ?_⟩⟩,fun e=>absurd rfl e⟩⟩
        · exact one 119 _ _ (EvRune r) rfl (by decide) (by kernel_rfl) (by kernel_rfl) (by kernel_rfl) (by kernel_rfl) (by kernel_rfl) (by kernel_rfl) (by decide) rfl (by rw [if_pos hv])
        · exact one 120 _ _ (EvBad [c]) rfl (by decide) (by kernel_rfl) (by kernel_rfl) (by kernel_rfl) (by kernel_rfl) (by kernel_rfl) (by kernel_rfl) (by decide) rfl (by rw [if_neg (by rw [hv];decide)]))
  exact⟨h',hd,q⟩
def altEv(e:Ev):Ev:= {e with mods:=e.mods+2}
theorem control_mods(n:Nat):(control n).mods=0∨(control n).mods=4:=by
  unfold Keys.control
  repeat' split
  all_goals simp [EvKey,EvRune]
theorem altEv_eq(n:Nat):AVal.agg [.int .i8 (control n).kind,.int .i32 (control n).code,.int .u8 (ior .u8 (control n).mods 2),.int .i64 (control n).x,.int .i64 (control n).y,.str (control n).text]=evA (altEv (control n)):=by
  unfold evA altEv
  rcases control_mods n with h | h<;>rw [h]<;>rfl
theorem plain_ctl(paste:Bytes){c:UInt8}(h:c.toNat<32∨c.toNat=127):Keys.plain ⟨.escape,[27],[],paste⟩ c=(⟨.ground,[],[],paste⟩,[altEv (control c.toNat)]):=by
  simp [Keys.plain,plain0,h,tell,altEv]
theorem plain_more(paste:Bytes){c:UInt8}(h: ¬ (c.toNat<32∨c.toNat=127))(hq:feed1 [] c=([],[c])):Keys.plain ⟨.escape,[27],[],paste⟩ c=(⟨.char,[27,c],[c],paste⟩,[]):=by
  simp [Keys.plain,plain0,h,char0,hq]
theorem plain_one(paste:Bytes){c:UInt8}(h: ¬ (c.toNat<32∨c.toNat=127)){r:Nat}(hq:feed1 [] c=([r],[])):Keys.plain ⟨.escape,[27],[],paste⟩ c=(⟨.ground,[],[],paste⟩,[if valid [c]=true then EvRune r 2 else EvBad [27,c]]):=by
  by_cases hv:valid [c]=true<;>simp [Keys.plain,plain0,h,char0,hq,at',hv,tell]
theorem plainE_small {f:Nat} {pv ov:AVal} {ty uty:Option (TypeId×Nat)} {P O:ABlk} {I0:Ids} {paste:Bytes} {es:List Ev} {j0 j1 j2 j3:Int} (gs:GAt (AHeap.of [dRowV 0 f 1 (.slice (some ⟨2,0,0,0,1⟩) 1 1) pv false ov ty,uRowH [] j0 j1 j2 j3 uty,ABlk.made [.int .u8 27] 1 true,P,O]) 0 I0 f false .one [27] [] paste es)
    (hI:I0.u=1∧(I0.k=0∨I0.k=2)∧(I0.p=0∨I0.p=3)∧(I0.o=0∨I0.o=4)) (c:UInt8) (h27:c≠27) (hes:es.length<2^30) :
    ∃ h',FDoes Tryz.prog cnd 60 [.ptr (some ⟨0,0,0,0,6⟩),.int .u8 c.toNat] (AHeap.of [dRowV 0 f 1 (.slice (some ⟨2,0,0,0,1⟩) 1 1) pv false ov ty,uRowH [] j0 j1 j2 j3 uty,ABlk.made [.int .u8 27] 1 true,P,O]) (.tuple []) h' ∧
      ∃ I',DAt h' 0 I' (Keys.plain ⟨.escape,[27],[],paste⟩ c).1 (es++(Keys.plain ⟨.escape,[27],[],paste⟩ c).2)∧Fr (AHeap.of [dRowV 0 f 1 (.slice (some ⟨2,0,0,0,1⟩) 1 1) pv false ov ty,uRowH [] j0 j1 j2 j3 uty,ABlk.made [.int .u8 27] 1 true,P,O]) h' 0 I0 I':=by
  obtain⟨hk,hp,ho⟩:=gs_parts gs
  have hk2:I0.k=2:=by have:=hk.1;omega
  have hc:=c.toNat_lt
  have hn:=byte_ne h27
  obtain ⟨v,h',hd,rfl,q⟩:=plainE_vc f pv ov ty uty P O j0 j1 j2 j3 0 c.toNat (fun v h'=>v= .tuple []∧ ∃ I',DAt h' 0 I' (Keys.plain ⟨.escape,[27],[],paste⟩ c).1 (es++(Keys.plain ⟨.escape,[27],[],paste⟩ c).2)∧Fr (AHeap.of [dRowV 0 f 1 (.slice (some ⟨2,0,0,0,1⟩) 1 1) pv false ov ty,uRowH [] j0 j1 j2 j3 uty,ABlk.made [.int .u8 27] 1 true,P,O]) h' 0 I0 I') (by
    delta zv30_8 zv30_2 zv30_17 zv29_8 zv0_0 zv29_15 zv29_10 zv30_10 zv30_6 zv30_1 zv29_3 zv30_3 zv30_16 zv30_15 zv29_5 zv30_14 zv30_12 zv30_9 zv30_4 zv30_13 zv30_5 zv29_14 zv29_6 zv30_11 zv30_7 zv30_0 zv29_2
    have ctl:(c.toNat<32∨c.toNat=127)→ ∀ h' I',GAt h' 0 I' (fnOf .ground) false .nil [] [] paste (es++ [altEv (control c.toNat)])→Fr (AHeap.of [dRowV 0 f 1 (.slice (some ⟨2,0,0,0,1⟩) 1 1) pv false ov ty,uRowH [] j0 j1 j2 j3 uty,ABlk.made [.int .u8 27] 1 true,P,O]) h' 0 I0 I'→AVal.tuple []= .tuple []∧ ∃ I',DAt h' 0 I' (Keys.plain ⟨.escape,[27],[],paste⟩ c).1 (es++(Keys.plain ⟨.escape,[27],[],paste⟩ c).2)∧Fr (AHeap.of [dRowV 0 f 1 (.slice (some ⟨2,0,0,0,1⟩) 1 1) pv false ov ty,uRowH [] j0 j1 j2 j3 uty,ABlk.made [.int .u8 27] 1 true,P,O]) h' 0 I0 I' :=
      fun hc2 h' I' g' fr'=>⟨rfl,I',by rw [plain_ctl paste hc2];exact dat_ground g',fr'⟩
    refine⟨fun h1=>⟨by omega,by omega,trivial,?_⟩,fun h1=>⟨fun h2=>⟨by omega,by omega,trivial,?_⟩,fun h2=> ?_⟩⟩
    · exact tell_leaf1 (n:=29) (e:=altEv (control c.toNat)) (I:=⟨1,2,I0.p,I0.o⟩) (f:=f) (pas:=false) (ks:= .one) (kept:= [27]) (hold:= []) rfl (by decide) (mk5 (n:=29) (j0:=j0) (j1:=j1) (j2:=j2) (j3:=j3) (kv:= .slice (some ⟨2,0,0,0,1⟩) 1 1) (pv:=pv) (ov:=ov) (ty:=ty) (uty:=uty) rfl (by decide) (by kernel_rfl) (by kernel_rfl) (.inl (by kernel_rfl)) (by kernel_rfl) (by kernel_rfl) ⟨by decide,rfl,by kernel_rfl,rfl⟩ (by decide) hp ho hI (.inr (.inr ⟨rfl,hk2⟩))) (by rw [Int.toNat_natCast];exact altEv_eq _) hes (by decide) (ctl (by omega))
    · exact tell_leaf1 (n:=29) (e:=altEv (control c.toNat)) (I:=⟨1,2,I0.p,I0.o⟩) (f:=f) (pas:=false) (ks:= .one) (kept:= [27]) (hold:= []) rfl (by decide) (mk5 (n:=29) (j0:=j0) (j1:=j1) (j2:=j2) (j3:=j3) (kv:= .slice (some ⟨2,0,0,0,1⟩) 1 1) (pv:=pv) (ov:=ov) (ty:=ty) (uty:=uty) rfl (by decide) (by kernel_rfl) (by kernel_rfl) (.inl (by kernel_rfl)) (by kernel_rfl) (by kernel_rfl) ⟨by decide,rfl,by kernel_rfl,rfl⟩ (by decide) hp ho hI (.inr (.inr ⟨rfl,hk2⟩))) (by rw [Int.toNat_natCast];exact altEv_eq _) hes (by decide) (ctl (by omega))
    · have hnc: ¬ (c.toNat<32∨c.toNat=127):=by omega
      rw [feedQ_nil,ofToNat]
      have pre:=feedPre_nil j0 j1 j2 j3 c
      rcases feed1_nil c with hq | ⟨r,hq⟩
      · rw [hq]
        refine⟨fun _=>⟨pre,fun _=>⟨rfl,?_⟩,fun e=>absurd (by simp) e⟩,fun e=>absurd rfl e⟩
        rw [plain_more paste hnc hq,List.append_nil]
        exact dat_leaf (s:=⟨.char,[27,c],[c],paste⟩) (mk5 (n:=77) (k:=73) (j0:=j0) (j1:=j1) (j2:=j2) (j3:=j3) (kv:= .slice (some ⟨73,0,0,0,1⟩) 2 2) (pv:=pv) (ov:=ov) (ty:=ty) (uty:=uty) rfl (by decide) (by kernel_rfl) (by kernel_rfl) (.inl (by kernel_rfl)) (by kernel_rfl) (by kernel_rfl)
          (kGrown (es:= [.int .u8 27,.int .u8 c.toNat]) (ver:=0) (m:=0) (f:=0) (by decide) rfl rfl (by kernel_rfl)) (by decide) hp ho hI (.inr (.inl (by decide)))) (by simp [ShapeOk])
      · rw [hq]
        have one: ∀ (n:Nat) (h:AHeap) (ev:AVal) (e:Ev),h.next=n→77≤n→h.get 0=some (dRowV 0 90 1 (.slice (some ⟨100,0,0,0,1⟩) 2 2) pv false ov ty)→h.get 1=some (uRowH [] j0 j1 j2 j3 uty)→h.get 2=some (ABlk.made [.int .u8 27] 1 true)→h.get 3=some P→h.get 4=some O→h.get 100=some (ABlk.made [.int .u8 27,.int .u8 c.toNat] 1 false byteTy)→100<n→ev=evA e →
            (if valid [c]=true then EvRune r 2 else EvBad [27,c])=e →
            TellPre h ⟨0,0,0,0,6⟩ ev∧ ∀ h',TellP h ⟨0,0,0,0,6⟩ ev h'→_root_.cond (Nat.ble 20 h'.next) (_root_.cond (Nat.ble 5 h'.next) (AVal.tuple []= .tuple []∧ ∃ I',DAt h' 0 I' (Keys.plain ⟨.escape,[27],[],paste⟩ c).1 (es++(Keys.plain ⟨.escape,[27],[],paste⟩ c).2)∧Fr (AHeap.of [dRowV 0 f 1 (.slice (some ⟨2,0,0,0,1⟩) 1 1) pv false ov ty,uRowH [] j0 j1 j2 j3 uty,ABlk.made [.int .u8 27] 1 true,P,O]) h' 0 I0 I') False) False:=by
          intro n h ev e hn h77 e0 e1 e2 e3 e4 e5 h100 he hev
          rw [plain_one paste hnc hq,hev]
          exact tell_leaf hn (by omega) (by omega) (mk5 (k:=100) hn (by omega) e0 e1 (.inl e2) e3 e4 (kGrown (l:= [27,c]) (by decide) rfl rfl e5) h100 hp ho hI (.inr (.inl (by decide)))) he hes (by decide) fun h' I' g' fr'=>⟨rfl,dat_leaf (s:=⟨.ground,[],[],paste⟩) ⟨g',fr'⟩ trivial⟩
        refine⟨fun e=>absurd e (by simp),fun _=>⟨fun _=>⟨pre,fun e=>absurd e (by simp),fun _=>⟨small1,fun hv=> ?_,fun hv=> ?_⟩⟩,fun e=>absurd rfl e⟩⟩
        · exact one 121 _ _ (EvRune r 2) rfl (by decide) (by kernel_rfl) (by kernel_rfl) (by kernel_rfl) (by kernel_rfl) (by kernel_rfl) (by kernel_rfl) (by decide) rfl (by rw [if_pos hv])
        · exact one 122 _ _ (EvBad [27,c]) rfl (by decide) (by kernel_rfl) (by kernel_rfl) (by kernel_rfl) (by kernel_rfl) (by kernel_rfl) (by kernel_rfl) (by decide) rfl (by rw [if_neg (by rw [hv];decide)]))
  exact⟨h',hd,q⟩
theorem DAt.big {h' H':AHeap}{r:Nat→Nat}(hr: ∀ i b,h'.get i=some b→H'.get (r i)=some (b.ren r))(hinj: ∀ i j,r i=r j→i=j)(hlt: ∀ i,i<h'.next→r i<H'.next){d:Nat}{I:Ids}{s:DS}{es:List Ev}(g:DAt h' d I s es):DAt H' (r d) (I.map r) s es:=by
  obtain⟨ks,g,hs⟩:=g
  exact⟨ks,g.big hr hinj hlt,hs⟩
theorem step_lift {fn:FuncId}{s s':DS}{es es':List Ev}{c:UInt8}
    (small: ∀ ks kv pv ov ty uty j0 j1 j2 j3 K P O I0,ShapeOk s.nx ks s.kept→GAt (AHeap.of [dRowV 0 (fnOf s.nx) 1 kv pv (decide (s.nx= .pasted)) ov ty,uRowH s.hold j0 j1 j2 j3 uty,K,P,O]) 0 I0 (fnOf s.nx) (decide (s.nx= .pasted)) ks s.kept s.hold s.paste es→(I0.u=1∧(I0.k=0∨I0.k=2)∧(I0.p=0∨I0.p=3)∧(I0.o=0∨I0.o=4)) →
      ∃ h',FDoes Tryz.prog cnd fn [.ptr (some ⟨0,0,0,0,6⟩),.int .u8 c.toNat] (AHeap.of [dRowV 0 (fnOf s.nx) 1 kv pv (decide (s.nx= .pasted)) ov ty,uRowH s.hold j0 j1 j2 j3 uty,K,P,O]) (.tuple []) h'∧ ∃ I',DAt h' 0 I' s' es'∧Fr (AHeap.of [dRowV 0 (fnOf s.nx) 1 kv pv (decide (s.nx= .pasted)) ov ty,uRowH s.hold j0 j1 j2 j3 uty,K,P,O]) h' 0 I0 I')
    {H:AHeap} {d:Nat} {I:Ids} (g:DAt H d I s es): ∃ H',FDoes Tryz.prog cnd fn [.ptr (some ⟨d,0,0,0,6⟩),.int .u8 c.toNat] H (.tuple []) H'∧ ∃ I',DAt H' d I' s' es'∧Fr H H' d I I':=by
  obtain⟨ks,g,hs⟩:=g
  exact g.lift (Q:=fun h d I=>DAt h d I s' es') (fun a ha=>by rw [List.mem_singleton.1 ha];exact Bare.int _ _) (Bare.of rfl) (fun h' H' r d I hr hinj hlt q=>q.big hr hinj hlt) fun kv pv ov ty uty j0 j1 j2 j3 K P O I0 gs hI=>small ks kv pv ov ty uty j0 j1 j2 j3 K P O I0 hs gs hI
def plainF(s:DS)(c:UInt8):DS×List Ev:=match s.nx with | .ground=>Keys.ground s c | _=>Keys.plain s c
def plainR(s:DS)(c:UInt8):Prop:=s.hold= []∧c≠27∧(s.nx= .ground∨s.nx= .escape)
theorem plain_does {H:AHeap}{d:Nat}{I:Ids}{s:DS}{es:List Ev}{c:UInt8}(g:DAt H d I s es)(hes:es.length<2^30)(hR:plainR s c): ∃ H',FDoes Tryz.prog cnd 60 [.ptr (some ⟨d,0,0,0,6⟩),.int .u8 c.toNat] H (.tuple []) H' ∧
    ∃ I',DAt H' d I' (plainF s c).1 (es++(plainF s c).2)∧Fr H H' d I I':=by
  refine step_lift ?_ g
  intro ks kv pv ov ty uty j0 j1 j2 j3 K P O I0 hs gs hI
  obtain⟨hk,hp,ho⟩:=gs_parts gs
  obtain⟨nx,kept,hold,paste⟩:=s
  obtain⟨h1,h27,h2⟩:=hR
  simp only at h1 h2 hs gs hk hp ho ⊢
  subst h1
  rcases h2 with rfl | rfl
  · cases ks with
    | nil =>
      obtain⟨rfl,rfl,_⟩:=hk
      exact plainN_small gs hI c h27 hes
    | one=>exact hs.elim
    | grown j=>exact hs.elim
  · cases ks with
    | one =>
      obtain⟨hk0,rfl,hK,rfl⟩:=hk
      have:I0.k=2:=by omega
      rw [this,AHeap.of_get]at hK
      simp only [List.getElem?_cons_zero,List.getElem?_cons_succ,Option.some.injEq]at hK
      subst hK
      rw [this]at gs ⊢
      exact plainE_small gs hI c h27 hes
    | nil=>exact hs.elim
    | grown j=>exact hs.elim
theorem plainS_ok: ∀ args h a,stepS (2^30-4) plainR plainF args h=some a→a.Ok Tryz.prog cnd 60 args h:=stepS_ok fun H d I s es c g hes hl hR=>plain_does g (by omega) hR
noncomputable def specs4:Specs:=specs3.add 60 (stepS (2^30-4) plainR plainF)
theorem specs4_ok:SpecsOk Tryz.prog cnd specs4:=specs3_ok.add plainS_ok
theorem ground_vc(f:Nat)(pv ov:AVal)(dty:Option (TypeId×Nat))(U K P O:ABlk)(c:Int)(K0:AVal→AHeap→Prop)(vc:(c=27→K0 (.tuple []) (AHeap.rowsT 19 [(0,⟨[.agg [.func (.func 59) [.ptr (some ⟨0,0,0,0,6⟩)] [],.slice (some ⟨9,0,0,0,1⟩) 1 1,pv,.bool false,.ptr (some ⟨1,0,0,0,5⟩),ov]],6,true,false,0,0,0,dty⟩),(1,U),(2,K),(3,P),(4,O),(9,ABlk.made [.int .u8 c] 1 true)]))∧(¬c=27→StepPre (2^30-4) plainR (AHeap.rowsT 10 [(0,(zv29_19 f pv ov dty)),(1,U),(2,K),(3,P),(4,O)]) ⟨0,0,0,0,6⟩ c∧ ∀ (h3002:AHeap),StepP plainF (AHeap.rowsT 10 [(0,(zv29_19 f pv ov dty)),(1,U),(2,K),(3,P),(4,O)]) ⟨0,0,0,0,6⟩ c h3002→bif Nat.ble 5 (h3002.next)then K0 (.tuple []) h3002 else False)) :
    ∃ v h1,FDoes Tryz.prog cnd 30 [.ptr (some ⟨0,0,0,0,6⟩),.int .u8 c] (AHeap.of [dRowV 0 f 1 (.slice none 0 0) pv false ov dty,U,K,P,O]) v h1∧K0 v h1 :=
  tcall_does env_ok mixed specs4_ok (hs:= .br 1 .nil .nil) (by kernel_rfl) vc
theorem step_leaf1 {l h:AHeap}{R:DS→UInt8→Prop}{F:DS→UInt8→DS×List Ev}{I0 I:Ids}{s:DS}{es:List Ev}{c:UInt8}{n b1 N:Nat}(hn:h.next=n)(hb1:b1≤n)(gf:DAt h 0 I s es∧Fr l h 0 I0 I)(hes:es.length<N)(hl:s.hold.length≤4)(hr:R s c)
    {Q:AHeap→Prop} (hQ: ∀ h' I',DAt h' 0 I' (F s c).1 (es++(F s c).2)→Fr l h' 0 I0 I'→Q h'):StepPre N R h ⟨0,0,0,0,6⟩ c.toNat∧ ∀ h',StepP F h ⟨0,0,0,0,6⟩ c.toNat h'→_root_.cond (Nat.ble b1 h'.next) (Q h') False:=by
  have hc:=c.toNat_lt
  refine⟨⟨rfl,⟨I,s,es,gf.1,hes,hl,by rw [byteI_nat];exact hr⟩,by omega⟩,fun h' t=> ?_⟩
  have:=t.next
  obtain⟨I',g',fr'⟩:=t.all I s es gf.1 hl
  rw [byteI_nat]at g'
  exact cond_ble (by omega) (hQ h' I' g' (gf.2.trans fr'))
theorem dat_pair {l h:AHeap}{I0 I:Ids}{s:DS}{ks:KS}{es:List Ev}(gf:GAt h 0 I (fnOf s.nx) (decide (s.nx= .pasted)) ks s.kept s.hold s.paste es∧Fr l h 0 I0 I)(hsh:ShapeOk s.nx ks s.kept):DAt h 0 I s es∧Fr l h 0 I0 I:=⟨⟨ks,gf.1,hsh⟩,gf.2⟩
def groundR(s:DS)(c:UInt8):Prop:=s.hold= []∧s.nx= .ground
theorem ground_does {H:AHeap} {d:Nat} {I:Ids} {s:DS} {es:List Ev} {c:UInt8} (g:DAt H d I s es) (hes:es.length<2^30-4) (hR:groundR s c): ∃ H',FDoes Tryz.prog cnd 30 [.ptr (some ⟨d,0,0,0,6⟩),.int .u8 c.toNat] H (.tuple []) H' ∧
    ∃ I',DAt H' d I' (Keys.ground s c).1 (es++(Keys.ground s c).2)∧Fr H H' d I I':=by
  refine step_lift ?_ g
  intro ks kv pv ov ty uty j0 j1 j2 j3 K P O I0 hs gs hI
  obtain⟨hk,hp,ho⟩:=gs_parts gs
  obtain⟨nx,kept,hold,paste⟩:=s
  obtain⟨h1,h2⟩:=hR
  simp only at h1 h2 hs gs hk hp ho ⊢
  subst h1 h2
  cases ks with
  | one=>exact hs.elim
  | grown j=>exact hs.elim
  | nil =>
    obtain⟨rfl,rfl,_⟩:=hk
    obtain⟨v,h',hd,rfl,q⟩:=ground_vc (fnOf .ground) pv ov ty (uRowH [] j0 j1 j2 j3 uty) K P O c.toNat (fun v h'=>v= .tuple []∧ ∃ I',DAt h' 0 I' (Keys.ground ⟨.ground,[],[],paste⟩ c).1 (es++(Keys.ground ⟨.ground,[],[],paste⟩ c).2)∧Fr (AHeap.of [dRowV 0 (fnOf .ground) 1 (.slice none 0 0) pv false ov ty,uRowH [] j0 j1 j2 j3 uty,K,P,O]) h' 0 I0 I') (by
      delta zv29_19 zv29_13 zv29_2
      refine⟨fun e=>⟨rfl,?_⟩,fun e=> ?_⟩
      · have hc:c=27:=UInt8.toNat_inj.1 (by show c.toNat=27;omega)
        rw [show Keys.ground ⟨.ground,[],[],paste⟩ c=(⟨.escape,[27],[],paste⟩,[])by simp [Keys.ground,hc],List.append_nil]
        exact dat_leaf (s:=⟨.escape,[27],[],paste⟩) (mk5 (n:=19) (k:=9) (ks:= .one) (j0:=j0) (j1:=j1) (j2:=j2) (j3:=j3) (kv:= .slice (some ⟨9,0,0,0,1⟩) 1 1) (pv:=pv) (ov:=ov) (ty:=ty) (uty:=uty) rfl (by decide) (by kernel_rfl) (by kernel_rfl) (.inl (by kernel_rfl)) (by kernel_rfl) (by kernel_rfl)
          ⟨by decide,rfl,by rw [← e];kernel_rfl,rfl⟩ (by decide) hp ho hI (.inr (.inl (by decide)))) trivial
      · have hc:c≠27:=by rintro rfl;exact e rfl
        refine step_leaf1 (s:=⟨.ground,[],[],paste⟩) (I:=⟨1,0,I0.p,I0.o⟩) (n:=10) rfl (by decide) (dat_pair (ks:= .nil) (mk5 (n:=10) (k:=0) (j0:=j0) (j1:=j1) (j2:=j2) (j3:=j3) (kv:= .slice none 0 0) (pv:=pv) (ov:=ov) (ty:=ty) (uty:=uty) rfl (by decide) (by kernel_rfl) (by kernel_rfl) (.inl (by kernel_rfl)) (by kernel_rfl) (by kernel_rfl) (kNil _) (by decide) hp ho hI (.inl rfl)) trivial) hes (by simp) ⟨rfl,hc,.inl rfl⟩ fun h' I' g' fr'=>⟨rfl,I',g',fr'⟩)
    exact⟨h',hd,q⟩
theorem groundS_ok: ∀ args h a,stepS (2^30-4) groundR Keys.ground args h=some a→a.Ok Tryz.prog cnd 30 args h:=stepS_ok fun H d I s es c g hes hl hR=>ground_does g hes hR
noncomputable def specs5:Specs:=specs4.add 30 (stepS (2^30-4) groundR Keys.ground)
theorem specs5_ok:SpecsOk Tryz.prog cnd specs5:=specs4_ok.add groundS_ok
abbrev zv32_0(l:List AVal)(ver:Nat)(m:Nat)(fl:Nat):ABlk:=⟨l,1,false,false,ver,m,fl,some (5,0)⟩
abbrev zv32_1(l:List AVal)(n:Nat):AVal:=AVal.agg [.int .i8 7,.int .i32 0,.int .u8 0,.int .i64 0,.int .i64 0,.str (strOf (List.take n l))]
abbrev zv32_2(f:Nat)(pv:AVal)(ov:AVal)(dty:Option (TypeId×Nat))(ver:Nat)(n:Nat):ABlk:=⟨[.agg [(zv29_2 f),.slice (some ⟨2,ver,0,0,1⟩) n n,pv,.bool false,.ptr (some ⟨1,0,0,0,5⟩),ov]],6,true,false,0,0,0,dty⟩
theorem bad_vc(f:Nat)(pv ov:AVal)(dty:Option (TypeId×Nat))(U P O:ABlk)(l:List AVal)(ver m fl n:Nat)(c:Int)(K0:AVal→AHeap→Prop)(vc:ver=ver∧0+n≤List.length l∧(∃ l_1,List.take n (List.drop (AAddr.idx ⟨2,ver,0,0,1⟩) (ABlk.elems (zv32_0 l ver m fl)))=bytesA l_1)∧TellPre (AHeap.rowsT 13 [(0,(zv32_2 f pv ov dty ver n)),(1,U),(2,(zv32_0 l ver m fl)),(3,P),(4,O)]) ⟨0,0,0,0,6⟩ ((zv32_1 l n))∧ ∀ (h7:AHeap),TellP (AHeap.rowsT 13 [(0,(zv32_2 f pv ov dty ver n)),(1,U),(2,(zv32_0 l ver m fl)),(3,P),(4,O)]) ⟨0,0,0,0,6⟩ ((zv32_1 l n)) h7→bif Nat.ble 5 (h7.next) && true then aload env.D 66 ⟨0,0,0,0,6⟩ (AHeap.mk (h7.next+6) (h7.2))=some (.func (.func 30) [.ptr (some ⟨0,0,0,0,6⟩)] [])∧StepPre (2^30-4) groundR (AHeap.mk (h7.next+6) (AHeap.blks h7)) ⟨0,0,0,0,6⟩ c∧ ∀ (h1005:AHeap),StepP ground (AHeap.mk (h7.next+6) (AHeap.blks h7)) ⟨0,0,0,0,6⟩ c h1005→bif Nat.ble 5 (h1005.next)then K0 (.tuple []) h1005 else False else False) :
    ∃ v h1,FDoes Tryz.prog cnd 106 [.ptr (some ⟨0,0,0,0,6⟩),.int .u8 c] (AHeap.of [dRowV 0 f 1 (.slice (some ⟨2,ver,0,0,1⟩) n n) pv false ov dty,U,gRowB l 1 ver m fl byteTy,P,O]) v h1∧K0 v h1 :=
  tcall_does env_ok mixed specs5_ok (hs:=hg 5 (.hint (.val 1003 (.func (.func 30) [.ptr (some ⟨0,0,0,0,6⟩)] [])) .nil)) (by kernel_rfl) vc
abbrev zv33_0:AVal:=AVal.agg [.int .i8 2,.int .i32 4,.int .u8 0,.int .i64 0,.int .i64 0,.str []]
theorem escape_vc(f:Nat)(pv ov:AVal)(dty:Option (TypeId×Nat))(U P O:ABlk)(c:Int)(K0:AVal→AHeap→Prop)(vc:(c=27→TellPre (AHeap.rowsT 11 [(0,(zv30_11 f pv ov dty)),(1,U),(2,ABlk.made [.int .u8 27] 1 true),(3,P),(4,O)]) ⟨0,0,0,0,6⟩ (zv33_0)∧ ∀ (h3002:AHeap),TellP (AHeap.rowsT 11 [(0,(zv30_11 f pv ov dty)),(1,U),(2,ABlk.made [.int .u8 27] 1 true),(3,P),(4,O)]) ⟨0,0,0,0,6⟩ (zv33_0) h3002→bif Nat.ble 5 (h3002.next) && true then StepPre (2^30-4) groundR (AHeap.mk (h3002.next+3) (AHeap.blks h3002)) ⟨0,0,0,0,6⟩ c∧ ∀ (h4002:AHeap),StepP ground (AHeap.mk (h3002.next+3) (AHeap.blks h3002)) ⟨0,0,0,0,6⟩ c h4002→bif Nat.ble 5 (h4002.next)then K0 (.tuple []) h4002 else False else False)∧(¬c=27→(c=91→K0 (.tuple []) (AHeap.rowsT 27 [(0,⟨[.agg [.func (.func 87) [.ptr (some ⟨0,0,0,0,6⟩)] [],.slice (some ⟨17,0,0,0,1⟩) 2 2,pv,.bool false,.ptr (some ⟨1,0,0,0,5⟩),ov]],6,true,false,0,0,0,dty⟩),(1,U),(2,ABlk.made [.int .u8 27] 1 true),(3,P),(4,O),(16,ABlk.made [.int .u8 c] 1 true),(17,ABlk.made [.int .u8 27,.int .u8 c] 1 false (some (5,0)))]))∧(¬c=91→(c=79→K0 (.tuple []) (AHeap.rowsT 29 [(0,⟨[.agg [.func (.func 88) [.ptr (some ⟨0,0,0,0,6⟩)] [],.slice (some ⟨19,0,0,0,1⟩) 2 2,pv,.bool false,.ptr (some ⟨1,0,0,0,5⟩),ov]],6,true,false,0,0,0,dty⟩),(1,U),(2,ABlk.made [.int .u8 27] 1 true),(3,P),(4,O),(18,ABlk.made [.int .u8 c] 1 true),(19,ABlk.made [.int .u8 27,.int .u8 c] 1 false (some (5,0)))]))∧(¬c=79→StepPre (2^30-4) plainR (AHeap.rowsT 15 [(0,(zv30_11 f pv ov dty)),(1,U),(2,ABlk.made [.int .u8 27] 1 true),(3,P),(4,O)]) ⟨0,0,0,0,6⟩ c∧ ∀ (h1002:AHeap),StepP plainF (AHeap.rowsT 15 [(0,(zv30_11 f pv ov dty)),(1,U),(2,ABlk.made [.int .u8 27] 1 true),(3,P),(4,O)]) ⟨0,0,0,0,6⟩ c h1002→bif Nat.ble 5 (h1002.next)then K0 (.tuple []) h1002 else False)))) :
    ∃ v h1,FDoes Tryz.prog cnd 59 [.ptr (some ⟨0,0,0,0,6⟩),.int .u8 c] (AHeap.of [dRowV 0 f 1 (.slice (some ⟨2,0,0,0,1⟩) 1 1) pv false ov dty,U,ABlk.made [.int .u8 27] 1 true,P,O]) v h1∧K0 v h1 :=
  tcall_does env_ok mixed specs5_ok (hs:= .br 2000 .nil (.br 5000 .nil (.br 8000 .nil .nil))) (by kernel_rfl) vc
abbrev zv34_0:AVal:= .func (.func 30) [.ptr (some ⟨0,0,0,0,6⟩)] []
abbrev zv34_1:AVal:=AVal.agg [.int .i8 2,.int .i32 1,.int .u8 0,.int .i64 0,.int .i64 0,.str []]
abbrev zv34_2:AVal:=AVal.agg [.int .i8 1,.int .i32 79,.int .u8 2,.int .i64 0,.int .i64 0,.str []]
abbrev zv34_3(c:Int):AVal:=AVal.agg [.int .i8 2,.int .i32 (arrowI c),.int .u8 0,.int .i64 0,.int .i64 0,.str []]
abbrev zv34_4(c:Int):AVal:=AVal.agg [.int .i8 2,.int .i32 (21+(c-80)),.int .u8 0,.int .i64 0,.int .i64 0,.str []]
abbrev zv34_5(f:Nat)(kv:AVal)(pv:AVal)(ov:AVal):AVal:=AVal.agg [(zv29_2 f),kv,pv,.bool false,.ptr (some ⟨1,0,0,0,5⟩),ov]
abbrev zv34_6(f:Nat)(kv:AVal)(pv:AVal)(ov:AVal)(dty:Option (TypeId×Nat)):ABlk:=⟨[(zv34_5 f kv pv ov)],6,true,false,0,0,0,dty⟩
abbrev zv34_7(f:Nat)(kv:AVal)(pv:AVal)(ov:AVal)(dty:Option (TypeId×Nat))(U:ABlk)(K:ABlk)(P:ABlk)(O:ABlk):AHeap:=(AHeap.rowsT 21 [(0,(zv34_6 f kv pv ov dty)),(1,U),(2,K),(3,P),(4,O)])
theorem single_vc(f:Nat)(kv pv ov:AVal)(dty:Option (TypeId×Nat))(U K P O:ABlk)(c:Int)(K0:AVal→AHeap→Prop)(vc:(0<arrowI c→TellPre (AHeap.rowsT 14 [(0,(zv34_6 f kv pv ov dty)),(1,U),(2,K),(3,P),(4,O)]) ⟨0,0,0,0,6⟩ ((zv34_3 c))∧ ∀ (h2003:AHeap),TellP (AHeap.rowsT 14 [(0,(zv34_6 f kv pv ov dty)),(1,U),(2,K),(3,P),(4,O)]) ⟨0,0,0,0,6⟩ ((zv34_3 c)) h2003→bif Nat.ble 5 (h2003.next)then K0 (.tuple []) h2003 else False)∧(¬0<arrowI c→(80≤c→(c≤83→(0≤c-80∧c-80≤255)∧(-2147483648≤c-80∧c-80≤2147483647)∧(-2147483648≤21+(c-80)∧21+(c-80)≤2147483647)∧TellPre (AHeap.rowsT 23 [(0,(zv34_6 f kv pv ov dty)),(1,U),(2,K),(3,P),(4,O)]) ⟨0,0,0,0,6⟩ ((zv34_4 c))∧ ∀ (h4006:AHeap),TellP (AHeap.rowsT 23 [(0,(zv34_6 f kv pv ov dty)),(1,U),(2,K),(3,P),(4,O)]) ⟨0,0,0,0,6⟩ ((zv34_4 c)) h4006→bif Nat.ble 5 (h4006.next)then K0 (.tuple []) h4006 else False)∧(¬c≤83→(c=77→TellPre (zv34_7 f kv pv ov dty U K P O) ⟨0,0,0,0,6⟩ (zv34_1)∧ ∀ (h6002:AHeap),TellP (zv34_7 f kv pv ov dty U K P O) ⟨0,0,0,0,6⟩ (zv34_1) h6002→bif Nat.ble 5 (h6002.next)then K0 (.tuple []) h6002 else False)∧(¬c=77→TellPre (zv34_7 f kv pv ov dty U K P O) ⟨0,0,0,0,6⟩ (zv34_2)∧ ∀ (h7002:AHeap),TellP (zv34_7 f kv pv ov dty U K P O) ⟨0,0,0,0,6⟩ (zv34_2) h7002→bif Nat.ble 5 (h7002.next) && true then aload env.D 66 ⟨0,0,0,0,6⟩ (AHeap.mk (h7002.next+6) (h7002.2))=some (zv34_0)∧StepPre (2^30-4) groundR (AHeap.mk (h7002.next+6) (AHeap.blks h7002)) ⟨0,0,0,0,6⟩ c∧ ∀ (h8005:AHeap),StepP ground (AHeap.mk (h7002.next+6) (AHeap.blks h7002)) ⟨0,0,0,0,6⟩ c h8005→bif Nat.ble 5 (h8005.next)then K0 (.tuple []) h8005 else False else False)))∧(¬80≤c→(c=77→TellPre (zv34_7 f kv pv ov dty U K P O) ⟨0,0,0,0,6⟩ (zv34_1)∧ ∀ (h6002:AHeap),TellP (zv34_7 f kv pv ov dty U K P O) ⟨0,0,0,0,6⟩ (zv34_1) h6002→bif Nat.ble 5 (h6002.next)then K0 (.tuple []) h6002 else False)∧(¬c=77→TellPre (zv34_7 f kv pv ov dty U K P O) ⟨0,0,0,0,6⟩ (zv34_2)∧ ∀ (h7002:AHeap),TellP (zv34_7 f kv pv ov dty U K P O) ⟨0,0,0,0,6⟩ (zv34_2) h7002→bif Nat.ble 5 (h7002.next) && true then aload env.D 66 ⟨0,0,0,0,6⟩ (AHeap.mk (h7002.next+6) (h7002.2))=some (zv34_0)∧StepPre (2^30-4) groundR (AHeap.mk (h7002.next+6) (AHeap.blks h7002)) ⟨0,0,0,0,6⟩ c∧ ∀ (h8005:AHeap),StepP ground (AHeap.mk (h7002.next+6) (AHeap.blks h7002)) ⟨0,0,0,0,6⟩ c h8005→bif Nat.ble 5 (h8005.next)then K0 (.tuple []) h8005 else False else False)))) :
    ∃ v h1,FDoes Tryz.prog cnd 88 [.ptr (some ⟨0,0,0,0,6⟩),.int .u8 c] (AHeap.of [dRowV 0 f 1 kv pv false ov dty,U,K,P,O]) v h1∧K0 v h1 :=
  tcall_does env_ok mixed specs5_ok (hs:= .br 1001 .nil (.br 3001 (.br 3004 (hg 4002 (hg 4003 (hg 4004 .nil))) (.br 5001 .nil (.hint (.val 8003 (zv34_0)) .nil))) (.br 5001 .nil (.hint (.val 8003 (zv34_0)) .nil)))) (by kernel_rfl) vc
theorem nextG {h:AHeap}{d k:Nat}{I:Ids}{f:Nat}{pas:Bool}{ks:KS}{kept hold paste:Bytes}{es:List Ev}(g:GAt h d I f pas ks kept hold paste es):GAt ⟨h.next+k,h.blks⟩ d I f pas ks kept hold paste es where
  ex:=g.ex
  us:=g.us
  lt:=by have:=g.lt;show d<h.next+k∧I.u<h.next+k∧I.k<h.next+k∧I.p<h.next+k∧I.o<h.next+k;omega
  ne:=g.ne
theorem nextFr {l h:AHeap}{d k:Nat}{I I':Ids}(fr:Fr l h d I I'):Fr l ⟨h.next+k,h.blks⟩ d I I' where
  next:=by have:=fr.next;show l.next≤h.next+k;omega
  get:=fr.get
  ids:=fr.ids
theorem take_bytesA(x:Bytes):List.take x.length (bytesA x)=bytesA x:=by
  have e:x.length=(bytesA x).length:=by simp [bytesA]
  rw [e,List.take_length]
theorem aload_fn {h:AHeap}{I:Ids}{pas:Bool}{ks:KS}{kept hold paste:Bytes}{es:List Ev}(g:GAt h 0 I (fnOf .ground) pas ks kept hold paste es):aload (AEnv.D env) 66 ⟨0,0,0,0,6⟩ h=some (.func (.func 30) [.ptr (some ⟨0,0,0,0,6⟩)] []):=by
  obtain⟨kv,pv,ov,ty,e,_⟩:=g.ex
  unfold aload
  rw [e]
  kernel_rfl
theorem tell_ground0 {l h:AHeap}{ev:AVal}{e:Ev}{I0 I:Ids}{f:Nat}{ks:KS}{kept paste:Bytes}{es:List Ev}{c:UInt8}{k:Nat}(h5:5≤h.next)(gf:GAt h 0 I f false ks kept [] paste es∧Fr l h 0 I0 I)(he:ev=evA e)(hes:es.length<2^30-8)
    {Q:AHeap→Prop} (hQ: ∀ h' I',DAt h' 0 I' (Keys.ground ⟨.ground,[],[],paste⟩ c).1 (es++(e::(Keys.ground ⟨.ground,[],[],paste⟩ c).2))→Fr l h' 0 I0 I'→Q h') :
    TellPre h ⟨0,0,0,0,6⟩ ev∧ ∀ h7,TellP h ⟨0,0,0,0,6⟩ ev h7→(_root_.cond (Nat.ble 5 h7.next && true) (StepPre (2^30-4) groundR ⟨h7.next+k,h7.blks⟩ ⟨0,0,0,0,6⟩ c.toNat ∧
      ∀ h',StepP Keys.ground ⟨h7.next+k,h7.blks⟩ ⟨0,0,0,0,6⟩ c.toNat h'→_root_.cond (Nat.ble 5 h'.next) (Q h') False) False)∧aload (AEnv.D env) 66 ⟨0,0,0,0,6⟩ ⟨h7.next+k,h7.blks⟩=some (.func (.func 30) [.ptr (some ⟨0,0,0,0,6⟩)] []):=by
  refine⟨tellPre_of gf.1 he (by omega) (by simp),fun h7 t=> ?_⟩
  have hn:=t.next
  obtain⟨I',g',fr'⟩:=tellP_done t gf.1 gf.2 he (by simp)
  have gd:DAt ⟨h7.next+k,h7.blks⟩ 0 I' ⟨.ground,[],[],paste⟩ (es++ [e]):=⟨.nil,nextG g',trivial⟩
  refine⟨?_,aload_fn (nextG g')⟩
  rw [Nat.ble_eq.mpr (by omega)]
  refine step_leaf1 (n:=h7.next+k) rfl (by omega) ⟨gd,nextFr fr'⟩ (by simp;omega) (by simp) ⟨rfl,rfl⟩ fun h' I'' g'' fr''=>hQ h' I'' (by rw [List.append_assoc]at g'';exact g'') fr''
theorem tell_ground {l h:AHeap}{ev:AVal}{e:Ev}{I0 I:Ids}{f:Nat}{ks:KS}{kept paste:Bytes}{es:List Ev}{c:UInt8}{k:Nat}(h5:5≤h.next)(gf:GAt h 0 I f false ks kept [] paste es∧Fr l h 0 I0 I)(he:ev=evA e)(hes:es.length<2^30-8)
    {Q:AHeap→Prop} (hQ: ∀ h' I',DAt h' 0 I' (Keys.ground ⟨.ground,[],[],paste⟩ c).1 (es++(e::(Keys.ground ⟨.ground,[],[],paste⟩ c).2))→Fr l h' 0 I0 I'→Q h') :
    TellPre h ⟨0,0,0,0,6⟩ ev∧ ∀ h7,TellP h ⟨0,0,0,0,6⟩ ev h7→_root_.cond (Nat.ble 5 h7.next && true) (aload (AEnv.D env) 66 ⟨0,0,0,0,6⟩ ⟨h7.next+k,h7.blks⟩=some (.func (.func 30) [.ptr (some ⟨0,0,0,0,6⟩)] [])∧StepPre (2^30-4) groundR ⟨h7.next+k,h7.blks⟩ ⟨0,0,0,0,6⟩ c.toNat ∧
      ∀ h',StepP Keys.ground ⟨h7.next+k,h7.blks⟩ ⟨0,0,0,0,6⟩ c.toNat h'→_root_.cond (Nat.ble 5 h'.next) (Q h') False) False:=by
  obtain⟨a,b⟩:=tell_ground0 (k:=k) h5 gf he hes hQ
  refine⟨a,fun h7 t=> ?_⟩
  obtain⟨b1,b2⟩:=b h7 t
  have hn:=t.next
  rw [Nat.ble_eq.mpr (by omega)]at b1 ⊢
  exact⟨b2,b1⟩
def badR(s:DS)(c:UInt8):Prop:=s.hold= []∧(s.nx= .char∨s.nx= .sequence)
theorem bad_does {H:AHeap} {d:Nat} {I:Ids} {s:DS} {es:List Ev} {c:UInt8} (g:DAt H d I s es) (hes:es.length<2^30-8) (hR:badR s c): ∃ H',FDoes Tryz.prog cnd 106 [.ptr (some ⟨d,0,0,0,6⟩),.int .u8 c.toNat] H (.tuple []) H' ∧
    ∃ I',DAt H' d I' (Keys.bad s c).1 (es++(Keys.bad s c).2)∧Fr H H' d I I':=by
  refine step_lift ?_ g
  intro ks kv pv ov ty uty j0 j1 j2 j3 K P O I0 hs gs hI
  obtain⟨hk,hp,ho⟩:=gs_parts gs
  obtain⟨nx,kept,hold,paste⟩:=s
  obtain⟨h1,h2⟩:=hR
  simp only at h1 h2 hs gs hk hp ho ⊢
  subst h1
  have hks:ks= .grown []∧decide (nx=Nx.pasted)=false:=by
    rcases h2 with rfl | rfl
    · cases ks with
      | grown j=>cases j with
        | nil=>exact⟨rfl,rfl⟩
        | cons a b=>exact hs.elim
      | _=>exact hs.elim
    · cases ks with
      | grown j=>cases j with
        | nil=>exact⟨rfl,rfl⟩
        | cons a b=>exact hs.elim
      | _=>exact hs.elim
  obtain⟨rfl,hpas⟩:=hks
  rw [hpas]at gs ⊢
  obtain⟨hk0,ver,m,fl,rfl,hK⟩:=hk
  have hk2:I0.k=2:=by omega
  rw [hk2,AHeap.of_get]at hK
  simp only [List.getElem?_cons_zero,List.getElem?_cons_succ,Option.some.injEq,List.nil_append]at hK
  simp only [List.length_nil]at hp ho ⊢
  subst hK
  rw [hk2,hpas]at hp ho
  rw [hk2]
  have hK2: ∀ x:List UInt8,List.take x.length (List.drop 0 (bytesA x))=bytesA x:=fun x=>take_bytesA x
  obtain⟨v,h',hd,rfl,q⟩:=bad_vc (fnOf nx) pv ov ty (uRowH [] j0 j1 j2 j3 uty) P O (bytesA kept) ver m fl kept.length c.toNat (fun v h'=>v= .tuple []∧ ∃ I',DAt h' 0 I' (Keys.bad ⟨nx,kept,[],paste⟩ c).1 (es++(Keys.bad ⟨nx,kept,[],paste⟩ c).2)∧Fr (AHeap.of [dRowV 0 (fnOf nx) 1 (.slice (some ⟨2,ver,0,0,1⟩) kept.length kept.length) pv false ov ty,uRowH [] j0 j1 j2 j3 uty,gRowB (bytesA kept) 1 ver m fl byteTy,P,O]) h' 0 I0 I') (by
    delta zv32_1 zv32_0 zv32_2 zv29_2
    refine⟨rfl,by simp [bytesA];try omega,⟨kept,hK2 kept⟩,?_⟩
    exact tell_ground (k:=6) (e:=EvBad kept) (by show 5≤13;decide) (mk5 (n:=13) (f:=fnOf nx) (pas:=false) (ks:= .grown []) (kept:=kept) (hold:= []) (k:=2) (j0:=j0) (j1:=j1) (j2:=j2) (j3:=j3) (kv:= .slice (some ⟨2,ver,0,0,1⟩) kept.length kept.length) (pv:=pv) (ov:=ov) (ty:=ty) (uty:=uty) rfl (by decide) (by kernel_rfl) (by kernel_rfl) (.inr hk2) (by kernel_rfl) (by kernel_rfl)
      (kGrown (es:=bytesA kept) (ver:=ver) (m:=m) (f:=fl) (by decide) rfl rfl (by kernel_rfl)) (by decide) hp ho hI (.inr (.inr ⟨rfl,hk2⟩))) (by rw [take_bytesA,strOf_bytesA];rfl) hes fun h' I' g' fr'=>⟨rfl,I',g',fr'⟩)
  exact⟨h',hd,q⟩
theorem badS_ok: ∀ args h a,stepS (2^30-8) badR Keys.bad args h=some a→a.Ok Tryz.prog cnd 106 args h:=stepS_ok fun H d I s es c g hes hl hR=>bad_does g (by omega) hR
noncomputable def specs6:Specs:=specs5.add 106 (stepS (2^30-8) badR Keys.bad)
theorem specs6_ok:SpecsOk Tryz.prog cnd specs6:=specs5_ok.add badS_ok
theorem tell_ground2 {l h:AHeap}{ev:AVal}{e:Ev}{I0 I:Ids}{f:Nat}{ks:KS}{kept paste:Bytes}{es:List Ev}{c:UInt8}{k:Nat}(h5:5≤h.next)(gf:GAt h 0 I f false ks kept [] paste es∧Fr l h 0 I0 I)(he:ev=evA e)(hes:es.length<2^30-8)
    {Q:AHeap→Prop} (hQ: ∀ h' I',DAt h' 0 I' (Keys.ground ⟨.ground,[],[],paste⟩ c).1 (es++(e::(Keys.ground ⟨.ground,[],[],paste⟩ c).2))→Fr l h' 0 I0 I'→Q h') :
    TellPre h ⟨0,0,0,0,6⟩ ev∧ ∀ h7,TellP h ⟨0,0,0,0,6⟩ ev h7→_root_.cond (Nat.ble 5 h7.next && true) (StepPre (2^30-4) groundR ⟨h7.next+k,h7.blks⟩ ⟨0,0,0,0,6⟩ c.toNat ∧
      ∀ h',StepP Keys.ground ⟨h7.next+k,h7.blks⟩ ⟨0,0,0,0,6⟩ c.toNat h'→_root_.cond (Nat.ble 5 h'.next) (Q h') False) False:=by
  obtain⟨a,b⟩:=tell_ground0 (k:=k) h5 gf he hes hQ
  exact⟨a,fun h7 t=>(b h7 t).1⟩
theorem kKept {h:AHeap}{k n:Nat}{l:Bytes}{es:List AVal}(hk:k≠0)(hn:n=l.length)(he:es=bytesA l)(e:h.get k=some (ABlk.made es 1 false byteTy)):KAt h 0 k (.slice (some ⟨k,0,0,0,1⟩) n n) (.grown []) l:=kGrown (ver:=0) (m:=0) (f:=0) hk hn he e
def escapeR(s:DS)(c:UInt8):Prop:=s.hold= []∧s.nx= .escape
theorem escape_does {H:AHeap} {d:Nat} {I:Ids} {s:DS} {es:List Ev} {c:UInt8} (g:DAt H d I s es) (hes:es.length<2^30-8) (hR:escapeR s c): ∃ H',FDoes Tryz.prog cnd 59 [.ptr (some ⟨d,0,0,0,6⟩),.int .u8 c.toNat] H (.tuple []) H' ∧
    ∃ I',DAt H' d I' (Keys.escape s c).1 (es++(Keys.escape s c).2)∧Fr H H' d I I':=by
  refine step_lift ?_ g
  intro ks kv pv ov ty uty j0 j1 j2 j3 K P O I0 hs gs hI
  obtain⟨hk,hp,ho⟩:=gs_parts gs
  obtain⟨nx,kept,hold,paste⟩:=s
  obtain⟨h1,h2⟩:=hR
  simp only at h1 h2 hs gs hk hp ho ⊢
  subst h1 h2
  cases ks with
  | nil=>exact hs.elim
  | grown j=>exact hs.elim
  | one =>
    obtain⟨hk0,rfl,hK,rfl⟩:=hk
    have hk2:I0.k=2:=by omega
    rw [hk2,AHeap.of_get]at hK
    simp only [List.getElem?_cons_zero,List.getElem?_cons_succ,Option.some.injEq]at hK
    subst hK
    rw [hk2]at gs hp ho ⊢
    obtain⟨v,h',hd,rfl,q⟩:=escape_vc (fnOf .escape) pv ov ty (uRowH [] j0 j1 j2 j3 uty) P O c.toNat (fun v h'=>v= .tuple []∧ ∃ I',DAt h' 0 I' (Keys.escape ⟨.escape,[27],[],paste⟩ c).1 (es++(Keys.escape ⟨.escape,[27],[],paste⟩ c).2)∧Fr (AHeap.of [dRowV 0 (fnOf .escape) 1 (.slice (some ⟨2,0,0,0,1⟩) 1 1) pv false ov ty,uRowH [] j0 j1 j2 j3 uty,ABlk.made [.int .u8 27] 1 true,P,O]) h' 0 I0 I') (by
      delta zv30_11 zv30_7 zv30_0 zv29_2 zv33_0
      refine⟨fun e=> ?_,fun e=>⟨fun e2=>⟨rfl,?_⟩,fun e2=>⟨fun e3=>⟨rfl,?_⟩,fun e3=> ?_⟩⟩⟩
      · have hc:c=27:=UInt8.toNat_inj.1 (by show c.toNat=27;omega)
        rw [show Keys.escape ⟨.escape,[27],[],paste⟩ c=((Keys.ground ⟨.ground,[],[],paste⟩ c).1,EvKey 4::(Keys.ground ⟨.ground,[],[],paste⟩ c).2)by simp [Keys.escape,hc,tell]]
        exact tell_ground2 (k:=3) (e:=EvKey 4) (by show 5≤11;decide) (mk5 (n:=11) (f:=fnOf .escape) (pas:=false) (ks:= .one) (kept:= [27]) (hold:= []) (k:=2) (j0:=j0) (j1:=j1) (j2:=j2) (j3:=j3) (kv:= .slice (some ⟨2,0,0,0,1⟩) 1 1) (pv:=pv) (ov:=ov) (ty:=ty) (uty:=uty) rfl (by decide) (by kernel_rfl) (by kernel_rfl) (.inr hk2) (by kernel_rfl) (by kernel_rfl)
          ⟨by decide,rfl,by kernel_rfl,rfl⟩ (by decide) hp ho hI (.inr (.inr ⟨rfl,hk2⟩))) rfl hes fun h' I' g' fr'=>⟨rfl,I',g',fr'⟩
      · have hc:c=91:=UInt8.toNat_inj.1 (by show c.toNat=91;omega)
        rw [show Keys.escape ⟨.escape,[27],[],paste⟩ c=(⟨.sequence,[27,c],[],paste⟩,[])by simp [Keys.escape,hc],List.append_nil]
        exact dat_leaf (s:=⟨.sequence,[27,c],[],paste⟩) (mk5 (n:=27) (k:=17) (ks:= .grown []) (j0:=j0) (j1:=j1) (j2:=j2) (j3:=j3) (kv:= .slice (some ⟨17,0,0,0,1⟩) 2 2) (pv:=pv) (ov:=ov) (ty:=ty) (uty:=uty) rfl (by decide) (by kernel_rfl) (by kernel_rfl) (.inr hk2) (by kernel_rfl) (by kernel_rfl)
          (kKept (es:= [.int .u8 27,.int .u8 c.toNat]) (by decide) rfl rfl (by kernel_rfl)) (by decide) hp ho hI (.inr (.inl (by decide)))) (by simp [ShapeOk])
      · have hc:c=79:=UInt8.toNat_inj.1 (by show c.toNat=79;omega)
        rw [show Keys.escape ⟨.escape,[27],[],paste⟩ c=(⟨.single,[27,c],[],paste⟩,[])by simp [Keys.escape,hc],List.append_nil]
        exact dat_leaf (s:=⟨.single,[27,c],[],paste⟩) (mk5 (n:=29) (k:=19) (ks:= .grown []) (j0:=j0) (j1:=j1) (j2:=j2) (j3:=j3) (kv:= .slice (some ⟨19,0,0,0,1⟩) 2 2) (pv:=pv) (ov:=ov) (ty:=ty) (uty:=uty) rfl (by decide) (by kernel_rfl) (by kernel_rfl) (.inr hk2) (by kernel_rfl) (by kernel_rfl)
          (kKept (es:= [.int .u8 27,.int .u8 c.toNat]) (by decide) rfl rfl (by kernel_rfl)) (by decide) hp ho hI (.inr (.inl (by decide)))) (by simp [ShapeOk])
      · have hc:c≠27:=by rintro rfl;exact e rfl
        have hc2:c≠91:=by rintro rfl;exact e2 rfl
        have hc3:c≠79:=by rintro rfl;exact e3 rfl
        rw [show Keys.escape ⟨.escape,[27],[],paste⟩ c=plainF ⟨.escape,[27],[],paste⟩ c by simp [Keys.escape,hc,hc2,hc3,plainF]]
        exact step_leaf1 (s:=⟨.escape,[27],[],paste⟩) (n:=15) rfl (by decide) (dat_pair (mk5 (n:=15) (f:=fnOf .escape) (pas:=false) (ks:= .one) (kept:= [27]) (hold:= []) (k:=2) (j0:=j0) (j1:=j1) (j2:=j2) (j3:=j3) (kv:= .slice (some ⟨2,0,0,0,1⟩) 1 1) (pv:=pv) (ov:=ov) (ty:=ty) (uty:=uty) rfl (by decide) (by kernel_rfl) (by kernel_rfl) (.inr hk2) (by kernel_rfl) (by kernel_rfl)
          ⟨by decide,rfl,by kernel_rfl,rfl⟩ (by decide) hp ho hI (.inr (.inr ⟨rfl,hk2⟩))) trivial) (by omega) (by simp) ⟨rfl,hc,.inr rfl⟩ fun h' I' g' fr'=>⟨rfl,I',g',fr'⟩)
    exact⟨h',hd,q⟩
theorem escapeS_ok: ∀ args h a,stepS (2^30-8) escapeR Keys.escape args h=some a→a.Ok Tryz.prog cnd 59 args h:=stepS_ok fun H d I s es c g hes hl hR=>escape_does g hes hR
theorem arrowI_nat (c:Nat):arrowI (c:Int)=arrow c:=by
  unfold arrowI arrow
  by_cases h1:65≤c∧c≤68
  · have h2:(65:Int)≤c∧(c:Int)≤68:=by omega
    rw [if_pos h1,if_pos h2]
  · have h2: ¬ ((65:Int)≤c∧(c:Int)≤68):=by omega
    rw [if_neg h1,if_neg h2]
    by_cases h3:c=72
    · have h4:(c:Int)=72:=by omega
      rw [if_pos h3,if_pos h4]
    · have h4: ¬ (c:Int)=72:=by omega
      rw [if_neg h3,if_neg h4]
      by_cases h5:c=70
      · have h6:(c:Int)=70:=by omega
        rw [if_pos h5,if_pos h6]
      · have h6: ¬ (c:Int)=70:=by omega
        rw [if_neg h5,if_neg h6]
def singleR(s:DS)(c:UInt8):Prop:=s.hold= []∧s.nx= .single
theorem single_does {H:AHeap}{d:Nat}{I:Ids}{s:DS}{es:List Ev}{c:UInt8}(g:DAt H d I s es)(hes:es.length<2^30-8)(hR:singleR s c): ∃ H',FDoes Tryz.prog cnd 88 [.ptr (some ⟨d,0,0,0,6⟩),.int .u8 c.toNat] H (.tuple []) H' ∧
    ∃ I',DAt H' d I' (Keys.single s c).1 (es++(Keys.single s c).2)∧Fr H H' d I I':=by
  refine step_lift ?_ g
  intro ks kv pv ov ty uty j0 j1 j2 j3 K P O I0 hs gs hI
  obtain⟨hk,hp,ho⟩:=gs_parts gs
  obtain⟨nx,kept,hold,paste⟩:=s
  obtain⟨h1,h2⟩:=hR
  simp only at h1 h2 hs gs hk hp ho ⊢
  subst h1 h2
  have hks:ks= .grown []:=by
    cases ks with
    | grown j=>cases j with
      | nil=>rfl
      | cons a b=>exact hs.elim
    | _=>exact hs.elim
  subst hks
  have hc:=c.toNat_lt
  have hk2:I0.k=2:=by have:=hk.1;omega
  have hkA: ∀ h:AHeap,h.get 2=some K→KAt h 0 2 kv (.grown []) kept:=fun h e=>by
    obtain⟨hk0,ver,m,fl,hv,hK⟩:=hk
    rw [hk2]at hv hK
    refine⟨by decide,ver,m,fl,hv,?_⟩
    rw [e,← hK,AHeap.of_get];rfl
  have mk: ∀ {h:AHeap} {n:Nat},h.next=n→5≤n→h.get 0=some (dRowV 0 (fnOf .single) 1 kv pv false ov ty)→h.get 1=some (uRowH [] j0 j1 j2 j3 uty)→h.get 2=some K→h.get 3=some P→h.get 4=some O →
      GAt h 0 ⟨1,2,I0.p,I0.o⟩ (fnOf .single) false (.grown []) kept [] paste es∧Fr (AHeap.of [dRowV 0 (fnOf .single) 1 kv pv false ov ty,uRowH [] j0 j1 j2 j3 uty,K,P,O]) h 0 I0 ⟨1,2,I0.p,I0.o⟩:=fun hn h5 e0 e1 e2 e3 e4 =>
    mk5 hn h5 e0 e1 (.inr hk2) e3 e4 (hkA _ e2) (by omega) hp ho hI (.inr (.inr ⟨rfl,hk2⟩))
  have t1: ∀ {h:AHeap} {n:Nat} {ev:AVal} (e:Ev),h.next=n→5≤n→h.get 0=some (dRowV 0 (fnOf .single) 1 kv pv false ov ty)→h.get 1=some (uRowH [] j0 j1 j2 j3 uty)→h.get 2=some K→h.get 3=some P→h.get 4=some O→ev=evA e→Keys.single ⟨.single,kept,[],paste⟩ c=tell ⟨.single,kept,[],paste⟩ e →
      TellPre h ⟨0,0,0,0,6⟩ ev∧ ∀ h',TellP h ⟨0,0,0,0,6⟩ ev h'→_root_.cond (Nat.ble 5 h'.next) (AVal.tuple []=AVal.tuple []∧ ∃ I',DAt h' 0 I' (Keys.single ⟨.single,kept,[],paste⟩ c).1 (es++(Keys.single ⟨.single,kept,[],paste⟩ c).2)∧Fr (AHeap.of [dRowV 0 (fnOf .single) 1 kv pv false ov ty,uRowH [] j0 j1 j2 j3 uty,K,P,O]) h' 0 I0 I') False:=fun {h n ev} e hn h5 e0 e1 e2 e3 e4 he hm=>by
    rw [hm]
    exact tell_leaf1 (n:=n) hn h5 (mk hn h5 e0 e1 e2 e3 e4) he (by omega) (by simp) fun h' I' g' fr'=>⟨rfl,I',dat_ground g',fr'⟩
  have t2: ∀ {h:AHeap} {n:Nat} {ev:AVal} (e:Ev),h.next=n→5≤n→h.get 0=some (dRowV 0 (fnOf .single) 1 kv pv false ov ty)→h.get 1=some (uRowH [] j0 j1 j2 j3 uty)→h.get 2=some K→h.get 3=some P→h.get 4=some O→ev=evA e→Keys.single ⟨.single,kept,[],paste⟩ c=((Keys.ground ⟨.ground,[],[],paste⟩ c).1,e::(Keys.ground ⟨.ground,[],[],paste⟩ c).2) →
      TellPre h ⟨0,0,0,0,6⟩ ev∧ ∀ h7,TellP h ⟨0,0,0,0,6⟩ ev h7→_root_.cond (Nat.ble 5 h7.next && true) (aload (AEnv.D env) 66 ⟨0,0,0,0,6⟩ ⟨h7.next+6,h7.blks⟩=some (.func (.func 30) [.ptr (some ⟨0,0,0,0,6⟩)] [])∧StepPre (2^30-4) groundR ⟨h7.next+6,h7.blks⟩ ⟨0,0,0,0,6⟩ c.toNat ∧
      ∀ h',StepP Keys.ground ⟨h7.next+6,h7.blks⟩ ⟨0,0,0,0,6⟩ c.toNat h'→_root_.cond (Nat.ble 5 h'.next) (AVal.tuple []=AVal.tuple []∧ ∃ I',DAt h' 0 I' (Keys.single ⟨.single,kept,[],paste⟩ c).1 (es++(Keys.single ⟨.single,kept,[],paste⟩ c).2)∧Fr (AHeap.of [dRowV 0 (fnOf .single) 1 kv pv false ov ty,uRowH [] j0 j1 j2 j3 uty,K,P,O]) h' 0 I0 I') False) False:=fun {h n ev} e hn h5 e0 e1 e2 e3 e4 he hm=>by
    rw [hm]
    exact tell_ground (k:=6) (by omega) (mk hn h5 e0 e1 e2 e3 e4) he hes fun h' I' g' fr'=>⟨rfl,I',g',fr'⟩
  obtain⟨v,h',hd,rfl,q⟩:=single_vc (fnOf .single) kv pv ov ty (uRowH [] j0 j1 j2 j3 uty) K P O c.toNat (fun v h'=>v= .tuple []∧ ∃ I',DAt h' 0 I' (Keys.single ⟨.single,kept,[],paste⟩ c).1 (es++(Keys.single ⟨.single,kept,[],paste⟩ c).2)∧Fr (AHeap.of [dRowV 0 (fnOf .single) 1 kv pv false ov ty,uRowH [] j0 j1 j2 j3 uty,K,P,O]) h' 0 I0 I') (by
    delta zv34_0 zv34_2 zv34_7 zv34_6 zv34_5 zv29_2 zv34_1 zv34_4 zv34_3
    rw [arrowI_nat]
    have hF:0<arrow c.toNat∨ ¬ 0<arrow c.toNat:=by omega
    refine⟨fun e=> ?_,fun e=>⟨fun e2=>⟨fun e3=>⟨by omega,by omega,by omega,?_⟩,fun e3=>⟨fun e4=> ?_,fun e4=> ?_⟩⟩,fun e2=>⟨fun e4=> ?_,fun e4=> ?_⟩⟩⟩
    · exact t1 (n:=14) (EvKey (arrow c.toNat)) rfl (by decide) (by kernel_rfl) (by kernel_rfl) (by kernel_rfl) (by kernel_rfl) (by kernel_rfl) rfl (by simp only [Keys.single];rw [if_pos e])
    · exact t1 (n:=23) (EvKey (21+(c.toNat-80))) rfl (by decide) (by kernel_rfl) (by kernel_rfl) (by kernel_rfl) (by kernel_rfl) (by kernel_rfl) rfl (by simp only [Keys.single];rw [if_neg e,if_pos (by omega)])
    · omega
    · exact t2 (n:=21) (EvRune 79 2) rfl (by decide) (by kernel_rfl) (by kernel_rfl) (by kernel_rfl) (by kernel_rfl) (by kernel_rfl) rfl (by simp only [Keys.single];rw [if_neg e,if_neg (by omega),if_neg (by omega)];rfl)
    · exact t1 (n:=21) (EvKey 1) rfl (by decide) (by kernel_rfl) (by kernel_rfl) (by kernel_rfl) (by kernel_rfl) (by kernel_rfl) rfl (by simp only [Keys.single];rw [if_neg e,if_neg (by omega),if_pos (by omega)])
    · exact t2 (n:=21) (EvRune 79 2) rfl (by decide) (by kernel_rfl) (by kernel_rfl) (by kernel_rfl) (by kernel_rfl) (by kernel_rfl) rfl (by simp only [Keys.single];rw [if_neg e,if_neg (by omega),if_neg (by omega)];rfl))
  exact⟨h',hd,q⟩
theorem singleS_ok: ∀ args h a,stepS (2^30-8) singleR Keys.single args h=some a→a.Ok Tryz.prog cnd 88 args h:=stepS_ok fun H d I s es c g hes hl hR=>single_does g hes hR
noncomputable def specs7:Specs:=(specs6.add 59 (stepS (2^30-8) escapeR Keys.escape)).add 88 (stepS (2^30-8) singleR Keys.single)
theorem specs7_ok:SpecsOk Tryz.prog cnd specs7:=(specs6_ok.add escapeS_ok).add singleS_ok
def Alts.pick (k:Nat):Alts→Option Alts
  | .or p (.one v1 h1 ps1) (.or p2 (.one v2 h2 ps2) (.one v3 h3 ps3)) =>
    match k with
    | 0=>some (.one v1 h1 (p::ps1))
    | 1=>some (.one v2 h2 ((¬ p)::p2::ps2))
    | _=>some (.one v3 h3 ((¬ p)::(¬ p2)::ps3))
  | _=>none
noncomputable def feedC(k:Nat):List AVal→AHeap→Option Alts:=fun args h=>(feedS args h).bind (Alts.pick k)
theorem pick_ok {f:FuncId}{args:List AVal}{h:AHeap}{k:Nat} : ∀ {a b:Alts},a.Ok Tryz.prog cnd f args h→Alts.pick k a=some b→b.Ok Tryz.prog cnd f args h:=by
  intro a b ha hb
  unfold Alts.pick at hb
  split at hb<;>first | (cases hb;done) | skip
  split at hb<;>simp only [Option.some.injEq]at hb<;>subst hb<;>intro hp
  · exact ha.1 (hp _ List.mem_cons_self) (fun x hx=>hp x (List.mem_cons_of_mem _ hx))
  · exact(ha.2 (hp _ List.mem_cons_self)).1 (hp _ (List.mem_cons_of_mem _ List.mem_cons_self)) (fun x hx=>hp x (List.mem_cons_of_mem _ (List.mem_cons_of_mem _ hx)))
  · exact(ha.2 (hp _ List.mem_cons_self)).2 (hp _ (List.mem_cons_of_mem _ List.mem_cons_self)) (fun x hx=>hp x (List.mem_cons_of_mem _ (List.mem_cons_of_mem _ hx)))
theorem feedC_ok(k:Nat): ∀ args h a,feedC k args h=some a→a.Ok Tryz.prog cnd 107 args h:=by
  intro args h a e
  unfold feedC at e
  cases hs:feedS args h with
  | none=>rw [hs]at e;cases e
  | some b=>rw [hs]at e;exact pick_ok (feedS_ok args h b hs) e
noncomputable def specsC0:Specs:=specs7.add 107 (feedC 0)
theorem specsC0_ok:SpecsOk Tryz.prog cnd specsC0:=specs7_ok.add (feedC_ok 0)
noncomputable def specsC1:Specs:=specs7.add 107 (feedC 1)
theorem specsC1_ok:SpecsOk Tryz.prog cnd specsC1:=specs7_ok.add (feedC_ok 1)
noncomputable def specsC2:Specs:=specs7.add 107 (feedC 2)
theorem specsC2_ok:SpecsOk Tryz.prog cnd specsC2:=specs7_ok.add (feedC_ok 2)
abbrev zv35_0(ver:Nat)(len:Nat):AVal:=AVal.slice (some ⟨2,ver,0,0,1⟩) len len
abbrev zv35_1(ver:Nat)(len:Nat):AVal:=AVal.slice (some {id:=2,ver:=ver+1,idx:=0,fld:=0,es:=1}) (len+1) (len+1)
abbrev zv35_2:HT:=(.br 6024 (hg 7007 (hg 8006 (.br 9001 .nil (hg 11005 .nil)))) (he 12004 (.br 1007 .nil .nil)))
abbrev zv35_3(l:List AVal)(ver:Nat)(m:Nat)(fl:Nat)(c:Int):ABlk:=⟨l++ [.int .u8 c],1,false,false,ver+1,m,if m=ver then List.length l else min fl (List.length l),some (5,0)⟩
abbrev zv35_4(l:List AVal)(len:Nat)(c:Int):AVal:=AVal.agg [.int .i8 7,.int .i32 0,.int .u8 0,.int .i64 0,.int .i64 0,.str (strOf (List.take (len+1) (List.drop 0 (List.append l [.int .u8 c]))))]
abbrev zv35_5(a0:Int)(a1:Int)(a2:Int)(a3:Int)(n:Int)(c:Int):AVal:=AVal.agg [.int .u8 (uK (Prod.snd (feedQ a0 a1 a2 a3 n c)) 0 a0),.int .u8 (uK (Prod.snd (feedQ a0 a1 a2 a3 n c)) 1 a1),.int .u8 (uK (Prod.snd (feedQ a0 a1 a2 a3 n c)) 2 a2),.int .u8 (uK (Prod.snd (feedQ a0 a1 a2 a3 n c)) 3 a3),.int .i64 0]
abbrev zv35_6(f:Nat)(pv:AVal)(ov:AVal)(ver:Nat)(len:Nat):AVal:=AVal.agg [(zv29_2 f),(zv35_0 ver len),pv,.bool false,.ptr (some ⟨1,0,0,0,5⟩),ov]
abbrev zv35_7(f:Nat)(pv:AVal)(ov:AVal)(ver:Nat)(len:Nat):AVal:=AVal.agg [(zv29_2 f),(zv35_1 ver len),pv,.bool false,.ptr (some ⟨1,0,0,0,5⟩),ov]
abbrev zv35_8:HT:=(he 4004 (.br 4005 (hg 5007 .nil) (hg 6019 (hg 6023 zv35_2))))
abbrev zv35_9(uty:Option (TypeId×Nat))(ver:Nat)(a0:Int)(a1:Int)(a2:Int)(a3:Int)(n:Int)(c:Int):ABlk:=⟨[(zv35_5 a0 a1 a2 a3 n c)],5,true,false,0,0,0,uty⟩
abbrev zv35_10(uty:Option (TypeId×Nat))(ver:Nat)(a0:Int)(a1:Int)(a2:Int)(a3:Int)(n:Int)(c:Int):ABlk:=⟨[(zv29_10 a0 a1 a2 a3 n c)],5,true,false,0,0,0,uty⟩
abbrev zv35_11(f:Nat)(pv:AVal)(ov:AVal)(dty:Option (TypeId×Nat))(ver:Nat)(len:Nat):ABlk:=⟨[(zv35_6 f pv ov ver len)],6,true,false,0,0,0,dty⟩
abbrev zv35_12(f:Nat)(pv:AVal)(ov:AVal)(dty:Option (TypeId×Nat))(ver:Nat)(len:Nat):ABlk:=⟨[(zv35_7 f pv ov ver len)],6,true,false,0,0,0,dty⟩
abbrev zv35_13(f:Nat)(pv:AVal)(ov:AVal)(dty:Option (TypeId×Nat))(uty:Option (TypeId×Nat))(P:ABlk)(O:ABlk)(l:List AVal)(ver:Nat)(m:Nat)(fl:Nat)(len:Nat)(a0:Int)(a1:Int)(a2:Int)(a3:Int)(n:Int)(c:Int):AHeap:=(AHeap.rowsT 94 [(0,(zv35_11 f pv ov dty ver len)),(1,(zv35_10 uty ver a0 a1 a2 a3 n c)),(2,(zv32_0 l ver m fl)),(3,P),(4,O),(27,(zv0_0 c)),(70,ABlk.made [.int .u8 c] 1 true)])
abbrev zv35_14(f:Nat)(pv:AVal)(ov:AVal)(dty:Option (TypeId×Nat))(uty:Option (TypeId×Nat))(P:ABlk)(O:ABlk)(l:List AVal)(ver:Nat)(m:Nat)(fl:Nat)(len:Nat)(a0:Int)(a1:Int)(a2:Int)(a3:Int)(n:Int)(c:Int):AHeap:=(AHeap.rowsT 104 [(0,(zv35_12 f pv ov dty ver len)),(1,(zv35_10 uty ver a0 a1 a2 a3 n c)),(2,(zv35_3 l ver m fl c)),(3,P),(4,O),(27,(zv0_0 c)),(70,ABlk.made [.int .u8 c] 1 true),(81,ABlk.made [.int .u8 c] 1 true)])
abbrev zv35_15(f:Nat)(pv:AVal)(ov:AVal)(dty:Option (TypeId×Nat))(uty:Option (TypeId×Nat))(P:ABlk)(O:ABlk)(l:List AVal)(ver:Nat)(m:Nat)(fl:Nat)(len:Nat)(a0:Int)(a1:Int)(a2:Int)(a3:Int)(n:Int)(c:Int):AHeap:=(AHeap.rowsT 99 [(0,(zv35_11 f pv ov dty ver len)),(1,(zv35_9 uty ver a0 a1 a2 a3 n c)),(2,(zv32_0 l ver m fl)),(3,P),(4,O),(27,(zv0_0 c)),(70,ABlk.made [.int .u8 c] 1 true),(94,ABlk.made [.int .i32 65533] 1 true)])
theorem char0_vc(f:Nat)(pv ov:AVal)(dty uty:Option (TypeId×Nat))(P O:ABlk)(l:List AVal)(ver m fl len:Nat)(a0 a1 a2 a3 n c:Int)(K0:AVal→AHeap→Prop)(vc:(0<(len:Int)→((0:Int)≤0∧0<(len:Int))∧ver=ver∧l[0]? =some (.int .u8 (intAt l 0))∧(intAt l 0=27→(feedQ a0 a1 a2 a3 n c).1= []∧FeedPre a0 a1 a2 a3 n c∧(0<(↑(List.length (Prod.snd (feedQ a0 a1 a2 a3 n c))):Int)→(ver=ver∧0+len=List.length l∧len<len+1∧(len+1+(len+1) / 4+512)*1≤281474976710656∧len+1<4611686018427387904)∧K0 (.tuple []) (AHeap.rowsT 62 [(0,(zv35_12 f pv ov dty ver len)),(1,(zv35_10 uty ver a0 a1 a2 a3 n c)),(2,(zv35_3 l ver m fl c)),(3,P),(4,O),(29,(zv0_0 c)),(57,ABlk.made [.int .u8 c] 1 true)]))∧(¬0<(↑(List.length (Prod.snd (feedQ a0 a1 a2 a3 n c))):Int)→((0:Int)≤1∧1≤(len:Int)∧len≤len)∧ver=ver∧1+(len-1)≤List.length l∧(∃ l_1,List.take (len-1) (List.drop (AAddr.idx ⟨2,ver,1,0,1⟩) (ABlk.elems (zv32_0 l ver m fl)))=bytesA l_1)∧Nat.le (Nat.succ (List.length (strOf (List.take (len-1) (List.drop 1 l)))+List.length [UInt8.ofNat (Int.toNat c)])) (2^62)∧List.length (strOf (List.take (len-1) (List.drop 1 l))++ [UInt8.ofNat (Int.toNat c)])<1099511627776∧(valid (strOf (List.take (len-1) (List.drop 1 l))++ [UInt8.ofNat (Int.toNat c)])=true→(ver=ver∧0+len=List.length l∧len<len+1∧(len+1+(len+1) / 4+512)*1≤281474976710656∧len+1<4611686018427387904)∧((0:Int)≤1∧1≤(↑(len+1):Int)∧len+1≤len+1)∧ver+1=ver+1∧1+(len+1-1)≤List.length (l++ [.int .u8 c])∧(∃ l_1,List.take (len+1-1) (List.drop (AAddr.idx {id:=2,ver:=ver+1,idx:=1,fld:=0,es:=1}) (ABlk.elems (zv35_3 l ver m fl c)))=bytesA l_1)∧List.length (strOf (List.take (len+1-1) (List.drop 1 (List.append l [.int .u8 c]))))<1099511627776∧(valid (strOf (List.take (len+1-1) (List.drop 1 (List.append l [.int .u8 c]))))=true→False)∧(valid (strOf (List.take (len+1-1) (List.drop 1 (List.append l [.int .u8 c]))))=false→ver+1=ver+1∧0+(len+1)≤List.length (l++ [.int .u8 c])∧(∃ l_1,List.take (len+1) (List.drop (AAddr.idx {id:=2,ver:=ver+1,idx:=0,fld:=0,es:=1}) (ABlk.elems (zv35_3 l ver m fl c)))=bytesA l_1)∧TellPre (AHeap.rowsT 106 [(0,(zv35_12 f pv ov dty ver len)),(1,(zv35_10 uty ver a0 a1 a2 a3 n c)),(2,(zv35_3 l ver m fl c)),(3,P),(4,O),(29,(zv0_0 c)),(72,ABlk.made [.int .u8 c] 1 true),(83,ABlk.made [.int .u8 c] 1 true)]) ⟨0,0,0,0,6⟩ ((zv35_4 l len c))∧ ∀ (h11007:AHeap),TellP (AHeap.rowsT 106 [(0,(zv35_12 f pv ov dty ver len)),(1,(zv35_10 uty ver a0 a1 a2 a3 n c)),(2,(zv35_3 l ver m fl c)),(3,P),(4,O),(29,(zv0_0 c)),(72,ABlk.made [.int .u8 c] 1 true),(83,ABlk.made [.int .u8 c] 1 true)]) ⟨0,0,0,0,6⟩ ((zv35_4 l len c)) h11007→bif Nat.ble 5 (h11007.next)then K0 (.tuple []) h11007 else False))∧(valid (strOf (List.take (len-1) (List.drop 1 l))++ [UInt8.ofNat (Int.toNat c)])=false→((↑(List.length (Prod.snd (feedQ a0 a1 a2 a3 n c))):Int)=0→StepPre (2^30-8) badR (AHeap.rowsT 96 [(0,(zv35_11 f pv ov dty ver len)),(1,(zv35_10 uty ver a0 a1 a2 a3 n c)),(2,(zv32_0 l ver m fl)),(3,P),(4,O),(29,(zv0_0 c)),(72,ABlk.made [.int .u8 c] 1 true)]) ⟨0,0,0,0,6⟩ c∧ ∀ (h13002:AHeap),StepP bad (AHeap.rowsT 96 [(0,(zv35_11 f pv ov dty ver len)),(1,(zv35_10 uty ver a0 a1 a2 a3 n c)),(2,(zv32_0 l ver m fl)),(3,P),(4,O),(29,(zv0_0 c)),(72,ABlk.made [.int .u8 c] 1 true)]) ⟨0,0,0,0,6⟩ c h13002→bif Nat.ble 5 (h13002.next)then K0 (.tuple []) h13002 else False)∧(¬(↑(List.length (Prod.snd (feedQ a0 a1 a2 a3 n c))):Int)=0→StepPre (2^30-8) badR (AHeap.rowsT 101 [(0,(zv35_11 f pv ov dty ver len)),(1,(zv35_9 uty ver a0 a1 a2 a3 n c)),(2,(zv32_0 l ver m fl)),(3,P),(4,O),(29,(zv0_0 c)),(72,ABlk.made [.int .u8 c] 1 true),(96,ABlk.made [.int .i32 65533] 1 true)]) ⟨0,0,0,0,6⟩ c∧ ∀ (h13002:AHeap),StepP bad (AHeap.rowsT 101 [(0,(zv35_11 f pv ov dty ver len)),(1,(zv35_9 uty ver a0 a1 a2 a3 n c)),(2,(zv32_0 l ver m fl)),(3,P),(4,O),(29,(zv0_0 c)),(72,ABlk.made [.int .u8 c] 1 true),(96,ABlk.made [.int .i32 65533] 1 true)]) ⟨0,0,0,0,6⟩ c h13002→bif Nat.ble 5 (h13002.next)then K0 (.tuple []) h13002 else False))))∧(¬intAt l 0=27→(feedQ a0 a1 a2 a3 n c).1= []∧FeedPre a0 a1 a2 a3 n c∧(0<(↑(List.length (Prod.snd (feedQ a0 a1 a2 a3 n c))):Int)→(ver=ver∧0+len=List.length l∧len<len+1∧(len+1+(len+1) / 4+512)*1≤281474976710656∧len+1<4611686018427387904)∧K0 (.tuple []) (AHeap.rowsT 60 [(0,(zv35_12 f pv ov dty ver len)),(1,(zv35_10 uty ver a0 a1 a2 a3 n c)),(2,(zv35_3 l ver m fl c)),(3,P),(4,O),(27,(zv0_0 c)),(55,ABlk.made [.int .u8 c] 1 true)]))∧(¬0<(↑(List.length (Prod.snd (feedQ a0 a1 a2 a3 n c))):Int)→ver=ver∧0+(len-0)≤List.length l∧(∃ l_1,List.take (len-0) (List.drop (AAddr.idx ⟨2,ver,0,0,1⟩) (ABlk.elems (zv32_0 l ver m fl)))=bytesA l_1)∧Nat.le (Nat.succ (List.length (strOf (List.take (len-0) l))+List.length [UInt8.ofNat (Int.toNat c)])) (2^62)∧List.length (strOf (List.take (len-0) l)++ [UInt8.ofNat (Int.toNat c)])<1099511627776∧(valid (strOf (List.take (len-0) l)++ [UInt8.ofNat (Int.toNat c)])=true→(ver=ver∧0+len=List.length l∧len<len+1∧(len+1+(len+1) / 4+512)*1≤281474976710656∧len+1<4611686018427387904)∧ver+1=ver+1∧0+(len+1-0)≤List.length (l++ [.int .u8 c])∧(∃ l_1,List.take (len+1-0) (List.drop (AAddr.idx {id:=2,ver:=ver+1,idx:=0,fld:=0,es:=1}) (ABlk.elems (zv35_3 l ver m fl c)))=bytesA l_1)∧List.length (strOf (List.take (len+1-0) (List.drop 0 (List.append l [.int .u8 c]))))<1099511627776∧(valid (strOf (List.take (len+1-0) (List.drop 0 (List.append l [.int .u8 c]))))=true→False)∧(valid (strOf (List.take (len+1-0) (List.drop 0 (List.append l [.int .u8 c]))))=false→ver+1=ver+1∧0+(len+1)≤List.length (l++ [.int .u8 c])∧(∃ l_1,List.take (len+1) (List.drop (AAddr.idx {id:=2,ver:=ver+1,idx:=0,fld:=0,es:=1}) (ABlk.elems (zv35_3 l ver m fl c)))=bytesA l_1)∧TellPre (zv35_14 f pv ov dty uty P O l ver m fl len a0 a1 a2 a3 n c) ⟨0,0,0,0,6⟩ ((zv35_4 l len c))∧ ∀ (h11007:AHeap),TellP (zv35_14 f pv ov dty uty P O l ver m fl len a0 a1 a2 a3 n c) ⟨0,0,0,0,6⟩ ((zv35_4 l len c)) h11007→bif Nat.ble 5 (h11007.next)then K0 (.tuple []) h11007 else False))∧(valid (strOf (List.take (len-0) l)++ [UInt8.ofNat (Int.toNat c)])=false→((↑(List.length (Prod.snd (feedQ a0 a1 a2 a3 n c))):Int)=0→StepPre (2^30-8) badR (zv35_13 f pv ov dty uty P O l ver m fl len a0 a1 a2 a3 n c) ⟨0,0,0,0,6⟩ c∧ ∀ (h13002:AHeap),StepP bad (zv35_13 f pv ov dty uty P O l ver m fl len a0 a1 a2 a3 n c) ⟨0,0,0,0,6⟩ c h13002→bif Nat.ble 5 (h13002.next)then K0 (.tuple []) h13002 else False)∧(¬(↑(List.length (Prod.snd (feedQ a0 a1 a2 a3 n c))):Int)=0→StepPre (2^30-8) badR (zv35_15 f pv ov dty uty P O l ver m fl len a0 a1 a2 a3 n c) ⟨0,0,0,0,6⟩ c∧ ∀ (h13002:AHeap),StepP bad (zv35_15 f pv ov dty uty P O l ver m fl len a0 a1 a2 a3 n c) ⟨0,0,0,0,6⟩ c h13002→bif Nat.ble 5 (h13002.next)then K0 (.tuple []) h13002 else False)))))∧(¬0<(len:Int)→(feedQ a0 a1 a2 a3 n c).1= []∧FeedPre a0 a1 a2 a3 n c∧(0<(↑(List.length (Prod.snd (feedQ a0 a1 a2 a3 n c))):Int)→(ver=ver∧0+len=List.length l∧len<len+1∧(len+1+(len+1) / 4+512)*1≤281474976710656∧len+1<4611686018427387904)∧K0 (.tuple []) (AHeap.rowsT 60 [(0,(zv35_12 f pv ov dty ver len)),(1,(zv35_10 uty ver a0 a1 a2 a3 n c)),(2,(zv35_3 l ver m fl c)),(3,P),(4,O),(27,(zv0_0 c)),(55,ABlk.made [.int .u8 c] 1 true)]))∧(¬0<(↑(List.length (Prod.snd (feedQ a0 a1 a2 a3 n c))):Int)→ver=ver∧0+(len-0)≤List.length l∧(∃ l_1,List.take (len-0) (List.drop (AAddr.idx ⟨2,ver,0,0,1⟩) (ABlk.elems (zv32_0 l ver m fl)))=bytesA l_1)∧Nat.le (Nat.succ (List.length (strOf (List.take (len-0) l))+List.length [UInt8.ofNat (Int.toNat c)])) (2^62)∧List.length (strOf (List.take (len-0) l)++ [UInt8.ofNat (Int.toNat c)])<1099511627776∧(valid (strOf (List.take (len-0) l)++ [UInt8.ofNat (Int.toNat c)])=true→(ver=ver∧0+len=List.length l∧len<len+1∧(len+1+(len+1) / 4+512)*1≤281474976710656∧len+1<4611686018427387904)∧ver+1=ver+1∧0+(len+1-0)≤List.length (l++ [.int .u8 c])∧(∃ l_1,List.take (len+1-0) (List.drop (AAddr.idx {id:=2,ver:=ver+1,idx:=0,fld:=0,es:=1}) (ABlk.elems (zv35_3 l ver m fl c)))=bytesA l_1)∧List.length (strOf (List.take (len+1-0) (List.drop 0 (List.append l [.int .u8 c]))))<1099511627776∧(valid (strOf (List.take (len+1-0) (List.drop 0 (List.append l [.int .u8 c]))))=true→False)∧(valid (strOf (List.take (len+1-0) (List.drop 0 (List.append l [.int .u8 c]))))=false→ver+1=ver+1∧0+(len+1)≤List.length (l++ [.int .u8 c])∧(∃ l_1,List.take (len+1) (List.drop (AAddr.idx {id:=2,ver:=ver+1,idx:=0,fld:=0,es:=1}) (ABlk.elems (zv35_3 l ver m fl c)))=bytesA l_1)∧TellPre (zv35_14 f pv ov dty uty P O l ver m fl len a0 a1 a2 a3 n c) ⟨0,0,0,0,6⟩ ((zv35_4 l len c))∧ ∀ (h11007:AHeap),TellP (zv35_14 f pv ov dty uty P O l ver m fl len a0 a1 a2 a3 n c) ⟨0,0,0,0,6⟩ ((zv35_4 l len c)) h11007→bif Nat.ble 5 (h11007.next)then K0 (.tuple []) h11007 else False))∧(valid (strOf (List.take (len-0) l)++ [UInt8.ofNat (Int.toNat c)])=false→((↑(List.length (Prod.snd (feedQ a0 a1 a2 a3 n c))):Int)=0→StepPre (2^30-8) badR (zv35_13 f pv ov dty uty P O l ver m fl len a0 a1 a2 a3 n c) ⟨0,0,0,0,6⟩ c∧ ∀ (h13002:AHeap),StepP bad (zv35_13 f pv ov dty uty P O l ver m fl len a0 a1 a2 a3 n c) ⟨0,0,0,0,6⟩ c h13002→bif Nat.ble 5 (h13002.next)then K0 (.tuple []) h13002 else False)∧(¬(↑(List.length (Prod.snd (feedQ a0 a1 a2 a3 n c))):Int)=0→StepPre (2^30-8) badR (zv35_15 f pv ov dty uty P O l ver m fl len a0 a1 a2 a3 n c) ⟨0,0,0,0,6⟩ c∧ ∀ (h13002:AHeap),StepP bad (zv35_15 f pv ov dty uty P O l ver m fl len a0 a1 a2 a3 n c) ⟨0,0,0,0,6⟩ c h13002→bif Nat.ble 5 (h13002.next)then K0 (.tuple []) h13002 else False))))) :
    ∃ v h1,FDoes Tryz.prog cnd 90 [.ptr (some ⟨0,0,0,0,6⟩),.int .u8 c] (AHeap.of [dRowV 0 f 1 (.slice (some ⟨2,ver,0,0,1⟩) len len) pv false ov dty,uRow a0 a1 a2 a3 n uty,gRowB l 1 ver m fl byteTy,P,O]) v h1∧K0 v h1 :=
  tcall_does env_ok mixed specsC0_ok (hs:= .br 1005 (hg 1011 (hg 1012 (.br 1013 (he 4004 (.br 4005 (hg 5007 .nil) (hg 6018 (hg 6019 (hg 6023 (.br 6024 (hg 7007 (hg 8005 (hg 8006 (.br 9001 .nil (hg 11005 .nil))))) (he 12004 (.br 1007 .nil .nil)))))))) zv35_8))) zv35_8) (by kernel_rfl) vc
abbrev zv36_0:HT:=(hg 7007 (hg 8006 (.br 9001 .nil (hg 11005 .nil))))
abbrev zv36_1:HT:=(hg 8005 (hg 8006 (.br 9001 .nil (hg 11005 .nil))))
abbrev zv36_2:HT:=(.br 6024 zv36_0 (he 12004 (.br 1007 .nil .nil)))
abbrev zv36_3:HT:=(hg 6023 (.br 6024 (hg 7007 zv36_1) (he 12004 (.br 1007 .nil .nil))))
abbrev zv36_4:HT:=(.br 6010 zv36_0 (hg 6019 (hg 6023 zv36_2)))
abbrev zv36_5(f:Nat)(pv:AVal)(ov:AVal)(dty:Option (TypeId×Nat))(uty:Option (TypeId×Nat))(P:ABlk)(O:ABlk)(l:List AVal)(ver:Nat)(m:Nat)(fl:Nat)(len:Nat)(a0:Int)(a1:Int)(a2:Int)(a3:Int)(n:Int)(c:Int):AHeap:=(AHeap.rowsT 95 [(0,(zv35_11 f pv ov dty ver len)),(1,(zv35_10 uty ver a0 a1 a2 a3 n c)),(2,(zv32_0 l ver m fl)),(3,P),(4,O),(27,(zv0_0 c)),(30,(zv29_5 a0 a1 a2 a3 n c)),(71,ABlk.made [.int .u8 c] 1 true)])
abbrev zv36_6(f:Nat)(pv:AVal)(ov:AVal)(dty:Option (TypeId×Nat))(uty:Option (TypeId×Nat))(P:ABlk)(O:ABlk)(l:List AVal)(ver:Nat)(m:Nat)(fl:Nat)(len:Nat)(a0:Int)(a1:Int)(a2:Int)(a3:Int)(n:Int)(c:Int):AHeap:=(AHeap.rowsT 97 [(0,(zv35_11 f pv ov dty ver len)),(1,(zv35_10 uty ver a0 a1 a2 a3 n c)),(2,(zv32_0 l ver m fl)),(3,P),(4,O),(29,(zv0_0 c)),(32,(zv29_5 a0 a1 a2 a3 n c)),(73,ABlk.made [.int .u8 c] 1 true)])
abbrev zv36_7(f:Nat)(pv:AVal)(ov:AVal)(dty:Option (TypeId×Nat))(uty:Option (TypeId×Nat))(P:ABlk)(O:ABlk)(l:List AVal)(ver:Nat)(m:Nat)(fl:Nat)(len:Nat)(a0:Int)(a1:Int)(a2:Int)(a3:Int)(n:Int)(c:Int):AHeap:=(AHeap.rowsT 104 [(0,(zv35_12 f pv ov dty ver len)),(1,(zv35_10 uty ver a0 a1 a2 a3 n c)),(2,(zv35_3 l ver m fl c)),(3,P),(4,O),(27,(zv0_0 c)),(30,(zv29_5 a0 a1 a2 a3 n c)),(82,ABlk.made [.int .u8 c] 1 true)])
abbrev zv36_8(f:Nat)(pv:AVal)(ov:AVal)(dty:Option (TypeId×Nat))(uty:Option (TypeId×Nat))(P:ABlk)(O:ABlk)(l:List AVal)(ver:Nat)(m:Nat)(fl:Nat)(len:Nat)(a0:Int)(a1:Int)(a2:Int)(a3:Int)(n:Int)(c:Int):AHeap:=(AHeap.rowsT 105 [(0,(zv35_12 f pv ov dty ver len)),(1,(zv35_10 uty ver a0 a1 a2 a3 n c)),(2,(zv35_3 l ver m fl c)),(3,P),(4,O),(27,(zv0_0 c)),(30,(zv29_5 a0 a1 a2 a3 n c)),(82,ABlk.made [.int .u8 c] 1 true)])
abbrev zv36_9(f:Nat)(pv:AVal)(ov:AVal)(dty:Option (TypeId×Nat))(uty:Option (TypeId×Nat))(P:ABlk)(O:ABlk)(l:List AVal)(ver:Nat)(m:Nat)(fl:Nat)(len:Nat)(a0:Int)(a1:Int)(a2:Int)(a3:Int)(n:Int)(c:Int):AHeap:=(AHeap.rowsT 106 [(0,(zv35_12 f pv ov dty ver len)),(1,(zv35_10 uty ver a0 a1 a2 a3 n c)),(2,(zv35_3 l ver m fl c)),(3,P),(4,O),(29,(zv0_0 c)),(32,(zv29_5 a0 a1 a2 a3 n c)),(84,ABlk.made [.int .u8 c] 1 true)])
abbrev zv36_10(f:Nat)(pv:AVal)(ov:AVal)(dty:Option (TypeId×Nat))(uty:Option (TypeId×Nat))(P:ABlk)(O:ABlk)(l:List AVal)(ver:Nat)(m:Nat)(fl:Nat)(len:Nat)(a0:Int)(a1:Int)(a2:Int)(a3:Int)(n:Int)(c:Int):AHeap:=(AHeap.rowsT 107 [(0,(zv35_12 f pv ov dty ver len)),(1,(zv35_10 uty ver a0 a1 a2 a3 n c)),(2,(zv35_3 l ver m fl c)),(3,P),(4,O),(29,(zv0_0 c)),(32,(zv29_5 a0 a1 a2 a3 n c)),(84,ABlk.made [.int .u8 c] 1 true)])
abbrev zv36_11(f:Nat)(pv:AVal)(ov:AVal)(dty:Option (TypeId×Nat))(uty:Option (TypeId×Nat))(P:ABlk)(O:ABlk)(l:List AVal)(ver:Nat)(m:Nat)(fl:Nat)(len:Nat)(a0:Int)(a1:Int)(a2:Int)(a3:Int)(n:Int)(c:Int):AHeap:=(AHeap.rowsT 104 [(0,(zv35_12 f pv ov dty ver len)),(1,(zv35_10 uty ver a0 a1 a2 a3 n c)),(2,(zv35_3 l ver m fl c)),(3,P),(4,O),(27,(zv0_0 c)),(30,(zv29_5 a0 a1 a2 a3 n c)),(71,ABlk.made [.int .u8 c] 1 true),(82,ABlk.made [.int .u8 c] 1 true)])
abbrev zv36_12(f:Nat)(pv:AVal)(ov:AVal)(dty:Option (TypeId×Nat))(uty:Option (TypeId×Nat))(P:ABlk)(O:ABlk)(l:List AVal)(ver:Nat)(m:Nat)(fl:Nat)(len:Nat)(a0:Int)(a1:Int)(a2:Int)(a3:Int)(n:Int)(c:Int):AHeap:=(AHeap.rowsT 105 [(0,(zv35_12 f pv ov dty ver len)),(1,(zv35_10 uty ver a0 a1 a2 a3 n c)),(2,(zv35_3 l ver m fl c)),(3,P),(4,O),(27,(zv0_0 c)),(30,(zv29_5 a0 a1 a2 a3 n c)),(71,ABlk.made [.int .u8 c] 1 true),(82,ABlk.made [.int .u8 c] 1 true)])
abbrev zv36_13(f:Nat)(pv:AVal)(ov:AVal)(dty:Option (TypeId×Nat))(uty:Option (TypeId×Nat))(P:ABlk)(O:ABlk)(l:List AVal)(ver:Nat)(m:Nat)(fl:Nat)(len:Nat)(a0:Int)(a1:Int)(a2:Int)(a3:Int)(n:Int)(c:Int):AHeap:=(AHeap.rowsT 106 [(0,(zv35_12 f pv ov dty ver len)),(1,(zv35_10 uty ver a0 a1 a2 a3 n c)),(2,(zv35_3 l ver m fl c)),(3,P),(4,O),(29,(zv0_0 c)),(32,(zv29_5 a0 a1 a2 a3 n c)),(73,ABlk.made [.int .u8 c] 1 true),(84,ABlk.made [.int .u8 c] 1 true)])
abbrev zv36_14(f:Nat)(pv:AVal)(ov:AVal)(dty:Option (TypeId×Nat))(uty:Option (TypeId×Nat))(P:ABlk)(O:ABlk)(l:List AVal)(ver:Nat)(m:Nat)(fl:Nat)(len:Nat)(a0:Int)(a1:Int)(a2:Int)(a3:Int)(n:Int)(c:Int):AHeap:=(AHeap.rowsT 107 [(0,(zv35_12 f pv ov dty ver len)),(1,(zv35_10 uty ver a0 a1 a2 a3 n c)),(2,(zv35_3 l ver m fl c)),(3,P),(4,O),(29,(zv0_0 c)),(32,(zv29_5 a0 a1 a2 a3 n c)),(73,ABlk.made [.int .u8 c] 1 true),(84,ABlk.made [.int .u8 c] 1 true)])
abbrev zv36_15(f:Nat)(pv:AVal)(ov:AVal)(dty:Option (TypeId×Nat))(uty:Option (TypeId×Nat))(P:ABlk)(O:ABlk)(l:List AVal)(ver:Nat)(m:Nat)(fl:Nat)(len:Nat)(a0:Int)(a1:Int)(a2:Int)(a3:Int)(n:Int)(c:Int):AHeap:=(AHeap.rowsT 100 [(0,(zv35_11 f pv ov dty ver len)),(1,(zv35_9 uty ver a0 a1 a2 a3 n c)),(2,(zv32_0 l ver m fl)),(3,P),(4,O),(27,(zv0_0 c)),(30,(zv29_5 a0 a1 a2 a3 n c)),(71,ABlk.made [.int .u8 c] 1 true),(95,ABlk.made [.int .i32 65533] 1 true)])
abbrev zv36_16(f:Nat)(pv:AVal)(ov:AVal)(dty:Option (TypeId×Nat))(uty:Option (TypeId×Nat))(P:ABlk)(O:ABlk)(l:List AVal)(ver:Nat)(m:Nat)(fl:Nat)(len:Nat)(a0:Int)(a1:Int)(a2:Int)(a3:Int)(n:Int)(c:Int):AHeap:=(AHeap.rowsT 102 [(0,(zv35_11 f pv ov dty ver len)),(1,(zv35_9 uty ver a0 a1 a2 a3 n c)),(2,(zv32_0 l ver m fl)),(3,P),(4,O),(29,(zv0_0 c)),(32,(zv29_5 a0 a1 a2 a3 n c)),(73,ABlk.made [.int .u8 c] 1 true),(97,ABlk.made [.int .i32 65533] 1 true)])
theorem char1_vc(f:Nat)(pv ov:AVal)(dty uty:Option (TypeId×Nat))(P O:ABlk)(l:List AVal)(ver m fl len:Nat)(a0 a1 a2 a3 n c:Int)(K0:AVal→AHeap→Prop)(vc:(0<(len:Int)→((0:Int)≤0∧0<(len:Int))∧ver=ver∧l[0]? =some (.int .u8 (intAt l 0))∧(intAt l 0=27→ ¬(feedQ a0 a1 a2 a3 n c).1= []∧List.length (Prod.fst (feedQ a0 a1 a2 a3 n c))=1∧FeedPre a0 a1 a2 a3 n c∧(0<(↑(List.length (Prod.snd (feedQ a0 a1 a2 a3 n c))):Int)→((len:Int)=1→(ver=ver∧0+len=List.length l∧len<len+1∧(len+1+(len+1) / 4+512)*1≤281474976710656∧len+1<4611686018427387904)∧((0:Int)≤1∧1≤(↑(len+1):Int)∧len+1≤len+1)∧ver+1=ver+1∧1+(len+1-1)≤List.length (l++ [.int .u8 c])∧(∃ l_1,List.take (len+1-1) (List.drop (AAddr.idx {id:=2,ver:=ver+1,idx:=1,fld:=0,es:=1}) (ABlk.elems (zv35_3 l ver m fl c)))=bytesA l_1)∧List.length (strOf (List.take (len+1-1) (List.drop 1 (List.append l [.int .u8 c]))))<1099511627776∧(valid (strOf (List.take (len+1-1) (List.drop 1 (List.append l [.int .u8 c]))))=true→TellPre (zv36_9 f pv ov dty uty P O l ver m fl len a0 a1 a2 a3 n c) ⟨0,0,0,0,6⟩ ((zv30_3 a0 a1 a2 a3 n c))∧ ∀ (h10006:AHeap),TellP (zv36_9 f pv ov dty uty P O l ver m fl len a0 a1 a2 a3 n c) ⟨0,0,0,0,6⟩ ((zv30_3 a0 a1 a2 a3 n c)) h10006→bif Nat.ble 5 (h10006.next)then K0 (.tuple []) h10006 else False)∧(valid (strOf (List.take (len+1-1) (List.drop 1 (List.append l [.int .u8 c]))))=false→ver+1=ver+1∧0+(len+1)≤List.length (l++ [.int .u8 c])∧(∃ l_1,List.take (len+1) (List.drop (AAddr.idx {id:=2,ver:=ver+1,idx:=0,fld:=0,es:=1}) (ABlk.elems (zv35_3 l ver m fl c)))=bytesA l_1)∧TellPre (zv36_10 f pv ov dty uty P O l ver m fl len a0 a1 a2 a3 n c) ⟨0,0,0,0,6⟩ ((zv35_4 l len c))∧ ∀ (h11007:AHeap),TellP (zv36_10 f pv ov dty uty P O l ver m fl len a0 a1 a2 a3 n c) ⟨0,0,0,0,6⟩ ((zv35_4 l len c)) h11007→bif Nat.ble 5 (h11007.next)then K0 (.tuple []) h11007 else False))∧(¬(len:Int)=1→((0:Int)≤1∧1≤(len:Int)∧len≤len)∧ver=ver∧1+(len-1)≤List.length l∧(∃ l_1,List.take (len-1) (List.drop (AAddr.idx ⟨2,ver,1,0,1⟩) (ABlk.elems (zv32_0 l ver m fl)))=bytesA l_1)∧Nat.le (Nat.succ (List.length (strOf (List.take (len-1) (List.drop 1 l)))+List.length [UInt8.ofNat (Int.toNat c)])) (2^62)∧List.length (strOf (List.take (len-1) (List.drop 1 l))++ [UInt8.ofNat (Int.toNat c)])<1099511627776∧(valid (strOf (List.take (len-1) (List.drop 1 l))++ [UInt8.ofNat (Int.toNat c)])=true→(ver=ver∧0+len=List.length l∧len<len+1∧(len+1+(len+1) / 4+512)*1≤281474976710656∧len+1<4611686018427387904)∧((0:Int)≤1∧1≤(↑(len+1):Int)∧len+1≤len+1)∧ver+1=ver+1∧1+(len+1-1)≤List.length (l++ [.int .u8 c])∧(∃ l_1,List.take (len+1-1) (List.drop (AAddr.idx {id:=2,ver:=ver+1,idx:=1,fld:=0,es:=1}) (ABlk.elems (zv35_3 l ver m fl c)))=bytesA l_1)∧List.length (strOf (List.take (len+1-1) (List.drop 1 (List.append l [.int .u8 c]))))<1099511627776∧(valid (strOf (List.take (len+1-1) (List.drop 1 (List.append l [.int .u8 c]))))=true→TellPre (zv36_13 f pv ov dty uty P O l ver m fl len a0 a1 a2 a3 n c) ⟨0,0,0,0,6⟩ ((zv30_3 a0 a1 a2 a3 n c))∧ ∀ (h10006:AHeap),TellP (zv36_13 f pv ov dty uty P O l ver m fl len a0 a1 a2 a3 n c) ⟨0,0,0,0,6⟩ ((zv30_3 a0 a1 a2 a3 n c)) h10006→bif Nat.ble 5 (h10006.next)then K0 (.tuple []) h10006 else False)∧(valid (strOf (List.take (len+1-1) (List.drop 1 (List.append l [.int .u8 c]))))=false→ver+1=ver+1∧0+(len+1)≤List.length (l++ [.int .u8 c])∧(∃ l_1,List.take (len+1) (List.drop (AAddr.idx {id:=2,ver:=ver+1,idx:=0,fld:=0,es:=1}) (ABlk.elems (zv35_3 l ver m fl c)))=bytesA l_1)∧TellPre (zv36_14 f pv ov dty uty P O l ver m fl len a0 a1 a2 a3 n c) ⟨0,0,0,0,6⟩ ((zv35_4 l len c))∧ ∀ (h11007:AHeap),TellP (zv36_14 f pv ov dty uty P O l ver m fl len a0 a1 a2 a3 n c) ⟨0,0,0,0,6⟩ ((zv35_4 l len c)) h11007→bif Nat.ble 5 (h11007.next)then K0 (.tuple []) h11007 else False))∧(valid (strOf (List.take (len-1) (List.drop 1 l))++ [UInt8.ofNat (Int.toNat c)])=false→((↑(List.length (Prod.snd (feedQ a0 a1 a2 a3 n c))):Int)=0→StepPre (2^30-8) badR (zv36_6 f pv ov dty uty P O l ver m fl len a0 a1 a2 a3 n c) ⟨0,0,0,0,6⟩ c∧ ∀ (h13002:AHeap),StepP bad (zv36_6 f pv ov dty uty P O l ver m fl len a0 a1 a2 a3 n c) ⟨0,0,0,0,6⟩ c h13002→bif Nat.ble 5 (h13002.next)then K0 (.tuple []) h13002 else False)∧(¬(↑(List.length (Prod.snd (feedQ a0 a1 a2 a3 n c))):Int)=0→StepPre (2^30-8) badR (zv36_16 f pv ov dty uty P O l ver m fl len a0 a1 a2 a3 n c) ⟨0,0,0,0,6⟩ c∧ ∀ (h13002:AHeap),StepP bad (zv36_16 f pv ov dty uty P O l ver m fl len a0 a1 a2 a3 n c) ⟨0,0,0,0,6⟩ c h13002→bif Nat.ble 5 (h13002.next)then K0 (.tuple []) h13002 else False))))∧(¬0<(↑(List.length (Prod.snd (feedQ a0 a1 a2 a3 n c))):Int)→((len:Int)=1→(ver=ver∧0+len=List.length l∧len<len+1∧(len+1+(len+1) / 4+512)*1≤281474976710656∧len+1<4611686018427387904)∧((0:Int)≤1∧1≤(↑(len+1):Int)∧len+1≤len+1)∧ver+1=ver+1∧1+(len+1-1)≤List.length (l++ [.int .u8 c])∧(∃ l_1,List.take (len+1-1) (List.drop (AAddr.idx {id:=2,ver:=ver+1,idx:=1,fld:=0,es:=1}) (ABlk.elems (zv35_3 l ver m fl c)))=bytesA l_1)∧List.length (strOf (List.take (len+1-1) (List.drop 1 (List.append l [.int .u8 c]))))<1099511627776∧(valid (strOf (List.take (len+1-1) (List.drop 1 (List.append l [.int .u8 c]))))=true→TellPre (zv36_9 f pv ov dty uty P O l ver m fl len a0 a1 a2 a3 n c) ⟨0,0,0,0,6⟩ ((zv30_3 a0 a1 a2 a3 n c))∧ ∀ (h10006:AHeap),TellP (zv36_9 f pv ov dty uty P O l ver m fl len a0 a1 a2 a3 n c) ⟨0,0,0,0,6⟩ ((zv30_3 a0 a1 a2 a3 n c)) h10006→bif Nat.ble 5 (h10006.next)then K0 (.tuple []) h10006 else False)∧(valid (strOf (List.take (len+1-1) (List.drop 1 (List.append l [.int .u8 c]))))=false→ver+1=ver+1∧0+(len+1)≤List.length (l++ [.int .u8 c])∧(∃ l_1,List.take (len+1) (List.drop (AAddr.idx {id:=2,ver:=ver+1,idx:=0,fld:=0,es:=1}) (ABlk.elems (zv35_3 l ver m fl c)))=bytesA l_1)∧TellPre (zv36_10 f pv ov dty uty P O l ver m fl len a0 a1 a2 a3 n c) ⟨0,0,0,0,6⟩ ((zv35_4 l len c))∧ ∀ (h11007:AHeap),TellP (zv36_10 f pv ov dty uty P O l ver m fl len a0 a1 a2 a3 n c) ⟨0,0,0,0,6⟩ ((zv35_4 l len c)) h11007→bif Nat.ble 5 (h11007.next)then K0 (.tuple []) h11007 else False))∧(¬(len:Int)=1→((0:Int)≤1∧1≤(len:Int)∧len≤len)∧ver=ver∧1+(len-1)≤List.length l∧(∃ l_1,List.take (len-1) (List.drop (AAddr.idx ⟨2,ver,1,0,1⟩) (ABlk.elems (zv32_0 l ver m fl)))=bytesA l_1)∧Nat.le (Nat.succ (List.length (strOf (List.take (len-1) (List.drop 1 l)))+List.length [UInt8.ofNat (Int.toNat c)])) (2^62)∧List.length (strOf (List.take (len-1) (List.drop 1 l))++ [UInt8.ofNat (Int.toNat c)])<1099511627776∧(valid (strOf (List.take (len-1) (List.drop 1 l))++ [UInt8.ofNat (Int.toNat c)])=true→(ver=ver∧0+len=List.length l∧len<len+1∧(len+1+(len+1) / 4+512)*1≤281474976710656∧len+1<4611686018427387904)∧((0:Int)≤1∧1≤(↑(len+1):Int)∧len+1≤len+1)∧ver+1=ver+1∧1+(len+1-1)≤List.length (l++ [.int .u8 c])∧(∃ l_1,List.take (len+1-1) (List.drop (AAddr.idx {id:=2,ver:=ver+1,idx:=1,fld:=0,es:=1}) (ABlk.elems (zv35_3 l ver m fl c)))=bytesA l_1)∧List.length (strOf (List.take (len+1-1) (List.drop 1 (List.append l [.int .u8 c]))))<1099511627776∧(valid (strOf (List.take (len+1-1) (List.drop 1 (List.append l [.int .u8 c]))))=true→TellPre (zv36_13 f pv ov dty uty P O l ver m fl len a0 a1 a2 a3 n c) ⟨0,0,0,0,6⟩ ((zv30_3 a0 a1 a2 a3 n c))∧ ∀ (h10006:AHeap),TellP (zv36_13 f pv ov dty uty P O l ver m fl len a0 a1 a2 a3 n c) ⟨0,0,0,0,6⟩ ((zv30_3 a0 a1 a2 a3 n c)) h10006→bif Nat.ble 5 (h10006.next)then K0 (.tuple []) h10006 else False)∧(valid (strOf (List.take (len+1-1) (List.drop 1 (List.append l [.int .u8 c]))))=false→ver+1=ver+1∧0+(len+1)≤List.length (l++ [.int .u8 c])∧(∃ l_1,List.take (len+1) (List.drop (AAddr.idx {id:=2,ver:=ver+1,idx:=0,fld:=0,es:=1}) (ABlk.elems (zv35_3 l ver m fl c)))=bytesA l_1)∧TellPre (zv36_14 f pv ov dty uty P O l ver m fl len a0 a1 a2 a3 n c) ⟨0,0,0,0,6⟩ ((zv35_4 l len c))∧ ∀ (h11007:AHeap),TellP (zv36_14 f pv ov dty uty P O l ver m fl len a0 a1 a2 a3 n c) ⟨0,0,0,0,6⟩ ((zv35_4 l len c)) h11007→bif Nat.ble 5 (h11007.next)then K0 (.tuple []) h11007 else False))∧(valid (strOf (List.take (len-1) (List.drop 1 l))++ [UInt8.ofNat (Int.toNat c)])=false→((↑(List.length (Prod.snd (feedQ a0 a1 a2 a3 n c))):Int)=0→StepPre (2^30-8) badR (zv36_6 f pv ov dty uty P O l ver m fl len a0 a1 a2 a3 n c) ⟨0,0,0,0,6⟩ c∧ ∀ (h13002:AHeap),StepP bad (zv36_6 f pv ov dty uty P O l ver m fl len a0 a1 a2 a3 n c) ⟨0,0,0,0,6⟩ c h13002→bif Nat.ble 5 (h13002.next)then K0 (.tuple []) h13002 else False)∧(¬(↑(List.length (Prod.snd (feedQ a0 a1 a2 a3 n c))):Int)=0→StepPre (2^30-8) badR (zv36_16 f pv ov dty uty P O l ver m fl len a0 a1 a2 a3 n c) ⟨0,0,0,0,6⟩ c∧ ∀ (h13002:AHeap),StepP bad (zv36_16 f pv ov dty uty P O l ver m fl len a0 a1 a2 a3 n c) ⟨0,0,0,0,6⟩ c h13002→bif Nat.ble 5 (h13002.next)then K0 (.tuple []) h13002 else False)))))∧(¬intAt l 0=27→ ¬(feedQ a0 a1 a2 a3 n c).1= []∧List.length (Prod.fst (feedQ a0 a1 a2 a3 n c))=1∧FeedPre a0 a1 a2 a3 n c∧(0<(↑(List.length (Prod.snd (feedQ a0 a1 a2 a3 n c))):Int)→((len:Int)=0→(ver=ver∧0+len=List.length l∧len<len+1∧(len+1+(len+1) / 4+512)*1≤281474976710656∧len+1<4611686018427387904)∧ver+1=ver+1∧0+(len+1-0)≤List.length (l++ [.int .u8 c])∧(∃ l_1,List.take (len+1-0) (List.drop (AAddr.idx {id:=2,ver:=ver+1,idx:=0,fld:=0,es:=1}) (ABlk.elems (zv35_3 l ver m fl c)))=bytesA l_1)∧List.length (strOf (List.take (len+1-0) (List.drop 0 (List.append l [.int .u8 c]))))<1099511627776∧(valid (strOf (List.take (len+1-0) (List.drop 0 (List.append l [.int .u8 c]))))=true→TellPre (zv36_7 f pv ov dty uty P O l ver m fl len a0 a1 a2 a3 n c) ⟨0,0,0,0,6⟩ ((zv29_7 a0 a1 a2 a3 n c))∧ ∀ (h10006:AHeap),TellP (zv36_7 f pv ov dty uty P O l ver m fl len a0 a1 a2 a3 n c) ⟨0,0,0,0,6⟩ ((zv29_7 a0 a1 a2 a3 n c)) h10006→bif Nat.ble 5 (h10006.next)then K0 (.tuple []) h10006 else False)∧(valid (strOf (List.take (len+1-0) (List.drop 0 (List.append l [.int .u8 c]))))=false→ver+1=ver+1∧0+(len+1)≤List.length (l++ [.int .u8 c])∧(∃ l_1,List.take (len+1) (List.drop (AAddr.idx {id:=2,ver:=ver+1,idx:=0,fld:=0,es:=1}) (ABlk.elems (zv35_3 l ver m fl c)))=bytesA l_1)∧TellPre (zv36_8 f pv ov dty uty P O l ver m fl len a0 a1 a2 a3 n c) ⟨0,0,0,0,6⟩ ((zv35_4 l len c))∧ ∀ (h11007:AHeap),TellP (zv36_8 f pv ov dty uty P O l ver m fl len a0 a1 a2 a3 n c) ⟨0,0,0,0,6⟩ ((zv35_4 l len c)) h11007→bif Nat.ble 5 (h11007.next)then K0 (.tuple []) h11007 else False))∧(¬(len:Int)=0→ver=ver∧0+(len-0)≤List.length l∧(∃ l_1,List.take (len-0) (List.drop (AAddr.idx ⟨2,ver,0,0,1⟩) (ABlk.elems (zv32_0 l ver m fl)))=bytesA l_1)∧Nat.le (Nat.succ (List.length (strOf (List.take (len-0) l))+List.length [UInt8.ofNat (Int.toNat c)])) (2^62)∧List.length (strOf (List.take (len-0) l)++ [UInt8.ofNat (Int.toNat c)])<1099511627776∧(valid (strOf (List.take (len-0) l)++ [UInt8.ofNat (Int.toNat c)])=true→(ver=ver∧0+len=List.length l∧len<len+1∧(len+1+(len+1) / 4+512)*1≤281474976710656∧len+1<4611686018427387904)∧ver+1=ver+1∧0+(len+1-0)≤List.length (l++ [.int .u8 c])∧(∃ l_1,List.take (len+1-0) (List.drop (AAddr.idx {id:=2,ver:=ver+1,idx:=0,fld:=0,es:=1}) (ABlk.elems (zv35_3 l ver m fl c)))=bytesA l_1)∧List.length (strOf (List.take (len+1-0) (List.drop 0 (List.append l [.int .u8 c]))))<1099511627776∧(valid (strOf (List.take (len+1-0) (List.drop 0 (List.append l [.int .u8 c]))))=true→TellPre (zv36_11 f pv ov dty uty P O l ver m fl len a0 a1 a2 a3 n c) ⟨0,0,0,0,6⟩ ((zv29_7 a0 a1 a2 a3 n c))∧ ∀ (h10006:AHeap),TellP (zv36_11 f pv ov dty uty P O l ver m fl len a0 a1 a2 a3 n c) ⟨0,0,0,0,6⟩ ((zv29_7 a0 a1 a2 a3 n c)) h10006→bif Nat.ble 5 (h10006.next)then K0 (.tuple []) h10006 else False)∧(valid (strOf (List.take (len+1-0) (List.drop 0 (List.append l [.int .u8 c]))))=false→ver+1=ver+1∧0+(len+1)≤List.length (l++ [.int .u8 c])∧(∃ l_1,List.take (len+1) (List.drop (AAddr.idx {id:=2,ver:=ver+1,idx:=0,fld:=0,es:=1}) (ABlk.elems (zv35_3 l ver m fl c)))=bytesA l_1)∧TellPre (zv36_12 f pv ov dty uty P O l ver m fl len a0 a1 a2 a3 n c) ⟨0,0,0,0,6⟩ ((zv35_4 l len c))∧ ∀ (h11007:AHeap),TellP (zv36_12 f pv ov dty uty P O l ver m fl len a0 a1 a2 a3 n c) ⟨0,0,0,0,6⟩ ((zv35_4 l len c)) h11007→bif Nat.ble 5 (h11007.next)then K0 (.tuple []) h11007 else False))∧(valid (strOf (List.take (len-0) l)++ [UInt8.ofNat (Int.toNat c)])=false→((↑(List.length (Prod.snd (feedQ a0 a1 a2 a3 n c))):Int)=0→StepPre (2^30-8) badR (zv36_5 f pv ov dty uty P O l ver m fl len a0 a1 a2 a3 n c) ⟨0,0,0,0,6⟩ c∧ ∀ (h13002:AHeap),StepP bad (zv36_5 f pv ov dty uty P O l ver m fl len a0 a1 a2 a3 n c) ⟨0,0,0,0,6⟩ c h13002→bif Nat.ble 5 (h13002.next)then K0 (.tuple []) h13002 else False)∧(¬(↑(List.length (Prod.snd (feedQ a0 a1 a2 a3 n c))):Int)=0→StepPre (2^30-8) badR (zv36_15 f pv ov dty uty P O l ver m fl len a0 a1 a2 a3 n c) ⟨0,0,0,0,6⟩ c∧ ∀ (h13002:AHeap),StepP bad (zv36_15 f pv ov dty uty P O l ver m fl len a0 a1 a2 a3 n c) ⟨0,0,0,0,6⟩ c h13002→bif Nat.ble 5 (h13002.next)then K0 (.tuple []) h13002 else False))))∧(¬0<(↑(List.length (Prod.snd (feedQ a0 a1 a2 a3 n c))):Int)→((len:Int)=0→(ver=ver∧0+len=List.length l∧len<len+1∧(len+1+(len+1) / 4+512)*1≤281474976710656∧len+1<4611686018427387904)∧ver+1=ver+1∧0+(len+1-0)≤List.length (l++ [.int .u8 c])∧(∃ l_1,List.take (len+1-0) (List.drop (AAddr.idx {id:=2,ver:=ver+1,idx:=0,fld:=0,es:=1}) (ABlk.elems (zv35_3 l ver m fl c)))=bytesA l_1)∧List.length (strOf (List.take (len+1-0) (List.drop 0 (List.append l [.int .u8 c]))))<1099511627776∧(valid (strOf (List.take (len+1-0) (List.drop 0 (List.append l [.int .u8 c]))))=true→TellPre (zv36_7 f pv ov dty uty P O l ver m fl len a0 a1 a2 a3 n c) ⟨0,0,0,0,6⟩ ((zv29_7 a0 a1 a2 a3 n c))∧ ∀ (h10006:AHeap),TellP (zv36_7 f pv ov dty uty P O l ver m fl len a0 a1 a2 a3 n c) ⟨0,0,0,0,6⟩ ((zv29_7 a0 a1 a2 a3 n c)) h10006→bif Nat.ble 5 (h10006.next)then K0 (.tuple []) h10006 else False)∧(valid (strOf (List.take (len+1-0) (List.drop 0 (List.append l [.int .u8 c]))))=false→ver+1=ver+1∧0+(len+1)≤List.length (l++ [.int .u8 c])∧(∃ l_1,List.take (len+1) (List.drop (AAddr.idx {id:=2,ver:=ver+1,idx:=0,fld:=0,es:=1}) (ABlk.elems (zv35_3 l ver m fl c)))=bytesA l_1)∧TellPre (zv36_8 f pv ov dty uty P O l ver m fl len a0 a1 a2 a3 n c) ⟨0,0,0,0,6⟩ ((zv35_4 l len c))∧ ∀ (h11007:AHeap),TellP (zv36_8 f pv ov dty uty P O l ver m fl len a0 a1 a2 a3 n c) ⟨0,0,0,0,6⟩ ((zv35_4 l len c)) h11007→bif Nat.ble 5 (h11007.next)then K0 (.tuple []) h11007 else False))∧(¬(len:Int)=0→ver=ver∧0+(len-0)≤List.length l∧(∃ l_1,List.take (len-0) (List.drop (AAddr.idx ⟨2,ver,0,0,1⟩) (ABlk.elems (zv32_0 l ver m fl)))=bytesA l_1)∧Nat.le (Nat.succ (List.length (strOf (List.take (len-0) l))+List.length [UInt8.ofNat (Int.toNat c)])) (2^62)∧List.length (strOf (List.take (len-0) l)++ [UInt8.ofNat (Int.toNat c)])<1099511627776∧(valid (strOf (List.take (len-0) l)++ [UInt8.ofNat (Int.toNat c)])=true→(ver=ver∧0+len=List.length l∧len<len+1∧(len+1+(len+1) / 4+512)*1≤281474976710656∧len+1<4611686018427387904)∧ver+1=ver+1∧0+(len+1-0)≤List.length (l++ [.int .u8 c])∧(∃ l_1,List.take (len+1-0) (List.drop (AAddr.idx {id:=2,ver:=ver+1,idx:=0,fld:=0,es:=1}) (ABlk.elems (zv35_3 l ver m fl c)))=bytesA l_1)∧List.length (strOf (List.take (len+1-0) (List.drop 0 (List.append l [.int .u8 c]))))<1099511627776∧(valid (strOf (List.take (len+1-0) (List.drop 0 (List.append l [.int .u8 c]))))=true→TellPre (zv36_11 f pv ov dty uty P O l ver m fl len a0 a1 a2 a3 n c) ⟨0,0,0,0,6⟩ ((zv29_7 a0 a1 a2 a3 n c))∧ ∀ (h10006:AHeap),TellP (zv36_11 f pv ov dty uty P O l ver m fl len a0 a1 a2 a3 n c) ⟨0,0,0,0,6⟩ ((zv29_7 a0 a1 a2 a3 n c)) h10006→bif Nat.ble 5 (h10006.next)then K0 (.tuple []) h10006 else False)∧(valid (strOf (List.take (len+1-0) (List.drop 0 (List.append l [.int .u8 c]))))=false→ver+1=ver+1∧0+(len+1)≤List.length (l++ [.int .u8 c])∧(∃ l_1,List.take (len+1) (List.drop (AAddr.idx {id:=2,ver:=ver+1,idx:=0,fld:=0,es:=1}) (ABlk.elems (zv35_3 l ver m fl c)))=bytesA l_1)∧TellPre (zv36_12 f pv ov dty uty P O l ver m fl len a0 a1 a2 a3 n c) ⟨0,0,0,0,6⟩ ((zv35_4 l len c))∧ ∀ (h11007:AHeap),TellP (zv36_12 f pv ov dty uty P O l ver m fl len a0 a1 a2 a3 n c) ⟨0,0,0,0,6⟩ ((zv35_4 l len c)) h11007→bif Nat.ble 5 (h11007.next)then K0 (.tuple []) h11007 else False))∧(valid (strOf (List.take (len-0) l)++ [UInt8.ofNat (Int.toNat c)])=false→((↑(List.length (Prod.snd (feedQ a0 a1 a2 a3 n c))):Int)=0→StepPre (2^30-8) badR (zv36_5 f pv ov dty uty P O l ver m fl len a0 a1 a2 a3 n c) ⟨0,0,0,0,6⟩ c∧ ∀ (h13002:AHeap),StepP bad (zv36_5 f pv ov dty uty P O l ver m fl len a0 a1 a2 a3 n c) ⟨0,0,0,0,6⟩ c h13002→bif Nat.ble 5 (h13002.next)then K0 (.tuple []) h13002 else False)∧(¬(↑(List.length (Prod.snd (feedQ a0 a1 a2 a3 n c))):Int)=0→StepPre (2^30-8) badR (zv36_15 f pv ov dty uty P O l ver m fl len a0 a1 a2 a3 n c) ⟨0,0,0,0,6⟩ c∧ ∀ (h13002:AHeap),StepP bad (zv36_15 f pv ov dty uty P O l ver m fl len a0 a1 a2 a3 n c) ⟨0,0,0,0,6⟩ c h13002→bif Nat.ble 5 (h13002.next)then K0 (.tuple []) h13002 else False))))))∧(¬0<(len:Int)→ ¬(feedQ a0 a1 a2 a3 n c).1= []∧List.length (Prod.fst (feedQ a0 a1 a2 a3 n c))=1∧FeedPre a0 a1 a2 a3 n c∧(0<(↑(List.length (Prod.snd (feedQ a0 a1 a2 a3 n c))):Int)→((len:Int)=0→(ver=ver∧0+len=List.length l∧len<len+1∧(len+1+(len+1) / 4+512)*1≤281474976710656∧len+1<4611686018427387904)∧ver+1=ver+1∧0+(len+1-0)≤List.length (l++ [.int .u8 c])∧(∃ l_1,List.take (len+1-0) (List.drop (AAddr.idx {id:=2,ver:=ver+1,idx:=0,fld:=0,es:=1}) (ABlk.elems (zv35_3 l ver m fl c)))=bytesA l_1)∧List.length (strOf (List.take (len+1-0) (List.drop 0 (List.append l [.int .u8 c]))))<1099511627776∧(valid (strOf (List.take (len+1-0) (List.drop 0 (List.append l [.int .u8 c]))))=true→TellPre (zv36_7 f pv ov dty uty P O l ver m fl len a0 a1 a2 a3 n c) ⟨0,0,0,0,6⟩ ((zv29_7 a0 a1 a2 a3 n c))∧ ∀ (h10006:AHeap),TellP (zv36_7 f pv ov dty uty P O l ver m fl len a0 a1 a2 a3 n c) ⟨0,0,0,0,6⟩ ((zv29_7 a0 a1 a2 a3 n c)) h10006→bif Nat.ble 5 (h10006.next)then K0 (.tuple []) h10006 else False)∧(valid (strOf (List.take (len+1-0) (List.drop 0 (List.append l [.int .u8 c]))))=false→ver+1=ver+1∧0+(len+1)≤List.length (l++ [.int .u8 c])∧(∃ l_1,List.take (len+1) (List.drop (AAddr.idx {id:=2,ver:=ver+1,idx:=0,fld:=0,es:=1}) (ABlk.elems (zv35_3 l ver m fl c)))=bytesA l_1)∧TellPre (zv36_8 f pv ov dty uty P O l ver m fl len a0 a1 a2 a3 n c) ⟨0,0,0,0,6⟩ ((zv35_4 l len c))∧ ∀ (h11007:AHeap),TellP (zv36_8 f pv ov dty uty P O l ver m fl len a0 a1 a2 a3 n c) ⟨0,0,0,0,6⟩ ((zv35_4 l len c)) h11007→bif Nat.ble 5 (h11007.next)then K0 (.tuple []) h11007 else False))∧(¬(len:Int)=0→ver=ver∧0+(len-0)≤List.length l∧(∃ l_1,List.take (len-0) (List.drop (AAddr.idx ⟨2,ver,0,0,1⟩) (ABlk.elems (zv32_0 l ver m fl)))=bytesA l_1)∧Nat.le (Nat.succ (List.length (strOf (List.take (len-0) l))+List.length [UInt8.ofNat (Int.toNat c)])) (2^62)∧List.length (strOf (List.take (len-0) l)++ [UInt8.ofNat (Int.toNat c)])<1099511627776∧(valid (strOf (List.take (len-0) l)++ [UInt8.ofNat (Int.toNat c)])=true→(ver=ver∧0+len=List.length l∧len<len+1∧(len+1+(len+1) / 4+512)*1≤281474976710656∧len+1<4611686018427387904)∧ver+1=ver+1∧0+(len+1-0)≤List.length (l++ [.int .u8 c])∧(∃ l_1,List.take (len+1-0) (List.drop (AAddr.idx {id:=2,ver:=ver+1,idx:=0,fld:=0,es:=1}) (ABlk.elems (zv35_3 l ver m fl c)))=bytesA l_1)∧List.length (strOf (List.take (len+1-0) (List.drop 0 (List.append l [.int .u8 c]))))<1099511627776∧(valid (strOf (List.take (len+1-0) (List.drop 0 (List.append l [.int .u8 c]))))=true→TellPre (zv36_11 f pv ov dty uty P O l ver m fl len a0 a1 a2 a3 n c) ⟨0,0,0,0,6⟩ ((zv29_7 a0 a1 a2 a3 n c))∧ ∀ (h10006:AHeap),TellP (zv36_11 f pv ov dty uty P O l ver m fl len a0 a1 a2 a3 n c) ⟨0,0,0,0,6⟩ ((zv29_7 a0 a1 a2 a3 n c)) h10006→bif Nat.ble 5 (h10006.next)then K0 (.tuple []) h10006 else False)∧(valid (strOf (List.take (len+1-0) (List.drop 0 (List.append l [.int .u8 c]))))=false→ver+1=ver+1∧0+(len+1)≤List.length (l++ [.int .u8 c])∧(∃ l_1,List.take (len+1) (List.drop (AAddr.idx {id:=2,ver:=ver+1,idx:=0,fld:=0,es:=1}) (ABlk.elems (zv35_3 l ver m fl c)))=bytesA l_1)∧TellPre (zv36_12 f pv ov dty uty P O l ver m fl len a0 a1 a2 a3 n c) ⟨0,0,0,0,6⟩ ((zv35_4 l len c))∧ ∀ (h11007:AHeap),TellP (zv36_12 f pv ov dty uty P O l ver m fl len a0 a1 a2 a3 n c) ⟨0,0,0,0,6⟩ ((zv35_4 l len c)) h11007→bif Nat.ble 5 (h11007.next)then K0 (.tuple []) h11007 else False))∧(valid (strOf (List.take (len-0) l)++ [UInt8.ofNat (Int.toNat c)])=false→((↑(List.length (Prod.snd (feedQ a0 a1 a2 a3 n c))):Int)=0→StepPre (2^30-8) badR (zv36_5 f pv ov dty uty P O l ver m fl len a0 a1 a2 a3 n c) ⟨0,0,0,0,6⟩ c∧ ∀ (h13002:AHeap),StepP bad (zv36_5 f pv ov dty uty P O l ver m fl len a0 a1 a2 a3 n c) ⟨0,0,0,0,6⟩ c h13002→bif Nat.ble 5 (h13002.next)then K0 (.tuple []) h13002 else False)∧(¬(↑(List.length (Prod.snd (feedQ a0 a1 a2 a3 n c))):Int)=0→StepPre (2^30-8) badR (zv36_15 f pv ov dty uty P O l ver m fl len a0 a1 a2 a3 n c) ⟨0,0,0,0,6⟩ c∧ ∀ (h13002:AHeap),StepP bad (zv36_15 f pv ov dty uty P O l ver m fl len a0 a1 a2 a3 n c) ⟨0,0,0,0,6⟩ c h13002→bif Nat.ble 5 (h13002.next)then K0 (.tuple []) h13002 else False))))∧(¬0<(↑(List.length (Prod.snd (feedQ a0 a1 a2 a3 n c))):Int)→((len:Int)=0→(ver=ver∧0+len=List.length l∧len<len+1∧(len+1+(len+1) / 4+512)*1≤281474976710656∧len+1<4611686018427387904)∧ver+1=ver+1∧0+(len+1-0)≤List.length (l++ [.int .u8 c])∧(∃ l_1,List.take (len+1-0) (List.drop (AAddr.idx {id:=2,ver:=ver+1,idx:=0,fld:=0,es:=1}) (ABlk.elems (zv35_3 l ver m fl c)))=bytesA l_1)∧List.length (strOf (List.take (len+1-0) (List.drop 0 (List.append l [.int .u8 c]))))<1099511627776∧(valid (strOf (List.take (len+1-0) (List.drop 0 (List.append l [.int .u8 c]))))=true→TellPre (zv36_7 f pv ov dty uty P O l ver m fl len a0 a1 a2 a3 n c) ⟨0,0,0,0,6⟩ ((zv29_7 a0 a1 a2 a3 n c))∧ ∀ (h10006:AHeap),TellP (zv36_7 f pv ov dty uty P O l ver m fl len a0 a1 a2 a3 n c) ⟨0,0,0,0,6⟩ ((zv29_7 a0 a1 a2 a3 n c)) h10006→bif Nat.ble 5 (h10006.next)then K0 (.tuple []) h10006 else False)∧(valid (strOf (List.take (len+1-0) (List.drop 0 (List.append l [.int .u8 c]))))=false→ver+1=ver+1∧0+(len+1)≤List.length (l++ [.int .u8 c])∧(∃ l_1,List.take (len+1) (List.drop (AAddr.idx {id:=2,ver:=ver+1,idx:=0,fld:=0,es:=1}) (ABlk.elems (zv35_3 l ver m fl c)))=bytesA l_1)∧TellPre (zv36_8 f pv ov dty uty P O l ver m fl len a0 a1 a2 a3 n c) ⟨0,0,0,0,6⟩ ((zv35_4 l len c))∧ ∀ (h11007:AHeap),TellP (zv36_8 f pv ov dty uty P O l ver m fl len a0 a1 a2 a3 n c) ⟨0,0,0,0,6⟩ ((zv35_4 l len c)) h11007→bif Nat.ble 5 (h11007.next)then K0 (.tuple []) h11007 else False))∧(¬(len:Int)=0→ver=ver∧0+(len-0)≤List.length l∧(∃ l_1,List.take (len-0) (List.drop (AAddr.idx ⟨2,ver,0,0,1⟩) (ABlk.elems (zv32_0 l ver m fl)))=bytesA l_1)∧Nat.le (Nat.succ (List.length (strOf (List.take (len-0) l))+List.length [UInt8.ofNat (Int.toNat c)])) (2^62)∧List.length (strOf (List.take (len-0) l)++ [UInt8.ofNat (Int.toNat c)])<1099511627776∧(valid (strOf (List.take (len-0) l)++ [UInt8.ofNat (Int.toNat c)])=true→(ver=ver∧0+len=List.length l∧len<len+1∧(len+1+(len+1) / 4+512)*1≤281474976710656∧len+1<4611686018427387904)∧ver+1=ver+1∧0+(len+1-0)≤List.length (l++ [.int .u8 c])∧(∃ l_1,List.take (len+1-0) (List.drop (AAddr.idx {id:=2,ver:=ver+1,idx:=0,fld:=0,es:=1}) (ABlk.elems (zv35_3 l ver m fl c)))=bytesA l_1)∧List.length (strOf (List.take (len+1-0) (List.drop 0 (List.append l [.int .u8 c]))))<1099511627776∧(valid (strOf (List.take (len+1-0) (List.drop 0 (List.append l [.int .u8 c]))))=true→TellPre (zv36_11 f pv ov dty uty P O l ver m fl len a0 a1 a2 a3 n c) ⟨0,0,0,0,6⟩ ((zv29_7 a0 a1 a2 a3 n c))∧ ∀ (h10006:AHeap),TellP (zv36_11 f pv ov dty uty P O l ver m fl len a0 a1 a2 a3 n c) ⟨0,0,0,0,6⟩ ((zv29_7 a0 a1 a2 a3 n c)) h10006→bif Nat.ble 5 (h10006.next)then K0 (.tuple []) h10006 else False)∧(valid (strOf (List.take (len+1-0) (List.drop 0 (List.append l [.int .u8 c]))))=false→ver+1=ver+1∧0+(len+1)≤List.length (l++ [.int .u8 c])∧(∃ l_1,List.take (len+1) (List.drop (AAddr.idx {id:=2,ver:=ver+1,idx:=0,fld:=0,es:=1}) (ABlk.elems (zv35_3 l ver m fl c)))=bytesA l_1)∧TellPre (zv36_12 f pv ov dty uty P O l ver m fl len a0 a1 a2 a3 n c) ⟨0,0,0,0,6⟩ ((zv35_4 l len c))∧ ∀ (h11007:AHeap),TellP (zv36_12 f pv ov dty uty P O l ver m fl len a0 a1 a2 a3 n c) ⟨0,0,0,0,6⟩ ((zv35_4 l len c)) h11007→bif Nat.ble 5 (h11007.next)then K0 (.tuple []) h11007 else False))∧(valid (strOf (List.take (len-0) l)++ [UInt8.ofNat (Int.toNat c)])=false→((↑(List.length (Prod.snd (feedQ a0 a1 a2 a3 n c))):Int)=0→StepPre (2^30-8) badR (zv36_5 f pv ov dty uty P O l ver m fl len a0 a1 a2 a3 n c) ⟨0,0,0,0,6⟩ c∧ ∀ (h13002:AHeap),StepP bad (zv36_5 f pv ov dty uty P O l ver m fl len a0 a1 a2 a3 n c) ⟨0,0,0,0,6⟩ c h13002→bif Nat.ble 5 (h13002.next)then K0 (.tuple []) h13002 else False)∧(¬(↑(List.length (Prod.snd (feedQ a0 a1 a2 a3 n c))):Int)=0→StepPre (2^30-8) badR (zv36_15 f pv ov dty uty P O l ver m fl len a0 a1 a2 a3 n c) ⟨0,0,0,0,6⟩ c∧ ∀ (h13002:AHeap),StepP bad (zv36_15 f pv ov dty uty P O l ver m fl len a0 a1 a2 a3 n c) ⟨0,0,0,0,6⟩ c h13002→bif Nat.ble 5 (h13002.next)then K0 (.tuple []) h13002 else False)))))) :
    ∃ v h1,FDoes Tryz.prog cnd 90 [.ptr (some ⟨0,0,0,0,6⟩),.int .u8 c] (AHeap.of [dRowV 0 f 1 (.slice (some ⟨2,ver,0,0,1⟩) len len) pv false ov dty,uRow a0 a1 a2 a3 n uty,gRowB l 1 ver m fl byteTy,P,O]) v h1∧K0 v h1 :=
  tcall_does env_ok mixed specsC1_ok (hs:= .br 1005 (hg 1011 (hg 1012 (.br 1013 (he 4004 (.br 4005 (.br 6010 (hg 7007 zv36_1) (hg 6018 (hg 6019 zv36_3))) (.br 6010 (hg 7007 zv36_1) (hg 6018 (hg 6019 zv36_3))))) (he 4004 (.br 4005 zv36_4 zv36_4))))) (he 4004 (.br 4005 zv36_4 zv36_4))) (by kernel_rfl) vc
end Go.Proofs.YtddnafghiejcoaaGreatDoor
