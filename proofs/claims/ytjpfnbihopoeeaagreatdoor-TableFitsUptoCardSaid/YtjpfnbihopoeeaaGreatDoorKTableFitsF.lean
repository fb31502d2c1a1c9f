/-
  Parts of the proof of TableFits.
-/
import Derived.Test.YtjpfnbihopoeeaaGreatDoorKTableFitsE
set_option maxRecDepth 1000000
set_option linter.unusedSectionVars false
set_option linter.unusedVariables false
set_option linter.unusedSimpArgs false
namespace Go.Proofs.YtjpfnbihopoeeaaGreatDoor
open Go.ba Go.Keys
abbrev gn(l:List J)(v f b4 b5:Nat)(ex b6:Bool)(ty:Option (TypeId×Nat)):aJ:= {a':=l,es:=b5,exact:=ex,ro:=b6,ver:=v,eD:=b4,hU:=f,ty:=ty}
abbrev lW(l:List J)(v f:Nat):aJ:= {a':=l,es:=1,exact:=false,ro:=false,ver:=v,eD:=0,hU:=f,ty:=some (5,0)}
abbrev hP(v:Nat)(n:Nat)(c:Nat):J:=J.slice (some ⟨0,v,0,0,1⟩) n c
abbrev vD:J:=J.slice (some ⟨68,0,0,0,1⟩) 3 3
abbrev Sh:dA:=(an 21001 (an 21005 (an 6000 .nil)))
abbrev iU(v:Nat)(f:Nat)(b4:Nat)(b5:Nat)(ex:Bool)(b6:Bool)(ty:Option (TypeId×Nat))(l:List J):aJ:= {a':=l,es:=b5,exact:=ex,ro:=b6,ver:=v,eD:=b4,hU:=f,ty:=ty}
abbrev CV:J:=J.agg [.int .u8 239,.int .u8 191,.int .u8 189,.int .u8 0]
abbrev yN(i:Nat)(l:List J):J:=J.agg [.int .u8 (dn IntKind.u8 (bE IntKind.i32 (bM l (0+Int.toNat (i:Int))) (6)) (192)),.int .u8 (dn IntKind.u8 (128) (bV IntKind.i32 (bM l (0+Int.toNat (i:Int))) (63))),.int .u8 0,.int .u8 0]
abbrev yO(i:Nat)(l:List J):J:=J.agg [.int .u8 (dn IntKind.u8 (bE IntKind.i32 (bE IntKind.i32 (bM l (0+Int.toNat (i:Int))) (6)) (6)) (224)),.int .u8 (dn IntKind.u8 (128) (bV IntKind.i32 (bE IntKind.i32 (bM l (0+Int.toNat (i:Int))) (6)) (63))),.int .u8 (dn IntKind.u8 (128) (bV IntKind.i32 (bM l (0+Int.toNat (i:Int))) (63))),.int .u8 0]
abbrev CW(i:Nat)(l:List J):J:=J.agg [.int .u8 (dn IntKind.u8 (bE IntKind.i32 (bE IntKind.i32 (bE IntKind.i32 (bM l (0+Int.toNat (i:Int))) (6)) (6)) (6)) (240)),.int .u8 (dn IntKind.u8 (128) (bV IntKind.i32 (bE IntKind.i32 (bE IntKind.i32 (bM l (0+Int.toNat (i:Int))) (6)) (6)) (63))),.int .u8 (dn IntKind.u8 (128) (bV IntKind.i32 (bE IntKind.i32 (bM l (0+Int.toNat (i:Int))) (6)) (63))),.int .u8 (dn IntKind.u8 (128) (bV IntKind.i32 (bM l (0+Int.toNat (i:Int))) (63)))]
abbrev s3:aJ:=(aJ.made ([CV]) 4 true (some (220,4)))
abbrev s4(i:Nat)(l:List J):aJ:=(aJ.made ([(CW i l)]) 4 true (some (220,4)))
abbrev Ii:dA:=(an 19002 (an 19003 (an 20001 Sh)))
abbrev Ij(i:Nat)(v:Nat)(f:Nat)(b4:Nat)(b5:Nat)(ex:Bool)(b6:Bool)(ty:Option (TypeId×Nat))(l:List J):I:=(I.bI 63 [(0,(iU v f b4 b5 ex b6 ty l)),(31,(aJ.made ([(yN i l)]) 4 true (some (220,4)))),(59,aJ.made [.int .u8 (dn IntKind.u8 (bE IntKind.i32 (bM l (0+Int.toNat (i:Int))) (6)) (192)),.int .u8 (dn IntKind.u8 (128) (bV IntKind.i32 (bM l (0+Int.toNat (i:Int))) (63)))] 1 false (some (5,0)))])
abbrev Ik(i:Nat)(v:Nat)(f:Nat)(b4:Nat)(b5:Nat)(ex:Bool)(b6:Bool)(ty:Option (TypeId×Nat))(l:List J):I:=(I.bI 71 [(0,(iU v f b4 b5 ex b6 ty l)),(32,(aJ.made ([(yO i l)]) 4 true (some (220,4)))),(67,aJ.made [.int .u8 (dn IntKind.u8 (bE IntKind.i32 (bE IntKind.i32 (bM l (0+Int.toNat (i:Int))) (6)) (6)) (224)),.int .u8 (dn IntKind.u8 (128) (bV IntKind.i32 (bE IntKind.i32 (bM l (0+Int.toNat (i:Int))) (6)) (63))),.int .u8 (dn IntKind.u8 (128) (bV IntKind.i32 (bM l (0+Int.toNat (i:Int))) (63)))] 1 false (some (5,0)))])
abbrev CX(i:Nat)(v:Nat)(f:Nat)(n:Nat)(c:Nat)(b4:Nat)(b5:Nat)(ex:Bool)(b6:Bool)(ty:Option (TypeId×Nat))(l:List J)(ai:bx→a6→I→Prop):Prop:=(bM l (0+Int.toNat (i:Int))<128→(0≤bM l (0+Int.toNat (i:Int))∧bM l (0+Int.toNat (i:Int))≤255)∧(-9223372036854775808≤(i:Int)+1∧(i:Int)+1≤9223372036854775807)∧ai .normal [(3,.slice (some ⟨30,0,0,0,1⟩) 1 1),(6,(hP v n c)),(7,.int .i64 (n:Int)),(8,.int .i64 ((i:Int)+1))] (I.bI 34 [(0,(iU v f b4 b5 ex b6 ty l)),(29,aJ.made [.int .u8 (bM l (0+Int.toNat (i:Int)))] 1 true),(30,aJ.made [.int .u8 (bM l (0+Int.toNat (i:Int)))] 1 false (some (5,0)))]))
abbrev Il:dA:=(an 17003 (an 18001 (an 19001 Ii)))
abbrev vE(v:Nat)(f:Nat)(b4:Nat)(b5:Nat)(ex:Bool)(b6:Bool)(ty:Option (TypeId×Nat))(l:List J):I:=(I.bI 72 [(0,(iU v f b4 b5 ex b6 ty l)),(33,s3),(68,aJ.made [.int .u8 239,.int .u8 191,.int .u8 189] 1 false (some (5,0)))])
abbrev CY(i:Nat)(v:Nat)(f:Nat)(n:Nat)(c:Nat)(b4:Nat)(b5:Nat)(ex:Bool)(b6:Bool)(ty:Option (TypeId×Nat))(l:List J)(ai:bx→a6→I→Prop):Prop:=(¬65536≤bM l (0+Int.toNat (i:Int))→True∧(0≤bV IntKind.i32 (bM l (0+Int.toNat (i:Int))) (63)∧bV IntKind.i32 (bM l (0+Int.toNat (i:Int))) (63)≤255)∧True∧Int.NonNeg (6-0)∧(0≤bE IntKind.i32 (bM l (0+Int.toNat (i:Int))) (6)∧bE IntKind.i32 (bM l (0+Int.toNat (i:Int))) (6)≤255)∧True∧(-9223372036854775808≤(i:Int)+1∧(i:Int)+1≤9223372036854775807)∧ai .normal [(3,.slice (some ⟨59,0,0,0,1⟩) 2 2),(6,(hP v n c)),(7,.int .i64 (n:Int)),(8,.int .i64 ((i:Int)+1))] (Ij i v f b4 b5 ex b6 ty l))
abbrev Im(i:Nat)(v:Nat)(f:Nat)(b4:Nat)(b5:Nat)(ex:Bool)(b6:Bool)(ty:Option (TypeId×Nat))(l:List J):I:=(I.bI 78 [(0,(iU v f b4 b5 ex b6 ty l)),(32,(s4 i l)),(74,aJ.made [.int .u8 (dn IntKind.u8 (bE IntKind.i32 (bE IntKind.i32 (bE IntKind.i32 (bM l (0+Int.toNat (i:Int))) (6)) (6)) (6)) (240)),.int .u8 (dn IntKind.u8 (128) (bV IntKind.i32 (bE IntKind.i32 (bE IntKind.i32 (bM l (0+Int.toNat (i:Int))) (6)) (6)) (63))),.int .u8 (dn IntKind.u8 (128) (bV IntKind.i32 (bE IntKind.i32 (bM l (0+Int.toNat (i:Int))) (6)) (63))),.int .u8 (dn IntKind.u8 (128) (bV IntKind.i32 (bM l (0+Int.toNat (i:Int))) (63)))] 1 false (some (5,0)))])
abbrev Io(i:Nat)(v:Nat)(f:Nat)(b4:Nat)(b5:Nat)(ex:Bool)(b6:Bool)(ty:Option (TypeId×Nat))(l:List J):I:=(I.bI 79 [(0,(iU v f b4 b5 ex b6 ty l)),(33,(s4 i l)),(75,aJ.made [.int .u8 (dn IntKind.u8 (bE IntKind.i32 (bE IntKind.i32 (bE IntKind.i32 (bM l (0+Int.toNat (i:Int))) (6)) (6)) (6)) (240)),.int .u8 (dn IntKind.u8 (128) (bV IntKind.i32 (bE IntKind.i32 (bE IntKind.i32 (bM l (0+Int.toNat (i:Int))) (6)) (6)) (63))),.int .u8 (dn IntKind.u8 (128) (bV IntKind.i32 (bE IntKind.i32 (bM l (0+Int.toNat (i:Int))) (6)) (63))),.int .u8 (dn IntKind.u8 (128) (bV IntKind.i32 (bM l (0+Int.toNat (i:Int))) (63)))] 1 false (some (5,0)))])
abbrev CZ(i:Nat)(v:Nat)(f:Nat)(n:Nat)(c:Nat)(b4:Nat)(b5:Nat)(ex:Bool)(b6:Bool)(ty:Option (TypeId×Nat))(l:List J)(ai:bx→a6→I→Prop):Prop:=(¬65536≤bM l (0+Int.toNat (i:Int))→True∧(0≤bV IntKind.i32 (bM l (0+Int.toNat (i:Int))) (63)∧bV IntKind.i32 (bM l (0+Int.toNat (i:Int))) (63)≤255)∧True∧Int.NonNeg (6-0)∧True∧(0≤bV IntKind.i32 (bE IntKind.i32 (bM l (0+Int.toNat (i:Int))) (6)) (63)∧bV IntKind.i32 (bE IntKind.i32 (bM l (0+Int.toNat (i:Int))) (6)) (63)≤255)∧True∧Int.NonNeg (6-0)∧(0≤bE IntKind.i32 (bE IntKind.i32 (bM l (0+Int.toNat (i:Int))) (6)) (6)∧bE IntKind.i32 (bE IntKind.i32 (bM l (0+Int.toNat (i:Int))) (6)) (6)≤255)∧True∧(-9223372036854775808≤(i:Int)+1∧(i:Int)+1≤9223372036854775807)∧ai .normal [(3,.slice (some ⟨67,0,0,0,1⟩) 3 3),(6,(hP v n c)),(7,.int .i64 (n:Int)),(8,.int .i64 ((i:Int)+1))] (Ik i v f b4 b5 ex b6 ty l))
abbrev Si:dA:=(an 16001 (an 17001 (an 17002 Il)))
abbrev C0(i:Nat)(v:Nat)(f:Nat)(n:Nat)(c:Nat)(b4:Nat)(b5:Nat)(ex:Bool)(b6:Bool)(ty:Option (TypeId×Nat))(l:List J)(ai:bx→a6→I→Prop):Prop:=(65536≤bM l (0+Int.toNat (i:Int))→True∧(0≤bV IntKind.i32 (bM l (0+Int.toNat (i:Int))) (63)∧bV IntKind.i32 (bM l (0+Int.toNat (i:Int))) (63)≤255)∧True∧Int.NonNeg (6-0)∧True∧(0≤bV IntKind.i32 (bE IntKind.i32 (bM l (0+Int.toNat (i:Int))) (6)) (63)∧bV IntKind.i32 (bE IntKind.i32 (bM l (0+Int.toNat (i:Int))) (6)) (63)≤255)∧True∧Int.NonNeg (6-0)∧True∧(0≤bV IntKind.i32 (bE IntKind.i32 (bE IntKind.i32 (bM l (0+Int.toNat (i:Int))) (6)) (6)) (63)∧bV IntKind.i32 (bE IntKind.i32 (bE IntKind.i32 (bM l (0+Int.toNat (i:Int))) (6)) (6)) (63)≤255)∧True∧Int.NonNeg (6-0)∧(0≤bE IntKind.i32 (bE IntKind.i32 (bE IntKind.i32 (bM l (0+Int.toNat (i:Int))) (6)) (6)) (6)∧bE IntKind.i32 (bE IntKind.i32 (bE IntKind.i32 (bM l (0+Int.toNat (i:Int))) (6)) (6)) (6)≤255)∧True∧(-9223372036854775808≤(i:Int)+1∧(i:Int)+1≤9223372036854775807)∧ai .normal [(3,.slice (some ⟨74,0,0,0,1⟩) 4 4),(6,(hP v n c)),(7,.int .i64 (n:Int)),(8,.int .i64 ((i:Int)+1))] (Im i v f b4 b5 ex b6 ty l))
abbrev C1(i:Nat)(v:Nat)(f:Nat)(n:Nat)(c:Nat)(b4:Nat)(b5:Nat)(ex:Bool)(b6:Bool)(ty:Option (TypeId×Nat))(l:List J)(ai:bx→a6→I→Prop):Prop:=(65536≤bM l (0+Int.toNat (i:Int))→True∧(0≤bV IntKind.i32 (bM l (0+Int.toNat (i:Int))) (63)∧bV IntKind.i32 (bM l (0+Int.toNat (i:Int))) (63)≤255)∧True∧Int.NonNeg (6-0)∧True∧(0≤bV IntKind.i32 (bE IntKind.i32 (bM l (0+Int.toNat (i:Int))) (6)) (63)∧bV IntKind.i32 (bE IntKind.i32 (bM l (0+Int.toNat (i:Int))) (6)) (63)≤255)∧True∧Int.NonNeg (6-0)∧True∧(0≤bV IntKind.i32 (bE IntKind.i32 (bE IntKind.i32 (bM l (0+Int.toNat (i:Int))) (6)) (6)) (63)∧bV IntKind.i32 (bE IntKind.i32 (bE IntKind.i32 (bM l (0+Int.toNat (i:Int))) (6)) (6)) (63)≤255)∧True∧Int.NonNeg (6-0)∧(0≤bE IntKind.i32 (bE IntKind.i32 (bE IntKind.i32 (bM l (0+Int.toNat (i:Int))) (6)) (6)) (6)∧bE IntKind.i32 (bE IntKind.i32 (bE IntKind.i32 (bM l (0+Int.toNat (i:Int))) (6)) (6)) (6)≤255)∧True∧(-9223372036854775808≤(i:Int)+1∧(i:Int)+1≤9223372036854775807)∧ai .normal [(3,.slice (some ⟨75,0,0,0,1⟩) 4 4),(6,(hP v n c)),(7,.int .i64 (n:Int)),(8,.int .i64 ((i:Int)+1))] (Io i v f b4 b5 ex b6 ty l))
abbrev Ip:dA:=(an 15001 (an 15002 (an 15003 Si)))
abbrev Iq:dA:=(.bP 6001 (.bP 8001 Ip (an 17001 (an 17002 Il))) (.bP 8001 Ip (an 19001 Ii)))
theorem Sj(i v f n c b4 b5:Nat)(ex b6:Bool)(ty:Option (TypeId×Nat))(l:List J)(ai:bx→a6→I→Prop)(aG:((i:Int)<(n:Int)→(0≤(i:Int)∧(i:Int)<(n:Int))∧v=v∧l[0+Int.toNat (i:Int)]? =some (.int .i32 (bM l (0+Int.toNat (i:Int))))∧(bM l (0+Int.toNat (i:Int))<0→(-9223372036854775808≤(i:Int)+1∧(i:Int)+1≤9223372036854775807)∧ai .normal [(3,vD),(6,(hP v n c)),(7,.int .i64 (n:Int)),(8,.int .i64 ((i:Int)+1))] (vE v f b4 b5 ex b6 ty l))∧(¬bM l (0+Int.toNat (i:Int))<0→(55296≤bM l (0+Int.toNat (i:Int))→(bM l (0+Int.toNat (i:Int))≤57343→(-9223372036854775808≤(i:Int)+1∧(i:Int)+1≤9223372036854775807)∧ai .normal [(3,vD),(6,(hP v n c)),(7,.int .i64 (n:Int)),(8,.int .i64 ((i:Int)+1))] (vE v f b4 b5 ex b6 ty l))∧(¬bM l (0+Int.toNat (i:Int))≤57343→(1114111<bM l (0+Int.toNat (i:Int))→(-9223372036854775808≤(i:Int)+1∧(i:Int)+1≤9223372036854775807)∧ai .normal [(3,vD),(6,(hP v n c)),(7,.int .i64 (n:Int)),(8,.int .i64 ((i:Int)+1))] (vE v f b4 b5 ex b6 ty l))∧(¬1114111<bM l (0+Int.toNat (i:Int))→(CX i v f n c b4 b5 ex b6 ty l ai)∧(¬bM l (0+Int.toNat (i:Int))<128→(2048≤bM l (0+Int.toNat (i:Int))→(C1 i v f n c b4 b5 ex b6 ty l ai)∧(CZ i v f n c b4 b5 ex b6 ty l ai))∧(¬2048≤bM l (0+Int.toNat (i:Int))→(C0 i v f n c b4 b5 ex b6 ty l ai)∧(CY i v f n c b4 b5 ex b6 ty l ai))))))∧(¬55296≤bM l (0+Int.toNat (i:Int))→(1114111<bM l (0+Int.toNat (i:Int))→(-9223372036854775808≤(i:Int)+1∧(i:Int)+1≤9223372036854775807)∧ai .normal [(3,vD),(6,(hP v n c)),(7,.int .i64 (n:Int)),(8,.int .i64 ((i:Int)+1))] (vE v f b4 b5 ex b6 ty l))∧(¬1114111<bM l (0+Int.toNat (i:Int))→(CX i v f n c b4 b5 ex b6 ty l ai)∧(¬bM l (0+Int.toNat (i:Int))<128→(2048≤bM l (0+Int.toNat (i:Int))→(C1 i v f n c b4 b5 ex b6 ty l ai)∧(CZ i v f n c b4 b5 ex b6 ty l ai))∧(¬2048≤bM l (0+Int.toNat (i:Int))→(C0 i v f n c b4 b5 ex b6 ty l ai)∧(CY i v f n c b4 b5 ex b6 ty l ai)))))))∧(¬(i:Int)<(n:Int)→ai (.exit 0) [(3,.slice none 0 0),(6,(hP v n c)),(7,.int .i64 (n:Int)),(8,.int .i64 (i:Int))] (I.bI 2 [(0,(iU v f b4 b5 ex b6 ty l))]))) :
 ∃e ah U,aR Tryz.prog aq 1 18 (aY Tryz.prog 126 0) [(3,.slice none 0 0),(6,.slice (some ⟨0,v,0,0,1⟩) n c),(7,.int .i64 n),(8,.int .i64 i)] (I.rows 1 [(0,gn l v f b4 b5 ex b6 ty)]) e ah U∧ai e ah U :=
 b0 bg mixed jK (hs:= .bP 3000 (an 4000 (an 4001 (he 5002 (.bP 1001 (.skip 6000 (an 6000 .nil)) (.bP 1004 (.bP 1007 (.skip 6000 (an 6000 .nil)) (.bP 1012 (.skip 6000 (an 6000 .nil)) (.bP 3001 (an 4002 (an 6000 .nil)) Iq))) (.bP 1012 (.skip 6000 (an 6000 .nil)) (.bP 3001 (an 4002 (an 6000 .nil)) Iq))))))) .nil) (keep:=[3,6,7,8]) (by kernel_rfl) aG
abbrev Sk:dA:=(an 21005 (an 22003 (an 6000 .nil)))
abbrev vF(v2:Nat)(n2:Nat):J:=J.slice (some {id:=50,ver:=v2+1,idx:=0,fld:=0,es:=1}) (n2+3) (n2+3)
abbrev C2(v2:Nat)(n2:Nat):J:=J.slice (some {id:=50,ver:=v2+1,idx:=0,fld:=0,es:=1}) (n2+4) (n2+4)
abbrev Ir(i:Nat)(v2:Nat)(f2:Nat)(ty:Option (TypeId×Nat))(l:List J)(bX:List J):aJ:=⟨bX++[.int .u8 (bM l (0+Int.toNat (i:Int)))],1,false,false,v2+1,0,if 0=v2 then List.length bX else min f2 (List.length bX),some (5,0)⟩
abbrev yP(v2:Nat)(f2:Nat)(ty:Option (TypeId×Nat))(bX:List J):aJ:=⟨bX++[.int .u8 239,.int .u8 191,.int .u8 189],1,false,false,v2+1,0,if 0=v2 then List.length bX else min f2 (List.length bX),some (5,0)⟩
abbrev Is(i:Nat)(v2:Nat)(f2:Nat)(ty:Option (TypeId×Nat))(l:List J)(bX:List J):aJ:=⟨bX++[.int .u8 (dn IntKind.u8 (bE IntKind.i32 (bM l (0+Int.toNat (i:Int))) (6)) (192)),.int .u8 (dn IntKind.u8 (128) (bV IntKind.i32 (bM l (0+Int.toNat (i:Int))) (63)))],1,false,false,v2+1,0,if 0=v2 then List.length bX else min f2 (List.length bX),some (5,0)⟩
abbrev It(i:Nat)(v2:Nat)(f2:Nat)(ty:Option (TypeId×Nat))(l:List J)(bX:List J):aJ:=⟨bX++[.int .u8 (dn IntKind.u8 (bE IntKind.i32 (bE IntKind.i32 (bM l (0+Int.toNat (i:Int))) (6)) (6)) (224)),.int .u8 (dn IntKind.u8 (128) (bV IntKind.i32 (bE IntKind.i32 (bM l (0+Int.toNat (i:Int))) (6)) (63))),.int .u8 (dn IntKind.u8 (128) (bV IntKind.i32 (bM l (0+Int.toNat (i:Int))) (63)))],1,false,false,v2+1,0,if 0=v2 then List.length bX else min f2 (List.length bX),some (5,0)⟩
abbrev C3(i:Nat)(v2:Nat)(f2:Nat)(ty:Option (TypeId×Nat))(l:List J)(bX:List J):aJ:=⟨bX++[.int .u8 (dn IntKind.u8 (bE IntKind.i32 (bE IntKind.i32 (bE IntKind.i32 (bM l (0+Int.toNat (i:Int))) (6)) (6)) (6)) (240)),.int .u8 (dn IntKind.u8 (128) (bV IntKind.i32 (bE IntKind.i32 (bE IntKind.i32 (bM l (0+Int.toNat (i:Int))) (6)) (6)) (63))),.int .u8 (dn IntKind.u8 (128) (bV IntKind.i32 (bE IntKind.i32 (bM l (0+Int.toNat (i:Int))) (6)) (63))),.int .u8 (dn IntKind.u8 (128) (bV IntKind.i32 (bM l (0+Int.toNat (i:Int))) (63)))],1,false,false,v2+1,0,if 0=v2 then List.length bX else min f2 (List.length bX),some (5,0)⟩
abbrev Iu:dA:=(an 19003 (an 20001 (an 21001 Sk)))
abbrev C4(i:Nat)(v:Nat)(f:Nat)(n:Nat)(c:Nat)(b4:Nat)(b5:Nat)(v2:Nat)(f2:Nat)(n2:Nat)(ex:Bool)(b6:Bool)(ty:Option (TypeId×Nat))(l:List J)(bX:List J)(ai:bx→a6→I→Prop):Prop:=(bM l (0+Int.toNat (i:Int))<128→(0≤bM l (0+Int.toNat (i:Int))∧bM l (0+Int.toNat (i:Int))≤255)∧(v2=v2∧0+n2=List.length bX∧n2<n2+1∧(n2+1+(n2+1)/4+512)*1≤281474976710656∧n2+1<4611686018427387904)∧(-9223372036854775808≤(i:Int)+1∧(i:Int)+1≤9223372036854775807)∧ai .normal [(3,.slice (some {id:=50,ver:=v2+1,idx:=0,fld:=0,es:=1}) (n2+1) (n2+1)),(6,(hP v n c)),(7,.int .i64 (n:Int)),(8,.int .i64 ((i:Int)+1))] (I.bI 93 [(0,(iU v f b4 b5 ex b6 ty l)),(50,(Ir i v2 f2 ty l bX)),(88,aJ.made [.int .u8 (bM l (0+Int.toNat (i:Int)))] 1 true)]))
abbrev C5(i:Nat)(v:Nat)(f:Nat)(n:Nat)(c:Nat)(b4:Nat)(b5:Nat)(v2:Nat)(f2:Nat)(n2:Nat)(ex:Bool)(b6:Bool)(ty:Option (TypeId×Nat))(l:List J)(bX:List J)(ai:bx→a6→I→Prop):Prop:=(¬65536≤bM l (0+Int.toNat (i:Int))→True∧(0≤bV IntKind.i32 (bM l (0+Int.toNat (i:Int))) (63)∧bV IntKind.i32 (bM l (0+Int.toNat (i:Int))) (63)≤255)∧True∧Int.NonNeg (6-0)∧(0≤bE IntKind.i32 (bM l (0+Int.toNat (i:Int))) (6)∧bE IntKind.i32 (bM l (0+Int.toNat (i:Int))) (6)≤255)∧True∧(v2=v2∧0+n2=List.length bX∧n2<n2+2∧(n2+2+(n2+2)/4+512)*1≤281474976710656∧n2+2<4611686018427387904)∧(-9223372036854775808≤(i:Int)+1∧(i:Int)+1≤9223372036854775807)∧ai .normal [(3,.slice (some {id:=50,ver:=v2+1,idx:=0,fld:=0,es:=1}) (n2+2) (n2+2)),(6,(hP v n c)),(7,.int .i64 (n:Int)),(8,.int .i64 ((i:Int)+1))] (I.bI 122 [(0,(iU v f b4 b5 ex b6 ty l)),(50,(Is i v2 f2 ty l bX)),(90,(aJ.made ([(yN i l)]) 4 true (some (220,4))))]))
abbrev C6(i:Nat)(v:Nat)(f:Nat)(n:Nat)(c:Nat)(b4:Nat)(b5:Nat)(v2:Nat)(f2:Nat)(n2:Nat)(ex:Bool)(b6:Bool)(ty:Option (TypeId×Nat))(l:List J)(bX:List J)(ai:bx→a6→I→Prop):Prop:=(¬65536≤bM l (0+Int.toNat (i:Int))→True∧(0≤bV IntKind.i32 (bM l (0+Int.toNat (i:Int))) (63)∧bV IntKind.i32 (bM l (0+Int.toNat (i:Int))) (63)≤255)∧True∧Int.NonNeg (6-0)∧True∧(0≤bV IntKind.i32 (bE IntKind.i32 (bM l (0+Int.toNat (i:Int))) (6)) (63)∧bV IntKind.i32 (bE IntKind.i32 (bM l (0+Int.toNat (i:Int))) (6)) (63)≤255)∧True∧Int.NonNeg (6-0)∧(0≤bE IntKind.i32 (bE IntKind.i32 (bM l (0+Int.toNat (i:Int))) (6)) (6)∧bE IntKind.i32 (bE IntKind.i32 (bM l (0+Int.toNat (i:Int))) (6)) (6)≤255)∧True∧(v2=v2∧0+n2=List.length bX∧n2<n2+3∧(n2+3+(n2+3)/4+512)*1≤281474976710656∧n2+3<4611686018427387904)∧(-9223372036854775808≤(i:Int)+1∧(i:Int)+1≤9223372036854775807)∧ai .normal [(3,(vF v2 n2)),(6,(hP v n c)),(7,.int .i64 (n:Int)),(8,.int .i64 ((i:Int)+1))] (I.bI 130 [(0,(iU v f b4 b5 ex b6 ty l)),(50,(It i v2 f2 ty l bX)),(91,(aJ.made ([(yO i l)]) 4 true (some (220,4))))]))
abbrev Sl:dA:=(an 18001 (an 19001 (an 19002 Iu)))
abbrev C7(i:Nat)(v:Nat)(f:Nat)(n:Nat)(c:Nat)(b4:Nat)(b5:Nat)(v2:Nat)(f2:Nat)(n2:Nat)(ex:Bool)(b6:Bool)(ty:Option (TypeId×Nat))(l:List J)(bX:List J)(ai:bx→a6→I→Prop):Prop:=(1114111<bM l (0+Int.toNat (i:Int))→(v2=v2∧0+n2=List.length bX∧n2<n2+3∧(n2+3+(n2+3)/4+512)*1≤281474976710656∧n2+3<4611686018427387904)∧(-9223372036854775808≤(i:Int)+1∧(i:Int)+1≤9223372036854775807)∧ai .normal [(3,(vF v2 n2)),(6,(hP v n c)),(7,.int .i64 (n:Int)),(8,.int .i64 ((i:Int)+1))] (I.bI 131 [(0,(iU v f b4 b5 ex b6 ty l)),(50,(yP v2 f2 ty bX)),(92,s3)]))
abbrev C8(i:Nat)(v:Nat)(f:Nat)(n:Nat)(c:Nat)(b4:Nat)(b5:Nat)(v2:Nat)(f2:Nat)(n2:Nat)(ex:Bool)(b6:Bool)(ty:Option (TypeId×Nat))(l:List J)(bX:List J)(ai:bx→a6→I→Prop):Prop:=(65536≤bM l (0+Int.toNat (i:Int))→True∧(0≤bV IntKind.i32 (bM l (0+Int.toNat (i:Int))) (63)∧bV IntKind.i32 (bM l (0+Int.toNat (i:Int))) (63)≤255)∧True∧Int.NonNeg (6-0)∧True∧(0≤bV IntKind.i32 (bE IntKind.i32 (bM l (0+Int.toNat (i:Int))) (6)) (63)∧bV IntKind.i32 (bE IntKind.i32 (bM l (0+Int.toNat (i:Int))) (6)) (63)≤255)∧True∧Int.NonNeg (6-0)∧True∧(0≤bV IntKind.i32 (bE IntKind.i32 (bE IntKind.i32 (bM l (0+Int.toNat (i:Int))) (6)) (6)) (63)∧bV IntKind.i32 (bE IntKind.i32 (bE IntKind.i32 (bM l (0+Int.toNat (i:Int))) (6)) (6)) (63)≤255)∧True∧Int.NonNeg (6-0)∧(0≤bE IntKind.i32 (bE IntKind.i32 (bE IntKind.i32 (bM l (0+Int.toNat (i:Int))) (6)) (6)) (6)∧bE IntKind.i32 (bE IntKind.i32 (bE IntKind.i32 (bM l (0+Int.toNat (i:Int))) (6)) (6)) (6)≤255)∧True∧(v2=v2∧0+n2=List.length bX∧n2<n2+4∧(n2+4+(n2+4)/4+512)*1≤281474976710656∧n2+4<4611686018427387904)∧(-9223372036854775808≤(i:Int)+1∧(i:Int)+1≤9223372036854775807)∧ai .normal [(3,(C2 v2 n2)),(6,(hP v n c)),(7,.int .i64 (n:Int)),(8,.int .i64 ((i:Int)+1))] (I.bI 137 [(0,(iU v f b4 b5 ex b6 ty l)),(50,(C3 i v2 f2 ty l bX)),(91,(s4 i l))]))
abbrev C9(i:Nat)(v:Nat)(f:Nat)(n:Nat)(c:Nat)(b4:Nat)(b5:Nat)(v2:Nat)(f2:Nat)(n2:Nat)(ex:Bool)(b6:Bool)(ty:Option (TypeId×Nat))(l:List J)(bX:List J)(ai:bx→a6→I→Prop):Prop:=(65536≤bM l (0+Int.toNat (i:Int))→True∧(0≤bV IntKind.i32 (bM l (0+Int.toNat (i:Int))) (63)∧bV IntKind.i32 (bM l (0+Int.toNat (i:Int))) (63)≤255)∧True∧Int.NonNeg (6-0)∧True∧(0≤bV IntKind.i32 (bE IntKind.i32 (bM l (0+Int.toNat (i:Int))) (6)) (63)∧bV IntKind.i32 (bE IntKind.i32 (bM l (0+Int.toNat (i:Int))) (6)) (63)≤255)∧True∧Int.NonNeg (6-0)∧True∧(0≤bV IntKind.i32 (bE IntKind.i32 (bE IntKind.i32 (bM l (0+Int.toNat (i:Int))) (6)) (6)) (63)∧bV IntKind.i32 (bE IntKind.i32 (bE IntKind.i32 (bM l (0+Int.toNat (i:Int))) (6)) (6)) (63)≤255)∧True∧Int.NonNeg (6-0)∧(0≤bE IntKind.i32 (bE IntKind.i32 (bE IntKind.i32 (bM l (0+Int.toNat (i:Int))) (6)) (6)) (6)∧bE IntKind.i32 (bE IntKind.i32 (bE IntKind.i32 (bM l (0+Int.toNat (i:Int))) (6)) (6)) (6)≤255)∧True∧(v2=v2∧0+n2=List.length bX∧n2<n2+4∧(n2+4+(n2+4)/4+512)*1≤281474976710656∧n2+4<4611686018427387904)∧(-9223372036854775808≤(i:Int)+1∧(i:Int)+1≤9223372036854775807)∧ai .normal [(3,(C2 v2 n2)),(6,(hP v n c)),(7,.int .i64 (n:Int)),(8,.int .i64 ((i:Int)+1))] (I.bI 138 [(0,(iU v f b4 b5 ex b6 ty l)),(50,(C3 i v2 f2 ty l bX)),(92,(s4 i l))]))
abbrev Iv:dA:=(an 17001 (an 17002 (an 17003 Sl)))
abbrev Iw:dA:=(an 15002 (an 15003 (an 16001 Iv)))
abbrev Ix:dA:=(.bP 6001 (.bP 8001 (an 15001 Iw) Iv) (.bP 8001 (an 15001 Iw) (an 19001 (an 19002 Iu))))
theorem Iy(i v f n c b4 b5 v2 f2 n2:Nat)(ex b6:Bool)(ty:Option (TypeId×Nat))(l bX:List J)(ai:bx→a6→I→Prop)(aG:((i:Int)<(n:Int)→(0≤(i:Int)∧(i:Int)<(n:Int))∧v=v∧l[0+Int.toNat (i:Int)]? =some (.int .i32 (bM l (0+Int.toNat (i:Int))))∧(bM l (0+Int.toNat (i:Int))<0→(v2=v2∧0+n2=List.length bX∧n2<n2+3∧(n2+3+(n2+3)/4+512)*1≤281474976710656∧n2+3<4611686018427387904)∧(-9223372036854775808≤(i:Int)+1∧(i:Int)+1≤9223372036854775807)∧ai .normal [(3,(vF v2 n2)),(6,(hP v n c)),(7,.int .i64 (n:Int)),(8,.int .i64 ((i:Int)+1))] (I.bI 131 [(0,(iU v f b4 b5 ex b6 ty l)),(50,(yP v2 f2 ty bX)),(92,s3)]))∧(¬bM l (0+Int.toNat (i:Int))<0→(55296≤bM l (0+Int.toNat (i:Int))→(bM l (0+Int.toNat (i:Int))≤57343→(v2=v2∧0+n2=List.length bX∧n2<n2+3∧(n2+3+(n2+3)/4+512)*1≤281474976710656∧n2+3<4611686018427387904)∧(-9223372036854775808≤(i:Int)+1∧(i:Int)+1≤9223372036854775807)∧ai .normal [(3,(vF v2 n2)),(6,(hP v n c)),(7,.int .i64 (n:Int)),(8,.int .i64 ((i:Int)+1))] (I.bI 131 [(0,(iU v f b4 b5 ex b6 ty l)),(50,(yP v2 f2 ty bX)),(92,s3)]))∧(¬bM l (0+Int.toNat (i:Int))≤57343→(C7 i v f n c b4 b5 v2 f2 n2 ex b6 ty l bX ai)∧(¬1114111<bM l (0+Int.toNat (i:Int))→(C4 i v f n c b4 b5 v2 f2 n2 ex b6 ty l bX ai)∧(¬bM l (0+Int.toNat (i:Int))<128→(2048≤bM l (0+Int.toNat (i:Int))→(C9 i v f n c b4 b5 v2 f2 n2 ex b6 ty l bX ai)∧(C6 i v f n c b4 b5 v2 f2 n2 ex b6 ty l bX ai))∧(¬2048≤bM l (0+Int.toNat (i:Int))→(C8 i v f n c b4 b5 v2 f2 n2 ex b6 ty l bX ai)∧(C5 i v f n c b4 b5 v2 f2 n2 ex b6 ty l bX ai))))))∧(¬55296≤bM l (0+Int.toNat (i:Int))→(C7 i v f n c b4 b5 v2 f2 n2 ex b6 ty l bX ai)∧(¬1114111<bM l (0+Int.toNat (i:Int))→(C4 i v f n c b4 b5 v2 f2 n2 ex b6 ty l bX ai)∧(¬bM l (0+Int.toNat (i:Int))<128→(2048≤bM l (0+Int.toNat (i:Int))→(C9 i v f n c b4 b5 v2 f2 n2 ex b6 ty l bX ai)∧(C6 i v f n c b4 b5 v2 f2 n2 ex b6 ty l bX ai))∧(¬2048≤bM l (0+Int.toNat (i:Int))→(C8 i v f n c b4 b5 v2 f2 n2 ex b6 ty l bX ai)∧(C5 i v f n c b4 b5 v2 f2 n2 ex b6 ty l bX ai)))))))∧(¬(i:Int)<(n:Int)→ai (.exit 0) [(3,.slice (some ⟨50,v2,0,0,1⟩) n2 n2),(6,(hP v n c)),(7,.int .i64 (n:Int)),(8,.int .i64 (i:Int))] (I.bI 61 [(0,(iU v f b4 b5 ex b6 ty l)),(50,⟨bX,1,false,false,v2,0,f2,some (5,0)⟩)]))) :
 ∃e ah U,aR Tryz.prog aq 1 18 (aY Tryz.prog 126 0) [(3,.slice (some ⟨50,v2,0,0,1⟩) n2 n2),(6,.slice (some ⟨0,v,0,0,1⟩) n c),(7,.int .i64 n),(8,.int .i64 i)] (I.rows 60 [(0,gn l v f b4 b5 ex b6 ty),(50,lW bX v2 f2)]) e ah U∧ai e ah U :=
 b0 bg mixed jK (hs:= .bP 3000 (an 4000 (an 4001 (he 5002 (.bP 1001 (an 22003 (an 6000 .nil)) (.bP 1004 (.bP 1007 (an 22003 (an 6000 .nil)) (.bP 1012 (an 22003 (an 6000 .nil)) (.bP 3001 (an 4002 (an 4004 (an 6000 .nil))) Ix))) (.bP 1012 (an 22003 (an 6000 .nil)) (.bP 3001 (an 4002 (an 4004 (an 6000 .nil))) Ix))))))) .nil) (keep:=[3,6,7,8]) (by kernel_rfl) aG
end Go.Proofs.YtjpfnbihopoeeaaGreatDoor
namespace Go.ba
theorem oT(x:Nat)(h:x<2^31):bV .i32 (x:Int) 63=((x%64:Nat):Int):=by
 unfold bV;rw [BitVec.toNat_and]
 have a:(BitVec.ofInt IntKind.i32.bits (x:Int)).toNat=x:=by show(BitVec.ofInt 32 (x:Int)).toNat=x;rw [BitVec.toNat_ofInt];omega
 have b:(BitVec.ofInt IntKind.i32.bits 63).toNat=63:=by decide
 rw [a,b,show x &&& 63=x%64 from Nat.and_two_pow_sub_one_eq_mod x 6];exact oB (k:= .i32) (by simp only [mz];omega)
theorem ke(x:Nat):bE .i32 (x:Int) 6=((x/64:Nat):Int):=by unfold bE;show Int.fdiv (x:Int) 64=_;rw [Int.fdiv_eq_ediv_of_nonneg _ (by decide)];rfl
theorem s5:∀m:Fin 64,dn .u8 128 (m.val:Int)=((128+m.val:Nat):Int):=by decide+kernel
theorem Sm:∀m:Fin 32,dn .u8 (m.val:Int) 192=((192+m.val:Nat):Int):=by decide+kernel
theorem Sn:∀m:Fin 16,dn .u8 (m.val:Int) 224=((224+m.val:Nat):Int):=by decide+kernel
theorem So:∀m:Fin 8,dn .u8 (m.val:Int) 240=((240+m.val:Nat):Int):=by decide+kernel
end Go.ba
namespace Go.Proofs.YtjpfnbihopoeeaaGreatDoor
open Go.ba Go.Keys
theorem nQ{n:Nat}(h:n<256):((u8 n).toNat:Int)=n:=by
 have:(u8 n).toNat=n%256:=by unfold u8;simp [UInt8.toNat_ofNat']
 rw [this];omega
theorem yQ{x:Nat}(h:¬(55296≤x∧x≤57343∨1114111<x)):put x=if x<128 then [u8 x]else if x<2048 then [u8 (192+x/64),u8 (128+x%64)]else if x<65536 then [u8 (224+x/4096),u8 (128+x/64%64),u8 (128+x%64)]else [u8 (240+x/262144),u8 (128+x/4096%64),u8 (128+x/64%64),u8 (128+x%64)]:=by unfold put;simp only [if_neg h]
theorem Iz{x:Nat}(h:x<128): [J.int .u8 (x:Int)]=ep (put x):=by rw [yQ (by omega),if_pos h];simp only [ep,List.map_cons,List.map_nil,nQ (show x<256 by omega)]
theorem IA{x:Nat}(h:128≤x)(ak:x<2048): [J.int .u8 (dn .u8 (bE .i32 (x:Int) 6) 192),J.int .u8 (dn .u8 128 (bV .i32 (x:Int) 63))]=ep (put x):=by rw [yQ (by omega),if_neg (by omega),if_pos ak];simp only [ep,List.map_cons,List.map_nil,nQ (show 192+x/64<256 by omega),nQ (show 128+x%64<256 by omega)];rw [oT x (by omega),ke,Sm ⟨x/64,by omega⟩,s5 ⟨x%64,by omega⟩]
theorem IB{x:Nat}(h:2048≤x)(ak:x<65536)(aP:¬(55296≤x∧x≤57343)): [J.int .u8 (dn .u8 (bE .i32 (bE .i32 (x:Int) 6) 6) 224),J.int .u8 (dn .u8 128 (bV .i32 (bE .i32 (x:Int) 6) 63)),J.int .u8 (dn .u8 128 (bV .i32 (x:Int) 63))]=ep (put x):=by rw [yQ (by omega),if_neg (by omega),if_neg (by omega),if_pos ak];simp only [ep,List.map_cons,List.map_nil,nQ (show 224+x/4096<256 by omega),nQ (show 128+x/64%64<256 by omega),nQ (show 128+x%64<256 by omega)];rw [oT x (by omega),ke,ke,oT (x/64) (by omega),Sn ⟨x/64/64,by omega⟩,s5 ⟨x%64,by omega⟩,s5 ⟨x/64%64,by omega⟩];simp only [show x/64/64=x/4096 by omega]
theorem IC{x:Nat}(h:65536≤x)(ak:x≤1114111): [J.int .u8 (dn .u8 (bE .i32 (bE .i32 (bE .i32 (x:Int) 6) 6) 6) 240),J.int .u8 (dn .u8 128 (bV .i32 (bE .i32 (bE .i32 (x:Int) 6) 6) 63)),J.int .u8 (dn .u8 128 (bV .i32 (bE .i32 (x:Int) 6) 63)),J.int .u8 (dn .u8 128 (bV .i32 (x:Int) 63))]=ep (put x):=by rw [yQ (by omega),if_neg (by omega),if_neg (by omega),if_neg (by omega)];simp only [ep,List.map_cons,List.map_nil,nQ (show 240+x/262144<256 by omega),nQ (show 128+x/4096%64<256 by omega),nQ (show 128+x/64%64<256 by omega),nQ (show 128+x%64<256 by omega)];rw [oT x (by omega),ke,ke,ke,oT (x/64) (by omega),oT (x/64/64) (by omega),So ⟨x/64/64/64,by omega⟩,s5 ⟨x%64,by omega⟩,s5 ⟨x/64%64,by omega⟩,s5 ⟨x/64/64%64,by omega⟩];simp only [show x/64/64=x/4096 by omega,show x/4096/64=x/262144 by omega]
theorem ID{x:Nat}(h:(55296≤x∧x≤57343)∨1114111<x): [J.int .u8 239,J.int .u8 191,J.int .u8 189]=ep (put x):=by unfold put;simp only;rw [if_pos h];rfl
theorem yR{x:Nat}(h:x<2^31):0≤bV .i32 (x:Int) 63∧bV .i32 (x:Int) 63≤255:=by rw [oT x h];omega
theorem yS{x:Nat}(h:x<2^31):0≤bV .i32 (bE .i32 (x:Int) 6) 63∧bV .i32 (bE .i32 (x:Int) 6) 63≤255:=by rw [ke,oT _ (by omega)];omega
theorem yT{x:Nat}(h:x<2^31):0≤bV .i32 (bE .i32 (bE .i32 (x:Int) 6) 6) 63∧bV .i32 (bE .i32 (bE .i32 (x:Int) 6) 6) 63≤255:=by rw [ke,ke,oT _ (by omega)];omega
theorem yU{x:Nat}(h:x<2048):0≤bE .i32 (x:Int) 6∧bE .i32 (x:Int) 6≤255:=by rw [ke];omega
theorem yV{x:Nat}(h:x<65536):0≤bE .i32 (bE .i32 (x:Int) 6) 6∧bE .i32 (bE .i32 (x:Int) 6) 6≤255:=by rw [ke,ke];omega
theorem yW{x:Nat}(h:x≤1114111):0≤bE .i32 (bE .i32 (bE .i32 (x:Int) 6) 6) 6∧bE .i32 (bE .i32 (bE .i32 (x:Int) 6) 6) 6≤255:=by rw [ke,ke,ke];omega
def Has(l:List J)(L:List Nat):Prop:= ∀i,(h:i<L.length)→l[i]? =some (.int .i32 (L[i]:Nat))
theorem Has.int{l:List J}{L:List Nat}(k:Has l L){i:Nat}(h:i<L.length):bM l i=(L[i]:Nat):=by unfold bM;rw [k i h]
theorem IE{L:List Nat}{i:Nat}(h:i<L.length):(rs L)[i]? =some (.int .i32 (L[i]:Nat)):=by simp [rs,h]
theorem yX(l:List UInt8):(ep l).length=l.length:=by simp [ep]
theorem Sp(a b:List UInt8):ep (a++b)=ep a++ep b:=by simp [ep]
abbrev mQ(v n c i v2 n2 j:Nat):a6:=[(3,.slice (some ⟨j,v2,0,0,1⟩) n2 n2),(6,.slice (some ⟨0,v,0,0,1⟩) n c),(7,.int .i64 (n:Nat)),(8,.int .i64 (i:Nat))]
def vG(v f n c i v2:Nat)(R:aJ)(acc:List UInt8)(x yY:Nat)(e:bx)(ah:a6)(U:I):Prop :=
 ∃j,1≤j∧e=.normal∧ah=mQ v n c (i+1) v2 (acc.length+(put x).length) j∧U.get 0=some R∧U.get j=some (lW (ep (acc++put x)) v2 yY)
theorem nR{v f n c i v2 x yY j n2:Nat}{R:aJ}{acc:List UInt8}{lJ:List J}{U:I}{i1:Int}(ao:lJ=ep (put x))(ay:1≤j)(az:n2=acc.length+lJ.length)(ac:i1=((i+1:Nat):Int))(bt:U.get 0=some R)(an:U.get j=some (lW (ep acc++lJ) v2 yY)) :
 vG v f n c i v2 R acc x yY .normal [(3,.slice (some ⟨j,v2,0,0,1⟩) n2 n2),(6,.slice (some ⟨0,v,0,0,1⟩) n c),(7,.int .i64 (n:Nat)),(8,.int .i64 i1)] U:=by
 subst ao ac az;rw [yX];exact⟨j,ay,rfl,rfl,bt,by rw [Sp];exact an⟩
theorem Sq(L:List Nat)(v f i c b4 b5:Nat)(ex b6:Bool)(ty:Option (TypeId×Nat))(l:List J)(de:Has l L)(ac:i<L.length)(aF:L.length<2^41)(ab:L[i]<2^31):∃e ah U,aR Tryz.prog aq 1 18 (aY Tryz.prog 126 0) [(3,.slice none 0 0),(6,.slice (some ⟨0,v,0,0,1⟩) L.length c),(7,.int .i64 L.length),(8,.int .i64 i)] (I.rows 1 [(0,gn l v f b4 b5 ex b6 ty)]) e ah U∧vG v f L.length c i 0 (gn l v f b4 b5 ex b6 ty) [] L[i] 0 e ah U:=by
 refine Sj i v f L.length c b4 b5 ex b6 ty l (vG v f L.length c i 0 (gn l v f b4 b5 ex b6 ty) [] L[i] 0) ?_
 delta iU hP CY Ij yN C0 Im s4 CW CZ Ik yO C1 Io CX vE s3 CV vD
 rw [show 0+Int.toNat (i:Int)=i by simp,de.int ac,de i ac];generalize L[i]=x at ab;have li:((i:Int)+1)=((i+1:Nat):Int):=by omega
 refine⟨fun _=>⟨⟨by omega,by omega⟩,rfl,rfl,?_⟩,fun h=>by omega⟩
 repeat' (first|exact True.intro|apply And.intro|intro _)
 all_goals first
  |omega
  |(exfalso;omega)
  |exact lV
  |exact(yR ab).1|exact(yR ab).2|exact(yS ab).1|exact(yS ab).2|exact(yT ab).1|exact(yT ab).2
  |exact(yU (by omega)).1|exact(yU (by omega)).2|exact(yV (by omega)).1|exact(yV (by omega)).2|exact(yW (by omega)).1|exact(yW (by omega)).2
  |exact nR (acc:=[]) (Iz (by omega)) (by decide) rfl li rfl rfl
  |exact nR (acc:=[]) (IA (by omega) (by omega)) (by decide) rfl li rfl rfl
  |exact nR (acc:=[]) (ID (by omega)) (by decide) rfl li rfl rfl
  |exact nR (acc:=[]) (IB (by omega) (by omega) (by omega)) (by decide) rfl li rfl rfl
  |exact nR (acc:=[]) (IC (by omega) (by omega)) (by decide) rfl li rfl rfl
theorem Sr(L:List Nat)(acc:List UInt8)(v f i v2 f2 c b4 b5:Nat)(ex b6:Bool)(ty:Option (TypeId×Nat))(l:List J)(de:Has l L)(ac:i<L.length)(aF:L.length<2^41)(aW:acc.length<2^44)(ab:L[i]<2^31):∃e ah U,aR Tryz.prog aq 1 18 (aY Tryz.prog 126 0) (mQ v L.length c i v2 acc.length 50) (I.rows 60 [(0,gn l v f b4 b5 ex b6 ty),(50,lW (ep acc) v2 f2)]) e ah U ∧
 vG v f L.length c i (v2+1) (gn l v f b4 b5 ex b6 ty) acc L[i] (if 0=v2 then(ep acc).length else min f2 (ep acc).length) e ah U:=by
 refine Iy i v f L.length c b4 b5 v2 f2 acc.length ex b6 ty l (ep acc) (vG v f L.length c i (v2+1) (gn l v f b4 b5 ex b6 ty) acc L[i] (if 0=v2 then(ep acc).length else min f2 (ep acc).length)) ?_
 delta iU hP C5 yN Is C8 s4 CW C3 C2 C6 yO It vF C9 C4 Ir C7 s3 CV yP
 rw [show 0+Int.toNat (i:Int)=i by simp,de.int ac,de i ac];generalize L[i]=x at ab;have li:((i:Int)+1)=((i+1:Nat):Int):=by omega
 have lb:=yX acc;refine⟨fun _=>⟨⟨by omega,by omega⟩,rfl,rfl,?_⟩,fun h=>by omega⟩
 repeat' (first|exact True.intro|apply And.intro|intro _)
 all_goals first
  |omega
  |(exfalso;omega)
  |exact lV
  |exact(yR ab).1|exact(yR ab).2|exact(yS ab).1|exact(yS ab).2|exact(yT ab).1|exact(yT ab).2
  |exact(yU (by omega)).1|exact(yU (by omega)).2|exact(yV (by omega)).1|exact(yV (by omega)).2|exact(yW (by omega)).1|exact(yW (by omega)).2
  |exact nR (Iz (by omega)) (by decide) rfl li rfl rfl
  |exact nR (IA (by omega) (by omega)) (by decide) rfl li rfl rfl
  |exact nR (ID (by omega)) (by decide) rfl li rfl rfl
  |exact nR (IB (by omega) (by omega) (by omega)) (by decide) rfl li rfl rfl
  |exact nR (IC (by omega) (by omega)) (by decide) rfl li rfl rfl
theorem Ss(lX f n c b4 b5 v2 f2 n2:Nat)(ex b6:Bool)(ty:Option (TypeId×Nat))(l bX:List J)(ai:J→I→Prop)(aG:aR Tryz.prog aq 1 18 (Code.loop (aY Tryz.prog 126 0)) [(3,.slice none 0 0),(6,.slice (some ⟨0,lX,0,0,1⟩) n c),(7,.int .i64 (n:Int)),(8,.int .i64 0)] (I.bI 6 [(0,{a':=l,es:=b5,exact:=ex,ro:=b6,ver:=lX,eD:=b4,hU:=f,ty:=ty})]) (.exit 0) (mQ lX n c n v2 n2 50) (I.bI 60 [(0,gn l lX f b4 b5 ex b6 ty),(50,lW bX v2 f2)])∧v2=v2∧0+n2≤List.length bX∧(∃l,List.take n2 (List.drop (aO.idx ⟨50,v2,0,0,1⟩) (aJ.a' ⟨bX,1,false,false,v2,0,f2,some (5,0)⟩))=ep l)∧ai (.str (strOf (List.take n2 bX))) (I.bI 63 [(0,{a':=l,es:=b5,exact:=ex,ro:=b6,ver:=lX,eD:=b4,hU:=f,ty:=ty}),(50,⟨bX,1,false,false,v2,0,f2,some (5,0)⟩)])) :
 ∃v U,aZ Tryz.prog aq 126 [.slice (some ⟨0,lX,0,0,1⟩) n c] (I.of [gn l lX f b4 b5 ex b6 ty]) v U∧ai v U :=
 cE bg mixed jK (hs:= .aa (.keep [3,6,7,8]) (.aa (.loop (mQ lX n c n v2 n2 50) (I.bI 60 [(0,gn l lX f b4 b5 ex b6 ty),(50,lW bX v2 f2)]) (.exit 0)) (an 7001 .nil))) (by kernel_rfl) aG
end Go.Proofs.YtjpfnbihopoeeaaGreatDoor
namespace Go.Keys
theorem C'(x:Nat)(l:List Nat):g' (x::l)=put x++g' l:=rfl
theorem IF:g' []=[]:=rfl
theorem Da(r:Nat):(put r).length≤4:=by
 unfold put;simp only
 repeat' split
 all_goals simp
theorem Db:∀l:List Nat,(g' l).length≤4*l.length
 |[]=>by simp [IF]
 |x::l=>by rw [C',List.length_append,List.length_cons];have:=Da x;have:=Db l;omega
end Go.Keys
namespace Go.Proofs.YtjpfnbihopoeeaaGreatDoor
open Go.ba Go.Keys
theorem St(l:List UInt8):∀e∈ep l,ey e:=by intro e he;obtain⟨b,_,rfl⟩:=List.mem_map.1 he;exact ey.int _ _
theorem Dc(acc:List UInt8)(v f:Nat):jg (lW (ep acc) v f):=St acc
theorem Su(a b:aJ):I.rows 60 [(0,a),(50,b)]=I.bI 60 [(0,a),(50,b)]:=by kernel_rfl
theorem Sv{n l c v:Nat} :cw (Go.ba.lQ [0,50]) (.slice (some ⟨0,v,0,0,1⟩) l c):=(by show(0:Nat)∈ [0,50];simp)
theorem Sw{n l c v:Nat} :cw (Go.ba.lQ [0,50]) (.slice (some ⟨50,v,0,0,1⟩) l c):=(by show(50:Nat)∈ [0,50];simp)
theorem Dd{v n c i v2 n2 j:Nat}{U:I}{R B:aJ}(ay:1≤j)(e2:jg R)(aX:jg B)(bt:U.get 0=some R)(an:U.get j=some B):bL 1 18 (mQ v n c i v2 n2 j) U (mQ v n c i v2 n2 50) (I.rows 60 [(0,R),(50,B)]):=by
 refine bL.move (K:=60) (l:=[(0,R),(50,B)]) (fun k=>if k=0 then 0 else j) ?_ rfl ?_ rfl ?_ ?_ rfl ?_ ?_
 ·simp [bt,an,e2.bF,aX.bF]
 ·simp;omega
 ·simp;exact ay
 ·simp [J.bF,aO.bF]
 ·exact cG.cons (Sw (n:=0)) (cG.cons (Sv (n:=0)) (cG.cons trivial (cG.cons trivial cG.nil)))
 ·exact cG.cons (fun e he=>(e2 e he).ox _) (cG.cons (fun e he=>(aX e he).ox _) cG.nil)
theorem Sx(L:List Nat)(v f:Nat)(b4 b5 c:Nat)(ex b6:Bool)(ty:Option (TypeId×Nat))(l:List J)(de:Has l L)(ao:∀e∈l,ey e)(aF:L.length<2^41)(ab:∀x∈L,x<2^31):∀(k i:Nat)(acc:List UInt8)(v2 f2:Nat),L.length-i≤k→i≤L.length→acc.length≤4*i→ ∃v3 f3,
 bf Tryz.prog aq 1 18 (aY Tryz.prog 126 0) (mQ v L.length c i v2 acc.length 50) (I.rows 60 [(0,gn l v f b4 b5 ex b6 ty),(50,lW (ep acc) v2 f2)]) (.exit 0) (mQ v L.length c L.length v3 (acc++g' (L.drop i)).length 50)
  (I.rows 60 [(0,gn l v f b4 b5 ex b6 ty),(50,lW (ep (acc++g' (L.drop i))) v3 f3)]):=by
 intro k
 have fin:∀(acc:List UInt8)(v2 f2:Nat),∃v3 f3,bf Tryz.prog aq 1 18 (aY Tryz.prog 126 0) (mQ v L.length c L.length v2 acc.length 50) (I.rows 60 [(0,gn l v f b4 b5 ex b6 ty),(50,lW (ep acc) v2 f2)]) (.exit 0) (mQ v L.length c L.length v3 (acc++g' (L.drop L.length)).length 50)
  (I.rows 60 [(0,gn l v f b4 b5 ex b6 ty),(50,lW (ep (acc++g' (L.drop L.length))) v3 f3)]):=by
  intro acc v2 f2;obtain⟨e,ah,U,aC,rfl,rfl,bt,an⟩:=Iy L.length v f L.length c b4 b5 v2 f2 acc.length ex b6 ty l (ep acc) (fun e ah U=>e=.exit 0∧ah=mQ v L.length c L.length v2 acc.length 50∧U.get 0=some (gn l v f b4 b5 ex b6 ty)∧U.get 50=some (lW (ep acc) v2 f2)) ⟨fun h=>by omega,fun _=>⟨rfl,rfl,rfl,rfl⟩⟩;refine⟨v2,f2,?_⟩;rw [List.drop_length,IF,List.append_nil];exact(bf.last (by simp) aC).post (Dd (R:=gn l v f b4 b5 ex b6 ty) (by decide) (ao) (Dc _ _ _) bt an)
 induction k with
 |zero =>
  intro i acc v2 f2 az ac aW;obtain rfl:i=L.length:=by omega
  exact fin acc v2 f2
 |succ k ih =>
  intro i acc v2 f2 az ac aW;by_cases ar:i<L.length
  ·obtain⟨e,ah,U,aC,j,ay,rfl,rfl,bt,an⟩:=Sr L acc v f i v2 f2 c b4 b5 ex b6 ty l de ar aF (by omega) (ab _ (List.getElem_mem ar));have ag:=Da L[i];obtain⟨v3,f3,de⟩:=ih (i+1) (acc++put L[i]) (v2+1) _ (by omega) (by omega) (by rw [List.length_append];omega)
   have bo:(acc++put L[i])++g' (L.drop (i+1))=acc++g' (L.drop i):=by rw [List.drop_eq_getElem_cons ar,C',List.append_assoc]
   rw [bo]at de;refine⟨v3,f3,bf.step (aC.post ?_) de⟩;rw [List.length_append];exact Dd (R:=gn l v f b4 b5 ex b6 ty) ay (ao) (Dc _ _ _) bt an
  ·obtain rfl:i=L.length:=by omega
   exact fin acc v2 f2
theorem IG{L:List Nat}{v f b4 b5 c:Nat}{ex b6:Bool}{ty:Option (TypeId×Nat)}{l:List J}(de:Has l L)(ao:∀e∈l,ey e)(aF:L.length<2^41)(ab:∀x∈L,x<2^31)(bt:L≠[]){H:I}{id:Nat}(hid:id<H.next)(an:H.get id=some (gn l v f b4 b5 ex b6 ty)) :
 aZ Tryz.prog aq 126 [.slice (some ⟨id,v,0,0,1⟩) L.length c] H (.str (g' L)) H:=by
 have jA:0<L.length:=List.length_pos_iff.2 bt;obtain⟨e,ah,U,aC,j,ay,rfl,rfl,jN,Sy⟩:=Sq L v f 0 c b4 b5 ex b6 ty l de jA aF (ab _ (List.getElem_mem jA));obtain⟨v3,f3,de⟩:=Sx L v f b4 b5 c ex b6 ty l de ao aF ab L.length 1 ([]++put L[0]) 0 0 (by omega) (by omega) (by have:=Da L[0];simp only [List.nil_append];omega)
 have bo:([]++put L[0])++g' (L.drop 1)=g' L:=by
  have:L=L[0]::L.drop 1:=by rw [←List.drop_eq_getElem_cons jA,List.drop_zero]
  conv=>rhs;rw [this,C']
  rfl
 rw [bo]at de;have IH:=Dd (R:=gn l v f b4 b5 ex b6 ty) (v:=v) (n:=L.length) (c:=c) (i:=0+1) (v2:=0) (n2:=([]:List UInt8).length+(put L[0]).length) ay (ao) (Dc _ _ _) jN Sy;have bO:([]:List UInt8).length+(put L[0]).length=([]++put L[0]:List UInt8).length:=by simp
 rw [bO]at IH aC;have II:=(bf.step (aC.post IH) de).pre (bL.drop (h:=I.bI 6 [(0,gn l v f b4 b5 ex b6 ty)]) (F:=[(3,J.slice none 0 0),(6,J.slice (some ⟨0,v,0,0,1⟩) L.length c),(7,J.int IntKind.i64 L.length),(8,J.int IntKind.i64 (0:Nat))]) (K:=1) (l:=[(0,gn l v f b4 b5 ex b6 ty)]) rfl rfl rfl rfl (cG.cons trivial (cG.cons (show(0:Nat)∈ [0]by simp) (cG.cons trivial (cG.cons trivial cG.nil)))) (cG.cons (fun e he=>((ao) e he).ox _) cG.nil));rw [Su]at II;have el:List.take (g' L).length (ep (g' L))=ep (g' L):=by rw [←yX,List.take_length]
 have k:=Ss v f L.length c b4 b5 v3 f3 (g' L).length ex b6 ty l (ep (g' L)) (fun v1 ak=>v1=.str (g' L)∧ak.get 0=some (gn l v f b4 b5 ex b6 ty)) ⟨aR.cx II,rfl,by rw [yX];omega,⟨g' L,by simpa using el⟩,by rw [el,GQ],rfl⟩;obtain⟨v1,ak,aM,rfl,CU⟩:=k;have:=aZ.pure (l:=[gn l v f b4 b5 ex b6 ty]) aM (fun b k=>by rw [List.mem_singleton.1 k];exact ao) (by show [ak.get 0]=_;rw [CU];rfl) (ey.str _) (by exact⟨by show 0<1;decide,trivial⟩) (H:=H) [id] (by simp) (by intro j ay;rw [List.mem_singleton.1 ay];exact hid) (by simp [an]);simpa [J.bF,aO.bF,eg]using this
end Go.Proofs.YtjpfnbihopoeeaaGreatDoor
namespace Go.Keys
theorem IJ:∀(k i aB ac v:Nat)(l:List UInt8),(tail k i aB ac v l).1<(v+1)*64^k∨(tail k i aB ac v l).1=65533
 |0,i,aB,ac,v,l=>by simp [tail]
 |k+1,i,aB,ac,v,[]=>by simp [tail]
 |k + 1,i,aB,ac,v,c::r=>by
  simp only [tail];split
  ·exact .inr rfl
  ·rcases IJ k (i+1) 128 191 (v*64+c.toNat%64) r with h|h
   ·refine .inl (Nat.lt_of_lt_of_le h ?_);rw [Nat.pow_succ,←Nat.mul_assoc,Nat.mul_right_comm];exact Nat.mul_le_mul_right _ (by omega)
   ·exact .inr h
theorem Sz(s:List UInt8):(first s).1<2^31:=by
 cases s with
 |nil=>simp [first]
 |cons b r =>
  simp only [first];have ao:=b.toNat_lt;split
  ·simp
  ·split
   ·simp only;omega
   ·have be:(lead b.toNat).1≤4:=Rw _;rcases IJ ((lead b.toNat).1-1) 1 (lead b.toNat).2.1 (lead b.toNat).2.2 (b.toNat%2^(7- (lead b.toNat).1)) r with h|h
    ·have U:b.toNat%2^(7- (lead b.toNat).1)+1≤256:=by have:=Nat.mod_le b.toNat (2^(7- (lead b.toNat).1));omega
     have ak:64^((lead b.toNat).1-1)≤64^3:=Nat.pow_le_pow_right (by decide) (by omega);have aP:=Nat.mul_le_mul U ak;have bQ:(256:Nat)*64^3<2^31:=by decide
     omega
    ·rw [h];decide
theorem IK:∀(k:Nat)(s:List UInt8),∀x∈nN k s,x<2^31
 |0,s,x,h=>by simp [nN]at h
 |k+1,[],x,h=>by simp [nN]at h
 |k+1,b::r,x,h=>by
  simp only [nN,List.mem_cons]at h;rcases h with rfl|h
  ·exact Sz _
  ·exact IK k _ x h
theorem IL(s:List UInt8):∀x∈ew s,x<2^31:=IK _ s
end Go.Keys
namespace Go.Proofs.YtjpfnbihopoeeaaGreatDoor
open Go.RowKit Go.ba Go.Keys
theorem fC.uP{C:(Nat→Prop)→World→Prop}{W:World}{g off rz:Nat}{rs:List Int}(h:fC W g off rz rs)(dV:C (fun k=>k<W.heap.size) W){f:FuncId}{args:List J}{v:J}{h':I}(hs:v.pG=true)(k:aZ Tryz.prog C f args (jD rs) v h'){args':Array Value}(dy:bd (nx g off rz) args args'.toList) :
 Calls Tryz.prog f args' W fun e c4=> ∃a8,e=.returned a8∧aA nw v a8∧Below W.heap.size W c4 :=
 (k (fun k=>k<W.heap.size) W (fun _ h=>h) dV (nx g off rz) W args' (h.rel _) (Safe.refl _ _) dy).2.mono
  fun e aN ⟨a8,bj,k1,k2,cr,c6,ev,kA⟩=>⟨a8,k1,cr.pG hs,ev.below⟩
theorem IM{W:World}{g off C p n:Nat}{rs:List Int}(h:fC W g off C rs)(ag:p+n≤rs.length):fC W g (off+p) (C-p) ((rs.drop p).take n) where
 bD:=h.bD
 len:=by have:=h.len;simp only [List.length_take,List.length_drop];omega
 cells o ap:=by rw [Nat.add_assoc];exact h.cells (p+o) (by omega)
 cont i r aC:=by
  rw [Nat.add_assoc];refine h.cont (p+i) r ?_;rw [List.getElem?_take]at aC;split at aC
  ·rwa [List.getElem?_drop]at aC
  ·cases aC
def lY(N0:Nat→Prop)(w0:World):World→Prop:=fun W=>Go.ba.Safe N0 w0 W
theorem lY.ok{N0:Nat→Prop}{w0:World}(bA:dW N0 w0.heap.size):uu N0 (lY N0 w0) where
 low W q i ac:=Nat.lt_of_lt_of_le (bA i ac) q.size
 keep S W c4 cb q k:=q.trans ⟨k.os,k.tape,k.output,k.size,fun i ac=>k.block i (cb i ac)⟩
theorem lY.aq{N0:Nat→Prop}{w0 W:World}(bA:dW N0 w0.heap.size)(ar:aq N0 w0)(q:lY N0 w0 W):aq (fun k=>k<W.heap.size) W :=
 ar.keep q fun x ab=>Nat.lt_of_lt_of_le (bA x ab) q.size
theorem IN{g off rz n m:Nat}(U:n≤m)(ak:m≤rz):aA (nx g off rz) (.slice (some ⟨0,0,0,0,1⟩) n n) (.slice (some ⟨g,off,none⟩) n m):=by simpa using fC.slice (g:=g) (off:=off) (C:=rz) (p:=0) (Nat.le_refl n) U (by omega)
theorem SA{N0:Nat→Prop}{w0:World}(bA:dW N0 w0.heap.size)(ar:aq N0 w0){rs:List Int}{p:Nat}{s:h4}(U:0<s.n)(ak:p+s.n≤rs.length)(aP:s.t.length<2^62)
 (aF:∃h',aZ Tryz.prog aq 125 [.slice (some ⟨0,0,0,0,1⟩) (rs.drop p).length (rs.drop p).length] (jD (rs.drop p)) (.tuple [.int .i64 s.n,.int .i64 s.w]) h')
 (bl:∃h',aZ Tryz.prog aq 126 [.slice (some ⟨0,0,0,0,1⟩) s.n s.n] (jD ((rs.drop p).take s.n)) (.str s.t) h'):Bc (lY N0 w0) rs p s:=by
 obtain⟨k1,bo⟩:=aF;obtain⟨k2,bO⟩:=bl;refine⟨U,ak,aP,fun W g off C e2 aw=>⟨?_,?_⟩⟩
 ·have aF:=e2.len;have IP:=IM e2 (p:=p) (n:=rs.length-p) (by omega);rw [List.take_of_length_le (by simp)]at IP;refine(fC.uP IP (lY.aq bA ar aw) rfl bo (args':= #[.slice (some ⟨g,off+p,none⟩) (rs.length-p) (C-p)]) (by simp only [bd];exact⟨_,_,rfl,by rw [List.length_drop];exact IN (by omega) (Nat.le_refl _),rfl⟩)).mono ?_;rintro e c4 ⟨a8,rfl,a7,ao⟩;simp only [aA,bd]at a7;obtain⟨xs,rfl,a,t,fR,rfl,b,t2,jV,rfl,qZ⟩:=a7;refine⟨?_,ao⟩;subst qZ;subst jV;obtain⟨l⟩:=xs;simp only at fR;subst fR;rfl
 ·have aF:=e2.len;refine(fC.uP (IM e2 (p:=p) (n:=s.n) ak) (lY.aq bA ar aw) rfl bO (args':= #[.slice (some ⟨g,off+p,none⟩) s.n (C-p)]) (by simp only [bd];exact⟨_,_,rfl,IN (by omega) (Nat.le_refl _),rfl⟩)).mono ?_;rintro e c4 ⟨a8,rfl,a7,ao⟩;simp only [aA]at a7;obtain⟨t,rfl,bl⟩:=a7;refine⟨?_,ao⟩;rw [←bl]
theorem IQ(L:List Nat):pH (L.map fun(n:Nat)=>(n:Int))=Go.Proofs.YtjpfnbihopoeeaaGreatDoor.rs L:=by simp [pH,Go.Proofs.YtjpfnbihopoeeaaGreatDoor.rs]
abbrev ha(L:List Nat):List Int:=L.map fun(n:Nat)=>(n:Int)
theorem IR(L:List Nat):(jD (ha L)).get 0=some (gn (Go.Proofs.YtjpfnbihopoeeaaGreatDoor.rs L) 0 0 0 1 false true none):=by unfold jD;rw [I.eG,IQ]
theorem Has.rs(L:List Nat):Has (Go.Proofs.YtjpfnbihopoeeaaGreatDoor.rs L) L:=fun i h=>IE h
theorem SB{L:List Nat}(aF:L.length<2^41)(ab:∀x∈L,x<2^31)(bt:L≠[]):aZ Tryz.prog aq 126 [.slice (some ⟨0,0,0,0,1⟩) L.length L.length] (jD (ha L)) (.str (g' L)) (jD (ha L)) :=
 IG (Has.rs L) (yM L) aF ab bt (by show 0<1;decide) (IR L)
theorem SC{N0:Nat→Prop}{w0:World}(bA:dW N0 w0.heap.size)(ar:aq N0 w0)(s:Bytes)(hs:s.length<2^40){W:World}(aw:lY N0 w0 W):Calls Tryz.prog 123 #[.string ⟨s.toArray⟩] W fun e c4=>Below W.heap.size W c4 ∧
 ∃v g off C,e=.returned v∧((∃x c,v=.slice x (ha (ew s)).length c)∧(0<(ha (ew s)).length→v=.slice (some ⟨g,off,none⟩) (ha (ew s)).length C))∧(0<(ha (ew s)).length→fC c4 g off C (ha (ew s))∧W.heap.size≤g):=by
 have key:∀{v:J}{U:I},aZ Tryz.prog aq 123 [.str s] ⟨0,.nil⟩ v U→Calls Tryz.prog 123 #[.string ⟨s.toArray⟩] W fun e aN=> ∃a8 bj,e=.returned a8∧d' nw bj 0∧aA bj v a8∧ch bj (fun k=>k<W.heap.size) U aN∧Below W.heap.size W aN:=by intro v U k;refine(k (fun k=>k<W.heap.size) W (fun _ h=>h) (lY.aq bA ar aw) nw W #[.string ⟨s.toArray⟩] (ch.empty _ _ _) (Safe.refl _ _) (by simp only [bd,aA];exact⟨_,_,rfl,⟨_,rfl,rfl⟩,rfl⟩)).2.mono ?_;rintro e aN ⟨a8,bj,k1,k2,bT,cr,c6,ev⟩;exact⟨a8,bj,k1,k2,bT,cr,c6.below⟩
 by_cases bt:s=[]
 ·subst bt;refine(key (Ig _)).mono ?_;rintro e aN ⟨a8,bj,rfl,_,a7,_,ao⟩;simp only [aA]at a7;obtain⟨rfl,_,_⟩:=a7;exact⟨ao,_,0,0,0,rfl,⟨⟨_,_,rfl⟩,fun h=>by simp [sZ]at h⟩,fun h=>by simp [sZ]at h⟩
 ·have cg:0<(ew s).length:=by rw [yL bt];simp
  refine(key (Ih s hs bt _)).mono ?_;rintro e aN ⟨a8,bj,rfl,az,a7,dw,uo⟩;have ao:((⟨0,.nil⟩:I).uU [] [kd (ew s)]).get 0=some (kd (ew s)):=rfl;obtain⟨g,off,C,rfl,be,e2,p,ag,M6,uF⟩:=fC.FU (rs:=ha (ew s)) dw a7 rfl rfl cg ao (by show 0+_≤_;simp [aJ.cj,oS]) (by rw [IQ];show List.take _ (List.drop 0 (Go.Proofs.YtjpfnbihopoeeaaGreatDoor.rs (ew s)))=_;rw [List.drop_zero,List.take_of_length_le (by rw [oS];exact Nat.le_refl _)]) (by show 0+_≤_;rw [oS];omega);refine⟨uo,_,g,off,C,rfl,⟨⟨_,_,rfl⟩,fun _=>rfl⟩,fun _=>⟨e2,?_⟩⟩
  have dD:p.ro=false:=by
   cases aC:p.ro with
   |false=>rfl
   |true=>have:=az.ro _ _ _ ag aC;simp [nw]at this
  exact Nat.le_of_not_lt (uF dD)
def De(L:List Nat)(q:Nat×Int):Prop:=0<q.1∧q.1≤L.length∧∃h',aZ Tryz.prog aq 125 [.slice (some ⟨0,0,0,0,1⟩) L.length L.length] (jD (ha L)) (.tuple [.int .i64 (q.1:Nat),.int .i64 q.2]) h'
theorem SD{R:List Nat}(aF:R.length<2^40)(ab:∀x∈R,x<2^31)(hlen:∀p,p<R.length→ ∃q,De (R.drop p) q):∀(k p:Nat),R.length-p≤k→p≤R.length→ ∃c8,(∀(N0:Nat→Prop)(w0:World),dW N0 w0.heap.size→aq N0 w0→qS (lY N0 w0) (ha R) p c8)∧c8.length≤R.length-p:=by
 intro k;induction k with
 |zero=>intro p U ak;exact⟨[],fun _ _ _ _=>by show p=(ha R).length;simp;omega,by simp⟩
 |succ k ih =>
  intro p U ak;by_cases ag:p=R.length
  ·exact⟨[],fun _ _ _ _=>by show p=(ha R).length;simp;omega,by simp⟩
  ·obtain⟨q,cC,ci,h',D⟩:=hlen p (by omega);rw [List.length_drop]at ci;obtain⟨c8,bU,b8⟩:=ih (p+q.1) (by omega) (by omega);have e0:(ha R).drop p=ha (R.drop p):=by simp [ha]
   have bo:((ha R).drop p).take q.1=ha ((R.drop p).take q.1):=by simp [ha,List.map_take]
   have bO:((R.drop p).take q.1).length=q.1:=by simp;omega
   have ao:(g' ((R.drop p).take q.1)).length<2^62:=by have:=Db ((R.drop p).take q.1);omega
   refine⟨⟨q.1,g' ((R.drop p).take q.1),q.2⟩::c8,fun N0 w0 bA ar=>⟨SA bA ar cC (by simp;omega) ao ⟨h',?_⟩ ⟨jD (ha ((R.drop p).take q.1)),?_⟩,bU N0 w0 bA ar⟩,by simp;omega⟩
   ·rw [e0];have:(ha (R.drop p)).length=(R.drop p).length:=by simp
    rw [this];exact D
   ·show aZ _ _ _ [J.slice _ q.1 q.1] _ _ _;rw [bo];have T:=SB (L:=(R.drop p).take q.1) (by omega) (fun x ns=>ab x (List.mem_of_mem_drop (List.mem_of_mem_take ns))) (by intro h;rw [h]at bO;simp at bO;omega);rw [bO]at T;exact T
end Go.Proofs.YtjpfnbihopoeeaaGreatDoor
namespace Go.Proofs.YtjpfnbihopoeeaaGreatDoor
open Go.ba
noncomputable def IS:lR:=B8.add 140 (u0 fun a=>match a with | [.int .i32 r]=>some (.int .i8 (cT r),[])|_=>none)
theorem Df:iz Tryz.prog aq IS:=by
 refine bq.add (Cj ?_);intro args v ps e ag H;split at e<;>first|(cases e;done)|skip
 simp only [Option.some.injEq,Prod.mk.injEq]at e;obtain⟨rfl,rfl⟩:=e;exact Rv _ H
theorem SE(r:Int)(ai:J→I→Prop)(aG:(cT r=1→ai (.int .i64 0) (I.bI 6 []))∧(¬cT r=1→(cT r=2→ai (.int .i64 0) (I.bI 8 []))∧(¬cT r=2→(cT r=3→ai (.int .i64 0) (I.bI 10 []))∧(¬cT r=3→(cT r=4→ai (.int .i64 0) (I.bI 12 []))∧(¬cT r=4→(cT r=7→ai (.int .i64 2) (I.bI 14 []))∧(¬cT r=7→(cT r=5→ai (.int .i64 2) (I.bI 16 []))∧(¬cT r=5→ai (.int .i64 1) (I.bI 16 [])))))))) :
 ∃v U,aZ Tryz.prog aq 163 [(.int .i32 r)] (⟨0,.nil⟩) v U∧ai v U :=
 cE bg mixed Df (hs:= .bP 2000 .nil (.bP 3000 .nil (.bP 4000 .nil (.bP 5000 .nil (.bP 7000 .nil (.bP 8000 .nil .nil)))))) (by kernel_rfl) aG
end Go.Proofs.YtjpfnbihopoeeaaGreatDoor
namespace Go.Proofs.YtjpfnbihopoeeaaGreatDoor
open Go.ba
theorem IT(r:Int):∃k:Int,∀H,aZ Tryz.prog aq 163 [.int .i32 r] H (.int .i64 k) H:=by
 obtain⟨v,h',D,k,rfl⟩:=SE r (fun v _=> ∃k,v=.int .i64 k) (by
  repeat' (first|apply And.intro|intro _)
  all_goals exact⟨_,rfl⟩)
 exact⟨k,fun H=>aZ.gm ⟨_,_,D,rfl⟩ rfl rfl H⟩
noncomputable def hy(r:Int):Int:=(IT r).choose
theorem SF(r:Int)(H:I):aZ Tryz.prog aq 163 [.int .i32 r] H (.int .i64 (hy r)) H:=(IT r).choose_spec H
noncomputable def SG:lR:=IS.add 163 (u0 fun a=>match a with | [.int .i32 r]=>some (.int .i64 (hy r),[])|_=>none)
theorem mR:iz Tryz.prog aq SG:=by
 refine Df.add (Cj ?_);intro args v ps e ag H;split at e<;>first|(cases e;done)|skip
 simp only [Option.some.injEq,Prod.mk.injEq]at e;obtain⟨rfl,rfl⟩:=e;exact SF _ H
abbrev Dg(H:I):I:=(I.mk (H.next+8) (I.aj H))
abbrev SH(cu:Int):dA:=(.aa (.val 18008 (.int .i32 cu)) (.bP 18010 (an 19001 .nil) .nil))
abbrev SI(H:I):I:=(I.mk (H.next+8+5) (I.aj (Dg H)))
abbrev yZ(cu:Int)(bu:aO):dA:=(an 18006 (.aa (.val 18007 (.ptr (some bu))) (SH cu)))
abbrev IU(H:I):I:=(I.mk (H.next+13+2) (I.aj (SI H)))
abbrev IV(H:I):I:=(I.mk (H.next+15+2) (I.aj (IU H)))
abbrev IW(H:I):I:=(I.mk (H.next+17+2) (I.aj (IV H)))
abbrev kS(H:I):I:=(I.mk (H.next+19+2) (I.aj (IW H)))
theorem SJ(H:I)(B N cF n:Nat)(aB:Option aO)(base w x cu:Int)(p bu:aO)(ai:bx→a6→I→Prop)(aG:ad B (H.next) (some (J.bool (decide ((n:Int)<(N:Int))))=some (J.bool true)∧some (J.bool (decide ((n:Int)<16)))=some (J.bool true)∧ad B (H.next+8) (bb env.D 139 (.slice aB N cF) (.int .i64 (n:Int))=some (J.ptr (some p))∧aQ env.D 21 p (I.mk (H.next+13) (H.2))=some (.int .i32 x)∧ad B (H.next+13) ((cT x=2→ad B (H.next+15) ((-9223372036854775808≤(n:Int)+1∧(n:Int)+1≤9223372036854775807)∧ai .normal [(0,.slice aB N cF),(4,.int .i8 base),(5,.int .i64 ((n:Int)+1)),(6,.int .i64 w)] (I.mk (H.next+15+3) (I.aj (IU H)))))∧(¬cT x=2→ad B (H.next+15) ((cT x=4→ad B (H.next+17) ((-9223372036854775808≤(n:Int)+1∧(n:Int)+1≤9223372036854775807)∧ai .normal [(0,.slice aB N cF),(4,.int .i8 base),(5,.int .i64 ((n:Int)+1)),(6,.int .i64 w)] (I.mk (H.next+17+3) (I.aj (IV H)))))∧(¬cT x=4→ad B (H.next+17) ((cT x=3→ad B (H.next+19) ((-9223372036854775808≤(n:Int)+1∧(n:Int)+1≤9223372036854775807)∧ai .normal [(0,.slice aB N cF),(4,.int .i8 base),(5,.int .i64 ((n:Int)+1)),(6,.int .i64 w)] (I.mk (H.next+19+3) (I.aj (IW H)))))∧(¬cT x=3→ad B (H.next+19) ((cT x=5→ad B (H.next+21) (ad (H.next+24) (H.next+24) (ad (H.next+24) (H.next+25) ((base=7→cW (H.next+24) (H.next+32) (ad B (H.next+32) ((-9223372036854775808≤(n:Int)+1∧(n:Int)+1≤9223372036854775807)∧ai .normal [(0,.slice aB N cF),(4,.int .i8 base),(5,.int .i64 ((n:Int)+1)),(6,.int .i64 w)] (I.mk (H.next+32+3) (I.aj (I.mk (H.next+25+7) (I.aj (I.mk (H.next+24+1) (I.aj (I.mk (H.next+21+3) (I.aj (kS H))))))))))))∧(¬base=7→(base=8→cW (H.next+24) (H.next+32) (ad B (H.next+32) ((-9223372036854775808≤(n:Int)+1∧(n:Int)+1≤9223372036854775807)∧ai .normal [(0,.slice aB N cF),(4,.int .i8 base),(5,.int .i64 ((n:Int)+1)),(6,.int .i64 w)] (I.mk (H.next+32+3) (I.aj (I.mk (H.next+25+7) (I.aj (I.mk (H.next+24+1) (I.aj (I.mk (H.next+21+3) (I.aj (kS H))))))))))))∧(¬base=8→cW (H.next+24) (H.next+32) (ai (.exit 0) [(0,.slice aB N cF),(4,.int .i8 base),(5,.int .i64 (n:Int)),(6,.int .i64 w)] (I.mk (H.next+25+7) (I.aj (I.mk (H.next+24+1) (I.aj (I.mk (H.next+21+3) (I.aj (kS H))))))))))))))∧(¬cT x=5→ad B (H.next+21) ((cT x=7→ad B (H.next+23) (ad (H.next+35) (H.next+35) (ad (H.next+35) (H.next+36) ((base=7→cW (H.next+35) (H.next+43) ((-9223372036854775808≤(n:Int)-1∧(n:Int)-1≤9223372036854775807)∧bb env.D 139 (.slice aB N cF) (.int .i64 ((n:Int)-1))=some (J.ptr (some bu))∧aQ env.D 21 bu (I.mk (H.next+43) (H.2))=some (.int .i32 cu)∧(cT cu=3→ad B (H.next+43) ((-9223372036854775808≤(n:Int)+1∧(n:Int)+1≤9223372036854775807)∧ai .normal [(0,.slice aB N cF),(4,.int .i8 base),(5,.int .i64 ((n:Int)+1)),(6,.int .i64 w)] (I.mk (H.next+43+3) (I.aj (I.mk (H.next+36+7) (I.aj (I.mk (H.next+35+1) (I.aj (I.mk (H.next+23+12) (I.aj (I.mk (H.next+21+2) (I.aj (kS H)))))))))))))∧(¬cT cu=3→ai (.exit 0) [(0,.slice aB N cF),(4,.int .i8 base),(5,.int .i64 (n:Int)),(6,.int .i64 w)] (I.mk (H.next+36+7) (I.aj (I.mk (H.next+35+1) (I.aj (I.mk (H.next+23+12) (I.aj (I.mk (H.next+21+2) (I.aj (kS H))))))))))))∧(¬base=7→(base=8→cW (H.next+35) (H.next+43) ((-9223372036854775808≤(n:Int)-1∧(n:Int)-1≤9223372036854775807)∧bb env.D 139 (.slice aB N cF) (.int .i64 ((n:Int)-1))=some (J.ptr (some bu))∧aQ env.D 21 bu (I.mk (H.next+43) (H.2))=some (.int .i32 cu)∧(cT cu=3→ad B (H.next+43) ((-9223372036854775808≤(n:Int)+1∧(n:Int)+1≤9223372036854775807)∧ai .normal [(0,.slice aB N cF),(4,.int .i8 base),(5,.int .i64 ((n:Int)+1)),(6,.int .i64 w)] (I.mk (H.next+43+3) (I.aj (I.mk (H.next+36+7) (I.aj (I.mk (H.next+35+1) (I.aj (I.mk (H.next+23+12) (I.aj (I.mk (H.next+21+2) (I.aj (kS H)))))))))))))∧(¬cT cu=3→ai (.exit 0) [(0,.slice aB N cF),(4,.int .i8 base),(5,.int .i64 (n:Int)),(6,.int .i64 w)] (I.mk (H.next+36+7) (I.aj (I.mk (H.next+35+1) (I.aj (I.mk (H.next+23+12) (I.aj (I.mk (H.next+21+2) (I.aj (kS H))))))))))))∧(¬base=8→cW (H.next+35) (H.next+43) (ai (.exit 0) [(0,.slice aB N cF),(4,.int .i8 base),(5,.int .i64 (n:Int)),(6,.int .i64 w)] (I.mk (H.next+36+7) (I.aj (I.mk (H.next+35+1) (I.aj (I.mk (H.next+23+12) (I.aj (I.mk (H.next+21+2) (I.aj (kS H))))))))))))))))∧(¬cT x=7→ad B (H.next+23) ((cT x=8→ad B (H.next+25) (ad (H.next+37) (H.next+37) (ad (H.next+37) (H.next+38) ((base=7→cW (H.next+37) (H.next+45) ((-9223372036854775808≤(n:Int)-1∧(n:Int)-1≤9223372036854775807)∧bb env.D 139 (.slice aB N cF) (.int .i64 ((n:Int)-1))=some (J.ptr (some bu))∧aQ env.D 21 bu (I.mk (H.next+45) (H.2))=some (.int .i32 cu)∧(cT cu=3→ad B (H.next+45) ((-9223372036854775808≤(n:Int)+1∧(n:Int)+1≤9223372036854775807)∧ai .normal [(0,.slice aB N cF),(4,.int .i8 base),(5,.int .i64 ((n:Int)+1)),(6,.int .i64 w)] (I.mk (H.next+45+3) (I.aj (I.mk (H.next+38+7) (I.aj (I.mk (H.next+37+1) (I.aj (I.mk (H.next+25+12) (I.aj (I.mk (H.next+23+2) (I.aj (I.mk (H.next+21+2) (I.aj (kS H)))))))))))))))∧(¬cT cu=3→ai (.exit 0) [(0,.slice aB N cF),(4,.int .i8 base),(5,.int .i64 (n:Int)),(6,.int .i64 w)] (I.mk (H.next+38+7) (I.aj (I.mk (H.next+37+1) (I.aj (I.mk (H.next+25+12) (I.aj (I.mk (H.next+23+2) (I.aj (I.mk (H.next+21+2) (I.aj (kS H))))))))))))))∧(¬base=7→(base=8→cW (H.next+37) (H.next+45) ((-9223372036854775808≤(n:Int)-1∧(n:Int)-1≤9223372036854775807)∧bb env.D 139 (.slice aB N cF) (.int .i64 ((n:Int)-1))=some (J.ptr (some bu))∧aQ env.D 21 bu (I.mk (H.next+45) (H.2))=some (.int .i32 cu)∧(cT cu=3→ad B (H.next+45) ((-9223372036854775808≤(n:Int)+1∧(n:Int)+1≤9223372036854775807)∧ai .normal [(0,.slice aB N cF),(4,.int .i8 base),(5,.int .i64 ((n:Int)+1)),(6,.int .i64 w)] (I.mk (H.next+45+3) (I.aj (I.mk (H.next+38+7) (I.aj (I.mk (H.next+37+1) (I.aj (I.mk (H.next+25+12) (I.aj (I.mk (H.next+23+2) (I.aj (I.mk (H.next+21+2) (I.aj (kS H)))))))))))))))∧(¬cT cu=3→ai (.exit 0) [(0,.slice aB N cF),(4,.int .i8 base),(5,.int .i64 (n:Int)),(6,.int .i64 w)] (I.mk (H.next+38+7) (I.aj (I.mk (H.next+37+1) (I.aj (I.mk (H.next+25+12) (I.aj (I.mk (H.next+23+2) (I.aj (I.mk (H.next+21+2) (I.aj (kS H))))))))))))))∧(¬base=8→cW (H.next+37) (H.next+45) (ai (.exit 0) [(0,.slice aB N cF),(4,.int .i8 base),(5,.int .i64 (n:Int)),(6,.int .i64 w)] (I.mk (H.next+38+7) (I.aj (I.mk (H.next+37+1) (I.aj (I.mk (H.next+25+12) (I.aj (I.mk (H.next+23+2) (I.aj (I.mk (H.next+21+2) (I.aj (kS H))))))))))))))))))∧(¬cT x=8→ai (.exit 0) [(0,.slice aB N cF),(4,.int .i8 base),(5,.int .i64 (n:Int)),(6,.int .i64 w)] (I.mk (H.next+23+2) (I.aj (I.mk (H.next+21+2) (I.aj (kS H)))))))))))))))))))) :
 ∃e ah U,aR Tryz.prog aq B 85 (aY Tryz.prog 125 0) [(0,.slice aB N cF),(4,.int .i8 base),(5,.int .i64 n),(6,.int .i64 w)] H e ah U∧ai e ah U :=
 b0 bg mixed mR (hs:= .aa (.val 9003 (.bool true)) (.aa (.val 9006 (.bool true)) (.aa (.val 10002 (.ptr (some p))) (.aa (.val 10003 (.int .i32 x)) (.bP 11000 (an 19001 .nil) (.bP 12000 (an 19001 .nil) (.bP 13000 (an 19001 .nil) (.bP 14000 (he 15001 (.bP 1001 (an 19001 .nil) (.bP 1004 (an 19001 .nil) .nil))) (.bP 16000 (he 18001 (.bP 1001 (yZ cu bu) (.bP 1004 (yZ cu bu) .nil))) (.bP 17000 (he 18001 (.bP 1001 (yZ cu bu) (.bP 1004 (yZ cu bu) .nil))) .nil)))))))))) (keep:=[0,4,5,6]) (by kernel_rfl) aG
theorem SK(H:I)(B N cF n:Nat)(aB:Option aO)(base w x cu:Int)(p bu:aO)(ai:bx→a6→I→Prop)(aG:ad B (H.next) (some (J.bool (decide ((n:Int)<(N:Int))))=some (J.bool false)∧ai (.exit 0) [(0,.slice aB N cF),(4,.int .i8 base),(5,.int .i64 (n:Int)),(6,.int .i64 w)] (Dg H))) :
 ∃e ah U,aR Tryz.prog aq B 85 (aY Tryz.prog 125 0) [(0,.slice aB N cF),(4,.int .i8 base),(5,.int .i64 n),(6,.int .i64 w)] H e ah U∧ai e ah U :=
 b0 bg mixed mR (hs:= .aa (.val 9003 (.bool false)) .nil) (keep:=[0,4,5,6]) (by kernel_rfl) aG
theorem SL(H:I)(B N cF n:Nat)(aB:Option aO)(base w x cu:Int)(p bu:aO)(ai:bx→a6→I→Prop)(aG:ad B (H.next) (some (J.bool (decide ((n:Int)<(N:Int))))=some (J.bool true)∧some (J.bool (decide ((n:Int)<16)))=some (J.bool false)∧ai (.exit 0) [(0,.slice aB N cF),(4,.int .i8 base),(5,.int .i64 (n:Int)),(6,.int .i64 w)] (Dg H))) :
 ∃e ah U,aR Tryz.prog aq B 85 (aY Tryz.prog 125 0) [(0,.slice aB N cF),(4,.int .i8 base),(5,.int .i64 n),(6,.int .i64 w)] H e ah U∧ai e ah U :=
 b0 bg mixed mR (hs:= .aa (.val 9003 (.bool true)) (.aa (.val 9006 (.bool false)) .nil)) (keep:=[0,4,5,6]) (by kernel_rfl) aG
theorem SM(H H1:I)(N cF n:Nat)(aB:Option aO)(w x cf:Int)(bW cv:aO)(ai:J→I→Prop)(aG:ad (H.next) (H.next) (ad (H.next) (H.next+2) (bb env.D 139 (.slice aB N cF) (.int .i64 0)=some (J.ptr (some bW))∧aQ env.D 21 bW (I.mk (H.next+7) (H.2))=some (.int .i32 x)∧ad (H.next) (H.next+7) (some (J.bool (cT x == 1))=some (J.bool true)∧ad (H.next) (H.next+9) (cW (H.next) (H.next+11) (ai (.tuple [.int .i64 1,.int .i64 0]) (I.mk (H.next+9+2) (I.aj (I.mk (H.next+7+2) (I.aj (I.mk (H.next+2+5) (I.aj (I.mk (H.next+2) (I.aj H)))))))))))))) :
 ∃v U,aZ Tryz.prog aq 125 [.slice aB N cF] H v U∧ai v U :=
 cE bg mixed mR (hs:= .aa (.val 1001 (.ptr (some bW))) (.aa (.val 1002 (.int .i32 x)) (.aa (.val 2001 (.bool true)) .nil))) (by kernel_rfl) aG
theorem SN(H H1:I)(N cF n:Nat)(aB:Option aO)(w x cf:Int)(bW cv:aO)(ai:J→I→Prop)(aG:ad (H.next) (H.next) (ad (H.next) (H.next+2) (bb env.D 139 (.slice aB N cF) (.int .i64 0)=some (J.ptr (some bW))∧aQ env.D 21 bW (I.mk (H.next+7) (H.2))=some (.int .i32 x)∧ad (H.next) (H.next+7) (some (J.bool (cT x == 1))=some (J.bool false)∧ad (H.next) (H.next+9) (bb env.D 139 (.slice aB N cF) (.int .i64 0)=some (J.ptr (some bW))∧aQ env.D 21 bW (I.mk (H.next+15) (H.2))=some (.int .i32 x)∧ad (H.next) (H.next+15) (some (J.bool (cT x == 6))=some (J.bool false)∧ad (H.next) (H.next+29) (some (J.bool (cT x == 8))=some (J.bool false)∧aR Tryz.prog aq (H.next) 85 (Code.loop (aY Tryz.prog 125 0)) [(0,.slice aB N cF),(4,.int .i8 (cT x)),(5,.int .i64 1),(6,.int .i64 (hy x))] (I.mk (H.next+29+13) (I.aj (I.mk (H.next+15+14) (I.aj (I.mk (H.next+9+6) (I.aj (I.mk (H.next+7+2) (I.aj (I.mk (H.next+2+5) (I.aj (I.mk (H.next+2) (I.aj H)))))))))))) (.exit 0) [(5,.int .i64 (n:Int)),(6,.int .i64 w)] H1∧ad (H.next) (H1.next) (cW (H.next) (H1.next+4) (ai (.tuple [.int .i64 (n:Int),.int .i64 w]) (I.mk (H1.next+4) (I.aj H1))))))))))) :
 ∃v U,aZ Tryz.prog aq 125 [.slice aB N cF] H v U∧ai v U :=
 cE bg mixed mR (hs:= .aa (.val 1001 (.ptr (some bW))) (.aa (.val 1002 (.int .i32 x)) (.aa (.val 2001 (.bool false)) (.aa (.val 4001 (.ptr (some bW))) (.aa (.val 4002 (.int .i32 x)) (.aa (.val 5001 (.bool false)) (.aa (.val 7001 (.bool false)) (.aa (.keep [0,4,5,6]) (.aa (.loop [(5,.int .i64 (n:Int)),(6,.int .i64 w)] H1 (.exit 0)) .nil))))))))) (by kernel_rfl) aG
theorem SO(H H1:I)(N cF n:Nat)(aB:Option aO)(w x cf:Int)(bW cv:aO)(ai:J→I→Prop)(aG:ad (H.next) (H.next) (ad (H.next) (H.next+2) (bb env.D 139 (.slice aB N cF) (.int .i64 0)=some (J.ptr (some bW))∧aQ env.D 21 bW (I.mk (H.next+7) (H.2))=some (.int .i32 x)∧ad (H.next) (H.next+7) (some (J.bool (cT x == 1))=some (J.bool false)∧ad (H.next) (H.next+9) (bb env.D 139 (.slice aB N cF) (.int .i64 0)=some (J.ptr (some bW))∧aQ env.D 21 bW (I.mk (H.next+15) (H.2))=some (.int .i32 x)∧ad (H.next) (H.next+15) (some (J.bool (cT x == 6))=some (J.bool true)∧some (J.bool (decide ((N:Int)>1)))=some (J.bool false)∧ad (H.next) (H.next+29) (some (J.bool (cT x == 8))=some (J.bool false)∧aR Tryz.prog aq (H.next) 85 (Code.loop (aY Tryz.prog 125 0)) [(0,.slice aB N cF),(4,.int .i8 (cT x)),(5,.int .i64 1),(6,.int .i64 (hy x))] (I.mk (H.next+29+13) (I.aj (I.mk (H.next+15+14) (I.aj (I.mk (H.next+9+6) (I.aj (I.mk (H.next+7+2) (I.aj (I.mk (H.next+2+5) (I.aj (I.mk (H.next+2) (I.aj H)))))))))))) (.exit 0) [(5,.int .i64 (n:Int)),(6,.int .i64 w)] H1∧ad (H.next) (H1.next) (cW (H.next) (H1.next+4) (ai (.tuple [.int .i64 (n:Int),.int .i64 w]) (I.mk (H1.next+4) (I.aj H1))))))))))) :
 ∃v U,aZ Tryz.prog aq 125 [.slice aB N cF] H v U∧ai v U :=
 cE bg mixed mR (hs:= .aa (.val 1001 (.ptr (some bW))) (.aa (.val 1002 (.int .i32 x)) (.aa (.val 2001 (.bool false)) (.aa (.val 4001 (.ptr (some bW))) (.aa (.val 4002 (.int .i32 x)) (.aa (.val 5001 (.bool true)) (.aa (.val 5005 (.bool false)) (.aa (.val 7001 (.bool false)) (.aa (.keep [0,4,5,6]) (.aa (.loop [(5,.int .i64 (n:Int)),(6,.int .i64 w)] H1 (.exit 0)) .nil)))))))))) (by kernel_rfl) aG
theorem SP(H H1:I)(N cF n:Nat)(aB:Option aO)(w x cf:Int)(bW cv:aO)(ai:J→I→Prop)(aG:ad (H.next) (H.next) (ad (H.next) (H.next+2) (bb env.D 139 (.slice aB N cF) (.int .i64 0)=some (J.ptr (some bW))∧aQ env.D 21 bW (I.mk (H.next+7) (H.2))=some (.int .i32 x)∧ad (H.next) (H.next+7) (some (J.bool (cT x == 1))=some (J.bool false)∧ad (H.next) (H.next+9) (bb env.D 139 (.slice aB N cF) (.int .i64 0)=some (J.ptr (some bW))∧aQ env.D 21 bW (I.mk (H.next+15) (H.2))=some (.int .i32 x)∧ad (H.next) (H.next+15) (some (J.bool (cT x == 6))=some (J.bool true)∧some (J.bool (decide ((N:Int)>1)))=some (J.bool true)∧bb env.D 139 (.slice aB N cF) (.int .i64 1)=some (J.ptr (some cv))∧aQ env.D 21 cv (I.mk (H.next+29) (H.2))=some (.int .i32 cf)∧some (J.bool (cT cf == 6))=some (J.bool true)∧ad (H.next) (H.next+29) (ad (H.next) (H.next+31) (some (J.bool (cT x == 8))=some (J.bool false)∧aR Tryz.prog aq (H.next) 85 (Code.loop (aY Tryz.prog 125 0)) [(0,.slice aB N cF),(4,.int .i8 (cT x)),(5,.int .i64 2),(6,.int .i64 2)] (I.mk (H.next+31+13) (I.aj (I.mk (H.next+29+2) (I.aj (I.mk (H.next+15+14) (I.aj (I.mk (H.next+9+6) (I.aj (I.mk (H.next+7+2) (I.aj (I.mk (H.next+2+5) (I.aj (I.mk (H.next+2) (I.aj H)))))))))))))) (.exit 0) [(5,.int .i64 (n:Int)),(6,.int .i64 w)] H1∧ad (H.next) (H1.next) (cW (H.next) (H1.next+4) (ai (.tuple [.int .i64 (n:Int),.int .i64 w]) (I.mk (H1.next+4) (I.aj H1)))))))))))) :
 ∃v U,aZ Tryz.prog aq 125 [.slice aB N cF] H v U∧ai v U :=
 cE bg mixed mR (hs:= .aa (.val 1001 (.ptr (some bW))) (.aa (.val 1002 (.int .i32 x)) (.aa (.val 2001 (.bool false)) (.aa (.val 4001 (.ptr (some bW))) (.aa (.val 4002 (.int .i32 x)) (.aa (.val 5001 (.bool true)) (.aa (.val 5005 (.bool true)) (.aa (.val 5009 (.ptr (some cv))) (.aa (.val 5010 (.int .i32 cf)) (.aa (.val 5012 (.bool true)) (.aa (.val 7001 (.bool false)) (.aa (.keep [0,4,5,6]) (.aa (.loop [(5,.int .i64 (n:Int)),(6,.int .i64 w)] H1 (.exit 0)) .nil))))))))))))) (by kernel_rfl) aG
theorem SQ(H H1:I)(N cF n:Nat)(aB:Option aO)(w x cf:Int)(bW cv:aO)(ai:J→I→Prop)(aG:ad (H.next) (H.next) (ad (H.next) (H.next+2) (bb env.D 139 (.slice aB N cF) (.int .i64 0)=some (J.ptr (some bW))∧aQ env.D 21 bW (I.mk (H.next+7) (H.2))=some (.int .i32 x)∧ad (H.next) (H.next+7) (some (J.bool (cT x == 1))=some (J.bool false)∧ad (H.next) (H.next+9) (bb env.D 139 (.slice aB N cF) (.int .i64 0)=some (J.ptr (some bW))∧aQ env.D 21 bW (I.mk (H.next+15) (H.2))=some (.int .i32 x)∧ad (H.next) (H.next+15) (some (J.bool (cT x == 6))=some (J.bool true)∧some (J.bool (decide ((N:Int)>1)))=some (J.bool true)∧bb env.D 139 (.slice aB N cF) (.int .i64 1)=some (J.ptr (some cv))∧aQ env.D 21 cv (I.mk (H.next+29) (H.2))=some (.int .i32 cf)∧some (J.bool (cT cf == 6))=some (J.bool false)∧ad (H.next) (H.next+29) (some (J.bool (cT x == 8))=some (J.bool false)∧aR Tryz.prog aq (H.next) 85 (Code.loop (aY Tryz.prog 125 0)) [(0,.slice aB N cF),(4,.int .i8 (cT x)),(5,.int .i64 1),(6,.int .i64 (hy x))] (I.mk (H.next+29+13) (I.aj (I.mk (H.next+15+14) (I.aj (I.mk (H.next+9+6) (I.aj (I.mk (H.next+7+2) (I.aj (I.mk (H.next+2+5) (I.aj (I.mk (H.next+2) (I.aj H)))))))))))) (.exit 0) [(5,.int .i64 (n:Int)),(6,.int .i64 w)] H1∧ad (H.next) (H1.next) (cW (H.next) (H1.next+4) (ai (.tuple [.int .i64 (n:Int),.int .i64 w]) (I.mk (H1.next+4) (I.aj H1))))))))))) :
 ∃v U,aZ Tryz.prog aq 125 [.slice aB N cF] H v U∧ai v U :=
 cE bg mixed mR (hs:= .aa (.val 1001 (.ptr (some bW))) (.aa (.val 1002 (.int .i32 x)) (.aa (.val 2001 (.bool false)) (.aa (.val 4001 (.ptr (some bW))) (.aa (.val 4002 (.int .i32 x)) (.aa (.val 5001 (.bool true)) (.aa (.val 5005 (.bool true)) (.aa (.val 5009 (.ptr (some cv))) (.aa (.val 5010 (.int .i32 cf)) (.aa (.val 5012 (.bool false)) (.aa (.val 7001 (.bool false)) (.aa (.keep [0,4,5,6]) (.aa (.loop [(5,.int .i64 (n:Int)),(6,.int .i64 w)] H1 (.exit 0)) .nil))))))))))))) (by kernel_rfl) aG
theorem SR(H H1:I)(N cF n:Nat)(aB:Option aO)(w x cf:Int)(bW cv:aO)(ai:J→I→Prop)(aG:ad (H.next) (H.next) (ad (H.next) (H.next+2) (bb env.D 139 (.slice aB N cF) (.int .i64 0)=some (J.ptr (some bW))∧aQ env.D 21 bW (I.mk (H.next+7) (H.2))=some (.int .i32 x)∧ad (H.next) (H.next+7) (some (J.bool (cT x == 1))=some (J.bool false)∧ad (H.next) (H.next+9) (bb env.D 139 (.slice aB N cF) (.int .i64 0)=some (J.ptr (some bW))∧aQ env.D 21 bW (I.mk (H.next+15) (H.2))=some (.int .i32 x)∧ad (H.next) (H.next+15) (some (J.bool (cT x == 6))=some (J.bool false)∧ad (H.next) (H.next+29) (some (J.bool (cT x == 8))=some (J.bool true)∧some (J.bool (decide ((N:Int)>1)))=some (J.bool false)∧aR Tryz.prog aq (H.next) 85 (Code.loop (aY Tryz.prog 125 0)) [(0,.slice aB N cF),(4,.int .i8 (cT x)),(5,.int .i64 1),(6,.int .i64 (hy x))] (I.mk (H.next+29+13) (I.aj (I.mk (H.next+15+14) (I.aj (I.mk (H.next+9+6) (I.aj (I.mk (H.next+7+2) (I.aj (I.mk (H.next+2+5) (I.aj (I.mk (H.next+2) (I.aj H)))))))))))) (.exit 0) [(5,.int .i64 (n:Int)),(6,.int .i64 w)] H1∧ad (H.next) (H1.next) (cW (H.next) (H1.next+4) (ai (.tuple [.int .i64 (n:Int),.int .i64 w]) (I.mk (H1.next+4) (I.aj H1))))))))))) :
 ∃v U,aZ Tryz.prog aq 125 [.slice aB N cF] H v U∧ai v U :=
 cE bg mixed mR (hs:= .aa (.val 1001 (.ptr (some bW))) (.aa (.val 1002 (.int .i32 x)) (.aa (.val 2001 (.bool false)) (.aa (.val 4001 (.ptr (some bW))) (.aa (.val 4002 (.int .i32 x)) (.aa (.val 5001 (.bool false)) (.aa (.val 7001 (.bool true)) (.aa (.val 7005 (.bool false)) (.aa (.keep [0,4,5,6]) (.aa (.loop [(5,.int .i64 (n:Int)),(6,.int .i64 w)] H1 (.exit 0)) .nil)))))))))) (by kernel_rfl) aG
theorem SS(H H1:I)(N cF n:Nat)(aB:Option aO)(w x cf:Int)(bW cv:aO)(ai:J→I→Prop)(aG:ad (H.next) (H.next) (ad (H.next) (H.next+2) (bb env.D 139 (.slice aB N cF) (.int .i64 0)=some (J.ptr (some bW))∧aQ env.D 21 bW (I.mk (H.next+7) (H.2))=some (.int .i32 x)∧ad (H.next) (H.next+7) (some (J.bool (cT x == 1))=some (J.bool false)∧ad (H.next) (H.next+9) (bb env.D 139 (.slice aB N cF) (.int .i64 0)=some (J.ptr (some bW))∧aQ env.D 21 bW (I.mk (H.next+15) (H.2))=some (.int .i32 x)∧ad (H.next) (H.next+15) (some (J.bool (cT x == 6))=some (J.bool false)∧ad (H.next) (H.next+29) (some (J.bool (cT x == 8))=some (J.bool true)∧some (J.bool (decide ((N:Int)>1)))=some (J.bool true)∧bb env.D 139 (.slice aB N cF) (.int .i64 1)=some (J.ptr (some cv))∧aQ env.D 21 cv (I.mk (H.next+42) (H.2))=some (.int .i32 cf)∧some (J.bool (cf == 65039))=some (J.bool true)∧ad (H.next) (H.next+42) (aR Tryz.prog aq (H.next) 85 (Code.loop (aY Tryz.prog 125 0)) [(0,.slice aB N cF),(4,.int .i8 (cT x)),(5,.int .i64 1),(6,.int .i64 2)] (I.mk (H.next+42+1) (I.aj (I.mk (H.next+29+13) (I.aj (I.mk (H.next+15+14) (I.aj (I.mk (H.next+9+6) (I.aj (I.mk (H.next+7+2) (I.aj (I.mk (H.next+2+5) (I.aj (I.mk (H.next+2) (I.aj H)))))))))))))) (.exit 0) [(5,.int .i64 (n:Int)),(6,.int .i64 w)] H1∧ad (H.next) (H1.next) (cW (H.next) (H1.next+4) (ai (.tuple [.int .i64 (n:Int),.int .i64 w]) (I.mk (H1.next+4) (I.aj H1)))))))))))) :
 ∃v U,aZ Tryz.prog aq 125 [.slice aB N cF] H v U∧ai v U :=
 cE bg mixed mR (hs:= .aa (.val 1001 (.ptr (some bW))) (.aa (.val 1002 (.int .i32 x)) (.aa (.val 2001 (.bool false)) (.aa (.val 4001 (.ptr (some bW))) (.aa (.val 4002 (.int .i32 x)) (.aa (.val 5001 (.bool false)) (.aa (.val 7001 (.bool true)) (.aa (.val 7005 (.bool true)) (.aa (.val 7009 (.ptr (some cv))) (.aa (.val 7010 (.int .i32 cf)) (.aa (.val 7011 (.bool true)) (.aa (.keep [0,4,5,6]) (.aa (.loop [(5,.int .i64 (n:Int)),(6,.int .i64 w)] H1 (.exit 0)) .nil))))))))))))) (by kernel_rfl) aG
theorem SU(H H1:I)(N cF n:Nat)(aB:Option aO)(w x cf:Int)(bW cv:aO)(ai:J→I→Prop)(aG:ad (H.next) (H.next) (ad (H.next) (H.next+2) (bb env.D 139 (.slice aB N cF) (.int .i64 0)=some (J.ptr (some bW))∧aQ env.D 21 bW (I.mk (H.next+7) (H.2))=some (.int .i32 x)∧ad (H.next) (H.next+7) (some (J.bool (cT x == 1))=some (J.bool false)∧ad (H.next) (H.next+9) (bb env.D 139 (.slice aB N cF) (.int .i64 0)=some (J.ptr (some bW))∧aQ env.D 21 bW (I.mk (H.next+15) (H.2))=some (.int .i32 x)∧ad (H.next) (H.next+15) (some (J.bool (cT x == 6))=some (J.bool false)∧ad (H.next) (H.next+29) (some (J.bool (cT x == 8))=some (J.bool true)∧some (J.bool (decide ((N:Int)>1)))=some (J.bool true)∧bb env.D 139 (.slice aB N cF) (.int .i64 1)=some (J.ptr (some cv))∧aQ env.D 21 cv (I.mk (H.next+42) (H.2))=some (.int .i32 cf)∧some (J.bool (cf == 65039))=some (J.bool false)∧aR Tryz.prog aq (H.next) 85 (Code.loop (aY Tryz.prog 125 0)) [(0,.slice aB N cF),(4,.int .i8 (cT x)),(5,.int .i64 1),(6,.int .i64 (hy x))] (I.mk (H.next+29+13) (I.aj (I.mk (H.next+15+14) (I.aj (I.mk (H.next+9+6) (I.aj (I.mk (H.next+7+2) (I.aj (I.mk (H.next+2+5) (I.aj (I.mk (H.next+2) (I.aj H)))))))))))) (.exit 0) [(5,.int .i64 (n:Int)),(6,.int .i64 w)] H1∧ad (H.next) (H1.next) (cW (H.next) (H1.next+4) (ai (.tuple [.int .i64 (n:Int),.int .i64 w]) (I.mk (H1.next+4) (I.aj H1))))))))))) :
 ∃v U,aZ Tryz.prog aq 125 [.slice aB N cF] H v U∧ai v U :=
 cE bg mixed mR (hs:= .aa (.val 1001 (.ptr (some bW))) (.aa (.val 1002 (.int .i32 x)) (.aa (.val 2001 (.bool false)) (.aa (.val 4001 (.ptr (some bW))) (.aa (.val 4002 (.int .i32 x)) (.aa (.val 5001 (.bool false)) (.aa (.val 7001 (.bool true)) (.aa (.val 7005 (.bool true)) (.aa (.val 7009 (.ptr (some cv))) (.aa (.val 7010 (.int .i32 cf)) (.aa (.val 7011 (.bool false)) (.aa (.keep [0,4,5,6]) (.aa (.loop [(5,.int .i64 (n:Int)),(6,.int .i64 w)] H1 (.exit 0)) .nil))))))))))))) (by kernel_rfl) aG
end Go.Proofs.YtjpfnbihopoeeaaGreatDoor
namespace Go.Proofs.YtjpfnbihopoeeaaGreatDoor
open Go.RowKit Go.ba Go.Keys
theorem SV:pO env.D 139 21 1 4:=by
 have U:(env.D 21).map (fun x=>(x.size,x.bytes,x.o7))=some (1,4,true):=by kernel_rfl
 have ak:(env.D 139).map (fun x=>x.kind)=some (.slice 21):=by kernel_rfl
 obtain⟨x,ab,k⟩:=Option.map_eq_some_iff.1 U;obtain⟨d,aM,u3⟩:=Option.map_eq_some_iff.1 ak;simp only [Prod.mk.injEq]at k;exact⟨d,x,aM,u3,ab,k.1,k.2.1,by decide,k.2.2⟩
theorem SW:re 139 21 4:=⟨SV,by kernel_rfl⟩
theorem dJ.rune{H:I}{q:Nat}{v:J}{L:List Nat}(h:dJ H q v (rs L)){i:Nat}(ac:i<L.length) :
 ∃a,bb (bh.D env) 139 v (.int .i64 (i:Nat))=some (.ptr (some a))∧a.id<H.next∧∀n,aQ (bh.D env) 21 a ⟨n,H.aj⟩=some (.int .i32 (L[i]:Nat)):=by
 have e:(rs L)[i]'(by rw [oS];exact ac)=.int .i32 (L[i]:Nat):=by simp [rs]
 have:=h.at SW (i:=i) (by rw [oS];exact ac) (by rw [e];exact rfl);rw [e]at this;exact this
abbrev s6(aB:Option aO)(N cF:Nat)(base:Int)(n:Nat)(w:Int):a6:=[(0,.slice aB N cF),(4,.int .i8 base),(5,.int .i64 (n:Nat)),(6,.int .i64 w)]
theorem SX{B q N cF:Nat}{aB:Option aO}{L:List Nat}(bA:N=L.length)(yo:N<2^40)(base w:Int):∀(f n:Nat)(H:I),N-n≤f→1≤n→n≤N→B≤H.next→dJ H q (.slice aB N cF) (rs L) →
 ∃dC h',n≤dC∧dC≤N∧H.next≤h'∧bf Tryz.prog aq B 85 (aY Tryz.prog 125 0) (s6 aB N cF base n w) H (.exit 0) [(5,.int .i64 (dC:Nat)),(6,.int .i64 w)] ⟨h',H.aj⟩:=by
 have bW:aO:=⟨0,0,0,0,1⟩
 intro f;induction f with
 |zero =>
  intro n H U ak aP aX r;obtain⟨e,ah,h',aC,rfl,rfl,rfl⟩:=SK H B N cF n aB base w 0 0 bW bW (fun e ah U=>e=.exit 0∧ah=s6 aB N cF base n w∧U=up H 8) (ae aX ⟨b7 (by omega),rfl,rfl,rfl⟩);exact⟨n,H.next+8,Nat.le_refl _,aP,by omega,(bf.last (by simp) aC).post (bL.facts (ed [5,6] (by kernel_rfl)))⟩
 |succ f ih =>
  intro n H U ak aP aX r;by_cases bU:n<N
  ·by_cases b8:n<16
   ·obtain⟨p,cv,bu,bS⟩:=r.rune (i:=n) (by omega);obtain⟨iv,cC,ci,gI⟩:=r.rune (i:=n-1) (by omega);have eq:((n-1:Nat):Int)=(n:Int)-1:=by omega
    rw [eq]at cC
    obtain⟨e,ah,h',aC,az⟩:=SJ H B N cF n aB base w (L[n]'(by omega):Nat) (L[n-1]'(by omega):Nat) p iv (fun e ah U=>U.aj=H.aj∧H.next≤U.next∧((e=.exit 0∧ah=s6 aB N cF base n w)∨(e=.normal∧ah=s6 aB N cF base (n+1) w)))
     (ae aX ⟨bB (by omega),bB (by omega),ae (by omega) ⟨cv,bS _,ae (by omega) (by
      repeat' (first|refine ae (by omega) ?_|refine df (by omega) ?_|apply And.intro|intro _)
      all_goals first
       |exact cC
       |exact gI _
       |rfl
       |(dsimp only;omega)
       |omega
       |exact .inl ⟨rfl,rfl⟩
       |exact .inr ⟨rfl,by rw [dx]⟩)⟩⟩)
    obtain⟨k1,k2,bT⟩:=az;obtain⟨bK,aT⟩:=h';have k1:aT=H.aj:=k1;subst k1;have k2:H.next≤bK:=k2
    rcases bT with ⟨rfl,rfl⟩|⟨rfl,rfl⟩
    ·exact⟨n,bK,Nat.le_refl _,aP,k2,(bf.last (by simp) aC).post (bL.facts (ed [5,6] (by kernel_rfl)))⟩
    ·obtain⟨dC,h',m1,m2,m3,dq⟩:=ih (n+1) ⟨bK,H.aj⟩ (by omega) (by omega) (by omega) (by show B≤bK;omega) (r.aI (Fr.aj k2) (by simp));exact⟨dC,h',by omega,m2,Nat.le_trans k2 m3,bf.round aC (bL.refl _ _ _ _) dq⟩
   ·obtain⟨e,ah,h',aC,rfl,rfl,rfl⟩:=SL H B N cF n aB base w 0 0 bW bW (fun e ah U=>e=.exit 0∧ah=s6 aB N cF base n w∧U=up H 8) (ae aX ⟨bB (by omega),b7 (by omega),rfl,rfl,rfl⟩);exact⟨n,H.next+8,Nat.le_refl _,aP,by omega,(bf.last (by simp) aC).post (bL.facts (ed [5,6] (by kernel_rfl)))⟩
  ·exact ih n H (by omega) ak aP aX r
theorem nS{a b:Int}(h:a=b):some (J.bool (a == b))=some (J.bool true):=by rw [h];simp
theorem iV{a b:Int}(h:¬a=b):some (J.bool (a == b))=some (J.bool false):=by
 have:(a == b)=false:=by rw [beq_eq_false_iff_ne];exact h
 rw [this]
theorem SY{L:List Nat}(bt:L≠[])(aF:L.length<2^40):∃q,De L q:=by
 have jA:0<L.length:=List.length_pos_iff.2 bt
 let H:I:=jD (ha L)
 have be:H.next=1:=rfl
 have r:dJ H 0 (.slice (some ⟨0,0,0,0,1⟩) L.length L.length) (rs L):=Hn (by show 0<1;decide) (IR L) rfl ⟨[],by simp⟩ (oS L).symm;obtain⟨p,cv,bu,bS⟩:=r.rune (i:=0) jA
 have key:∀(aD:Nat)(w0:Int)(k:Nat),1≤aD→aD≤L.length→ ∃dC h',1≤dC∧dC≤L.length∧H.next+k≤h'∧bf Tryz.prog aq H.next 85 (aY Tryz.prog 125 0) (s6 (some ⟨0,0,0,0,1⟩) L.length L.length (cT (L[0]:Nat)) aD w0) ⟨H.next+k,H.aj⟩ (.exit 0) [(5,.int .i64 (dC:Nat)),(6,.int .i64 w0)] ⟨h',H.aj⟩:=by intro aD w0 k U ak;obtain⟨dC,h',m1,m2,m3,dq⟩:=SX (B:=H.next) rfl aF (cT (L[0]:Nat)) w0 L.length aD ⟨H.next+k,H.aj⟩ (by omega) U ak (by show H.next≤H.next+k;omega) (r.aI (Fr.aj (by omega)) (by simp));exact⟨dC,h',by omega,m2,m3,dq⟩
 have fin:∀{n:Nat}{w:Int}{v:J}{h':I},1≤n→n≤L.length→aZ Tryz.prog aq 125 [.slice (some ⟨0,0,0,0,1⟩) L.length L.length] H v h'→v=.tuple [.int .i64 (n:Nat),.int .i64 w]→ ∃q,De L q:=by intro n w v h' U ak D e;subst e;exact⟨(n,w),U,ak,h',D⟩
 by_cases bU:cT (L[0]:Nat)=1
 ·obtain⟨v,h',D,e⟩:=SM H H L.length L.length 0 (some ⟨0,0,0,0,1⟩) 0 (L[0]:Nat) 0 p p (fun v _=>v=.tuple [.int .i64 ((1:Nat):Int),.int .i64 0]) (ae (Nat.le_refl _) (ae (by omega) ⟨cv,bS _,ae (by omega) ⟨nS bU,ae (by omega) (df (by omega) rfl)⟩⟩));exact fin (Nat.le_refl _) jA D e
 by_cases b8:cT (L[0]:Nat)=6
 ·by_cases dj:1<L.length
  ·obtain⟨a,cM,a2,a3⟩:=r.rune (i:=1) dj;by_cases eJ:cT (L[1]:Nat)=6
   ·obtain⟨dC,h',m1,m2,m3,dq⟩:=key 2 2 44 (by omega) (by omega)
    obtain⟨v,ak,D,e⟩:=SP H ⟨h',H.aj⟩ L.length L.length dC (some ⟨0,0,0,0,1⟩) 2 (L[0]:Nat) (L[1]:Nat) p a (fun v _=>v=.tuple [.int .i64 (dC:Nat),.int .i64 2])
     (ae (Nat.le_refl _) (ae (by omega) ⟨cv,bS _,ae (by omega) ⟨iV bU,ae (by omega) ⟨cv,bS _,ae (by omega) ⟨nS b8,bB (by omega),cM,a3 _,nS eJ,ae (by omega) (ae (by omega) ⟨iV (by omega),aR.cx dq,ae (by show H.next≤h';omega) (df (by show H.next≤h'+4;omega) rfl)⟩)⟩⟩⟩⟩))
    exact fin m1 m2 D e
   ·obtain⟨dC,h',m1,m2,m3,dq⟩:=key 1 (hy (L[0]:Nat)) 42 (by omega) (by omega)
    obtain⟨v,ak,D,e⟩:=SQ H ⟨h',H.aj⟩ L.length L.length dC (some ⟨0,0,0,0,1⟩) (hy (L[0]:Nat)) (L[0]:Nat) (L[1]:Nat) p a (fun v _=>v=.tuple [.int .i64 (dC:Nat),.int .i64 (hy (L[0]:Nat))])
     (ae (Nat.le_refl _) (ae (by omega) ⟨cv,bS _,ae (by omega) ⟨iV bU,ae (by omega) ⟨cv,bS _,ae (by omega) ⟨nS b8,bB (by omega),cM,a3 _,iV eJ,ae (by omega) ⟨iV (by omega),aR.cx dq,ae (by show H.next≤h';omega) (df (by show H.next≤h'+4;omega) rfl)⟩⟩⟩⟩⟩))
    exact fin m1 m2 D e
  ·obtain⟨dC,h',m1,m2,m3,dq⟩:=key 1 (hy (L[0]:Nat)) 42 (by omega) (by omega)
   obtain⟨v,ak,D,e⟩:=SO H ⟨h',H.aj⟩ L.length L.length dC (some ⟨0,0,0,0,1⟩) (hy (L[0]:Nat)) (L[0]:Nat) 0 p p (fun v _=>v=.tuple [.int .i64 (dC:Nat),.int .i64 (hy (L[0]:Nat))])
    (ae (Nat.le_refl _) (ae (by omega) ⟨cv,bS _,ae (by omega) ⟨iV bU,ae (by omega) ⟨cv,bS _,ae (by omega) ⟨nS b8,b7 (by omega),ae (by omega) ⟨iV (by omega),aR.cx dq,ae (by show H.next≤h';omega) (df (by show H.next≤h'+4;omega) rfl)⟩⟩⟩⟩⟩))
   exact fin m1 m2 D e
 by_cases fB:cT (L[0]:Nat)=8
 ·by_cases dj:1<L.length
  ·obtain⟨a,cM,a2,a3⟩:=r.rune (i:=1) dj;by_cases eJ:((L[1]:Nat):Int)=65039
   ·obtain⟨dC,h',m1,m2,m3,dq⟩:=key 1 2 43 (by omega) (by omega)
    obtain⟨v,ak,D,e⟩:=SS H ⟨h',H.aj⟩ L.length L.length dC (some ⟨0,0,0,0,1⟩) 2 (L[0]:Nat) (L[1]:Nat) p a (fun v _=>v=.tuple [.int .i64 (dC:Nat),.int .i64 2])
     (ae (Nat.le_refl _) (ae (by omega) ⟨cv,bS _,ae (by omega) ⟨iV bU,ae (by omega) ⟨cv,bS _,ae (by omega) ⟨iV b8,ae (by omega) ⟨nS fB,bB (by omega),cM,a3 _,nS eJ,ae (by omega) ⟨aR.cx dq,ae (by show H.next≤h';omega) (df (by show H.next≤h'+4;omega) rfl)⟩⟩⟩⟩⟩⟩))
    exact fin m1 m2 D e
   ·obtain⟨dC,h',m1,m2,m3,dq⟩:=key 1 (hy (L[0]:Nat)) 42 (by omega) (by omega)
    obtain⟨v,ak,D,e⟩:=SU H ⟨h',H.aj⟩ L.length L.length dC (some ⟨0,0,0,0,1⟩) (hy (L[0]:Nat)) (L[0]:Nat) (L[1]:Nat) p a (fun v _=>v=.tuple [.int .i64 (dC:Nat),.int .i64 (hy (L[0]:Nat))])
     (ae (Nat.le_refl _) (ae (by omega) ⟨cv,bS _,ae (by omega) ⟨iV bU,ae (by omega) ⟨cv,bS _,ae (by omega) ⟨iV b8,ae (by omega) ⟨nS fB,bB (by omega),cM,a3 _,iV eJ,aR.cx dq,ae (by show H.next≤h';omega) (df (by show H.next≤h'+4;omega) rfl)⟩⟩⟩⟩⟩))
    exact fin m1 m2 D e
  ·obtain⟨dC,h',m1,m2,m3,dq⟩:=key 1 (hy (L[0]:Nat)) 42 (by omega) (by omega)
   obtain⟨v,ak,D,e⟩:=SR H ⟨h',H.aj⟩ L.length L.length dC (some ⟨0,0,0,0,1⟩) (hy (L[0]:Nat)) (L[0]:Nat) 0 p p (fun v _=>v=.tuple [.int .i64 (dC:Nat),.int .i64 (hy (L[0]:Nat))])
    (ae (Nat.le_refl _) (ae (by omega) ⟨cv,bS _,ae (by omega) ⟨iV bU,ae (by omega) ⟨cv,bS _,ae (by omega) ⟨iV b8,ae (by omega) ⟨nS fB,b7 (by omega),aR.cx dq,ae (by show H.next≤h';omega) (df (by show H.next≤h'+4;omega) rfl)⟩⟩⟩⟩⟩))
   exact fin m1 m2 D e
 ·obtain⟨dC,h',m1,m2,m3,dq⟩:=key 1 (hy (L[0]:Nat)) 42 (by omega) (by omega)
  obtain⟨v,ak,D,e⟩:=SN H ⟨h',H.aj⟩ L.length L.length dC (some ⟨0,0,0,0,1⟩) (hy (L[0]:Nat)) (L[0]:Nat) 0 p p (fun v _=>v=.tuple [.int .i64 (dC:Nat),.int .i64 (hy (L[0]:Nat))])
   (ae (Nat.le_refl _) (ae (by omega) ⟨cv,bS _,ae (by omega) ⟨iV bU,ae (by omega) ⟨cv,bS _,ae (by omega) ⟨iV b8,ae (by omega) ⟨iV fB,aR.cx dq,ae (by show H.next≤h';omega) (df (by show H.next≤h'+4;omega) rfl)⟩⟩⟩⟩⟩))
  exact fin m1 m2 D e
end Go.Proofs.YtjpfnbihopoeeaaGreatDoor
namespace Go.Proofs.YtjpfnbihopoeeaaGreatDoor
open Go.RowKit Go.ba Go.Keys
abbrev rA:=List UInt8×Int
abbrev rA.v(c:rA):J:= .agg [.str c.1,.int .i64 c.2]
def vH(H:I):List rA→J
 |[]=> .slice none 0 0
 |c::r=> .slice (some ⟨H.next,0,0,0,2⟩) (r.length+1) (r.length+1)
noncomputable def rB(H:I):List rA→I
 |[]=>H
 |c::r=>(⟨H.next+1,H.aj⟩:I).set H.next (.made ((c::r).map rA.v) 2 false (some (92,0)))
theorem SZ{s:List UInt8}{R:List Int}{c8:List h4}(kE:∀(N0:Nat→Prop)(w0:World),Go.ba.dW N0 w0.heap.size→aq N0 w0→sl (lY N0 w0) ⟨s.toArray⟩ R c8)(H:I) :
 aZ Tryz.prog aq 141 [.str s] H (vH H (c8.map fun s=>(s.t,s.w))) (rB H (c8.map fun s=>(s.t,s.w))):=by
 intro N0 w0 bA dV φ w args' dw aX dy;obtain⟨l⟩:=args';simp only [bd,aA]at dy;obtain⟨a,t,rfl,⟨u,rfl,S0⟩,rfl⟩:=dy;refine⟨⟨Tryz.f141,_,Tryz.func141,rfl⟩,?_⟩;have kE:=kE N0 w0 bA dV;subst S0;have hu:(⟨u.data.toList.toArray⟩:ByteArray)=u:=by rfl
 rw [hu]at kE;refine(F1 _ _ (lY.ok bA) u R c8 kE w aX).mono ?_;rintro e aN ⟨ao,a8,rfl,hn,qV⟩;have uG:=dw.alike (Alike.below ao);have uH:=aX.xp bA ao;cases c8 with
 |nil=>exact⟨_,φ,rfl,d'.refl _ _,by rw [qV rfl];simp [vH,aA],uG,uH,Nat.le_refl _⟩
 |cons s0 r0 =>
  rcases hn.2 with ⟨_,bt⟩|⟨g,cap,sm,rfl,Ng,uI,be,jX,di,uJ⟩
  ·simp at bt
  ·have hid:∀v,φ H.next v=none:=fun v=>by
    cases aw:φ H.next v with
    |none=>rfl
    |some p=>have:=(dw.cO _ _ _ aw).1;omega
   have BF:ch φ N0 ⟨H.next+1,H.aj⟩ aN:=uG.next (n:=H.next+1) (by omega)
   have kB:¬N0 g:=fun k=>by have:=bA g k;have:=aX.size;omega
   have cg:∀i v p,φ i v=some p→p.bD≠g:=fun i v p ag=>by obtain⟨_,b,_,_,_,_,_,_,bZ⟩:=dw.cO i v p ag;have:=bZ.bD;omega
   have hlen:(((s0::r0).map fun s=>(s.t,s.w)).map fun c=>J.agg [.str c.1,.int .i64 c.2]).length=(s0::r0).length:=by simp
   have BG:=BF.FV (nid:=H.next) (g:=g) hid (by show H.next<H.next+1;omega) kB cg
    (l:=((s0::r0).map fun s=>(s.t,s.w)).map fun c=>J.agg [.str c.1,.int .i64 c.2]) (es:=2) (by decide) (fun e he=>by
     simp only [List.mem_map]at he;obtain⟨c,_,rfl⟩:=he
     rfl) (c:=sm) (t:=92) (tot:=cap) (ex:=false) uI
    (by rw [hlen,uJ];exact BE φ 0 (s0::r0)) (by omega) (by rw [hlen];exact be)
    (by rw [hlen,uJ];intro x ab;simp only [ms,List.mem_flatMap]at ab;obtain⟨y,_,bi⟩:=ab;simp at bi;rcases bi with rfl|rfl<;>rfl)
    (ty:=some (92,0)) (fun q aw=>by cases aw;exact⟨rfl,fun h=>absurd rfl h⟩)
   refine⟨_,φ.add H.next 0 ⟨g,0,0,2,cap,false,false⟩,rfl,?_,?_,BG,uH,by show H.next≤H.next+1;omega⟩
   ·have ab:=fK.add φ ⟨g,0,0,2,cap,false,false⟩ (hid 0) H.next (id:=H.next) (v:=0)
    exact⟨ab.le,fun i ac BH=>ab.new i ac (by omega) BH,ab.ro⟩
   ·simp only [vH,List.map_cons,aA,List.length_map];refine⟨_,cap,rfl,Nat.le_refl _,by simpa using be,.inl ⟨rfl,⟨g,0,0,2,cap,false,false⟩,Map.rP _ _ _ _,rfl,.inr ⟨Nat.zero_le _,by simp [Place.at],by simp⟩,fun h=>by simp at h⟩⟩
theorem S1(s:List UInt8)(hs:s.length≤2^29):∃cs:List rA,cs.length≤s.length∧∀H,aZ Tryz.prog aq 141 [.str s] H (vH H cs) (rB H cs):=by have aF:=CT s.length s (Nat.le_refl _);obtain⟨c8,bU,b8⟩:=SD (R:=ew s) (by omega) (IL s) (fun p ag=>SY (by intro h;have:=congrArg List.length h;simp at this;omega) (by rw [List.length_drop];omega)) (ew s).length 0 (by omega) (Nat.zero_le _);refine⟨c8.map fun s=>(s.t,s.w),by simp;omega,fun H=>SZ (R:=ha (ew s)) (fun N0 w0 bA dV=>⟨by omega,fun W aw=> ?_,bU N0 w0 bA dV⟩) H⟩;exact SC bA dV s (by omega) aw
end Go.Proofs.YtjpfnbihopoeeaaGreatDoor
namespace Go.Proofs.YtjpfnbihopoeeaaGreatDoor
open Go.ba
theorem S2(H H1:I)(B n c i:Nat)(so:Option aO)(g:FuncId)(x:J)(p:aO)(ai:bx→a6→I→Prop)(aG:ad B (H.next) (some (J.bool (decide ((i:Int)<(n:Int))))=some (J.bool true)∧ad B (H.next+1) (ad B (H.next+3) (bb env.D 139 (.slice so n c) (.int .i64 (i:Int))=some (J.ptr (some p))∧aQ env.D 21 p (I.mk (H.next+9) (H.2))=some x∧bY Tryz.prog aq g [x] (I.mk (H.next+9) (H.2)) (.bool true) H1∧ad B (H1.next) (ai .ret [(4,.int .i64 (i:Int))] (I.mk (H1.next+2) (I.aj H1))))))) :
 ∃e ah U,aR Tryz.prog aq B 19 (aY Tryz.prog 180 0) [(0,.slice so n c),(1,.func (.func g) [] []),(7,.int .i64 n),(8,.int .i64 i)] H e ah U∧ai e ah U :=
 b0 bg mixed bq (hs:= .aa (.val 2000 (.bool true)) (.aa (.val 4003 (.ptr (some p))) (.aa (.val 4004 x) (.aa (.act 4005 (.bool true) fun x=>H1) .nil)))) (keep:=[4]) (by kernel_rfl) aG
theorem S3(H H1:I)(B n c i:Nat)(so:Option aO)(g:FuncId)(x:J)(p:aO)(ai:bx→a6→I→Prop)(aG:ad B (H.next) (some (J.bool (decide ((i:Int)<(n:Int))))=some (J.bool true)∧ad B (H.next+1) (ad B (H.next+3) (bb env.D 139 (.slice so n c) (.int .i64 (i:Int))=some (J.ptr (some p))∧aQ env.D 21 p (I.mk (H.next+9) (H.2))=some x∧bY Tryz.prog aq g [x] (I.mk (H.next+9) (H.2)) (.bool false) H1∧ad B (H1.next) ((-9223372036854775808≤(i:Int)+1∧(i:Int)+1≤9223372036854775807)∧ai .normal [(0,.slice so n c),(1,.func (.func g) [] []),(7,.int .i64 (n:Int)),(8,.int .i64 ((i:Int)+1))] (I.mk (H1.next+2) (I.aj H1))))))) :
 ∃e ah U,aR Tryz.prog aq B 19 (aY Tryz.prog 180 0) [(0,.slice so n c),(1,.func (.func g) [] []),(7,.int .i64 n),(8,.int .i64 i)] H e ah U∧ai e ah U :=
 b0 bg mixed bq (hs:= .aa (.val 2000 (.bool true)) (.aa (.val 4003 (.ptr (some p))) (.aa (.val 4004 x) (.aa (.act 4005 (.bool false) fun x=>H1) (an 6000 .nil))))) (keep:=[0,1,7,8]) (by kernel_rfl) aG
theorem S4(H H1:I)(B n c i:Nat)(so:Option aO)(g:FuncId)(x:J)(p:aO)(ai:bx→a6→I→Prop)(aG:ad B (H.next) (some (J.bool (decide ((i:Int)<(n:Int))))=some (J.bool false)∧ai (.exit 0) [(0,.slice so n c),(1,.func (.func g) [] []),(7,.int .i64 (n:Int)),(8,.int .i64 (i:Int))] (I.mk (H.next+1) (I.aj H)))) :
 ∃e ah U,aR Tryz.prog aq B 19 (aY Tryz.prog 180 0) [(0,.slice so n c),(1,.func (.func g) [] []),(7,.int .i64 n),(8,.int .i64 i)] H e ah U∧ai e ah U :=
 b0 bg mixed bq (hs:= .aa (.val 2000 (.bool false)) .nil) (keep:=[0,1,7,8]) (by kernel_rfl) aG
theorem S5(H H1:I)(n c i:Nat)(so:Option aO)(g:FuncId)(ai:J→I→Prop)(aG:ad (H.next) (H.next) (ad (H.next) (H.next+1) (aR Tryz.prog aq (H.next) 19 (Code.loop (aY Tryz.prog 180 0)) [(0,.slice so n c),(1,.func (.func g) [] []),(7,.int .i64 (n:Int)),(8,.int .i64 0)] (I.mk (H.next+1+3) (I.aj (I.mk (H.next+1) (I.aj H)))) .ret [(4,.int .i64 (i:Int))] H1∧cW (H.next) (H1.next) (ai (.int .i64 (i:Int)) H1)))) :
 ∃v U,aZ Tryz.prog aq 180 [.slice so n c,.func (.func g) [] []] H v U∧ai v U :=
 cE bg mixed bq (hs:= .aa (.keep [0,1,7,8]) (.aa (.loop [(4,.int .i64 (i:Int))] H1 .ret) .nil)) (by kernel_rfl) aG
theorem S6(H H1:I)(n c i:Nat)(so:Option aO)(g:FuncId)(ai:J→I→Prop)(aG:ad (H.next) (H.next) (ad (H.next) (H.next+1) (aR Tryz.prog aq (H.next) 19 (Code.loop (aY Tryz.prog 180 0)) [(0,.slice so n c),(1,.func (.func g) [] []),(7,.int .i64 (n:Int)),(8,.int .i64 0)] (I.mk (H.next+1+3) (I.aj (I.mk (H.next+1) (I.aj H)))) (.exit 0) [] H1∧ad (H.next) (H1.next) (cW (H.next) (H1.next+1) (ai (.int .i64 (-1)) (I.mk (H1.next+1) (I.aj H1))))))) :
 ∃v U,aZ Tryz.prog aq 180 [.slice so n c,.func (.func g) [] []] H v U∧ai v U :=
 cE bg mixed bq (hs:= .aa (.keep [0,1,7,8]) (.aa (.loop [] H1 (.exit 0)) .nil)) (by kernel_rfl) aG
theorem S7(H H1 af:I)(B n c i j:Nat)(so:Option aO)(g:FuncId)(x:J)(p bu:aO)(ai:bx→a6→I→Prop)(aG:ad B (H.next) (some (J.bool (decide ((j:Int)<(n:Int))))=some (J.bool true)∧ad B (H.next+4) (bb env.D 139 (.slice so n c) (.int .i64 (j:Int))=some (J.ptr (some p))∧aQ env.D 21 p (I.mk (H.next+9) (H.2))=some x∧ad B (H.next+9) (bY Tryz.prog aq g [x] (I.mk (H.next+13) (H.2)) (.bool true) H1∧ad B (H1.next) ((-9223372036854775808≤(j:Int)+1∧(j:Int)+1≤9223372036854775807)∧ai .normal [(0,.slice so n c),(1,.func (.func g) [] []),(5,.int .i64 (i:Int)),(6,.int .i64 ((j:Int)+1))] (I.mk (H1.next+3) (I.aj H1))))))) :
 ∃e ah U,aR Tryz.prog aq B 42 (aY Tryz.prog 138 0) [(0,.slice so n c),(1,.func (.func g) [] []),(5,.int .i64 i),(6,.int .i64 j)] H e ah U∧ai e ah U :=
 b0 bg mixed bq (hs:= .aa (.val 5003 (.bool true)) (.aa (.val 7002 (.ptr (some p))) (.aa (.val 7003 x) (.aa (.act 8002 (.bool true) fun x=>H1) (an 6001 .nil))))) (keep:=[0,1,5,6]) (by kernel_rfl) aG
theorem S8(H H1 af:I)(B n c i j:Nat)(so:Option aO)(g:FuncId)(x:J)(p bu:aO)(ai:bx→a6→I→Prop)(aG:ad B (H.next) (some (J.bool (decide ((j:Int)<(n:Int))))=some (J.bool true)∧ad B (H.next+4) (bb env.D 139 (.slice so n c) (.int .i64 (j:Int))=some (J.ptr (some p))∧aQ env.D 21 p (I.mk (H.next+9) (H.2))=some x∧ad B (H.next+9) (bY Tryz.prog aq g [x] (I.mk (H.next+13) (H.2)) (.bool false) H1∧ad B (H1.next) (bb env.D 139 (.slice so n c) (.int .i64 (i:Int))=some (J.ptr (some bu))∧aV env bz (H1.next+4) (a1 [(33,.ptr (some bu)),(32,x)]) (I.mk (H1.next+5) (H1.2)) (Op.store 21 (Operand.tmp 33) (Operand.tmp 32))=some (J.tuple [],af)∧ad B (af.next) ((-9223372036854775808≤(i:Int)+1∧(i:Int)+1≤9223372036854775807)∧ad B (af.next+3) ((-9223372036854775808≤(j:Int)+1∧(j:Int)+1≤9223372036854775807)∧ai .normal [(0,.slice so n c),(1,.func (.func g) [] []),(5,.int .i64 ((i:Int)+1)),(6,.int .i64 ((j:Int)+1))] (I.mk (af.next+3+3) (I.aj (I.mk (af.next+3) (I.aj af))))))))))) :
 ∃e ah U,aR Tryz.prog aq B 42 (aY Tryz.prog 138 0) [(0,.slice so n c),(1,.func (.func g) [] []),(5,.int .i64 i),(6,.int .i64 j)] H e ah U∧ai e ah U :=
 b0 bg mixed bq (hs:= .aa (.val 5003 (.bool true)) (.aa (.val 7002 (.ptr (some p))) (.aa (.val 7003 x) (.aa (.act 8002 (.bool false) fun x=>H1) (.aa (.val 9003 (.ptr (some bu))) (.aa (.act 9004 (.tuple []) fun x=>af) (an 10001 (an 6001 .nil)))))))) (keep:=[0,1,5,6]) (by kernel_rfl) aG
theorem S9(H H1 af:I)(B n c i j:Nat)(so:Option aO)(g:FuncId)(x:J)(p bu:aO)(ai:bx→a6→I→Prop)(aG:ad B (H.next) (some (J.bool (decide ((j:Int)<(n:Int))))=some (J.bool false)∧ai (.exit 0) [(0,.slice so n c),(1,.func (.func g) [] []),(5,.int .i64 (i:Int)),(6,.int .i64 (j:Int))] (I.mk (H.next+4) (I.aj H)))) :
 ∃e ah U,aR Tryz.prog aq B 42 (aY Tryz.prog 138 0) [(0,.slice so n c),(1,.func (.func g) [] []),(5,.int .i64 i),(6,.int .i64 j)] H e ah U∧ai e ah U :=
 b0 bg mixed bq (hs:= .aa (.val 5003 (.bool false)) .nil) (keep:=[0,1,5,6]) (by kernel_rfl) aG
theorem S'(H H1 af ax:I)(n c i i2:Nat)(so:Option aO)(g:FuncId)(s2 fF:J)(ai:J→I→Prop)(aG:ad (H.next) (H.next) (ad (H.next) (H.next+1) (bY Tryz.prog aq 180 [.slice so n c,.func (.func g) [] []] (I.mk (H.next+5) (H.2)) (.int .i64 (-1)) H1∧ad (H.next) (H1.next) (some (J.bool true)=some (J.bool true)∧ad (H.next) (H1.next+2) (cW (H.next) (H1.next+4) (ai (.slice so n c) (I.mk (H1.next+2+2) (I.aj (I.mk (H1.next+2) (I.aj H1)))))))))) :
 ∃v U,aZ Tryz.prog aq 138 [.slice so n c,.func (.func g) [] []] H v U∧ai v U :=
 cE bg mixed bq (hs:= .aa (.act 1002 (.int .i64 (-1)) fun x=>H1) (.aa (.val 2001 (.bool true)) .nil)) (by kernel_rfl) aG
theorem Ta(H H1 af ax:I)(n c i i2:Nat)(so:Option aO)(g:FuncId)(s2 fF:J)(ai:J→I→Prop)(aG:ad (H.next) (H.next) (ad (H.next) (H.next+1) (bY Tryz.prog aq 180 [.slice so n c,.func (.func g) [] []] (I.mk (H.next+5) (H.2)) (.int .i64 (i:Int)) H1∧ad (H.next) (H1.next) (some (J.bool false)=some (J.bool false)∧ad (H.next) (H1.next+2) ((-9223372036854775808≤(i:Int)+1∧(i:Int)+1≤9223372036854775807)∧aR Tryz.prog aq (H.next) 42 (Code.loop (aY Tryz.prog 138 0)) [(0,.slice so n c),(1,.func (.func g) [] []),(5,.int .i64 (i:Int)),(6,.int .i64 ((i:Int)+1))] (I.mk (H1.next+2+3) (I.aj (I.mk (H1.next+2) (I.aj H1)))) (.exit 0) [(0,.slice so n c),(5,.int .i64 (i2:Int))] af∧ad (H.next) (af.next) (gC env.D 139 (.slice so n c) (some (.int .i64 (i2:Int))) none none=some s2∧dk env Builtin.clear {toList:=[139]} [s2] (af.next+3) (I.mk (af.next+4) (af.2))=some (J.tuple [],ax)∧ad (H.next) (ax.next) (gC env.D 139 (.slice so n c) none (some (.int .i64 (i2:Int))) none=some fF∧cW (H.next) (ax.next+4) (ai fF (I.mk (ax.next+4) (I.aj ax)))))))))) :
 ∃v U,aZ Tryz.prog aq 138 [.slice so n c,.func (.func g) [] []] H v U∧ai v U :=
 cE bg mixed bq (hs:= .aa (.act 1002 (.int .i64 (i:Int)) fun x=>H1) (.aa (.val 2001 (.bool false)) (an 4001 (.aa (.keep [0,1,5,6]) (.aa (.loop [(0,.slice so n c),(5,.int .i64 (i2:Int))] af (.exit 0)) (.aa (.val 11002 s2) (.aa (.act 11003 (.tuple []) fun x=>ax) (.aa (.val 12002 fF) .nil)))))))) (by kernel_rfl) aG
theorem Tb(H H1:I)(B n c i:Nat)(so:Option aO)(g:FuncId)(x:J)(p:aO)(ai:bx→a6→I→Prop)(aG:ad B (H.next) (some (J.bool (decide ((i:Int)<(n:Int))))=some (J.bool true)∧ad B (H.next+1) (ad B (H.next+3) (bb env.D 115 (.slice so n c) (.int .i64 (i:Int))=some (J.ptr (some p))∧aQ env.D 92 p (I.mk (H.next+9) (H.2))=some x∧bY Tryz.prog aq g [x] (I.mk (H.next+9) (H.2)) (.bool true) H1∧ad B (H1.next) (ai .ret [(4,.int .i64 (i:Int))] (I.mk (H1.next+2) (I.aj H1))))))) :
 ∃e ah U,aR Tryz.prog aq B 19 (aY Tryz.prog 183 0) [(0,.slice so n c),(1,.func (.func g) [] []),(7,.int .i64 n),(8,.int .i64 i)] H e ah U∧ai e ah U :=
 b0 bg mixed bq (hs:= .aa (.val 2000 (.bool true)) (.aa (.val 4003 (.ptr (some p))) (.aa (.val 4004 x) (.aa (.act 4005 (.bool true) fun x=>H1) .nil)))) (keep:=[4]) (by kernel_rfl) aG
theorem Tc(H H1:I)(B n c i:Nat)(so:Option aO)(g:FuncId)(x:J)(p:aO)(ai:bx→a6→I→Prop)(aG:ad B (H.next) (some (J.bool (decide ((i:Int)<(n:Int))))=some (J.bool true)∧ad B (H.next+1) (ad B (H.next+3) (bb env.D 115 (.slice so n c) (.int .i64 (i:Int))=some (J.ptr (some p))∧aQ env.D 92 p (I.mk (H.next+9) (H.2))=some x∧bY Tryz.prog aq g [x] (I.mk (H.next+9) (H.2)) (.bool false) H1∧ad B (H1.next) ((-9223372036854775808≤(i:Int)+1∧(i:Int)+1≤9223372036854775807)∧ai .normal [(0,.slice so n c),(1,.func (.func g) [] []),(7,.int .i64 (n:Int)),(8,.int .i64 ((i:Int)+1))] (I.mk (H1.next+2) (I.aj H1))))))) :
 ∃e ah U,aR Tryz.prog aq B 19 (aY Tryz.prog 183 0) [(0,.slice so n c),(1,.func (.func g) [] []),(7,.int .i64 n),(8,.int .i64 i)] H e ah U∧ai e ah U :=
 b0 bg mixed bq (hs:= .aa (.val 2000 (.bool true)) (.aa (.val 4003 (.ptr (some p))) (.aa (.val 4004 x) (.aa (.act 4005 (.bool false) fun x=>H1) (an 6000 .nil))))) (keep:=[0,1,7,8]) (by kernel_rfl) aG
theorem Td(H H1:I)(B n c i:Nat)(so:Option aO)(g:FuncId)(x:J)(p:aO)(ai:bx→a6→I→Prop)(aG:ad B (H.next) (some (J.bool (decide ((i:Int)<(n:Int))))=some (J.bool false)∧ai (.exit 0) [(0,.slice so n c),(1,.func (.func g) [] []),(7,.int .i64 (n:Int)),(8,.int .i64 (i:Int))] (I.mk (H.next+1) (I.aj H)))) :
 ∃e ah U,aR Tryz.prog aq B 19 (aY Tryz.prog 183 0) [(0,.slice so n c),(1,.func (.func g) [] []),(7,.int .i64 n),(8,.int .i64 i)] H e ah U∧ai e ah U :=
 b0 bg mixed bq (hs:= .aa (.val 2000 (.bool false)) .nil) (keep:=[0,1,7,8]) (by kernel_rfl) aG
theorem Te(H H1:I)(n c i:Nat)(so:Option aO)(g:FuncId)(ai:J→I→Prop)(aG:ad (H.next) (H.next) (ad (H.next) (H.next+1) (aR Tryz.prog aq (H.next) 19 (Code.loop (aY Tryz.prog 183 0)) [(0,.slice so n c),(1,.func (.func g) [] []),(7,.int .i64 (n:Int)),(8,.int .i64 0)] (I.mk (H.next+1+3) (I.aj (I.mk (H.next+1) (I.aj H)))) .ret [(4,.int .i64 (i:Int))] H1∧cW (H.next) (H1.next) (ai (.int .i64 (i:Int)) H1)))) :
 ∃v U,aZ Tryz.prog aq 183 [.slice so n c,.func (.func g) [] []] H v U∧ai v U :=
 cE bg mixed bq (hs:= .aa (.keep [0,1,7,8]) (.aa (.loop [(4,.int .i64 (i:Int))] H1 .ret) .nil)) (by kernel_rfl) aG
theorem Tf(H H1:I)(n c i:Nat)(so:Option aO)(g:FuncId)(ai:J→I→Prop)(aG:ad (H.next) (H.next) (ad (H.next) (H.next+1) (aR Tryz.prog aq (H.next) 19 (Code.loop (aY Tryz.prog 183 0)) [(0,.slice so n c),(1,.func (.func g) [] []),(7,.int .i64 (n:Int)),(8,.int .i64 0)] (I.mk (H.next+1+3) (I.aj (I.mk (H.next+1) (I.aj H)))) (.exit 0) [] H1∧ad (H.next) (H1.next) (cW (H.next) (H1.next+1) (ai (.int .i64 (-1)) (I.mk (H1.next+1) (I.aj H1))))))) :
 ∃v U,aZ Tryz.prog aq 183 [.slice so n c,.func (.func g) [] []] H v U∧ai v U :=
 cE bg mixed bq (hs:= .aa (.keep [0,1,7,8]) (.aa (.loop [] H1 (.exit 0)) .nil)) (by kernel_rfl) aG
abbrev jL(s:List UInt8)(w:Int):J:=J.agg [.str s,.int .i64 w]
theorem Tg(H H1 af ax au:I)(B n c i j z:Nat)(so:Option aO)(g:FuncId)(s:List UInt8)(w:Int)(p bu:aO)(ai:bx→a6→I→Prop)(aG:ad B (H.next) (some (J.bool (decide ((j:Int)<(n:Int))))=some (J.bool true)∧ad B (H.next+4) (bb env.D 115 (.slice so n c) (.int .i64 (j:Int))=some (J.ptr (some p))∧aQ env.D 92 p (I.mk (H.next+10) (H.2))=some ((jL s w))∧aV env bz (H.next+8) (a1 []) (I.mk (H.next+10) (H.2)) (Op.alloc 92)=some (J.ptr (some ⟨z,0,0,0,2⟩),H1)∧aV env bz (H.next+9) (a1 [(7,.ptr (some ⟨z,0,0,0,2⟩)),(25,(jL s w))]) H1 (Op.store 92 (Operand.tmp 7) (Operand.tmp 25))=some (J.tuple [],af)∧ad B (af.next) (aQ env.D 92 ⟨z,0,0,0,2⟩ (I.mk (af.next+4) (af.2))=some ((jL s w))∧bY Tryz.prog aq g [(jL s w)] (I.mk (af.next+4) (af.2)) (.bool true) ax∧ad B (ax.next) ((-9223372036854775808≤(j:Int)+1∧(j:Int)+1≤9223372036854775807)∧ai .normal [(0,.slice so n c),(1,.func (.func g) [] []),(5,.int .i64 (i:Int)),(6,.int .i64 ((j:Int)+1))] (I.mk (ax.next+3) (I.aj ax))))))) :
 ∃e ah U,aR Tryz.prog aq B 42 (aY Tryz.prog 142 0) [(0,.slice so n c),(1,.func (.func g) [] []),(5,.int .i64 i),(6,.int .i64 j)] H e ah U∧ai e ah U :=
 b0 bg mixed bq (hs:= .aa (.val 5003 (.bool true)) (.aa (.val 7002 (.ptr (some p))) (.aa (.val 7003 ((jL s w))) (.aa (.act 7004 (.ptr (some ⟨z,0,0,0,2⟩)) fun x=>H1) (.aa (.act 7005 (.tuple []) fun x=>af) (.aa (.val 8001 ((jL s w))) (.aa (.act 8002 (.bool true) fun x=>ax) (an 6001 .nil)))))))) (keep:=[0,1,5,6]) (by kernel_rfl) aG
theorem Th(H H1 af ax au:I)(B n c i j z:Nat)(so:Option aO)(g:FuncId)(s:List UInt8)(w:Int)(p bu:aO)(ai:bx→a6→I→Prop)(aG:ad B (H.next) (some (J.bool (decide ((j:Int)<(n:Int))))=some (J.bool true)∧ad B (H.next+4) (bb env.D 115 (.slice so n c) (.int .i64 (j:Int))=some (J.ptr (some p))∧aQ env.D 92 p (I.mk (H.next+10) (H.2))=some ((jL s w))∧aV env bz (H.next+8) (a1 []) (I.mk (H.next+10) (H.2)) (Op.alloc 92)=some (J.ptr (some ⟨z,0,0,0,2⟩),H1)∧aV env bz (H.next+9) (a1 [(7,.ptr (some ⟨z,0,0,0,2⟩)),(25,(jL s w))]) H1 (Op.store 92 (Operand.tmp 7) (Operand.tmp 25))=some (J.tuple [],af)∧ad B (af.next) (aQ env.D 92 ⟨z,0,0,0,2⟩ (I.mk (af.next+4) (af.2))=some ((jL s w))∧bY Tryz.prog aq g [(jL s w)] (I.mk (af.next+4) (af.2)) (.bool false) ax∧ad B (ax.next) (aQ env.D 92 ⟨z,0,0,0,2⟩ (I.mk (ax.next+5) (ax.2))=some ((jL s w))∧bb env.D 115 (.slice so n c) (.int .i64 (i:Int))=some (J.ptr (some bu))∧aV env bz (ax.next+4) (a1 [(33,.ptr (some bu)),(32,(jL s w))]) (I.mk (ax.next+5) (ax.2)) (Op.store 92 (Operand.tmp 33) (Operand.tmp 32))=some (J.tuple [],au)∧ad B (au.next) ((-9223372036854775808≤(i:Int)+1∧(i:Int)+1≤9223372036854775807)∧ad B (au.next+3) ((-9223372036854775808≤(j:Int)+1∧(j:Int)+1≤9223372036854775807)∧ai .normal [(0,.slice so n c),(1,.func (.func g) [] []),(5,.int .i64 ((i:Int)+1)),(6,.int .i64 ((j:Int)+1))] (I.mk (au.next+3+3) (I.aj (I.mk (au.next+3) (I.aj au))))))))))) :
 ∃e ah U,aR Tryz.prog aq B 42 (aY Tryz.prog 142 0) [(0,.slice so n c),(1,.func (.func g) [] []),(5,.int .i64 i),(6,.int .i64 j)] H e ah U∧ai e ah U :=
 b0 bg mixed bq (hs:= .aa (.val 5003 (.bool true)) (.aa (.val 7002 (.ptr (some p))) (.aa (.val 7003 ((jL s w))) (.aa (.act 7004 (.ptr (some ⟨z,0,0,0,2⟩)) fun x=>H1) (.aa (.act 7005 (.tuple []) fun x=>af) (.aa (.val 8001 ((jL s w))) (.aa (.act 8002 (.bool false) fun x=>ax) (.aa (.val 9002 ((jL s w))) (.aa (.val 9003 (.ptr (some bu))) (.aa (.act 9004 (.tuple []) fun x=>au) (an 10001 (an 6001 .nil)))))))))))) (keep:=[0,1,5,6]) (by kernel_rfl) aG
theorem Ti(H H1 af ax au:I)(B n c i j z:Nat)(so:Option aO)(g:FuncId)(s:List UInt8)(w:Int)(p bu:aO)(ai:bx→a6→I→Prop)(aG:ad B (H.next) (some (J.bool (decide ((j:Int)<(n:Int))))=some (J.bool false)∧ai (.exit 0) [(0,.slice so n c),(1,.func (.func g) [] []),(5,.int .i64 (i:Int)),(6,.int .i64 (j:Int))] (I.mk (H.next+4) (I.aj H)))) :
 ∃e ah U,aR Tryz.prog aq B 42 (aY Tryz.prog 142 0) [(0,.slice so n c),(1,.func (.func g) [] []),(5,.int .i64 i),(6,.int .i64 j)] H e ah U∧ai e ah U :=
 b0 bg mixed bq (hs:= .aa (.val 5003 (.bool false)) .nil) (keep:=[0,1,5,6]) (by kernel_rfl) aG
theorem Tj(H H1 af ax:I)(n c i i2:Nat)(so:Option aO)(g:FuncId)(s2 fF:J)(ai:J→I→Prop)(aG:ad (H.next) (H.next) (ad (H.next) (H.next+1) (bY Tryz.prog aq 183 [.slice so n c,.func (.func g) [] []] (I.mk (H.next+5) (H.2)) (.int .i64 (-1)) H1∧ad (H.next) (H1.next) (some (J.bool true)=some (J.bool true)∧ad (H.next) (H1.next+2) (cW (H.next) (H1.next+4) (ai (.slice so n c) (I.mk (H1.next+2+2) (I.aj (I.mk (H1.next+2) (I.aj H1)))))))))) :
 ∃v U,aZ Tryz.prog aq 142 [.slice so n c,.func (.func g) [] []] H v U∧ai v U :=
 cE bg mixed bq (hs:= .aa (.act 1002 (.int .i64 (-1)) fun x=>H1) (.aa (.val 2001 (.bool true)) .nil)) (by kernel_rfl) aG
theorem Tk(H H1 af ax:I)(n c i i2:Nat)(so:Option aO)(g:FuncId)(s2 fF:J)(ai:J→I→Prop)(aG:ad (H.next) (H.next) (ad (H.next) (H.next+1) (bY Tryz.prog aq 183 [.slice so n c,.func (.func g) [] []] (I.mk (H.next+5) (H.2)) (.int .i64 (i:Int)) H1∧ad (H.next) (H1.next) (some (J.bool false)=some (J.bool false)∧ad (H.next) (H1.next+2) ((-9223372036854775808≤(i:Int)+1∧(i:Int)+1≤9223372036854775807)∧aR Tryz.prog aq (H.next) 42 (Code.loop (aY Tryz.prog 142 0)) [(0,.slice so n c),(1,.func (.func g) [] []),(5,.int .i64 (i:Int)),(6,.int .i64 ((i:Int)+1))] (I.mk (H1.next+2+3) (I.aj (I.mk (H1.next+2) (I.aj H1)))) (.exit 0) [(0,.slice so n c),(5,.int .i64 (i2:Int))] af∧ad (H.next) (af.next) (gC env.D 115 (.slice so n c) (some (.int .i64 (i2:Int))) none none=some s2∧dk env Builtin.clear {toList:=[115]} [s2] (af.next+3) (I.mk (af.next+4) (af.2))=some (J.tuple [],ax)∧ad (H.next) (ax.next) (gC env.D 115 (.slice so n c) none (some (.int .i64 (i2:Int))) none=some fF∧cW (H.next) (ax.next+4) (ai fF (I.mk (ax.next+4) (I.aj ax)))))))))) :
 ∃v U,aZ Tryz.prog aq 142 [.slice so n c,.func (.func g) [] []] H v U∧ai v U :=
 cE bg mixed bq (hs:= .aa (.act 1002 (.int .i64 (i:Int)) fun x=>H1) (.aa (.val 2001 (.bool false)) (an 4001 (.aa (.keep [0,1,5,6]) (.aa (.loop [(0,.slice so n c),(5,.int .i64 (i2:Int))] af (.exit 0)) (.aa (.val 11002 s2) (.aa (.act 11003 (.tuple []) fun x=>ax) (.aa (.val 12002 fF) .nil)))))))) (by kernel_rfl) aG
end Go.Proofs.YtjpfnbihopoeeaaGreatDoor
namespace Go.Proofs.YtjpfnbihopoeeaaGreatDoor
open Go.ba
theorem Tl(H H1:I)(B n c i:Nat)(so:Option aO)(x:Int)(p:aO)(ai:bx→a6→I→Prop)(aG:ad B (H.next) (some (J.bool (decide ((i:Int)<(n:Int))))=some (J.bool true)∧ad B (H.next+1) (bb env.D 139 (.slice so n c) (.int .i64 (i:Int))=some (J.ptr (some p))∧aQ env.D 21 p (I.mk (H.next+6) (H.2))=some (.int .i32 x)∧ad B (H.next+6) (some (J.bool (x == 9))=some (J.bool true)∧ad B (H.next+8) (bb env.D 139 (.slice so n c) (.int .i64 (i:Int))=some (J.ptr (some p))∧aV env bz (H.next+11) (a1 [(22,.ptr (some p))]) (I.mk (H.next+12) (H.2)) (Op.store 21 (Operand.tmp 22) (Operand.const (Value.int IntKind.i32 (32))))=some (J.tuple [],H1)∧ad B (H1.next) ((-9223372036854775808≤(i:Int)+1∧(i:Int)+1≤9223372036854775807)∧ai .normal [(3,.slice so n c),(11,.slice so n c),(12,.int .i64 (n:Int)),(13,.int .i64 ((i:Int)+1))] (I.mk (H1.next+2) (I.aj H1)))))))) :
 ∃e ah U,aR Tryz.prog aq B 29 (aY Tryz.prog 90 0) [(3,.slice so n c),(11,.slice so n c),(12,.int .i64 n),(13,.int .i64 i)] H e ah U∧ai e ah U :=
 b0 bg mixed bq (hs:= .aa (.val 4000 (.bool true)) (.aa (.val 5001 (.ptr (some p))) (.aa (.val 5002 (.int .i32 x)) (.aa (.val 6001 (.bool true)) (.aa (.val 7002 (.ptr (some p))) (.aa (.act 7003 (.tuple []) fun x=>H1) (an 8000 .nil))))))) (keep:=[3,11,12,13]) (by kernel_rfl) aG
theorem Tm(H H1:I)(B n c i:Nat)(so:Option aO)(x:Int)(p:aO)(ai:bx→a6→I→Prop)(aG:ad B (H.next) (some (J.bool (decide ((i:Int)<(n:Int))))=some (J.bool true)∧ad B (H.next+1) (bb env.D 139 (.slice so n c) (.int .i64 (i:Int))=some (J.ptr (some p))∧aQ env.D 21 p (I.mk (H.next+6) (H.2))=some (.int .i32 x)∧ad B (H.next+6) (some (J.bool (x == 9))=some (J.bool false)∧ad B (H.next+8) ((-9223372036854775808≤(i:Int)+1∧(i:Int)+1≤9223372036854775807)∧ai .normal [(3,.slice so n c),(11,.slice so n c),(12,.int .i64 (n:Int)),(13,.int .i64 ((i:Int)+1))] (I.mk (H.next+8+2) (I.aj (I.mk (H.next+6+2) (I.aj (I.mk (H.next+1+5) (I.aj (I.mk (H.next+1) (I.aj H))))))))))))) :
 ∃e ah U,aR Tryz.prog aq B 29 (aY Tryz.prog 90 0) [(3,.slice so n c),(11,.slice so n c),(12,.int .i64 n),(13,.int .i64 i)] H e ah U∧ai e ah U :=
 b0 bg mixed bq (hs:= .aa (.val 4000 (.bool true)) (.aa (.val 5001 (.ptr (some p))) (.aa (.val 5002 (.int .i32 x)) (.aa (.val 6001 (.bool false)) (an 8000 .nil))))) (keep:=[3,11,12,13]) (by kernel_rfl) aG
theorem Tn(H H1:I)(B n c i:Nat)(so:Option aO)(x:Int)(p:aO)(ai:bx→a6→I→Prop)(aG:ad B (H.next) (some (J.bool (decide ((i:Int)<(n:Int))))=some (J.bool false)∧ai (.exit 0) [(3,.slice so n c),(11,.slice so n c),(12,.int .i64 (n:Int)),(13,.int .i64 (i:Int))] (I.mk (H.next+1) (I.aj H)))) :
 ∃e ah U,aR Tryz.prog aq B 29 (aY Tryz.prog 90 0) [(3,.slice so n c),(11,.slice so n c),(12,.int .i64 n),(13,.int .i64 i)] H e ah U∧ai e ah U :=
 b0 bg mixed bq (hs:= .aa (.val 4000 (.bool false)) .nil) (keep:=[3,11,12,13]) (by kernel_rfl) aG
theorem To(H H1 af ax au aU bc:I)(n c:Nat)(so:Option aO)(s t:List UInt8)(v1 bk dR:J)(ai:J→I→Prop)(aG:ad (H.next) (H.next) (ad (H.next) (H.next+1) (bY Tryz.prog aq 123 [.str s] (I.mk (H.next+4) (H.2)) v1 H1∧ad (H.next) (H1.next) (bY Tryz.prog aq 138 [v1,.func (.func 139) [] []] (I.mk (H1.next+3) (H1.2)) (.slice so n c) af∧ad (H.next) (af.next) (aR Tryz.prog aq (H.next) 29 (Code.loop (aY Tryz.prog 90 0)) [(3,.slice so n c),(11,.slice so n c),(12,.int .i64 (n:Int)),(13,.int .i64 0)] (I.mk (af.next+3) (I.aj af)) (.exit 0) [(3,.slice so n c)] ax∧ad (H.next) (ax.next) (bY Tryz.prog aq 126 [.slice so n c] (I.mk (ax.next+4) (ax.2)) (.str t) au∧bY Tryz.prog aq 141 [.str t] au bk aU∧ad (H.next) (aU.next) (bY Tryz.prog aq 142 [bk,.func (.func 143) [] []] (I.mk (aU.next+3) (aU.2)) dR bc∧cW (H.next) (bc.next) (ai dR bc)))))))) :
 ∃v U,aZ Tryz.prog aq 90 [.str s] H v U∧ai v U :=
 cE bg mixed bq (hs:= .aa (.act 1001 v1 fun x=>H1) (.aa (.act 2001 (.slice so n c) fun x=>af) (.aa (.keep [3,11,12,13]) (.aa (.loop [(3,.slice so n c)] ax (.exit 0)) (.aa (.act 9001 (.str t) fun x=>au) (.aa (.act 9002 bk fun x=>aU) (.aa (.act 10001 dR fun x=>bc) .nil))))))) (by kernel_rfl) aG
theorem Tp(r:Int)(ai:J→I→Prop)(aG:(r=10→ai (.bool false) (I.bI 13 []))∧(¬r=10→(r=9→ai (.bool false) (I.bI 13 []))∧(¬r=9→(cT r=1→ai (.bool true) (I.bI 13 []))∧(¬cT r=1→ai (.bool false) (I.bI 13 []))))) :
 ∃v U,aZ Tryz.prog aq 139 [.int .i32 r] (⟨0,.nil⟩) v U∧ai v U :=
 cE bg mixed Df (hs:= .bP 1001 .nil (.bP 1004 .nil (.bP 1009 .nil .nil))) (by kernel_rfl) aG
abbrev Dh(s:List UInt8)(w:Int):I:=(I.bI 11 [(0,aJ.made [(jL s w)] 2 true (some (92,2)))])
theorem Tq(s:List UInt8)(w:Int)(ai:J→I→Prop)(aG:(w=0→(s=[(10:UInt8)]→ai (.bool false) (Dh s w))∧(¬s=[(10:UInt8)]→ai (.bool true) (Dh s w)))∧(¬w=0→ai (.bool false) (Dh s w))) :
 ∃v U,aZ Tryz.prog aq 143 [.agg [.str s,.int .i64 w]] (⟨0,.nil⟩) v U∧ai v U :=
 cE bg mixed bq (hs:= .bP 1002 (.bP 1006 .nil .nil) .nil) (by kernel_rfl) aG
theorem Tr(H H1 af:I)(B n c i z:Nat)(so:Option aO)(a w y:Int)(s:List UInt8)(p:aO)(ai:bx→a6→I→Prop)(aG:ad B (H.next) (some (J.bool (decide ((i:Int)<(n:Int))))=some (J.bool true)∧ad B (H.next+1) (bb env.D 115 (.slice so n c) (.int .i64 (i:Int))=some (J.ptr (some p))∧aQ env.D 92 p (I.mk (H.next+5) (H.2))=some (J.agg [.str s,.int .i64 w])∧aV env bz (H.next+3) (a1 []) (I.mk (H.next+5) (H.2)) (Op.alloc 92)=some (J.ptr (some ⟨z,0,0,0,2⟩),H1)∧aV env bz (H.next+4) (a1 [(5,.ptr (some ⟨z,0,0,0,2⟩)),(12,.agg [.str s,.int .i64 w])]) H1 (Op.store 92 (Operand.tmp 5) (Operand.tmp 12))=some (J.tuple [],af)∧ad B (af.next) (aQ env.D 3 ⟨z,0,0,1,2⟩ (I.mk (af.next+5) (af.2))=some (.int .i64 w)∧some (J.int .i64 (IntKind.wrap IntKind.i64 (a+w)))=some (.int .i64 y)∧ad B (af.next+5) ((-9223372036854775808≤(i:Int)+1∧(i:Int)+1≤9223372036854775807)∧ai .normal [(3,.int .i64 y),(7,.slice so n c),(8,.int .i64 (n:Int)),(9,.int .i64 ((i:Int)+1))] (I.mk (af.next+5+2) (I.aj (I.mk (af.next+5) (I.aj af))))))))) :
 ∃e ah U,aR Tryz.prog aq B 20 (aY Tryz.prog 48 0) [(3,.int .i64 a),(7,.slice so n c),(8,.int .i64 n),(9,.int .i64 i)] H e ah U∧ai e ah U :=
 b0 bg mixed bq (hs:= .aa (.val 3000 (.bool true)) (.aa (.val 4000 (.ptr (some p))) (.aa (.val 4001 (.agg [.str s,.int .i64 w])) (.aa (.act 4002 (.ptr (some ⟨z,0,0,0,2⟩)) fun x=>H1) (.aa (.act 4003 (.tuple []) fun x=>af) (.aa (.val 5002 (.int .i64 w)) (.aa (.val 5003 (.int .i64 y)) (an 6000 .nil)))))))) (keep:=[3,7,8,9]) (by kernel_rfl) aG
theorem Ts(H H1 af:I)(B n c i z:Nat)(so:Option aO)(a w y:Int)(s:List UInt8)(p:aO)(ai:bx→a6→I→Prop)(aG:ad B (H.next) (some (J.bool (decide ((i:Int)<(n:Int))))=some (J.bool false)∧ai (.exit 0) [(3,.int .i64 a),(7,.slice so n c),(8,.int .i64 (n:Int)),(9,.int .i64 (i:Int))] (I.mk (H.next+1) (I.aj H)))) :
 ∃e ah U,aR Tryz.prog aq B 20 (aY Tryz.prog 48 0) [(3,.int .i64 a),(7,.slice so n c),(8,.int .i64 n),(9,.int .i64 i)] H e ah U∧ai e ah U :=
 b0 bg mixed bq (hs:= .aa (.val 3000 (.bool false)) .nil) (keep:=[3,7,8,9]) (by kernel_rfl) aG
theorem Tt(H H1 af:I)(n c:Nat)(so:Option aO)(s:List UInt8)(a:Int)(ai:J→I→Prop)(aG:ad (H.next) (H.next) (ad (H.next) (H.next+1) (ad (H.next) (H.next+2) (bY Tryz.prog aq 90 [.str s] (I.mk (H.next+6) (H.2)) (.slice so n c) H1∧aR Tryz.prog aq (H.next) 20 (Code.loop (aY Tryz.prog 48 0)) [(3,.int .i64 0),(7,.slice so n c),(8,.int .i64 (n:Int)),(9,.int .i64 0)] H1 (.exit 0) [(3,.int .i64 a)] af∧ad (H.next) (af.next) (cW (H.next) (af.next+3) (ai (.int .i64 (if 4096<a then 4096 else a)) (I.mk (af.next+3) (I.aj af)))))))) :
 ∃v U,aZ Tryz.prog aq 48 [.str s] H v U∧ai v U :=
 cE bg mixed bq (hs:= .aa (.act 2001 (.slice so n c) fun x=>H1) (.aa (.keep [3,7,8,9]) (.aa (.loop [(3,.int .i64 a)] af (.exit 0)) .nil))) (by kernel_rfl) aG
theorem Tu(H:I)(c:Nat)(so:Option aO)(ai:J→I→Prop)(aG:ad (H.next) (H.next) (ad (H.next) (H.next+1) (ad (H.next) (H.next+2) (ad (H.next) (H.next+5) (ad (H.next) (H.next+6) (cW (H.next) (H.next+9) (ai (.str []) (I.mk (H.next+6+3) (I.aj (I.mk (H.next+5+1) (I.aj (I.mk (H.next+2+3) (I.aj (I.mk (H.next+1+1) (I.aj (I.mk (H.next+1) (I.aj H))))))))))))))))) :
 ∃v U,aZ Tryz.prog aq 126 [.slice so 0 c] H v U∧ai v U :=
 cE bg mixed bq (hs:= .aa (.rounds 300) .nil) (by kernel_rfl) aG
end Go.Proofs.YtjpfnbihopoeeaaGreatDoor
namespace Go.Proofs.YtjpfnbihopoeeaaGreatDoor
open Go.ba
theorem Tv{l vs:List J}(h:vs.length=l.length):hf l 0 vs=vs:=by
 apply List.ext_getElem?;intro i;rw [rQ];split
 ·rename_i ar;simp
 ·rename_i ar;have:l.length≤i:=by omega
  rw [List.getElem?_eq_none this,List.getElem?_eq_none (by omega)]
theorem Di{t:TypeId}{es:Nat}{zs cs:List J}(bl:(bh.D env t).map (fun d=>(d.kind.isAgg,d.size,d.zero))=some (true,es,some (.agg zs)))(Tw:zs.length=es)(tP:zs.all (·.iG)=true)(dO:cs.length=es)(cP:cs.all (·.iG)=true)(eA:0<es)(H:I)(nid:Nat) :
 ∃H1 af,(∀F,aV env bz nid (a1 F) H (Op.alloc t)=some (.ptr (some ⟨nid,0,0,0,es⟩),H1))∧e7 (bh.D env) t ⟨nid,0,0,0,es⟩ (.agg cs) H1=some af∧H1.next=H.next∧af.next=H.next∧Fr H af [nid]∧(∃b,af.get nid=some b∧b.ver=0∧b.a'=[.agg cs]) ∧
  (∀(G:I)(b:aJ),G.get nid=some b→b.ver=0→b.a'=[.agg cs]→ ∀n,aQ (bh.D env) t ⟨nid,0,0,0,es⟩ ⟨n,G.aj⟩=some (.agg cs)):=by
 obtain⟨d,d1,d2⟩:=Option.map_eq_some_iff.1 bl;simp only [Prod.mk.injEq]at d2;obtain⟨d3,d4,d5⟩:=d2;have he:env.D t=some d:=d1
 have f1:(J.agg zs).fits d.kind.isAgg d.size=true:=by simp only [J.fits,d3,d4,Tw,tP];simp
 have f2:(J.agg cs).fits d.kind.isAgg d.size=true:=by simp only [J.fits,d3,d4,dO,cP];simp
 have IX:=f1;rw [d4]at IX
 let H1:I:=H.set nid (.made [.agg zs] es true (some (t,es)))
 have g1:H1.get nid=some (.made [.agg zs] es true (some (t,es))):=I.eG _ _ _;refine⟨H1,H1.set nid { (aJ.made [.agg zs] es true (some (t,es)))with a':=[.agg cs],eD:=0},fun F=> ?_,?_,rfl,rfl,?_,⟨_,I.eG _ _ _,rfl,rfl⟩,fun G b ao a7 eV n=> ?_⟩
 ·simp only [aV,he,d5,d4];rw [if_pos (by rw [IX];simpa using eA)]
 ·unfold e7;simp only [d1,g1];rw [if_pos (by rw [f2];rfl)]
  have hz:n3 0 (.agg cs) (.agg zs)=some (.agg cs):=by show(if 0+cs.length≤zs.length then some (J.agg (hf zs 0 cs))else none)=_;rw [if_pos (by omega),Tv (by omega)]
  have e0:(aJ.made [J.agg zs] es true (some (t,es))).a'[0]? =some (.agg zs):=rfl;simp only [e0,hz];rfl
 ·exact(Fr.set (L:=[nid]) H _ _ (by simp)).trans (Fr.set (L:=[nid]) H1 _ _ (by simp)) (fun x ab _=>ab)
 ·unfold aQ;have fr:I.get ⟨n,G.aj⟩ nid=some b:=ao
  have e:b.elem? 0 0=some (.agg cs):=by unfold aJ.elem? aJ.cj;rw [if_pos a7.symm,eV];rfl
  have le:n1 true es 0 (.agg cs)=some (.agg cs):=by show(if 0=0∧es=cs.length then some (J.agg cs)else _)=_;rw [if_pos ⟨rfl,dO.symm⟩]
  simp only [d1,fr,e,d3];rw [d4];exact le
structure s7(t e es:Nat)(P:J→Prop):Prop where
 ty:∃d x z,env.D t=some d∧d.kind=.slice e∧env.D e=some x∧x.size=es∧0<es∧x.zero=some z∧z.fits x.kind.isAgg es=true∧P z
 fk:∀d x,env.D e=some d→P x→n1 d.kind.isAgg es 0 x=some x
 hq:∀x y,P x→P y→n3 0 y x=some y
 ng:∀d y,env.D e=some d→P y→y.fits d.kind.isAgg es=true
structure iD(H:I)(Q ver n c:Nat)(P:J→Prop):Prop where
 lt:Q<H.next
 ex:∃b,H.get Q=some b∧b.ver=ver∧b.ro=false∧n≤b.a'.length∧n≤c∧∀e∈b.a',P e
theorem iD.aI{H H':I}{Q ver n c:Nat}{P:J→Prop}{L:List Nat}(h:iD H Q ver n c P)(m:Fr H H' L)(aw:Q ∉ L):iD H' Q ver n c P:=by obtain⟨b,U,ak⟩:=h.ex;exact⟨Nat.lt_of_lt_of_le h.lt m.next,b,(m.get Q h.lt aw).trans U,ak⟩
abbrev mS(Q ver es n c:Nat):J:= .slice (some ⟨Q,ver,0,0,es⟩) n c
section
variable {t e es Q ver n c:Nat}{P:J→Prop}{H:I}
theorem iD.at(h:iD H Q ver n c P)(E:s7 t e es P){i:Nat}(ac:i<n):∃x,P x∧bb (bh.D env) t (mS Q ver es n c) (.int .i64 (i:Nat))=some (.ptr (some ⟨Q,ver,0+i,0,es⟩))∧∀m,aQ (bh.D env) e ⟨Q,ver,0+i,0,es⟩ ⟨m,H.aj⟩=some x:=by
 obtain⟨b,U,ak,aP,bQ,ct,cL⟩:=h.ex;obtain⟨d,x,z,d1,d2,cf,cu,hH,xd⟩:=E.ty;have du:i<b.a'.length:=by omega
 refine⟨b.a'[i],cL _ (List.getElem_mem du),?_,fun m=> ?_⟩
 ·unfold bb;have d1:bh.D env t=some d:=d1;have cf:bh.D env e=some x:=cf;simp only [d1,d2,cf];rw [if_pos ⟨by omega,by omega,by rw [cu],trivial⟩];simp
 ·unfold aQ;have g:I.get ⟨m,H.aj⟩ Q=some b:=U
  have el:b.elem? ver (0+i)=some b.a'[i]:=by unfold aJ.elem? aJ.cj;rw [if_pos ak.symm,if_pos (by omega),Nat.zero_add];exact List.getElem?_eq_getElem du
  have cf:bh.D env e=some x:=cf;simp only [cf,g,el];rw [cu];exact E.fk x _ cf (cL _ (List.getElem_mem du))
theorem iD.hq(h:iD H Q ver n c P)(E:s7 t e es P){i:Nat}(ac:i<n){y:J}(bi:P y)(m:Nat) :
 ∃H1,e7 (bh.D env) e ⟨Q,ver,0+i,0,es⟩ y (up H m)=some H1∧iD H1 Q ver n c P∧Fr H H1 [Q]∧H1.next=H.next+m:=by
 obtain⟨b,U,ak,aP,bQ,ct,cL⟩:=h.ex;obtain⟨d,x,z,d1,d2,cf,cu,hH,xd⟩:=E.ty;have du:i<b.a'.length:=by omega
 have aF:=h.lt;refine⟨(up H m).set Q {b with a':=b.a'.set i y,eD:=b.ver},?_,⟨by show Q<H.next+m;omega,_,I.eG _ _ _,ak,aP,by simpa using bQ,ct,fun e he=> ?_⟩,(Fr.up H m [Q]).trans (Fr.set (L:=[Q]) (up H m) _ _ (by simp)) (fun x ab _=>ab),rfl⟩
 ·unfold e7;have g:(up H m).get Q=some b:=U;have mC:bh.D env e=some x:=cf;simp only [mC,g];rw [if_pos (by rw [cu,E.ng x y cf bi,aP,ak];simp),Nat.zero_add,List.getElem?_eq_getElem du];simp only [E.hq _ _ (cL _ (List.getElem_mem du)) bi]
 ·rcases List.mem_or_eq_of_mem_set he with h|h
  ·exact cL e h
  ·rw [h];exact bi
theorem iD.kf(h:iD H Q ver n c P)(E:s7 t e es P){k:Nat}(az:k≤n):gC (bh.D env) t (mS Q ver es n c) none (some (.int .i64 (k:Nat))) none=some (mS Q ver es k c)∧iD H Q ver k c P:=by obtain⟨b,U,ak,aP,bQ,ct,cL⟩:=h.ex;obtain⟨d,x,z,d1,d2,cf,cu,hH,xd⟩:=E.ty;refine⟨?_,h.lt,b,U,ak,aP,by omega,by omega,cL⟩;have d1:bh.D env t=some d:=d1;have cf:bh.D env e=some x:=cf;unfold gC;simp only [d1,d2,cf,fJ];rw [if_pos ⟨by omega,by omega⟩];simp [cu]
theorem iD.clear(h:iD H Q ver n c P)(E:s7 t e es P){k:Nat}(az:k≤n)(nid:Nat) :
 ∃s H1,gC (bh.D env) t (mS Q ver es n c) (some (.int .i64 (k:Nat))) none none=some s∧(∀ts:Array TypeId,ts[0]? =some t→dk env .clear ts [s] nid H=some (.tuple [],H1))∧iD H1 Q ver n c P∧Fr H H1 [Q]∧H1.next=H.next:=by
 obtain⟨b,U,ak,aP,bQ,ct,cL⟩:=h.ex;obtain⟨d,x,z,d1,d2,cf,cu,hH,jc,z2,z3⟩:=E.ty;have Tx:bh.D env t=some d:=d1;have mC:bh.D env e=some x:=cf
 have IY:gC (bh.D env) t (mS Q ver es n c) (some (.int .i64 (k:Nat))) none none=some (.slice (some ⟨Q,ver,k,0,es⟩) (n-k) (c-k)):=by unfold gC;simp only [Tx,d2,mC,fJ];rw [if_pos ⟨by omega,by omega⟩];simp [cu]
 by_cases cl:n-k=0
 ·refine⟨_,H,IY,fun ts r4=> ?_,h,Fr.refl _ _,rfl⟩;unfold dk;simp only [r4,tq,d1,d2];rw [if_pos cl]
 ·refine⟨_,H.set Q (b.put k (List.replicate (n-k) z)),IY,fun ts r4=> ?_,⟨h.lt,_,I.eG _ _ _,ak,aP,by simpa [aJ.put,wI]using bQ,ct,fun e he=> ?_⟩,Fr.set (L:=[Q]) H _ _ (by simp),rfl⟩
  ·unfold dk;simp only [r4,tq,d1,d2,cf,U,jc];rw [if_neg cl,if_pos ⟨trivial,cu.symm,by omega,by rw [cu];exact z2,aP,ak.symm,by omega⟩]
  ·obtain⟨i,ac,rfl⟩:=List.mem_iff_getElem.1 he;have bo:(hf b.a' k (List.replicate (n-k) z))[i]? =some ((hf b.a' k (List.replicate (n-k) z))[i]):=List.getElem?_eq_getElem _;show P (hf b.a' k (List.replicate (n-k) z))[i];generalize (hf b.a' k (List.replicate (n-k) z))[i]=y at bo;rw [rQ]at bo;split at bo
   ·rw [List.eq_of_mem_replicate (List.mem_of_getElem? bo)];exact z3
   ·exact cL _ (List.mem_of_getElem? bo)
end
structure nT(g:FuncId)(P:J→Prop):Prop where
 y0:∀x,P x→ ∀H,∃b H',aZ Tryz.prog aq g [x] H (.bool b) H'∧Fr H H' []
abbrev nU(g:FuncId):J:= .func (.func g) [] []
def jq(x:J):Prop:= ∃k:Nat,k<2^31∧x=.int .i32 (k:Nat)
def kg(x:J):Prop:= ∃(s:List UInt8)(w:Int),x=.agg [.str s,.int .i64 w]
theorem p2:s7 139 21 1 jq:=by
 obtain⟨d,d1,d2⟩:=Option.map_eq_some_iff.1 (show(env.D 139).map (fun x=>x.kind)=some (.slice 21)by kernel_rfl);obtain⟨x,cf,cu⟩:=Option.map_eq_some_iff.1 (show(env.D 21).map (fun x=>(x.size,x.zero,x.kind.isAgg))=some (1,some (.int .i32 0),false)by kernel_rfl);simp only [Prod.mk.injEq]at cu;refine⟨⟨d,x,_,d1,d2,cf,cu.1,by decide,cu.2.1,by rw [cu.2.2];rfl,0,by decide,rfl⟩,?_,?_,?_⟩
 ·rintro Dj y aM ⟨k,_,rfl⟩;rw [cf]at aM;cases aM;rw [cu.2.2];rfl
 ·rintro y er ⟨k,_,rfl⟩ ⟨k',_,rfl⟩;rfl
 ·rintro Dj y aM ⟨k,_,rfl⟩;rw [cf]at aM;cases aM;rw [cu.2.2];rfl
theorem Dk:(bh.D env 92).map (fun d=>(d.kind.isAgg,d.size,d.zero))=some (true,2,some (.agg [.str [],.int .i64 0])):=by kernel_rfl
theorem rC:s7 115 92 2 kg:=by
 obtain⟨d,d1,d2⟩:=Option.map_eq_some_iff.1 (show(env.D 115).map (fun x=>x.kind)=some (.slice 92)by kernel_rfl);obtain⟨x,cf,cu⟩:=Option.map_eq_some_iff.1 Dk;simp only [Prod.mk.injEq]at cu;have cf:env.D 92=some x:=cf;refine⟨⟨d,x,_,d1,d2,cf,cu.2.1,by decide,cu.2.2,by rw [cu.1];rfl,[],0,rfl⟩,?_,?_,?_⟩
 ·rintro Dj y aM ⟨s,w,rfl⟩;rw [cf]at aM;cases aM;rw [cu.1];rfl
 ·rintro y er ⟨s,w,rfl⟩ ⟨bm,aN,rfl⟩;rfl
 ·rintro Dj y aM ⟨s,w,rfl⟩;rw [cf]at aM;cases aM;rw [cu.1];rfl
end Go.Proofs.YtjpfnbihopoeeaaGreatDoor
namespace Go.Proofs.YtjpfnbihopoeeaaGreatDoor
open Go.ba
theorem kT{q k:Nat}(h:k≤q):∀x∈ [q],k≤x:=by simpa using h
abbrev hb(L:List Nat):List J:=L.map fun(j:Nat)=>J.int .i64 (j:Nat)
abbrev ei(N:Nat)(y:Nat→Int):List J:=(List.range N).map fun k=>J.int .i64 (y k)
theorem Ty{N i:Nat}{y:Nat→Int}{x:Int} :(ei N y).set i (.int .i64 x)=ei N (fun k=>if k=i then x else y k):=by
 apply List.ext_getElem (by simp [ei]);intro j U ak;rw [List.getElem_set];simp only [ei,List.getElem_map,List.getElem_range];by_cases e:i=j
 ·rw [if_pos e,if_pos e.symm]
 ·rw [if_neg e,if_neg (Ne.symm e)]
theorem dJ.f{H:I}{q N:Nat}{v:J}{y:Nat→Int}(h:dJ H q v (ei N y)){i:Nat}(ac:i<N) :
 ∃a,bb (bh.D env) 28 v (.int .i64 (i:Nat))=some (.ptr (some a))∧a.id<H.next∧∀n,aQ (bh.D env) 3 a ⟨n,H.aj⟩=some (.int .i64 (y i)):=by
 have e:(ei N y)[i]'(by simpa [ei]using ac)=.int .i64 (y i):=by simp [ei]
 have:=h.at lp (i:=i) (by simpa [ei]using ac) (by rw [e];exact rfl);rw [e]at this;exact this
theorem dJ.n{H:I}{q:Nat}{v:J}{L:List Nat}(h:dJ H q v (hb L)){i:Nat}(ac:i<L.length) :
 ∃a,bb (bh.D env) 28 v (.int .i64 (i:Nat))=some (.ptr (some a))∧a.id<H.next∧∀n,aQ (bh.D env) 3 a ⟨n,H.aj⟩=some (.int .i64 ((L[i]:Nat):Int)):=by
 have e:(hb L)[i]'(by simpa [hb]using ac)=.int .i64 ((L[i]:Nat):Int):=by simp [hb]
 have:=h.at lp (i:=i) (by simpa [hb]using ac) (by rw [e];exact rfl);rw [e]at this;exact this
theorem cQ.f{H:I}{q N i m:Nat}{v:J}{y:Nat→Int}{x:Int}(h:cQ H 3 q v (ei N y))(ac:i<N) :
 ∃a H1,bb (bh.D env) 28 v (.int .i64 (i:Nat))=some (.ptr (some a))∧(∀n,aQ (bh.D env) 3 a ⟨n,H1.aj⟩=some (.int .i64 x))∧e7 (bh.D env) 3 a (.int .i64 x) (up H m)=some H1∧cQ H1 3 q v (ei N (fun k=>if k=i then x else y k))∧Fr H H1 [q]∧H1.next=H.next+m:=by
 have e:(ei N y)[i]'(by simpa [ei]using ac)=.int .i64 (y i):=by simp [ei]
 obtain⟨a,H1,aT,bw,cy,fv,fQ,iQ⟩:=h.hq lp (i:=i) (x:= .int .i64 x) (by simpa [ei]using ac) (by rw [e];rfl) rfl m;rw [Ty]at cy;obtain⟨bN,bU,b8,dj⟩:=cy.rd.f ac;have:bN=a:=by rw [aT]at bU;simpa using bU.symm
 subst this;exact⟨bN,H1,aT,fun n=>by have:=dj n;rwa [if_pos rfl]at this,bw,cy,fQ,iQ⟩
theorem vI{F:a6}{k nid:Nat}{x:Int}{H:I}(dT:a1 F (.tmp k)=.int .i64 x):aV env bz nid (a1 F) H (Op.buildSlice 28 1 {toList:=[(0,Operand.tmp k)]})=some (.slice (some ⟨nid,0,0,0,1⟩) 1 1,H.set nid (aJ.made [.int .i64 x] 1 true)):=by
 have:aV env bz nid (a1 F) H (Op.buildSlice 28 1 {toList:=[(0,Operand.tmp k)]})=tn (bh.D env) 28 1 [(0,.int .i64 x)] nid H:=by rw [←dT];rfl
 refine this.trans ?_;exact(by kernel_rfl)
theorem IZ{H:I}{q m k1 k2:Nat}{v:J}{L:List Nat}{x:Nat}(w:cQ H 3 q v (hb L))(aw:q<H.next)(aF:L.length<2^40)(U:k1<m)(ak:k2<m) :
 ∃v2 au ci,dk env .append #[28,28] [v,.slice (some ⟨H.next+k1,0,0,0,1⟩) 1 1] (H.next+k2) ((up H m).set (H.next+k1) (aJ.made [.int .i64 (x:Nat)] 1 true))=some (v2,au)∧cQ au 3 ci v2 (hb (L++[x]))∧(ci=q∨ci=H.next+k2)∧Fr H au [ci]∧au.next=H.next+m∧ci<au.next:=by
 let ax:I:=(up H m).set (H.next+k1) (aJ.made [.int .i64 (x:Nat)] 1 true)
 have f3:Fr H ax []:=(Fr.up H m []).more (Fr.set (L:=[H.next+k1]) (up H m) _ _ (by simp)) (by simp);obtain⟨v2,au,ci,bo,cB,bU,b8,f1,bK,dt⟩:=(w.aI f3 (by simp)).hV lp (by decide) (Ok (up H m) (H.next+k1) (.int .i64 (x:Nat))) (nid:=H.next+k2) (by show H.next+k2<H.next+m;omega) (by simp [hb];omega);refine⟨v2,au,ci,bo,by simpa [hb]using cB,bU,(f3.sub (by simp)).trans f1 (fun x ab _=>ab),bK,dt⟩
theorem I0:(bh.D env 65).map (fun d=>(d.kind.isAgg,d.size,d.zero))=some (true,5,some (.agg [.int .i8 0,.int .i64 0,.int .i64 0,.int .i64 0,.int .i64 0])):=by kernel_rfl
theorem Tz{b:aJ}{t:cz}(U:b.ver=0)(ak:b.a'=[t.v]):b.elem? 0 0=some t.v:=by unfold aJ.elem? aJ.cj;rw [if_pos U.symm,ak];rfl
theorem nV{f:Nat→Int}{c:Int}{l:List Nat}(h:∀i∈l,0≤f i∧f i≤c):0≤bC f l∧bC f l≤l.length*c:=by
 refine⟨mI fun i ac=>(h i ac).1,?_⟩;have:=sT (f:=f) (g:=fun _=>c) (l:=l) fun i ac=>(h i ac).2
 rwa [yA]at this
def opens(f:Nat→cz)(i:Nat):List Nat:=(List.range i).filter fun j=>decide ((f j).k=3)
def iE(f:Nat→cz)(i:Nat):List Nat:=(List.range i).filter fun j=> !decide ((f j).k=3)
theorem TA{f:Nat→cz}{i:Nat}(h:(f i).k=3):opens f (i+1)=opens f i++[i]∧iE f (i+1)=iE f i:=by unfold opens iE;rw [List.range_succ,List.filter_append,List.filter_append];simp [h]
theorem TB{f:Nat→cz}{i:Nat}(h:¬(f i).k=3):opens f (i+1)=opens f i∧iE f (i+1)=iE f i++[i]:=by unfold opens iE;rw [List.range_succ,List.filter_append,List.filter_append];simp [h]
theorem nW{f:Nat→cz}{i j:Nat}(h:j∈opens f i):j<i∧(f j).k=3:=by have:=List.mem_filter.1 h;exact⟨List.mem_range.1 this.1,by simpa using this.2⟩
theorem y1{f:Nat→cz}{i j:Nat}(h:j∈iE f i):j<i∧¬(f j).k=3:=by have:=List.mem_filter.1 h;exact⟨List.mem_range.1 this.1,by simpa using this.2⟩
theorem I1(f:Nat→cz)(i:Nat):(opens f i).length≤i:=by
 have:=List.length_filter_le (fun j=>decide ((f j).k=3)) (List.range i)
 rwa [List.length_range]at this
theorem TC(f:Nat→cz)(i:Nat):(iE f i).length≤i:=by
 have:=List.length_filter_le (fun j=> !decide ((f j).k=3)) (List.range i)
 rwa [List.length_range]at this
abbrev fa(q ver off N ic:Nat):J:= .slice (some ⟨q,ver,off,0,5⟩) N ic
abbrev rD(q ver off N ic:Nat)(sv dg:J)(rest weight dH:Int)(cq:Bool)(i:Nat):a6:=[(0,fa q ver off N ic),(1,sv),(6,.int .i64 rest),(7,.int .i64 weight),(8,.int .i64 dH),(9,dg),(10,.bool cq),(33,fa q ver off N ic),(34,.int .i64 (N:Nat)),(35,.int .i64 (i:Nat))]
abbrev gN(f:Nat→cz)(y:Nat→Int)(room:Int)(i:Nat):Int:=room-bC y (iE f i)
abbrev h9(f:Nat→cz)(i:Nat):Int:=bC (fun j=>(f j).n) (opens f i)
abbrev ia(f:Nat→cz)(i:Nat):Int:=bC (fun j=>(f j).mx) (opens f i)
abbrev jr(f:Nat→cz)(i:Nat):Bool:=(opens f i).all fun j=>decide (0<(f j).mx)
theorem TD{B N ic q ver off qs:Nat}{sv:J}{f:Nat→cz}{y:Nat→Int}{room:Int}{H0:I}(bA:N≤64)(aS:∀i,i<N→nM (f i))(bi:∀i,i<N→0≤y i∧y i≤2^30)(ej:gM H0 q ver off N (fa q ver off N ic) f)(rs:dJ H0 qs sv (ei N y))(aC:0≤room∧room≤4096):∀(g i:Nat)(H:I)(qo:Nat)(dg:J),i+g=N→B≤H.next→Fr H0 H []→cQ H 3 qo dg (hb (opens f i))→H0.next≤qo→qo<H.next →
 ∃H' lu mT,bf Tryz.prog aq B 279 (aY Tryz.prog 95 0) (rD q ver off N ic sv dg (gN f y room i) (h9 f i) (ia f i) (jr f i) i) H (.exit 0) [(0,fa q ver off N ic),(1,sv),(6,.int .i64 (gN f y room N)),(7,.int .i64 (h9 f N)),(8,.int .i64 (ia f N)),(9,mT),(10,.bool (jr f N))] H'∧cQ H' 3 lu mT (hb (opens f N))∧H0.next≤lu∧lu<H'.next∧Fr H0 H' []:=by
 intro g;induction g with
 |zero =>
  intro i H qo dg ac aX aI w U ak;obtain rfl:i=N:=by omega
  obtain⟨e,ah,h',aC,rfl,rfl,rfl⟩:=QK H (jr f i) dg B i ic q ver off i (gN f y room i) (h9 f i) (ia f i) sv 0 0 0 0 0 0 (fun e ah U=>e=.exit 0∧ah=rD q ver off i ic sv dg (gN f y room i) (h9 f i) (ia f i) (jr f i) i∧U=up H 1) (ae aX ⟨b7 (by omega),rfl,rfl,rfl⟩);exact⟨_,qo,dg,(bf.last (by simp) aC).post (bL.facts (ed [0,1,6,7,8,9,10] (by kernel_rfl))),w.aI (Fr.up H 1 []) (by simp),U,by show qo<H.next+1;omega,aI.trans (Fr.up H 1 []) (by simp)⟩
 |succ g ih =>
  intro i H qo dg ac aX aI w U ak;have bH:i<N:=by omega
  have cB:=ej.aI aI (by simp);have tG:=aS i bH;obtain⟨H1,af,bU,b8,dj,eJ,fB,⟨oU,fS,iu,iK⟩,oi⟩:=Di I0 rfl rfl (cs:=[.int .i8 (f i).k,.int .i64 (f i).n,.int .i64 (f i).d,.int .i64 (f i).aE,.int .i64 (f i).mx]) rfl rfl (by decide) (up H 7) (H.next+4);have dj:H1.next=H.next+7:=dj
  have eJ:af.next=H.next+7:=eJ
  have f2:Fr H af []:=(Fr.up H 7 []).more fB (by simp);have cl:=Tz (t:=f i) iu iK;have TE:=nV (f:=y) (c:=2^30) (l:=iE f i) fun j ay=>bi j (by have:=(y1 ay).1;omega)
  have I2:=nV (f:=fun j=>(f j).n) (c:=1000) (l:=opens f i) fun j ay=>by have U:=nW ay;have ak:=(aS j (by omega)).kind;omega
  have I3:=nV (f:=fun j=>(f j).mx) (c:=4096) (l:=opens f i) fun j ay=>by have U:=nW ay;have ak:=(aS j (by omega)).mx;have aP:=(aS j (by omega)).aE;omega
  have dt:=I1 f i;have bX:=TC f i;have I2:0≤h9 f i∧h9 f i≤(opens f i).length*1000:=I2;have I3:0≤ia f i∧ia f i≤(opens f i).length*4096:=I3;have TE:gN f y room i≤room∧room- (iE f i).length*2^30≤gN f y room i:=⟨by unfold gN;omega,by unfold gN;omega⟩
  by_cases az:(f i).k=3
  ·obtain⟨bo,bO⟩:=TA az;have ve:=tG.kind;have lG:=tG.mx;have oV:=tG.aE;obtain⟨kc,au,ci,cM,iB,BQ,f4,cY,TF⟩:=IZ (k1:=5) (k2:=6) (m:=8) (x:=i) (w.aI f2 (by simp)) (by omega) (by omega) (by decide) (by decide);have mE:Fr H0 au []:=(aI.trans f2 (by simp)).more f4 (kT (by have:=aI.next;omega));have g4:au.get (H.next+4)=some oU:=(f4.get _ (by omega) (by simp;omega)).trans fS;obtain⟨v0,v1,v2,v3,v4⟩:=pZ (n:=af.next+3) fS cl;have mU:h9 f (i+1)=h9 f i+(f i).n:=by unfold h9;rw [bo,oP];simp [bC]
   have em:ia f (i+1)=ia f i+(f i).mx:=by unfold ia;rw [bo,oP];simp [bC]
   have jH:gN f y room (i+1)=gN f y room i:=by unfold gN;rw [bO]
   have eb:jr f (i+1)=(jr f i&&decide (0<(f i).mx)):=by unfold jr;rw [bo,List.all_append];simp
   obtain⟨H',lu,mT,L,aN,Dl,Dm,bG⟩:=ih (i+1) (up au 19) ci kc (by omega) (by show B≤au.next+19;omega) (mE.trans (Fr.up au 19 []) (by simp)) (by rw [bo];exact iB.aI (Fr.up au 19 []) (by simp)) (by have:=aI.next;omega) (by show ci<au.next+19;omega);rw [jH,mU,em,eb]at L;have dz:some (J.bool ((f i).k != 3))=some (J.bool false):=by rw [az];rfl
   refine⟨H',lu,mT,?_,aN,Dl,Dm,bG⟩;cases ao:jr f i with
   |true =>
    rw [ao,Bool.true_and]at L
    obtain⟨e,ah,h',aC,rfl,rfl,rfl⟩:=QI H H1 af ((up af 8).set (af.next+5) (aJ.made [.int .i64 (i:Nat)] 1 true)) au (H.next+4) (af.next+5) dg kc B N ic q ver off i (gN f y room i) (h9 f i) (ia f i) sv (f i).k (f i).n (f i).d (f i).aE (f i).mx 0 (fun e ah U=>e=.normal∧ah=rD q ver off N ic sv kc (gN f y room i) (h9 f i+(f i).n) (ia f i+(f i).mx) (decide (0<(f i).mx)) (i+1)∧U=up au 19)
     (ae aX ⟨bB (by omega),ae (by omega) ⟨cB.ca bH,cB.whole bH _,bU _,cR rfl rfl b8,ae (by omega) ⟨v0,dz,ae (by omega) ⟨vI rfl,cM,ae (by omega) ⟨(pZ g4 cl _).2.1,⟨by omega,by omega⟩,ae (by omega) ⟨(pZ g4 cl _).2.2.2.2,⟨by omega,by omega⟩,ae (by omega) ⟨(pZ g4 cl _).2.2.2.2,
      fun hm=>ae (by omega) ⟨⟨by omega,by omega⟩,rfl,by rw [dx,decide_eq_true hm],rfl⟩,fun hm=>ae (by omega) ⟨⟨by omega,by omega⟩,rfl,by rw [dx,decide_eq_false hm],rfl⟩⟩⟩⟩⟩⟩⟩⟩)
    exact bf.round aC (bL.refl _ _ _ _) L
   |false =>
    rw [ao,Bool.false_and]at L
    obtain⟨e,ah,h',aC,rfl,rfl,rfl⟩:=QJ H H1 af ((up af 8).set (af.next+5) (aJ.made [.int .i64 (i:Nat)] 1 true)) au (H.next+4) (af.next+5) dg kc B N ic q ver off i (gN f y room i) (h9 f i) (ia f i) sv (f i).k (f i).n (f i).d (f i).aE (f i).mx 0 (fun e ah U=>e=.normal∧ah=rD q ver off N ic sv kc (gN f y room i) (h9 f i+(f i).n) (ia f i+(f i).mx) false (i+1)∧U=up au 19)
     (ae aX ⟨bB (by omega),ae (by omega) ⟨cB.ca bH,cB.whole bH _,bU _,cR rfl rfl b8,ae (by omega) ⟨v0,dz,ae (by omega) ⟨vI rfl,cM,ae (by omega) ⟨(pZ g4 cl _).2.1,⟨by omega,by omega⟩,ae (by omega) ⟨(pZ g4 cl _).2.2.2.2,⟨by omega,by omega⟩,ae (by omega)
      (ae (by omega) ⟨⟨by omega,by omega⟩,rfl,by rw [dx],rfl⟩)⟩⟩⟩⟩⟩⟩)
    exact bf.round aC (bL.refl _ _ _ _) L
  ·obtain⟨bo,bO⟩:=TB az;have TG:=bi i bH;have jH:gN f y room (i+1)=gN f y room i-y i:=by unfold gN;rw [bO,oP];simp only [bC];omega
   have mU:h9 f (i+1)=h9 f i:=by unfold h9;rw [bo]
   have em:ia f (i+1)=ia f i:=by unfold ia;rw [bo]
   have eb:jr f (i+1)=jr f i:=by unfold jr;rw [bo]
   have hN:Fr H (up af 12) []:=f2.trans (Fr.up af 12 []) (by simp);obtain⟨H',lu,mT,L,aN,Dl,Dm,bG⟩:=ih (i+1) (up af 12) qo dg (by omega) (by show B≤af.next+12;omega) (aI.trans hN (by simp)) (by rw [bo];exact w.aI hN (by simp)) U (by show qo<af.next+12;omega);rw [jH,mU,em,eb]at L;obtain⟨p,cv,bu,bS⟩:=(rs.aI (aI.trans f2 (by simp)) (by simp)).f bH
   have dz:some (J.bool ((f i).k != 3))=some (J.bool true):=by
    have:((f i).k != 3)=true:=by simpa using az
    rw [this]
   obtain⟨v0,_⟩:=pZ (n:=af.next+3) fS cl
   obtain⟨e,ah,h',aC,rfl,rfl,rfl⟩:=QH H H1 af (H.next+4) (jr f i) dg p B N ic q ver off i (gN f y room i) (h9 f i) (ia f i) sv (f i).k (f i).n (f i).d (f i).aE (f i).mx (y i) (fun e ah U=>e=.normal∧ah=rD q ver off N ic sv dg (gN f y room i-y i) (h9 f i) (ia f i) (jr f i) (i+1)∧U=up af 12)
    (ae aX ⟨bB (by omega),ae (by omega) ⟨cB.ca bH,cB.whole bH _,bU _,cR rfl rfl b8,ae (by omega) ⟨v0,dz,ae (by omega) ⟨cv,bS _,⟨by omega,by omega⟩,ae (by omega) ⟨⟨by omega,by omega⟩,rfl,by rw [dx],rfl⟩⟩⟩⟩⟩)
   exact⟨H',lu,mT,bf.round aC (bL.refl _ _ _ _) L,aN,Dl,Dm,bG⟩
end Go.Proofs.YtjpfnbihopoeeaaGreatDoor
namespace Go.Proofs.YtjpfnbihopoeeaaGreatDoor
open Go.ba
theorem mulR{a b A B:Int}(U:0≤a)(ak:a≤A)(aP:0≤b)(bQ:b≤B):0≤a*b∧a*b≤A*B :=
 ⟨Int.mul_nonneg U aP,Int.mul_le_mul ak bQ aP (by omega)⟩
abbrev bJ(f:Nat→cz):cd:=⟨fun i=>(f i).n,fun i=>(f i).aE,fun i=>e8 (f i).mx⟩
structure p3(t:cz):Prop where
 n:1≤t.n∧t.n≤1000
 aE:0≤t.aE∧t.aE≤4096
 cq:t.aE≤e8 t.mx∧1≤e8 t.mx∧e8 t.mx≤8192
theorem nM.fill{t:cz}(h:nM t)(az:t.k=3):p3 t:=by have U:=h.aE;have ak:=h.mx;have aP:=h.kind;refine⟨by omega,U,?_⟩;unfold e8;split<;>omega
structure TH(t:cz)(rest weight:Int):Prop where
 x:0≤rest*t.n∧rest*t.n≤2^23
 w:0≤weight*e8 t.mx∧weight*e8 t.mx≤2^40
 m:0≤weight*t.aE∧weight*t.aE≤2^40
theorem vJ{t:cz}{rest weight:Int}(aC:0≤rest∧rest≤4096)(hw:0≤weight∧weight≤2^17)(h:p3 t):TH t rest weight:=by have U:=h.n;have ak:=h.aE;have aP:=h.cq;have cM:=mulR aC.1 aC.2 (by omega:0≤t.n) U.2;have a2:=mulR hw.1 hw.2 (by omega:0≤e8 t.mx) aP.2.2;have a3:=mulR hw.1 hw.2 ak.1 ak.2;exact⟨by omega,by omega,by omega⟩
theorem vK(x:Int):(if x>0 then x else 0)=max 0 x:=by split<;>omega
theorem vL{L:List Nat}{i:Nat}(h:i<L.length):L.take (i+1)=L.take i++[L[i]]:=by rw [List.take_add_one,List.getElem?_eq_getElem h];rfl
abbrev y2(q ver off N ic:Nat)(sv:J)(oo:Option aO)(m oc:Nat)(rest weight a b:Int)(i:Nat):a6:=[(0,fa q ver off N ic),(1,sv),(6,.int .i64 rest),(7,.int .i64 weight),(9,.slice oo m oc),(15,.int .i64 a),(16,.int .i64 b),(92,.slice oo m oc),(93,.int .i64 (m:Nat)),(94,.int .i64 (i:Nat))]
section
variable {B N ic q ver off m oc qo:Nat}{oo:Option aO}{sv:J}{f:Nat→cz}{L:List Nat}{rest weight:Int}
theorem TI{qs:Nat}{y:Nat→Int}{H0:I}(hm:m=L.length)(lo:m≤64)(de:∀j∈L,j<N)(ej:gM H0 q ver off N (fa q ver off N ic) f)(ro:dJ H0 qo (.slice oo m oc) (hb L))(U:q≠qs)(ak:qo≠qs):∀(g i:Nat)(H:I),i+g=m→B≤H.next→Fr H0 H [qs]→cQ H 3 qs sv (ei N (fun j=>if j∈L.take i then(f j).mx else y j)) →
 ∃H',bf Tryz.prog aq B 279 (aY Tryz.prog 95 1) [(0,fa q ver off N ic),(1,sv),(74,.slice oo m oc),(75,.int .i64 (m:Nat)),(76,.int .i64 (i:Nat))] H (.exit 2) [] H'∧cQ H' 3 qs sv (ei N (fun j=>if j∈L then(f j).mx else y j))∧Fr H0 H' [qs]:=by
 have bW:aO:=⟨0,0,0,0,1⟩
 intro g;induction g with
 |zero =>
  intro i H ac aX aI w;obtain rfl:i=m:=by omega
  rw [List.take_of_length_le (by omega)]at w;obtain⟨e,ah,h',aC,rfl,rfl,rfl⟩:=QM H B N ic q ver off i oc i 0 oo sv 0 bW bW (fun e ah U=>e=.exit 2∧ah=[(0,fa q ver off N ic),(1,sv),(74,.slice oo i oc),(75,.int .i64 (i:Nat)),(76,.int .i64 (i:Nat))]∧U=up H 1) (ae aX ⟨b7 (by omega),rfl,rfl,rfl⟩);exact⟨_,(bf.last (by simp) aC).post (bL.facts (ed [] (by kernel_rfl))),w.aI (Fr.up H 1 []) (by simp),aI.trans (Fr.up H 1 [qs]) (fun x ab _=>ab)⟩
 |succ g ih =>
  intro i H ac aX aI w;have bH:i<L.length:=by omega
  have ay:=de _ (List.getElem_mem bH);have cB:=ej.aI aI (by simpa using U);obtain⟨p,cv,bu,bS⟩:=(ro.aI aI (by simpa using ak)).n bH;obtain⟨a,H1,aT,bw,cy,fv,fQ,iQ⟩:=w.f (m:=13) (x:=(f L[i]).mx) ay
  have e:(fun k=>if k=L[i]then(f L[i]).mx else if k∈L.take i then(f k).mx else y k)=fun k=>if k∈L.take (i+1)then(f k).mx else y k:=by
   funext k
   rw [vL bH];by_cases c:k=L[i]
   ·rw [if_pos c,if_pos (List.mem_append_right _ (by rw [c];exact List.mem_singleton.2 rfl)),c]
   ·rw [if_neg c];by_cases d:k∈L.take i
    ·rw [if_pos d,if_pos (List.mem_append_left _ d)]
    ·rw [if_neg d,if_neg fun h=>(List.mem_append.1 h).elim d fun h=>c (List.mem_singleton.1 h)]
  rw [e]at fv;obtain⟨H',dq,aN,bG⟩:=ih (i+1) (up H1 2) (by omega) (by show B≤H1.next+2;omega) ((aI.trans fQ (fun x ab _=>ab)).trans (Fr.up H1 2 [qs]) (fun x ab _=>ab)) (fv.aI (Fr.up H1 2 []) (by simp))
  obtain⟨e,ah,h',aC,rfl,rfl,rfl⟩:=QL H H1 B N ic q ver off m oc i L[i] oo sv (f L[i]).mx p a (fun e ah U=>e=.normal∧ah=[(0,fa q ver off N ic),(1,sv),(74,.slice oo m oc),(75,.int .i64 (m:Nat)),(76,.int .i64 ((i+1:Nat):Int))]∧U=up H1 2)
   (ae aX ⟨bB (by omega),ae (by omega) ⟨cv,bS _,ae (by omega) ⟨cB.ca ay,(cB.fld ay _).2.2.2.2,aT,cR rfl rfl cy,ae (by omega) ⟨⟨by omega,by omega⟩,rfl,by rw [dx],rfl⟩⟩⟩⟩)
  exact⟨H',bf.round aC (bL.refl _ _ _ _) dq,aN,bG⟩
theorem TJ(hm:m=L.length)(lo:m≤64)(de:∀j∈L,j<N∧p3 (f j))(aC:0≤rest∧rest≤4096)(hw:0≤weight∧weight≤2^17):∀(g i:Nat)(H:I),i+g=m→B≤H.next→gM H q ver off N (fa q ver off N ic) f→dJ H qo (.slice oo m oc) (hb L) →
 ∃n,H.next≤n∧bf Tryz.prog aq B 279 (aY Tryz.prog 95 3) (y2 q ver off N ic sv oo m oc rest weight ((bJ f).gL rest weight (L.take i)) ((bJ f).below rest weight (L.take i)) i) H (.exit 6) [(0,fa q ver off N ic),(1,sv),(6,.int .i64 rest),(7,.int .i64 weight),(9,.slice oo m oc),(15,.int .i64 ((bJ f).gL rest weight L)),(16,.int .i64 ((bJ f).below rest weight L))] ⟨n,H.aj⟩:=by
 have bW:aO:=⟨0,0,0,0,1⟩
 intro g;induction g with
 |zero =>
  intro i H ac aX ej ro;obtain rfl:i=m:=by omega
  obtain⟨e,ah,h',aC,rfl,rfl,rfl⟩:=QO H B N ic q ver off i oc i 0 oo sv rest weight ((bJ f).gL rest weight (L.take i)) ((bJ f).below rest weight (L.take i)) 0 0 0 .undef bW (fun e ah U=>e=.exit 6∧ah=y2 q ver off N ic sv oo i oc rest weight ((bJ f).gL rest weight (L.take i)) ((bJ f).below rest weight (L.take i)) i∧U=up H 1) (ae aX ⟨b7 (by omega),rfl,rfl,rfl⟩);rw [List.take_of_length_le (by omega)]at aC⊢;exact⟨H.next+1,by omega,(bf.last (by simp) aC).post (bL.facts (ed [0,1,6,7,9,15,16] (by kernel_rfl)))⟩
 |succ g ih =>
  intro i H ac aX ej ro;have bH:i<L.length:=by omega
  obtain⟨ay,aS⟩:=de _ (List.getElem_mem bH);obtain⟨p,cv,bu,bS⟩:=ro.n bH;have lv:=vJ aC hw aS;have g1:=lv.x;have g2:=lv.w;have g3:=lv.m;have hlen:((L.take i).length:Int)=i:=by rw [List.length_take];omega
  have s1:=nV (f:=fun j=>max 0 (rest* (f j).n-weight*e8 (f j).mx)) (c:=2^23) (l:=L.take i) fun j ay=>by have lv:=vJ aC hw (de j (List.mem_of_mem_take ay)).2;have:=lv.x;have:=lv.w;omega
  have s2:=nV (f:=fun j=>max 0 (weight* (f j).aE-rest* (f j).n)) (c:=2^40) (l:=L.take i) fun j ay=>by have lv:=vJ aC hw (de j (List.mem_of_mem_take ay)).2;have:=lv.x;have:=lv.m;omega
  rw [hlen]at s1 s2;have s1:0≤(bJ f).gL rest weight (L.take i)∧(bJ f).gL rest weight (L.take i)≤(i:Int)*2^23:=s1;have s2:0≤(bJ f).below rest weight (L.take i)∧(bJ f).below rest weight (L.take i)≤(i:Int)*2^40:=s2;obtain⟨n,bK,dq⟩:=ih (i+1) (up H 40) (by omega) (by show B≤H.next+40;omega) (ej.aI (Fr.up H 40 []) (by simp)) (ro.aI (Fr.up H 40 []) (by simp));have bK:H.next+40≤n:=bK
  have bo:(bJ f).gL rest weight (L.take (i+1))=(bJ f).gL rest weight (L.take i)+max 0 (rest* (f L[i]).n-weight*e8 (f L[i]).mx):=by unfold cd.gL;rw [vL bH,oP];simp only [bC,Int.add_zero]
  have bO:(bJ f).below rest weight (L.take (i+1))=(bJ f).below rest weight (L.take i)+max 0 (weight* (f L[i]).aE-rest* (f L[i]).n):=by unfold cd.below;rw [vL bH,oP];simp only [bC,Int.add_zero]
  rw [bo,bO]at dq
  obtain⟨e,ah,h',cV,rfl,rfl,rfl⟩:=QN H B N ic q ver off m oc i L[i] oo sv rest weight ((bJ f).gL rest weight (L.take i)) ((bJ f).below rest weight (L.take i)) (f L[i]).n (f L[i]).aE (e8 (f L[i]).mx) (f L[i]).v p (fun e ah U=>e=.normal∧ah=y2 q ver off N ic sv oo m oc rest weight ((bJ f).gL rest weight (L.take i)+max 0 (rest* (f L[i]).n-weight*e8 (f L[i]).mx)) ((bJ f).below rest weight (L.take i)+max 0 (weight* (f L[i]).aE-rest* (f L[i]).n)) (i+1)∧U=up H 40)
   (ae aX ⟨bB (by omega),ae (by omega) ⟨cv,bS _,ae (by omega) ⟨ej.ca ay,(ej.fld ay _).2.1,⟨by omega,by omega⟩,ae (by omega) ⟨ej.ca ay,ej.whole ay _,⟨vx _ _⟩,⟨by omega,by omega⟩,⟨by omega,by omega⟩,by rw [vK];omega,ae (by omega) ⟨ej.ca ay,(ej.fld ay _).2.2.2.1,⟨by omega,by omega⟩,⟨by omega,by omega⟩,by rw [vK];omega,ae (by omega) ⟨⟨by omega,by omega⟩,rfl,by rw [dx,vK,vK],rfl⟩⟩⟩⟩⟩⟩)
  exact⟨n,by omega,bf.round cV (bL.refl _ _ _ _) dq⟩
end
abbrev iT(q ver off N ic:Nat)(sv dr:J)(oo:Option aO)(m oc:Nat)(rest weight a b l w:Int)(i:Nat):a6:=[(0,fa q ver off N ic),(1,sv),(6,.int .i64 rest),(7,.int .i64 weight),(15,.int .i64 a),(16,.int .i64 b),(20,dr),(21,.int .i64 l),(22,.int .i64 w),(138,.slice oo m oc),(139,.int .i64 (m:Nat)),(140,.int .i64 (i:Nat))]
def lx(p:cd)(rest weight a b:Int)(y:Nat→Int)(T:List Nat):Nat→Int:=fun j=>if j∈T∧p.c2 rest weight a b j=true then p.fo rest weight a b j else y j
abbrev lZ(p:cd)(rest weight a b:Int)(T:List Nat):List Nat:=T.filter fun i=> !p.c2 rest weight a b i
abbrev eL(p:cd)(rest weight a b:Int)(T:List Nat):Int:=rest-bC (p.fo rest weight a b) (T.filter (p.c2 rest weight a b))
abbrev eM(p:cd)(rest weight a b:Int)(T:List Nat):Int:=weight-bC p.n (T.filter (p.c2 rest weight a b))
theorem TK{p:cd}{rest weight a b:Int}{y:Nat→Int}{T:List Nat}{j:Nat}(h:p.c2 rest weight a b j=true) :
 lx p rest weight a b y (T++[j])=(fun k=>if k=j then p.fo rest weight a b j else lx p rest weight a b y T k)∧lZ p rest weight a b (T++[j])=lZ p rest weight a b T∧eL p rest weight a b (T++[j])=eL p rest weight a b T-p.fo rest weight a b j∧eM p rest weight a b (T++[j])=eM p rest weight a b T-p.n j:=by
 refine⟨?_,?_,?_,?_⟩
 ·funext k
  unfold lx;by_cases c:k=j
  ·subst c;simp [h]
  ·simp [c]
 ·unfold lZ;rw [List.filter_append];simp [h]
 ·unfold eL;rw [List.filter_append,oP];simp [h,bC];omega
 ·unfold eM;rw [List.filter_append,oP];simp [h,bC];omega
theorem TL{p:cd}{rest weight a b:Int}{y:Nat→Int}{T:List Nat}{j:Nat}(h:¬p.c2 rest weight a b j=true) :
 lx p rest weight a b y (T++[j])=lx p rest weight a b y T∧lZ p rest weight a b (T++[j])=lZ p rest weight a b T++[j]∧eL p rest weight a b (T++[j])=eL p rest weight a b T∧eM p rest weight a b (T++[j])=eM p rest weight a b T:=by
 refine⟨?_,?_,?_,?_⟩
 ·funext k
  unfold lx;by_cases c:k=j
  ·subst c;simp [h]
  ·simp [c]
 ·unfold lZ;rw [List.filter_append];simp [h]
 ·unfold eL;rw [List.filter_append];simp [h]
 ·unfold eM;rw [List.filter_append];simp [h]
theorem TM{B N ic q ver off m oc qo qs:Nat}{oo:Option aO}{sv:J}{f:Nat→cz}{L:List Nat}{rest weight a b:Int}{y:Nat→Int}{H0:I}(hm:m=L.length)(lo:m≤64)(de:∀j∈L,j<N∧p3 (f j))(aC:0≤rest∧rest≤4096)(hw:0≤weight∧weight≤2^17)
 (lG:∀j∈L,(bJ f).gz rest weight a b j=true→(f j).mx=e8 (f j).mx) (ej:gM H0 q ver off N (fa q ver off N ic) f) (ro:dJ H0 qo (.slice oo m oc) (hb L)) (U:q≠qs) (ak:qo≠qs) (s8:qs<H0.next) :
 ∀(g i:Nat)(H:I)(l0:Nat)(dr:J),i+g=m→B≤H.next→Fr H0 H [qs]→cQ H 3 qs sv (ei N (lx (bJ f) rest weight a b y (L.take i)))→cQ H 3 l0 dr (hb (lZ (bJ f) rest weight a b (L.take i)))→H0.next≤l0→l0<H.next →
 ∃H' gh gO,bf Tryz.prog aq B 279 (aY Tryz.prog 95 4) (iT q ver off N ic sv dr oo m oc rest weight a b (eL (bJ f) rest weight a b (L.take i)) (eM (bJ f) rest weight a b (L.take i)) i) H (.exit 8) [(0,fa q ver off N ic),(1,sv),(20,gO),(21,.int .i64 (eL (bJ f) rest weight a b L)),(22,.int .i64 (eM (bJ f) rest weight a b L))] H' ∧
  cQ H' 3 qs sv (ei N (lx (bJ f) rest weight a b y L))∧cQ H' 3 gh gO (hb (lZ (bJ f) rest weight a b L))∧H0.next≤gh∧gh<H'.next∧Fr H0 H' [qs]:=by
 have bW:aO:=⟨0,0,0,0,1⟩
 intro g;induction g with
 |zero =>
  intro i H l0 dr ac aX aI w wt k1 k2;obtain rfl:i=m:=by omega
  rw [List.take_of_length_le (by omega)]at w wt⊢;obtain⟨e,ah,h',aC,rfl,rfl,rfl⟩:=QV H B N ic q ver off i oc i 0 oo sv dr .undef rest weight a b (eL (bJ f) rest weight a b L) (eM (bJ f) rest weight a b L) 0 0 0 0 .undef bW bW (fun e ah U=>e=.exit 8∧ah=iT q ver off N ic sv dr oo i oc rest weight a b (eL (bJ f) rest weight a b L) (eM (bJ f) rest weight a b L) i∧U=up H 1) (ae aX ⟨b7 (by omega),rfl,rfl,rfl⟩);exact⟨_,l0,dr,(bf.last (by simp) aC).post (bL.facts (ed [0,1,20,21,22] (by kernel_rfl))),w.aI (Fr.up H 1 []) (by simp),wt.aI (Fr.up H 1 []) (by simp),k1,by show l0<H.next+1;omega,aI.trans (Fr.up H 1 [qs]) (fun x ab _=>ab)⟩
 |succ g ih =>
  intro i H l0 dr ac aX aI w wt k1 k2;have bH:i<L.length:=by omega
  obtain⟨ay,aS⟩:=de _ (List.getElem_mem bH);have cB:=ej.aI aI (by simpa using U);obtain⟨p,cv,bu,bS⟩:=(ro.aI aI (by simpa using ak)).n bH;have lv:=vJ aC hw aS;have g1:=lv.x;have g2:=lv.w;have g3:=lv.m;have o1:=aS.n;have WC:=aS.aE;have WD:=aS.cq;have hlen:((L.take i).length:Int)=i:=by rw [List.length_take];omega
  have s1:=nV (f:=(bJ f).fo rest weight a b) (c:=8192) (l:=(L.take i).filter ((bJ f).c2 rest weight a b)) fun j ay=>by
   have aS:=(de j (List.mem_of_mem_take (List.mem_filter.1 ay).1)).2;have:=aS.aE;have:=aS.cq;unfold cd.fo;split
   ·show 0≤e8 (f j).mx∧e8 (f j).mx≤8192;omega
   ·show 0≤(f j).aE∧(f j).aE≤8192;omega
  have s2:=nV (f:=(bJ f).n) (c:=1000) (l:=(L.take i).filter ((bJ f).c2 rest weight a b)) fun j ay=>by have aS:=(de j (List.mem_of_mem_take (List.mem_filter.1 ay).1)).2;have:=aS.n;show 0≤(f j).n∧(f j).n≤1000;omega
  have eS:((L.take i).filter ((bJ f).c2 rest weight a b)).length≤i:=by have:=List.length_filter_le ((bJ f).c2 rest weight a b) (L.take i);omega
  have s1:rest- (((L.take i).filter ((bJ f).c2 rest weight a b)).length:Int)*8192≤eL (bJ f) rest weight a b (L.take i)∧eL (bJ f) rest weight a b (L.take i)≤rest:=⟨by unfold eL;omega,by unfold eL;omega⟩
  have s2:weight- (((L.take i).filter ((bJ f).c2 rest weight a b)).length:Int)*1000≤eM (bJ f) rest weight a b (L.take i)∧eM (bJ f) rest weight a b (L.take i)≤weight:=⟨by unfold eM;omega,by unfold eM;omega⟩
  have py:=vL bH;have WE:=aI.next
  have wr:∀(x:Int)(vM:Nat),(bJ f).c2 rest weight a b L[i]=true→(bJ f).fo rest weight a b L[i]=x→ ∃c H1,bb (bh.D env) 28 sv (.int .i64 (L[i]:Nat))=some (.ptr (some c))∧(∀n,aQ (bh.D env) 3 c ⟨n,H1.aj⟩=some (.int .i64 x))∧e7 (bh.D env) 3 c (.int .i64 x) (up H vM)=some H1∧H1.next=H.next+vM∧gM H1 q ver off N (fa q ver off N ic) f ∧
   ∃H' gh gO,bf Tryz.prog aq B 279 (aY Tryz.prog 95 4) (iT q ver off N ic sv dr oo m oc rest weight a b (eL (bJ f) rest weight a b (L.take i)-x) (eM (bJ f) rest weight a b (L.take i)- (f L[i]).n) (i+1)) (up H1 17) (.exit 8) [(0,fa q ver off N ic),(1,sv),(20,gO),(21,.int .i64 (eL (bJ f) rest weight a b L)),(22,.int .i64 (eM (bJ f) rest weight a b L))] H' ∧
   cQ H' 3 qs sv (ei N (lx (bJ f) rest weight a b y L))∧cQ H' 3 gh gO (hb (lZ (bJ f) rest weight a b L))∧H0.next≤gh∧gh<H'.next∧Fr H0 H' [qs]:=by
   intro x vM lI ab;obtain⟨jc,z2,z3,z4⟩:=TK (y:=y) (T:=L.take i) lI;rw [←py]at jc z2 z3 z4;obtain⟨c,H1,aT,bw,cy,fv,fQ,iQ⟩:=w.f (m:=vM) (x:=x) ay;have WG:H1.next=H.next+vM:=iQ
   have f1:Fr H0 (up H1 17) [qs]:=(aI.trans fQ (fun x ab _=>ab)).trans (Fr.up H1 17 [qs]) (fun x ab _=>ab);rw [←ab,←jc]at fv;obtain⟨H',gh,gO,dq,aN,Dn,Dp,Dq,bG⟩:=ih (i+1) (up H1 17) l0 dr (by omega) (by show B≤H1.next+17;omega) f1 (fv.aI (Fr.up H1 17 []) (by simp)) (by rw [z2];exact(wt.aI fQ (by simp;omega)).aI (Fr.up H1 17 []) (by simp)) k1 (by show l0<H1.next+17;omega);rw [z3,z4,ab]at dq;exact⟨c,H1,aT,bw,cy,iQ,cB.aI fQ (by simpa using U),H',gh,gO,dq,aN,Dn,Dp,Dq,bG⟩
  have stays:¬(bJ f).c2 rest weight a b L[i]=true→ ∃fG au,dk env .append #[28,28] [dr,.slice (some ⟨H.next+42,0,0,0,1⟩) 1 1] (H.next+43) ((up H 45).set (H.next+42) (aJ.made [.int .i64 (L[i]:Nat)] 1 true))=some (fG,au)∧au.next=H.next+45 ∧
   ∃H' gh gO,bf Tryz.prog aq B 279 (aY Tryz.prog 95 4) (iT q ver off N ic sv fG oo m oc rest weight a b (eL (bJ f) rest weight a b (L.take i)) (eM (bJ f) rest weight a b (L.take i)) (i+1)) (up au 2) (.exit 8) [(0,fa q ver off N ic),(1,sv),(20,gO),(21,.int .i64 (eL (bJ f) rest weight a b L)),(22,.int .i64 (eM (bJ f) rest weight a b L))] H' ∧
   cQ H' 3 qs sv (ei N (lx (bJ f) rest weight a b y L))∧cQ H' 3 gh gO (hb (lZ (bJ f) rest weight a b L))∧H0.next≤gh∧gh<H'.next∧Fr H0 H' [qs]:=by
   intro lI;obtain⟨jc,z2,z3,z4⟩:=TL (y:=y) (T:=L.take i) lI;rw [←py]at jc z2 z3 z4;have tT:(lZ (bJ f) rest weight a b (L.take i)).length≤i:=Nat.le_trans (List.length_filter_le _ _) (by rw [List.length_take];omega);obtain⟨fG,au,ci,cM,iB,BQ,f4,cY,TF⟩:=IZ (k1:=42) (k2:=43) (m:=45) (x:=L[i]) wt k2 (by omega) (by decide) (by decide);have f1:Fr H0 (up au 2) [qs]:=(aI.trans f4 (by simp;omega)).trans (Fr.up au 2 [qs]) (fun x ab _=>ab);obtain⟨H',gh,gO,dq,aN,Dn,Dp,Dq,bG⟩:=ih (i+1) (up au 2) ci fG (by omega) (by show B≤au.next+2;omega) f1 (by rw [jc];exact(w.aI f4 (by simp;omega)).aI (Fr.up au 2 []) (by simp)) (by rw [z2];exact iB.aI (Fr.up au 2 []) (by simp)) (by omega) (by show ci<au.next+2;omega);rw [z3,z4]at dq;exact⟨fG,au,cM,cY,H',gh,gO,dq,aN,Dn,Dp,Dq,bG⟩
  by_cases ly:a≥b
  ·by_cases vN:rest* (f L[i]).n≥weight*e8 (f L[i]).mx
   ·have Dr:(bJ f).gz rest weight a b L[i]=true:=by unfold cd.gz;simp only [Bool.and_eq_true,decide_eq_true_eq];exact⟨ly,vN⟩
    have ab:=lG _ (List.getElem_mem bH) Dr;obtain⟨c,H1,aT,bw,cy,iQ,c9,H',gh,gO,dq,fA⟩:=wr (f L[i]).mx 35 (by unfold cd.c2;rw [Dr];rfl) (by unfold cd.fo;rw [if_pos Dr];exact ab.symm)
    obtain⟨e,ah,h',cV,rfl,rfl,rfl⟩:=QP H H1 B N ic q ver off m oc i L[i] oo sv dr .undef rest weight a b (eL (bJ f) rest weight a b (L.take i)) (eM (bJ f) rest weight a b (L.take i)) (f L[i]).n (f L[i]).aE (f L[i]).mx (e8 (f L[i]).mx) (f L[i]).v p c (fun e ah U=>e=.normal∧ah=iT q ver off N ic sv dr oo m oc rest weight a b (eL (bJ f) rest weight a b (L.take i)- (f L[i]).mx) (eM (bJ f) rest weight a b (L.take i)- (f L[i]).n) (i+1)∧U=up H1 17)
     (ae aX ⟨bB (by omega),ae (by omega) ⟨cv,bS _,ae (by omega) ⟨cB.ca ay,(cB.fld ay _).2.1,⟨by omega,by omega⟩,ae (by omega) ⟨bB ly,cB.ca ay,cB.whole ay _,⟨vx _ _⟩,⟨by omega,by omega⟩,bB vN,ae (by omega) ⟨cB.ca ay,(cB.fld ay _).2.2.2.2,aT,cR rfl rfl cy,ae (by omega) ⟨aT,bw _,⟨by omega,by omega⟩,ae (by omega) ⟨c9.ca ay,(c9.fld ay _).2.1,⟨by omega,by omega⟩,ae (by omega) ⟨⟨by omega,by omega⟩,rfl,by rw [dx],rfl⟩⟩⟩⟩⟩⟩⟩⟩)
    exact⟨H',gh,gO,bf.round cV (bL.refl _ _ _ _) dq,fA⟩
   ·have p4:(bJ f).gz rest weight a b L[i]=false:=by unfold cd.gz;simp only [Bool.and_eq_false_iff,decide_eq_false_iff_not];exact .inr (by omega)
    by_cases kU:b≥a
    ·by_cases hQ:rest* (f L[i]).n≤weight* (f L[i]).aE
     ·have oV:(bJ f).c2 rest weight a b L[i]=true:=by unfold cd.c2 cd.mJ;rw [p4];simp only [Bool.not_false,Bool.true_and,Bool.false_or,Bool.and_eq_true,decide_eq_true_eq];exact⟨kU,hQ⟩
      obtain⟨c,H1,aT,bw,cy,iQ,c9,H',gh,gO,dq,fA⟩:=wr (f L[i]).aE 49 oV (by unfold cd.fo;rw [p4];rfl)
      obtain⟨e,ah,h',cV,rfl,rfl,rfl⟩:=QQ H H1 B N ic q ver off m oc i L[i] oo sv dr .undef rest weight a b (eL (bJ f) rest weight a b (L.take i)) (eM (bJ f) rest weight a b (L.take i)) (f L[i]).n (f L[i]).aE (f L[i]).mx (e8 (f L[i]).mx) (f L[i]).v p c (fun e ah U=>e=.normal∧ah=iT q ver off N ic sv dr oo m oc rest weight a b (eL (bJ f) rest weight a b (L.take i)- (f L[i]).aE) (eM (bJ f) rest weight a b (L.take i)- (f L[i]).n) (i+1)∧U=up H1 17)
       (ae aX ⟨bB (by omega),ae (by omega) ⟨cv,bS _,ae (by omega) ⟨cB.ca ay,(cB.fld ay _).2.1,⟨by omega,by omega⟩,ae (by omega) ⟨bB ly,cB.ca ay,cB.whole ay _,⟨vx _ _⟩,⟨by omega,by omega⟩,b7 vN,ae (by omega) ⟨bB kU,cB.ca ay,(cB.fld ay _).2.2.2.1,⟨by omega,by omega⟩,bB hQ,ae (by omega) ⟨cB.ca ay,(cB.fld ay _).2.2.2.1,aT,cR rfl rfl cy,ae (by omega) ⟨aT,bw _,⟨by omega,by omega⟩,ae (by omega) ⟨c9.ca ay,(c9.fld ay _).2.1,⟨by omega,by omega⟩,ae (by omega) ⟨⟨by omega,by omega⟩,rfl,by rw [dx],rfl⟩⟩⟩⟩⟩⟩⟩⟩⟩)
      exact⟨H',gh,gO,bf.round cV (bL.refl _ _ _ _) dq,fA⟩
     ·have h0:¬(bJ f).c2 rest weight a b L[i]=true:=by unfold cd.c2 cd.mJ;rw [p4];simp only [Bool.not_false,Bool.true_and,Bool.false_or,Bool.and_eq_true,decide_eq_true_eq];exact fun h=>hQ h.2
      obtain⟨fG,au,cM,cY,H',gh,gO,dq,fA⟩:=stays h0
      obtain⟨e,ah,h',cV,rfl,rfl,rfl⟩:=QR H ((up H 45).set (H.next+42) (aJ.made [.int .i64 (L[i]:Nat)] 1 true)) au (H.next+42) B N ic q ver off m oc i L[i] oo sv dr fG rest weight a b (eL (bJ f) rest weight a b (L.take i)) (eM (bJ f) rest weight a b (L.take i)) (f L[i]).n (f L[i]).aE (f L[i]).mx (e8 (f L[i]).mx) (f L[i]).v p bW (fun e ah U=>e=.normal∧ah=iT q ver off N ic sv fG oo m oc rest weight a b (eL (bJ f) rest weight a b (L.take i)) (eM (bJ f) rest weight a b (L.take i)) (i+1)∧U=up au 2)
       (ae aX ⟨bB (by omega),ae (by omega) ⟨cv,bS _,ae (by omega) ⟨cB.ca ay,(cB.fld ay _).2.1,⟨by omega,by omega⟩,ae (by omega) ⟨bB ly,cB.ca ay,cB.whole ay _,⟨vx _ _⟩,⟨by omega,by omega⟩,b7 vN,ae (by omega) ⟨bB kU,cB.ca ay,(cB.fld ay _).2.2.2.1,⟨by omega,by omega⟩,b7 hQ,ae (by omega) ⟨vI rfl,cM,ae (by omega) ⟨⟨by omega,by omega⟩,rfl,by rw [dx],rfl⟩⟩⟩⟩⟩⟩⟩)
      exact⟨H',gh,gO,bf.round cV (bL.refl _ _ _ _) dq,fA⟩
    ·have h0:¬(bJ f).c2 rest weight a b L[i]=true:=by unfold cd.c2 cd.mJ;rw [p4];simp only [Bool.not_false,Bool.true_and,Bool.false_or,Bool.and_eq_true,decide_eq_true_eq];exact fun h=>kU h.1
     obtain⟨fG,au,cM,cY,H',gh,gO,dq,fA⟩:=stays h0
     obtain⟨e,ah,h',cV,rfl,rfl,rfl⟩:=QU H ((up H 45).set (H.next+42) (aJ.made [.int .i64 (L[i]:Nat)] 1 true)) au (H.next+42) B N ic q ver off m oc i L[i] oo sv dr fG rest weight a b (eL (bJ f) rest weight a b (L.take i)) (eM (bJ f) rest weight a b (L.take i)) (f L[i]).n (f L[i]).aE (f L[i]).mx (e8 (f L[i]).mx) (f L[i]).v p bW (fun e ah U=>e=.normal∧ah=iT q ver off N ic sv fG oo m oc rest weight a b (eL (bJ f) rest weight a b (L.take i)) (eM (bJ f) rest weight a b (L.take i)) (i+1)∧U=up au 2)
      (ae aX ⟨bB (by omega),ae (by omega) ⟨cv,bS _,ae (by omega) ⟨cB.ca ay,(cB.fld ay _).2.1,⟨by omega,by omega⟩,ae (by omega) ⟨bB ly,cB.ca ay,cB.whole ay _,⟨vx _ _⟩,⟨by omega,by omega⟩,b7 vN,ae (by omega) ⟨b7 kU,ae (by omega) ⟨vI rfl,cM,ae (by omega) ⟨⟨by omega,by omega⟩,rfl,by rw [dx],rfl⟩⟩⟩⟩⟩⟩⟩)
     exact⟨H',gh,gO,bf.round cV (bL.refl _ _ _ _) dq,fA⟩
  ·have p4:(bJ f).gz rest weight a b L[i]=false:=by unfold cd.gz;simp only [Bool.and_eq_false_iff,decide_eq_false_iff_not];exact .inl (by omega)
   have kU:b≥a:=by omega
   by_cases hQ:rest* (f L[i]).n≤weight* (f L[i]).aE
   ·have oV:(bJ f).c2 rest weight a b L[i]=true:=by unfold cd.c2 cd.mJ;rw [p4];simp only [Bool.not_false,Bool.true_and,Bool.false_or,Bool.and_eq_true,decide_eq_true_eq];exact⟨kU,hQ⟩
    obtain⟨c,H1,aT,bw,cy,iQ,c9,H',gh,gO,dq,fA⟩:=wr (f L[i]).aE 49 oV (by unfold cd.fo;rw [p4];rfl)
    obtain⟨e,ah,h',cV,rfl,rfl,rfl⟩:=QS H H1 B N ic q ver off m oc i L[i] oo sv dr .undef rest weight a b (eL (bJ f) rest weight a b (L.take i)) (eM (bJ f) rest weight a b (L.take i)) (f L[i]).n (f L[i]).aE (f L[i]).mx (e8 (f L[i]).mx) (f L[i]).v p c (fun e ah U=>e=.normal∧ah=iT q ver off N ic sv dr oo m oc rest weight a b (eL (bJ f) rest weight a b (L.take i)- (f L[i]).aE) (eM (bJ f) rest weight a b (L.take i)- (f L[i]).n) (i+1)∧U=up H1 17)
     (ae aX ⟨bB (by omega),ae (by omega) ⟨cv,bS _,ae (by omega) ⟨cB.ca ay,(cB.fld ay _).2.1,⟨by omega,by omega⟩,ae (by omega) ⟨b7 ly,ae (by omega) ⟨bB kU,cB.ca ay,(cB.fld ay _).2.2.2.1,⟨by omega,by omega⟩,bB hQ,ae (by omega) ⟨cB.ca ay,(cB.fld ay _).2.2.2.1,aT,cR rfl rfl cy,ae (by omega) ⟨aT,bw _,⟨by omega,by omega⟩,ae (by omega) ⟨c9.ca ay,(c9.fld ay _).2.1,⟨by omega,by omega⟩,ae (by omega) ⟨⟨by omega,by omega⟩,rfl,by rw [dx],rfl⟩⟩⟩⟩⟩⟩⟩⟩⟩)
    exact⟨H',gh,gO,bf.round cV (bL.refl _ _ _ _) dq,fA⟩
   ·have h0:¬(bJ f).c2 rest weight a b L[i]=true:=by unfold cd.c2 cd.mJ;rw [p4];simp only [Bool.not_false,Bool.true_and,Bool.false_or,Bool.and_eq_true,decide_eq_true_eq];exact fun h=>hQ h.2
    obtain⟨fG,au,cM,cY,H',gh,gO,dq,fA⟩:=stays h0
    obtain⟨e,ah,h',cV,rfl,rfl,rfl⟩:=QT H ((up H 45).set (H.next+42) (aJ.made [.int .i64 (L[i]:Nat)] 1 true)) au (H.next+42) B N ic q ver off m oc i L[i] oo sv dr fG rest weight a b (eL (bJ f) rest weight a b (L.take i)) (eM (bJ f) rest weight a b (L.take i)) (f L[i]).n (f L[i]).aE (f L[i]).mx (e8 (f L[i]).mx) (f L[i]).v p bW (fun e ah U=>e=.normal∧ah=iT q ver off N ic sv fG oo m oc rest weight a b (eL (bJ f) rest weight a b (L.take i)) (eM (bJ f) rest weight a b (L.take i)) (i+1)∧U=up au 2)
     (ae aX ⟨bB (by omega),ae (by omega) ⟨cv,bS _,ae (by omega) ⟨cB.ca ay,(cB.fld ay _).2.1,⟨by omega,by omega⟩,ae (by omega) ⟨b7 ly,ae (by omega) ⟨bB kU,cB.ca ay,(cB.fld ay _).2.2.2.1,⟨by omega,by omega⟩,b7 hQ,ae (by omega) ⟨vI rfl,cM,ae (by omega) ⟨⟨by omega,by omega⟩,rfl,by rw [dx],rfl⟩⟩⟩⟩⟩⟩⟩)
    exact⟨H',gh,gO,bf.round cV (bL.refl _ _ _ _) dq,fA⟩
end Go.Proofs.YtjpfnbihopoeeaaGreatDoor
namespace Go.Proofs.YtjpfnbihopoeeaaGreatDoor
open Go.ba
theorem vO{a b:Int}(h:a=b):some (J.bool (a == b))=some (J.bool true):=by rw [h];simp
theorem p5{a b:Int}(h:¬a=b):some (J.bool (a == b))=some (J.bool false):=by
 have:(a == b)=false:=by rw [beq_eq_false_iff_ne];exact h
 rw [this]
theorem TN(p:cd)(rest weight a b:Int)(y:Nat→Int):lx p rest weight a b y []=y:=by funext j;simp [lx]
theorem TO(p:cd)(rest weight a b:Int):eL p rest weight a b []=rest:=by simp [eL,bC]
theorem TP(p:cd)(rest weight a b:Int):eM p rest weight a b []=weight:=by simp [eM,bC]
abbrev s9(q ver off N ic:Nat)(sv dg:J)(rest weight:Int):a6:=[(0,fa q ver off N ic),(1,sv),(6,.int .i64 rest),(7,.int .i64 weight),(9,dg)]
theorem TQ{B N ic q ver off qs:Nat}{sv:J}{f:Nat→cz}(U:q≠qs):∀(g:Nat)(L:List Nat)(rest weight:Int)(y:Nat→Int)(H:I)(qo:Nat)(dg:J),L.length≤g→L.length≤64→(∀j∈L,j<N∧p3 (f j))→iS (bJ f) L rest weight→rest≤4096→weight≤2^17→B≤H.next→gM H q ver off N (fa q ver off N ic) f→cQ H 3 qs sv (ei N y)→qs<H.next→cQ H 3 qo dg (hb L)→qo<H.next→qo≠qs →
 ∃H' lu mT kV fA p6 er,bf Tryz.prog aq B 279 (aY Tryz.prog 95 2) (s9 q ver off N ic sv dg rest weight) H (.exit 4) (s9 q ver off N ic sv mT fA p6) H'∧kV.length≤64∧(∀j∈kV,j<N∧p3 (f j))∧iS (bJ f) kV fA p6∧fA≤4096∧p6≤2^17∧(bJ f).gL fA p6 kV=0∧(bJ f).below fA p6 kV=0 ∧
  (∀z,nL (bJ f) kV fA p6 er z→nL (bJ f) L rest weight y z)∧cQ H' 3 qs sv (ei N er)∧cQ H' 3 lu mT (hb kV)∧lu<H'.next∧lu≠qs∧Fr H H' [qs]:=by
 intro g;induction g with
 |zero =>
  intro L rest weight y H qo dg an aF de inv aC hw aX ej ws s8 wo Ds cg;have p7:L=[]:=List.eq_nil_of_length_eq_zero (by omega);subst p7;obtain⟨oo,oc,rfl⟩:=wo.rd.eS;obtain⟨e,ah,h',cV,rfl,rfl,rfl⟩:=QZ H H H B N ic q ver off 0 oc oo sv .undef rest weight 0 0 0 0 (fun e ah U=>e=.exit 4∧ah=s9 q ver off N ic sv (.slice oo 0 oc) rest weight∧U=up H 3) (ae aX ⟨b7 (by omega),rfl,rfl,rfl⟩);exact⟨_,qo,_,[],rest,weight,y,bf.last (by simp) cV,aF,de,inv,aC,hw,rfl,rfl,fun z cl=>cl,ws.aI (Fr.up H 3 []) (by simp),wo.aI (Fr.up H 3 []) (by simp),by show qo<H.next+3;omega,cg,Fr.up H 3 _⟩
 |succ g ih =>
  intro L rest weight y H qo dg an aF de inv aC hw aX ej ws s8 wo Ds cg;by_cases p7:L=[]
  ·exact ih L rest weight y H qo dg (by rw [p7];exact Nat.zero_le _) aF de inv aC hw aX ej ws s8 wo Ds cg
  have jA:0<L.length:=List.length_pos_iff.2 p7;have r0:=inv.yF;have w0:=inv.w0;have wp:=inv.vt p7;obtain⟨oo,oc,rfl⟩:=wo.rd.eS;rw [List.length_map]at wo⊢;obtain⟨n,bK,sO⟩:=TJ (B:=B) (sv:=sv) (m:=L.length) rfl aF de ⟨r0,aC⟩ ⟨w0,hw⟩ L.length 0 (up H 8) (by omega) (by show B≤H.next+8;omega) (ej.aI (Fr.up H 8 []) (by simp)) (wo.rd.aI (Fr.up H 8 []) (by simp));have bK:H.next+8≤n:=bK
  have WH:Fr H ⟨n,H.aj⟩ []:=Fr.aj (by omega);obtain⟨a,aW⟩:∃a,a=(bJ f).gL rest weight L:=⟨_,rfl⟩
  obtain⟨b,ao⟩:∃b,b=(bJ f).below rest weight L:=⟨_,rfl⟩
  have fR:y2 q ver off N ic sv oo L.length oc rest weight ((bJ f).gL rest weight (L.take 0)) ((bJ f).below rest weight (L.take 0)) 0=[(0,fa q ver off N ic),(1,sv),(6,.int .i64 rest),(7,.int .i64 weight),(9,.slice oo L.length oc),(15,.int .i64 0),(16,.int .i64 0),(92,.slice oo L.length oc),(93,.int .i64 (L.length:Nat)),(94,.int .i64 ((0:Nat):Int))]:=rfl;rw [fR,←aW,←ao]at sO;by_cases jO:a=0∧b=0
  ·obtain⟨ly,kU⟩:=jO
   obtain⟨e,ah,h',cV,rfl,rfl,rfl⟩:=QY H ⟨n,H.aj⟩ H B N ic q ver off L.length oc oo sv .undef rest weight a b 0 0 (fun e ah U=>e=.exit 4∧ah=s9 q ver off N ic sv (.slice oo L.length oc) rest weight∧U=⟨n+6,H.aj⟩)
    (ae aX ⟨bB (by omega),ae (by omega) (ae (by omega) ⟨aR.cx sO,ae (by show B≤n;omega) ⟨vO ly,vO kU,rfl,rfl,rfl⟩⟩)⟩)
   have f6:Fr H ⟨n+6,H.aj⟩ []:=Fr.aj (by omega);exact⟨_,qo,_,L,rest,weight,y,bf.last (by simp) cV,aF,de,inv,aC,hw,by rw [←aW];exact ly,by rw [←ao];exact kU,fun z cl=>cl,ws.aI f6 (by simp),wo.aI f6 (by simp),by show qo<n+6;omega,cg,f6.sub (by simp)⟩
  ·have I4:a≠0∨b≠0:=by omega
   have lG:∀j∈L,(bJ f).gz rest weight a b j=true→(f j).mx=e8 (f j).mx:=by
    intro j ay hm;unfold cd.gz at hm;simp only [Bool.and_eq_true,decide_eq_true_eq]at hm;have lo:weight*e8 (f j).mx≤rest* (f j).n:=hm.2;have aS:=(de j ay).2;have be:=aS.n
    have WI:(f j).n≤weight:=by have:=vq (f:=(bJ f).n) (l:=L) (fun i ac=>by have:=(de i ac).2.n;show 0≤(f i).n;omega) j ay;rw [←inv.w]at this;exact this
    unfold e8 at lo⊢;split
    ·rfl
    ·rename_i cl;rw [if_neg cl]at lo;exfalso;have cM:rest* (f j).n≤4096* (f j).n:=Int.mul_le_mul_of_nonneg_right aC (by omega);omega
   have f14:Fr H ⟨n+14,H.aj⟩ [qs]:=(Fr.aj (H:=H) (n:=n+14) (by omega)).sub (by simp)
   obtain⟨af,l0,dr,Dt,iB,TR,t1,t2,f4⟩:=TM (B:=B) (sv:=sv) (y:=y) (a:=a) (b:=b) (H0:=H) (m:=L.length) rfl aF de ⟨r0,aC⟩ ⟨w0,hw⟩ lG ej wo.rd U cg s8 L.length 0 ⟨n+14,H.aj⟩ H.next (.slice none 0 0) (by omega) (by show B≤n+14;omega) f14
    (by rw [List.take_zero,TN];exact ws.aI (Fr.aj (by omega)) (by simp)) (.inl ⟨rfl,rfl⟩) (Nat.le_refl _) (by show H.next<n+14;omega)
   have jV:iT q ver off N ic sv (.slice none 0 0) oo L.length oc rest weight a b (eL (bJ f) rest weight a b (L.take 0)) (eM (bJ f) rest weight a b (L.take 0)) 0=[(0,fa q ver off N ic),(1,sv),(6,.int .i64 rest),(7,.int .i64 weight),(15,.int .i64 a),(16,.int .i64 b),(20,.slice none 0 0),(21,.int .i64 rest),(22,.int .i64 weight),(138,.slice oo L.length oc),(139,.int .i64 (L.length:Nat)),(140,.int .i64 ((0:Nat):Int))]:=by unfold iT;rw [List.take_zero,TO,TP]
   rw [jV]at Dt;have Du:=f4.next
   have m4:B≤af.next:=by omega
   have inv2:=inv.round aW ao p7;have WJ:=inv.less aW ao I4
   have WK:=nV (f:=(bJ f).fo rest weight a b) (c:=8192) (l:=L.filter ((bJ f).c2 rest weight a b)) fun j ay=>by
    have aS:=(de j (List.mem_filter.1 ay).1).2;have:=aS.aE;have:=aS.cq;unfold cd.fo;split
    ·show 0≤e8 (f j).mx∧e8 (f j).mx≤8192;omega
    ·show 0≤(f j).aE∧(f j).aE≤8192;omega
   have aD:=nV (f:=(bJ f).n) (c:=1000) (l:=L.filter ((bJ f).c2 rest weight a b)) fun j ay=>by have aS:=(de j (List.mem_filter.1 ay).1).2;have:=aS.n;show 0≤(f j).n∧(f j).n≤1000;omega
   obtain⟨H',lu,mT,kV,fA,p6,er,dq,i1,i2,i3,i4,i5,i6,i7,i8,i9,i10,i11,i12,i13⟩:=ih (lZ (bJ f) rest weight a b L) (eL (bJ f) rest weight a b L) (eM (bJ f) rest weight a b L) (lx (bJ f) rest weight a b y L) (up af 6) l0 dr (by show(L.filter _).length≤g;omega) (by show(L.filter _).length≤64;omega) (fun j ay=>de j (List.mem_filter.1 ay).1) inv2 (by unfold eL;omega) (by unfold eM;omega) (by show B≤af.next+6;omega) ((ej.aI f4 (by simpa using U)).aI (Fr.up af 6 []) (by simp)) (iB.aI (Fr.up af 6 []) (by simp)) (by show qs<af.next+6;omega) (TR.aI (Fr.up af 6 []) (by simp)) (by show l0<af.next+6;omega) (by omega);refine⟨H',lu,mT,kV,fA,p6,er,?_,i1,i2,i3,i4,i5,i6,i7,fun z cl=> .round aW ao I4 (i8 z cl),i9,i10,i11,i12,(f4.trans (Fr.up af 6 [qs]) (fun x ab _=>ab)).trans i13 (fun x ab _=>ab)⟩;by_cases ly:a=0
   ·have kU:¬b=0:=by omega
    obtain⟨e,ah,h',cV,rfl,rfl,rfl⟩:=QX H ⟨n,H.aj⟩ af B N ic q ver off L.length oc oo sv dr rest weight a b (eL (bJ f) rest weight a b L) (eM (bJ f) rest weight a b L) (fun e ah U=>e=.normal∧ah=s9 q ver off N ic sv dr (eL (bJ f) rest weight a b L) (eM (bJ f) rest weight a b L)∧U=up af 6)
     (ae aX ⟨bB (by omega),ae (by omega) (ae (by omega) ⟨aR.cx sO,ae (by show B≤n;omega) ⟨vO ly,p5 kU,ae (by show B≤n+6;omega) (ae (by show B≤n+7;omega) (ae (by show B≤n+11;omega) ⟨aR.cx Dt,ae m4 ⟨rfl,rfl,rfl⟩⟩))⟩⟩)⟩)
    exact bf.round cV (bL.refl _ _ _ _) dq
   ·obtain⟨e,ah,h',cV,rfl,rfl,rfl⟩:=QW H ⟨n,H.aj⟩ af B N ic q ver off L.length oc oo sv dr rest weight a b (eL (bJ f) rest weight a b L) (eM (bJ f) rest weight a b L) (fun e ah U=>e=.normal∧ah=s9 q ver off N ic sv dr (eL (bJ f) rest weight a b L) (eM (bJ f) rest weight a b L)∧U=up af 6)
     (ae aX ⟨bB (by omega),ae (by omega) (ae (by omega) ⟨aR.cx sO,ae (by show B≤n;omega) ⟨p5 ly,ae (by show B≤n+6;omega) (ae (by show B≤n+7;omega) (ae (by show B≤n+11;omega) ⟨aR.cx Dt,ae m4 ⟨rfl,rfl,rfl⟩⟩))⟩⟩)⟩)
    exact bf.round cV (bL.refl _ _ _ _) dq
abbrev vP(q ver off N ic:Nat)(sv av bv:J)(oo:Option aO)(m oc:Nat)(rest weight:Int)(i:Nat):a6:=[(0,fa q ver off N ic),(1,sv),(6,.int .i64 rest),(7,.int .i64 weight),(9,.slice oo m oc),(26,av),(27,bv),(222,.slice oo m oc),(223,.int .i64 (m:Nat)),(224,.int .i64 (i:Nat))]
theorem TS{B N ic q ver off m oc qo qa qb:Nat}{oo:Option aO}{sv av bv:J}{f:Nat→cz}{L:List Nat}{rest weight:Int}{w:List Int}(qG:w=L.map fun j=>(f j).n)(hm:m=L.length)(lo:m≤64)(de:∀j∈L,j<N)(et:¬weight=0)(bl:∀j∈L, -2^62≤rest* (f j).n∧rest* (f j).n≤2^62)(k1:qa≠qb)(k2:q≠qa)(bT:q≠qb)(cr:qo≠qa)(c6:qo≠qb) :
 ∀(g i:Nat)(H:I),i+g=m→B≤H.next→gM H q ver off N (fa q ver off N ic) f→dJ H qo (.slice oo m oc) (hb L)→cQ H 3 qa av (dh (fm (c1 rest weight w) i))→cQ H 3 qb bv (dh (fm (e4 rest weight w) i)) →
 ∃H',bf Tryz.prog aq B 279 (aY Tryz.prog 95 5) (vP q ver off N ic sv av bv oo m oc rest weight i) H (.exit 10) [(1,sv),(6,.int .i64 rest),(9,.slice oo m oc),(26,av),(27,bv)] H'∧cQ H' 3 qa av (dh (c1 rest weight w))∧cQ H' 3 qb bv (dh (e4 rest weight w))∧Fr H H' [qa,qb]:=by
 have bW:aO:=⟨0,0,0,0,1⟩
 have lw:w.length=L.length:=by rw [qG,List.length_map]
 have gy:(c1 rest weight w).length=m:=by rw [c1,List.length_map,lw,hm]
 have nJ:(e4 rest weight w).length=m:=by rw [e4,List.length_map,lw,hm]
 intro g;induction g with
 |zero =>
  intro i H ac aX ej ro y3 rE;obtain rfl:i=m:=by omega
  have eq:fm (c1 rest weight w) i=c1 rest weight w:=by unfold fm;rw [gy,Nat.sub_self,List.take_of_length_le (by omega)];simp
  have jH:fm (e4 rest weight w) i=e4 rest weight w:=by unfold fm;rw [nJ,Nat.sub_self,List.take_of_length_le (by omega)];simp
  rw [eq]at y3;rw [jH]at rE;obtain⟨e,ah,h',aC,rfl,rfl,rfl⟩:=HU H H H B N ic q ver off i oc i 0 oo sv av bv rest weight 0 0 0 bW bW bW (fun e ah U=>e=.exit 10∧ah=vP q ver off N ic sv av bv oo i oc rest weight i∧U=up H 1) (ae aX ⟨b7 (by omega),rfl,rfl,rfl⟩);exact⟨_,(bf.last (by simp) aC).post (bL.facts (ed [1,6,9,26,27] (by kernel_rfl))),y3.aI (Fr.up H 1 []) (by simp),rE.aI (Fr.up H 1 []) (by simp),Fr.up H 1 _⟩
 |succ g ih =>
  intro i H ac aX ej ro y3 rE;have bH:i<L.length:=by omega
  have ay:=de _ (List.getElem_mem bH);have ab:=bl _ (List.getElem_mem bH);obtain⟨p,cv,bu,bS⟩:=ro.n bH;have oO:(c1 rest weight w)[i]'(by omega)=IntKind.wrap .i64 (Int.tdiv (rest* (f L[i]).n) weight):=by simp [c1,qG]
  have nc:(e4 rest weight w)[i]'(by omega)=Int.tmod (rest* (f L[i]).n) weight:=by simp [e4,qG]
  have Qj:=yq (c1 rest weight w) (i:=i) (by omega);have Qk:=yq (e4 rest weight w) (i:=i) (by omega);obtain⟨a,H1,aT,bw,cy,fv,fQ,iQ⟩:=y3.hq lp (i:=i) (x:= .int .i64 (IntKind.wrap .i64 (Int.tdiv (rest* (f L[i]).n) weight))) (by rw [List.length_map];omega) (by rw [List.getElem_map];rfl) rfl 19;obtain⟨bN,af,bU,b8,dj,eJ,fB,fS⟩:=(rE.aI fQ (by simp;omega)).hq lp (i:=i) (x:= .int .i64 (Int.tmod (rest* (f L[i]).n) weight)) (by rw [List.length_map];omega) (by rw [List.getElem_map];rfl) rfl 13
  have eq:(dh (fm (c1 rest weight w) i)).set i (.int .i64 (IntKind.wrap .i64 (Int.tdiv (rest* (f L[i]).n) weight)))=dh (fm (c1 rest weight w) (i+1)):=by rw [←yr _ (by omega),oO,dh,dh,List.map_set]
  have jH:(dh (fm (e4 rest weight w) i)).set i (.int .i64 (Int.tmod (rest* (f L[i]).n) weight))=dh (fm (e4 rest weight w) (i+1)):=by rw [←yr _ (by omega),nc,dh,dh,List.map_set]
  rw [eq]at cy;rw [jH]at dj;have cB:=ej.aI fQ (by simpa using k2);have f2:Fr H (up af 2) [qa,qb]:=((fQ.sub (M:=[qa,qb]) (by simp)).trans fB (by intro x ab _;simp at ab;simp [ab])).trans (Fr.up af 2 []) (by simp);obtain⟨H',dq,TT,TU,bG⟩:=ih (i+1) (up af 2) (by omega) (by show B≤af.next+2;omega) (ej.aI f2 (by simp;exact⟨k2,bT⟩)) (ro.aI f2 (by simp;exact⟨cr,c6⟩)) ((cy.aI fB (by simpa using k1)).aI (Fr.up af 2 []) (by simp)) (dj.aI (Fr.up af 2 []) (by simp))
  obtain⟨e,ah,h',aC,rfl,rfl,rfl⟩:=Q0 H H1 af B N ic q ver off m oc i L[i] oo sv av bv rest weight (f L[i]).n (IntKind.wrap .i64 (Int.tdiv (rest* (f L[i]).n) weight)) (Int.tmod (rest* (f L[i]).n) weight) p a bN (fun e ah U=>e=.normal∧ah=vP q ver off N ic sv av bv oo m oc rest weight (i+1)∧U=up af 2)
   (ae aX ⟨bB (by omega),ae (by omega) ⟨cv,bS _,ae (by omega) ⟨ej.ca ay,(ej.fld ay _).2.1,⟨by omega,by omega⟩,vm et,aT,cR rfl rfl bw,ae (by omega) ⟨cB.ca ay,(cB.fld ay _).2.1,⟨by omega,by omega⟩,vm et,bU,cR rfl rfl b8,ae (by omega) ⟨⟨by omega,by omega⟩,rfl,by rw [dx],rfl⟩⟩⟩⟩⟩)
  exact⟨H',bf.round aC (bL.refl _ _ _ _) dq,TT,TU,f2.trans bG (fun x ab _=>ab)⟩
theorem TV{B N m oc qo qa qs:Nat}{oo:Option aO}{sv av:J}{L:List Nat}{X:List Int}{y:Nat→Int}(hm:m=L.length)(lo:m≤64)(vh:X.length=m)(de:∀j∈L,j<N)(gi:L.Nodup)(k1:qo≠qs)(k2:qa≠qs) :
 ∀(g i:Nat)(H:I)(z:Nat→Int),i+g=m→B≤H.next→dJ H qo (.slice oo m oc) (hb L)→dJ H qa av (dh X)→cQ H 3 qs sv (ei N z)→(∀k,k<i→z (L.getD k 0)=X.getD k 0)→(∀j,j ∉ L.take i→z j=y j) →
 ∃H' eC,bf Tryz.prog aq B 279 (aY Tryz.prog 95 6) [(1,sv),(26,av),(264,.slice oo m oc),(265,.int .i64 (m:Nat)),(266,.int .i64 (i:Nat))] H (.exit 12) [] H'∧cQ H' 3 qs sv (ei N eC)∧(∀k,k<L.length→eC (L.getD k 0)=X.getD k 0)∧(∀j,j ∉ L→eC j=y j)∧Fr H H' [qs]:=by
 have bW:aO:=⟨0,0,0,0,1⟩
 intro g;induction g with
 |zero =>
  intro i H z ac aX ro Dv ws U ak;obtain rfl:i=m:=by omega
  rw [List.take_of_length_le (by omega)]at ak;obtain⟨e,ah,h',aC,rfl,rfl,rfl⟩:=HV H H B i oc i 0 oo sv av 0 bW bW bW (fun e ah U=>e=.exit 12∧ah=[(1,sv),(26,av),(264,.slice oo i oc),(265,.int .i64 (i:Nat)),(266,.int .i64 (i:Nat))]∧U=up H 1) (ae aX ⟨b7 (by omega),rfl,rfl,rfl⟩);exact⟨_,z,(bf.last (by simp) aC).post (bL.facts (ed [] (by kernel_rfl))),ws.aI (Fr.up H 1 []) (by simp),fun k az=>U k (by omega),ak,Fr.up H 1 _⟩
 |succ g ih =>
  intro i H z ac aX ro Dv ws U ak;have bH:i<L.length:=by omega
  have s':i<X.length:=by omega
  have ay:=de _ (List.getElem_mem bH);obtain⟨p,cv,bu,bS⟩:=ro.n bH;obtain⟨iv,cC,ci,gI⟩:=Dv.int s';obtain⟨a,H1,aT,bw,cy,fv,fQ,iQ⟩:=ws.f (m:=14) (x:=X[i]) ay;have TW:L.getD i 0=L[i]:=by simp [List.getD_eq_getElem?_getD,bH]
  have n9:X.getD i 0=X[i]:=by simp [List.getD_eq_getElem?_getD,s']
  obtain⟨H',eC,dq,aN,bo,bO,bG⟩:=ih (i+1) (up H1 2) (fun k=>if k=L[i]then X[i]else z k) (by omega) (by show B≤H1.next+2;omega) ((ro.aI fQ (by simpa using k1)).aI (Fr.up H1 2 []) (by simp)) ((Dv.aI fQ (by simpa using k2)).aI (Fr.up H1 2 []) (by simp)) (fv.aI (Fr.up H1 2 []) (by simp))
   (fun k az=>by
    show(if L.getD k 0=L[i]then X[i]else z (L.getD k 0))=_;by_cases c:k=i
    ·subst c;rw [if_pos TW,n9]
    ·have k7:k<L.length:=by omega
     have TX:L.getD k 0=L[k]:=by simp [List.getD_eq_getElem?_getD,k7]
     rw [if_neg (by rw [TX];intro h;exact c ((List.getElem_inj gi).1 h)),U k (by omega)])
   (fun j ay=>by
    show(if j=L[i]then X[i]else z j)=y j;rw [vL bH]at ay
    rw [if_neg fun h=>ay (List.mem_append_right _ (by rw [h];exact List.mem_singleton.2 rfl)),ak j fun h=>ay (List.mem_append_left _ h)])
  obtain⟨e,ah,h',aC,rfl,rfl,rfl⟩:=Q1 H H1 B m oc i L[i] oo sv av X[i] p iv a (fun e ah U=>e=.normal∧ah=[(1,sv),(26,av),(264,.slice oo m oc),(265,.int .i64 (m:Nat)),(266,.int .i64 ((i+1:Nat):Int))]∧U=up H1 2)
   (ae aX ⟨bB (by omega),ae (by omega) ⟨cv,bS _,ae (by omega) ⟨cC,gI _,aT,cR rfl rfl cy,ae (by omega) ⟨⟨by omega,by omega⟩,rfl,by rw [dx],rfl⟩⟩⟩⟩)
  exact⟨H',eC,bf.round aC (bL.refl _ _ _ _) dq,aN,bo,bO,(fQ.trans (Fr.up H1 2 [qs]) (fun x ab _=>ab)).trans bG (fun x ab _=>ab)⟩
end Go.Proofs.YtjpfnbihopoeeaaGreatDoor
namespace Go.Proofs.YtjpfnbihopoeeaaGreatDoor
open Go.ba
theorem I5{y er:Nat→Int}{σ:Nat→Nat} :∀(i j:Nat),y j=er j→hO y σ i j=hO er σ i j
 |0,j,h=>h
 |i+1,j,h=>by simp only [hO,I5 i j h]
theorem Dw(f:Nat→cz)(z:Nat→Int)(N:Nat):bC z (List.range N)=bC z (opens f N)+bC z (iE f N):=yB z (fun j=>decide ((f j).k=3)) (List.range N)
theorem TY{B N ic q ver off qs:Nat}{sv dg:J}{f:Nat→cz}{L:List Nat}{rest weight:Int}{y:Nat→Int}{H:I}{qo:Nat}(aF:L.length≤64)(de:∀j∈L,j<N∧p3 (f j))(inv:iS (bJ f) L rest weight)(aC:rest≤4096)(hw:weight≤2^17)(aW:(bJ f).gL rest weight L=0)(ao:(bJ f).below rest weight L=0)(aX:B≤H.next)
 (ej:gM H q ver off N (fa q ver off N ic) f) (aw:q<H.next) (ws:cQ H 3 qs sv (ei N y)) (s8:qs<H.next) (wo:cQ H 3 qo dg (hb L)) (Ds:qo<H.next) (cg:qo≠qs) (vQ:q≠qs) :
 ∃(oo:Option aO)(oc:Nat),dg=.slice oo L.length oc∧∃(ax au aU db:I)(z:Nat→Int),(∀F,a1 F (.tmp 217)=.int .i64 (L.length:Nat)→aV env bz (H.next+2) (a1 F) (up H 8) (Op.makeSlice 28 (.tmp 217) (.tmp 217))=some (.slice (some ⟨H.next+2,0,0,0,1⟩) L.length L.length,ax)) ∧
  (∀F,a1 F (.tmp 220)=.int .i64 (L.length:Nat)→aV env bz (H.next+5) (a1 F) ax (Op.makeSlice 28 (.tmp 220) (.tmp 220))=some (.slice (some ⟨H.next+5,0,0,0,1⟩) L.length L.length,au))∧B≤au.next ∧
  bf Tryz.prog aq B 279 (aY Tryz.prog 95 5) (vP q ver off N ic sv (.slice (some ⟨H.next+2,0,0,0,1⟩) L.length L.length) (.slice (some ⟨H.next+5,0,0,0,1⟩) L.length L.length) oo L.length oc rest weight 0) (up au 3) (.exit 10) [(1,sv),(6,.int .i64 rest),(9,.slice oo L.length oc),(26,.slice (some ⟨H.next+2,0,0,0,1⟩) L.length L.length),(27,.slice (some ⟨H.next+5,0,0,0,1⟩) L.length L.length)] aU∧B≤aU.next ∧
  ((¬L.length>0∧bf Tryz.prog aq B 279 (aY Tryz.prog 95 6) [(1,sv),(26,.slice (some ⟨H.next+2,0,0,0,1⟩) L.length L.length),(264,.slice oo L.length oc),(265,.int .i64 (L.length:Nat)),(266,.int .i64 ((0:Nat):Int))] (up aU 6) (.exit 12) [] db) ∨
   (L.length>0∧∃(s:Int)(bc b3:I),aZ Tryz.prog aq 93 [.slice (some ⟨H.next+2,0,0,0,1⟩) L.length L.length] (up aU 10) (.int .i64 s) bc∧(-9223372036854775808≤rest-s∧rest-s≤9223372036854775807)∧aZ Tryz.prog aq 144 [.slice (some ⟨H.next+2,0,0,0,1⟩) L.length L.length,.slice (some ⟨H.next+5,0,0,0,1⟩) L.length L.length,.int .i64 (rest-s)] bc (.tuple []) b3∧B≤b3.next ∧
    bf Tryz.prog aq B 279 (aY Tryz.prog 95 6) [(1,sv),(26,.slice (some ⟨H.next+2,0,0,0,1⟩) L.length L.length),(264,.slice oo L.length oc),(265,.int .i64 (L.length:Nat)),(266,.int .i64 ((0:Nat):Int))] (up b3 3) (.exit 12) [] db)) ∧
  B≤db.next∧cQ db 3 qs sv (ei N z)∧nL (bJ f) L rest weight y z∧Fr H db [qs]:=by
 obtain⟨oo,oc,rfl⟩:=wo.rd.eS;rw [List.length_map]at wo⊢;refine⟨oo,oc,rfl,?_⟩;obtain⟨m,hm⟩:∃m,m=L.length:=⟨_,rfl⟩
 rw [←hm]at wo aF⊢;obtain⟨w,pq⟩:∃w:List Int,w=L.map fun j=>(f j).n:=⟨_,rfl⟩
 have lw:w.length=m:=by rw [pq,List.length_map,hm]
 have gy:(c1 rest weight w).length=m:=by rw [c1,List.length_map,lw]
 have nJ:(e4 rest weight w).length=m:=by rw [e4,List.length_map,lw]
 have r0:=inv.yF
 let ax:I:=(up H 8).set (H.next+2) (aJ.made (List.replicate m (.int .i64 0)) 1 true)
 let au:I:=ax.set (H.next+5) (aJ.made (List.replicate m (.int .i64 0)) 1 true)
 have cY:au.next=H.next+8:=rfl
 have f3:Fr H ax []:=(Fr.up H 8 []).more (Fr.set (L:=[H.next+2]) (up H 8) _ _ (by simp)) (kT (by omega));have f34:Fr ax au [H.next+5]:=Fr.set (L:=[H.next+5]) ax _ _ (by simp);have f4:Fr H au []:=f3.more f34 (kT (by omega));have fb:cQ ax 3 (H.next+2) (.slice (some ⟨H.next+2,0,0,0,1⟩) m m) (dh (fm (c1 rest weight w) 0)):=yx (up H 8) (by show H.next+2<H.next+8;omega) gy;have iB:cQ au 3 (H.next+5) (.slice (some ⟨H.next+5,0,0,0,1⟩) m m) (dh (fm (e4 rest weight w) 0)):=yx ax (by show H.next+5<H.next+8;omega) nJ;have Dx:Fr H (up au 3) []:=f4.trans (Fr.up au 3 []) (by simp);have I6:∀F,a1 F (.tmp 217)=.int .i64 (m:Nat)→aV env bz (H.next+2) (a1 F) (up H 8) (Op.makeSlice 28 (.tmp 217) (.tmp 217))=some (.slice (some ⟨H.next+2,0,0,0,1⟩) m m,ax):=fun F dT=>kP dT (by omega)
 have I7:∀F,a1 F (.tmp 220)=.int .i64 (m:Nat)→aV env bz (H.next+5) (a1 F) ax (Op.makeSlice 28 (.tmp 220) (.tmp 220))=some (.slice (some ⟨H.next+5,0,0,0,1⟩) m m,au):=fun F dT=>kP dT (by omega)
 by_cases I8:m=0
 ·subst I8;have p7:L=[]:=List.eq_nil_of_length_eq_zero hm.symm;subst p7;have bW:aO:=⟨0,0,0,0,1⟩
  obtain⟨e,ah,h',cV,rfl,rfl,rfl⟩:=HU (up au 3) H H B N ic q ver off 0 oc 0 0 oo sv (.slice (some ⟨H.next+2,0,0,0,1⟩) 0 0) (.slice (some ⟨H.next+5,0,0,0,1⟩) 0 0) rest weight 0 0 0 bW bW bW (fun e ah U=>e=.exit 10∧ah=vP q ver off N ic sv (.slice (some ⟨H.next+2,0,0,0,1⟩) 0 0) (.slice (some ⟨H.next+5,0,0,0,1⟩) 0 0) oo 0 oc rest weight 0∧U=up (up au 3) 1) (ae (by show B≤H.next+8+3;omega) ⟨b7 (by omega),rfl,rfl,rfl⟩);obtain⟨e,ah,h',F3,rfl,rfl,rfl⟩:=HV (up (up (up au 3) 1) 6) H B 0 oc 0 0 oo sv (.slice (some ⟨H.next+2,0,0,0,1⟩) 0 0) 0 bW bW bW (fun e ah U=>e=.exit 12∧ah=[(1,sv),(26,.slice (some ⟨H.next+2,0,0,0,1⟩) 0 0),(264,.slice oo 0 oc),(265,.int .i64 ((0:Nat):Int)),(266,.int .i64 ((0:Nat):Int))]∧U=up (up (up (up au 3) 1) 6) 1) (ae (by show B≤H.next+8+3+1+6;omega) ⟨b7 (by omega),rfl,rfl,rfl⟩);have f8:Fr H (up (up (up (up au 3) 1) 6) 1) []:=f4.trans (M:=[]) ⟨by show au.next≤au.next+3+1+6+1;omega,fun _ _ _=>rfl⟩ (by simp);refine⟨ax,au,up (up au 3) 1,up (up (up (up au 3) 1) 6) 1,y,I6,I7,by omega,(bf.last (by simp) cV).post (bL.facts (ed [1,6,9,26,27] (by kernel_rfl))),by show B≤H.next+8+3+1;omega,.inl ⟨by omega,(bf.last (by simp) F3).post (bL.facts (ed [] (by kernel_rfl)))⟩,by show B≤H.next+8+3+1+6+1;omega,ws.aI f8 (by simp),.stop aW ao (fun _=>0) (fun h=>absurd rfl h) (fun k az=>by simp at az) (fun j _=>rfl),f8.sub (by simp)⟩
 ·have TZ:L≠[]:=fun h=>I8 (by rw [hm,h];rfl)
  have wp:=inv.vt TZ
  have vR:∀x∈w,0≤x∧x≤2^23:=fun x ab=>by rw [pq]at ab;obtain⟨j,ay,rfl⟩:=List.mem_map.1 ab;have:=(de j ay).2.n;omega
  have sk:bs w=weight:=by
   have:∀l:List Nat,bs (l.map fun j=>(f j).n)=bC (bJ f).n l:=by
    intro l;induction l with
    |nil=>rfl
    |cons a r ih=>simp only [List.map_cons,bs,bC,ih]
   rw [pq,this,inv.w]
  obtain⟨aU,vS,I9,T0,f5⟩:=TS (B:=B) (qo:=qo) (sv:=sv) (f:=f) (rest:=rest) (weight:=weight) pq hm aF (fun j ay=>(de j ay).1) (by omega) (fun j ay=>by have:=(vJ ⟨r0,aC⟩ ⟨inv.w0,hw⟩ (de j ay).2).x;omega) (qa:=H.next+2) (qb:=H.next+5) (by omega) (by omega) (by omega) (by omega) (by omega) m 0 (up au 3) (by omega) (by show B≤H.next+8+3;omega) (ej.aI Dx (by simp)) (wo.rd.aI Dx (by simp)) ((fb.aI f34 (by simp)).aI (Fr.up au 3 []) (by simp)) (iB.aI (Fr.up au 3 []) (by simp));have cU:=f5.next
  have cU:H.next+8+3≤aU.next:=cU
  have T1:Fr H aU []:=Dx.more f5 (by intro x ab;simp at ab;omega);have rF:0≤rest∧rest≤2^30:=⟨r0,by omega⟩
  have et:0<bs w:=by omega
  have sR:=vn rF et vR;have lf:=yw (al:=weight) rF wp vR;have yy:=rem_in (al:=weight) rF wp vR;rw [sk]at sR;have hi:=vo (l:=c1 rest weight w) (m:=2^53) (by decide) (by omega) (fun x ab=>by have:=lf x ab;omega);have HH: -2^62≤bs (c1 rest weight w)∧bs (c1 rest weight w)≤2^62:=by have:=hi (c1 rest weight w).length (Nat.le_refl _);rwa [List.take_of_length_le (Nat.le_refl _)]at this
  obtain⟨gA,cL,kR⟩:=vj (H:=up aU 10) (by omega) hi (I9.rd.aI (Fr.up aU 10 []) (by simp));have cL:aU.next+10<gA:=cL
  have f56:Fr aU ⟨gA,aU.aj⟩ []:=Fr.aj (by omega);obtain⟨k,az⟩:∃k:Nat,k=(rest-bs (c1 rest weight w)).toNat:=⟨_,rfl⟩
  have vp:((k:Nat):Int)=rest-bs (c1 rest weight w):=by omega
  obtain⟨σ,b3,mV,s1,s2,y4,f67,mW⟩:=HC (H:=⟨gA,aU.aj⟩) (k:=k) (I9.aI f56 (by simp)) (by show H.next+2<gA;omega) (T0.rd.aI f56 (by simp)) (by show H.next+5<gA;omega) (by rw [gy,nJ]) (by omega) (by omega) (fun v a7=>by have:=yy v a7;omega) (fun v a7=>by have:=lf v a7;omega);have mW:gA<b3.next:=mW
  rw [vp]at mV;rw [gy]at s1 s2;have T2:Fr H b3 []:=(T1.trans f56 (by simp)).more f67 (kT (by omega));have Dy:Fr H (up b3 3) []:=T2.trans (Fr.up b3 3 []) (by simp);obtain⟨db,z,oW,y5,jc,z2,f8⟩:=TV (B:=B) (N:=N) (oo:=oo) (oc:=oc) (qo:=qo) (sv:=sv) (y:=y) hm aF (by rw [pX,gy]) (fun j ay=>(de j ay).1) inv.HO cg (qa:=H.next+2) (by omega) m 0 (up b3 3) y (by omega) (by show B≤b3.next+3;omega) (wo.rd.aI Dy (by simp)) (y4.rd.aI (Fr.up b3 3 []) (by simp)) (ws.aI Dy (by simp)) (fun k az=>by omega) (fun j _=>rfl);have p8:=f8.next
  have p8:b3.next+3≤db.next:=p8
  refine⟨ax,au,aU,db,z,I6,I7,by omega,vS,by omega,.inr ⟨by omega,bs (c1 rest weight w),_,b3,kR,⟨by omega,by omega⟩,mV,by omega,oW⟩,by omega,y5,?_,(Dy.sub (M:=[qs]) (by simp)).trans f8 (fun x ab _=>ab)⟩
  have iP:∀j,j<k→σ j<(c1 rest weight w).length:=fun j ay=>by
   obtain⟨i,_,ak,e⟩:=s1.from (Nat.zero_le j) (show j<m by omega)
   rw [e,gy];exact ak
  have eq:=yu (al:=weight) rF wp vR;have jH:=yv (al:=weight) rF vR
  have oO:∀j,j<m→(c1 rest weight w).getD j 0=rest* (bJ f).n (L.getD j 0)/weight:=fun j ay=>by
   rw [eq,pq];have:j<L.length:=by omega
   simp [List.getD_eq_getElem?_getD,this]
  have nc:∀j,j<m→(e4 rest weight w).getD j 0=rest* (bJ f).n (L.getD j 0)%weight:=fun j ay=>by
   rw [jH,pq];have:j<L.length:=by omega
   simp [List.getD_eq_getElem?_getD,this]
  have I':∀j,j<m→σ j<m:=fun j ay=>by
   obtain⟨i,_,ak,e⟩:=s1.from (Nat.zero_le j) ay
   rw [e];exact ak
  have fF:fV (vr fun j=>rest* (bJ f).n (L.getD j 0)%weight) σ 0 m:=by intro i j ac eO ay;have:=s2 i j ac eO ay;unfold iA at this⊢;simp only [pW,vr,decide_eq_true_eq,decide_eq_false_iff_not]at this⊢;rw [nc _ (I' i (by omega)),nc _ (I' j ay)]at this;exact this
  have T3:bC (fun j=>rest* (bJ f).n j) L=rest*weight:=by rw [rn,inv.w]
  have Ja:bC (fun j=>rest* (bJ f).n j/weight) L=bs (c1 rest weight w):=by rw [←yI,gy,←yG (fun j=>rest* (bJ f).n j/weight) L,←hm];exact ka fun j ay=>(oO j (List.mem_range.1 ay)).symm
  refine .stop aW ao (hO (fun j=>rest* (bJ f).n (L.getD j 0)/weight) σ k) (fun _=>⟨k,by rw [Ja];exact vp,?_⟩) (fun j ay=> ?_) z2
  ·rw [←hm];refine HN s1 fF wp (fun j ay=>⟨Int.emod_nonneg _ (by omega),Int.emod_lt_of_pos _ wp⟩) (by omega) ?_ _;have:=Qs wp T3;rw [Ja]at this;rw [hm,yG (fun j=>rest* (bJ f).n j%weight) L,this,vp]
  ·rw [jc j ay,CH k iP j (by rw [gy,hm];exact ay)];exact I5 k j (oO j (by omega))
theorem T4{N ic q ver off qs:Nat}{sv:J}{f:Nat→cz}{y:Nat→Int}{room:Int}{H:I}(bA:N≤64)(aS:∀i,i<N→nM (f i))(bi:∀i,i<N→0≤y i)(T5:∀i,i<N→(f i).k=3→y i=(f i).aE)(nj:0≤room∧room≤4096)(Qq:bC y (List.range N)≤room)
 (ej:gM H q ver off N (fa q ver off N ic) f) (aw:q<H.next) (ws:cQ H 3 qs sv (ei N y)) (s8:qs<H.next) (vQ:q≠qs) :
 ∃(z:Nat→Int)(H':I),aZ Tryz.prog aq 95 [fa q ver off N ic,sv,.int .i64 room] H (.tuple []) H'∧cQ H' 3 qs sv (ei N z)∧(∀i,i<N→0≤z i)∧bC z (List.range N)≤room∧Fr H H' [qs]:=by
 have T6:∀i,i<N→0≤y i∧y i≤4096:=fun i ac=>by have:=vq (f:=y) (l:=List.range N) (fun j ay=>bi j (List.mem_range.1 ay)) i (List.mem_range.2 ac);have:=bi i ac;omega
 have T7:=Fr.up H 9 [];obtain⟨H1,qo,dg,jn,wo,JZ,WL,f1⟩:=TD (B:=H.next) (ic:=ic) (sv:=sv) (qs:=qs) (y:=y) (room:=room) (H0:=H) bA aS (fun i ac=>by have:=T6 i ac;omega) ej ws.rd nj N 0 (up H 9) H.next (.slice none 0 0) (by omega) (by show H.next≤H.next+9;omega) T7 (.inl ⟨rfl,rfl⟩) (Nat.le_refl _) (by show H.next<H.next+9;omega)
 have bK:=f1.next
 obtain⟨nK,wc,rfl⟩:=wo.rd.eS;rw [List.length_map]at wo jn
 have e0:rD q ver off N ic sv (.slice none 0 0) (gN f y room 0) (h9 f 0) (ia f 0) (jr f 0) 0=[(0,fa q ver off N ic),(1,sv),(6,.int .i64 room),(7,.int .i64 0),(8,.int .i64 0),(9,.slice none 0 0),(10,.bool true),(33,fa q ver off N ic),(34,.int .i64 (N:Nat)),(35,.int .i64 ((0:Nat):Int))]:=by
  have:gN f y room 0=room:=by simp [gN,iE,bC]
  unfold rD;rw [this];rfl
 rw [e0]at jn;obtain⟨rest,x2⟩:∃r,r=gN f y room N:=⟨_,rfl⟩
 obtain⟨weight,Jb⟩:∃r,r=h9 f N:=⟨_,rfl⟩
 obtain⟨dH,Dz⟩:∃r,r=ia f N:=⟨_,rfl⟩
 rw [←x2,←Jb,←Dz]at jn;have rh:=Dw f y N;have WM:=mI (f:=y) (l:=opens f N) fun j ay=>bi j (nW ay).1
 have WN:=mI (f:=y) (l:=iE f N) fun j ay=>bi j (y1 ay).1
 have WO:rest=room-bC y (iE f N):=x2;have p9:∀j∈opens f N,j<N∧p3 (f j):=fun j ay=>⟨(nW ay).1,(aS j (nW ay).1).fill (nW ay).2⟩
 have pt:=I1 f N;have oV:bC (bJ f).aE (opens f N)=bC y (opens f N):=ka fun j ay=>(T5 j (nW ay).1 (nW ay).2).symm
 have ti:=nV (f:=(bJ f).n) (c:=1000) (l:=opens f N) fun j ay=>by have:=(p9 j ay).2.n;show 0≤(f j).n∧(f j).n≤1000;omega
 have T8:weight=bC (bJ f).n (opens f N):=Jb;have DA:=ej.aI f1 (by simp);have Jc:=ws.aI f1 (by simp);by_cases jj:jr f N=true∧dH≤rest
 ·obtain⟨ao,hle⟩:=jj;rw [ao]at jn;have WQ:=f1.trans (Fr.up H1 9 []) (by simp)
  obtain⟨af,hM,cJ,f2⟩:=TI (B:=H.next) (sv:=sv) (qs:=qs) (y:=y) (H0:=H1) (m:=(opens f N).length) rfl (by omega) (fun j ay=>(p9 j ay).1) DA wo.rd vQ (by omega) (opens f N).length 0 (up H1 9) (by omega) (by show H.next≤H1.next+9;omega) (Fr.up H1 9 _) (by
   have:(fun j=>if j∈(opens f N).take 0 then(f j).mx else y j)=y:=by funext j;simp
   rw [this];exact Jc.aI (Fr.up H1 9 []) (by simp))
  have n2:=f2.next
  obtain⟨v,U,D,rfl,rfl⟩:=Q2 H H1 af H H H H H H N ic q ver off 0 0 (opens f N).length wc 0 0 none nK sv room rest weight dH 0 0 0 (fun v U=>v=.tuple []∧U=af)
   (ae (Nat.le_refl _) (ae (by omega) (ae (by omega) (ae (by omega) ⟨aR.cx jn,ae (by omega) ⟨bB hle,ae (by omega) ⟨aR.cx hM,df (by omega) ⟨rfl,rfl⟩⟩⟩⟩))))
  refine⟨_,_,D,cJ,fun i ac=> ?_,?_,(f1.sub (M:=[qs]) (by simp)).trans f2 (fun x ab _=>ab)⟩
  ·show 0≤if i∈opens f N then(f i).mx else y i
   split
   ·have:=(aS i ac).mx;have:=(aS i ac).aE;omega
   ·exact bi i ac
  ·rw [Dw f]
   have bo:bC (fun j=>if j∈opens f N then(f j).mx else y j) (opens f N)=dH:=by rw [Dz];exact ka fun j ay=>if_pos ay
   have bO:bC (fun j=>if j∈opens f N then(f j).mx else y j) (iE f N)=bC y (iE f N):=ka fun j ay=>if_neg fun h=>(y1 ay).2 (nW h).2
   rw [bo,bO];omega
 ·have gi:(opens f N).Nodup:=List.nodup_range.filter _
  have ja:rest≤bC (bJ f).cq (opens f N):=by
   by_cases ao:jr f N=true
   ·have e:bC (bJ f).cq (opens f N)=dH:=by
     rw [Dz];refine ka fun j ay=> ?_
     have:=List.all_eq_true.1 ao j ay;simp only [decide_eq_true_eq]at this;show e8 (f j).mx=_;unfold e8;rw [if_pos this]
    have:¬dH≤rest:=fun h=>jj ⟨ao,h⟩
    omega
   ·obtain⟨j,ay,sf⟩:∃j∈opens f N,¬0<(f j).mx:=by
     have:¬∀j∈opens f N,0<(f j).mx:=fun h=>ao (List.all_eq_true.2 fun j ay=>decide_eq_true (h j ay))
     simpa using this
    have:=vq (f:=(bJ f).cq) (l:=opens f N) (fun i ac=>by have:=(p9 i ac).2.cq;show 0≤e8 (f i).mx;omega) j ay
    have e:(bJ f).cq j=8192:=by show e8 (f j).mx=8192;unfold e8;rw [if_neg sf]
    omega
  have inv:iS (bJ f) (opens f N) rest weight:=⟨⟨fun i ac=>(p9 i ac).2.n.1,fun i ac=>(p9 i ac).2.aE.1,fun i ac=>(p9 i ac).2.cq.1⟩,gi,T8,by rw [oV];omega,ja⟩
  obtain⟨af,WR,kc,kV,c9,cJ,gk,pV,i1,i2,i3,i4,i5,i6,i7,i8,i9,i10,i11,i12,i13⟩:=TQ (B:=H.next) (ic:=ic) (sv:=sv) (qs:=qs) (f:=f) vQ (opens f N).length (opens f N) rest weight y (up H1 6) qo _ (Nat.le_refl _) (by omega) p9 inv (by omega) (by omega) (by show H.next≤H1.next+6;omega) (DA.aI (Fr.up H1 6 []) (by simp)) (Jc.aI (Fr.up H1 6 []) (by simp)) (by show qs<H1.next+6;omega) (wo.aI (Fr.up H1 6 []) (by simp)) (by show qo<H1.next+6;omega) (by omega);have n2:=i13.next
  have n2:H1.next+6≤af.next:=n2
  have T9:gM af q ver off N (fa q ver off N ic) f:=(DA.aI (Fr.up H1 6 []) (by simp)).aI i13 (by simpa using vQ);obtain⟨oo,oc,rfl,ax,au,aU,db,z,t1,t2,t3,t4,t5,t6,t7,t8,t9,t10⟩:=TY (B:=H.next) i1 i2 i3 i4 i5 i6 i7 (by omega) T9 (by omega) i9 (by omega) i10 i11 i12 vQ;have Jd:=i8 z t9;obtain⟨jc,z2,_⟩:=Jd.law inv;have Je:=Jd.out;have aI:Fr H db [qs]:=((f1.sub (M:=[qs]) (by simp)).trans ((Fr.up H1 6 [qs]).trans i13 (fun x ab _=>ab)) (fun x ab _=>ab)).trans t10 (fun x ab _=>ab)
  have fin:(∀i,i<N→0≤z i)∧bC z (List.range N)≤room:=by
   constructor
   ·intro i ac;by_cases c:i∈opens f N
    ·have:=(z2 i c).1;have aP:0≤(bJ f).aE i:=(p9 i c).2.aE.1;omega
    ·rw [Je i c];exact bi i ac
   ·rw [Dw f,jc];have bO:bC z (iE f N)=bC y (iE f N):=ka fun j ay=>Je j fun h=>(y1 ay).2 (nW h).2
    rw [bO];omega
  have D:aZ Tryz.prog aq 95 [fa q ver off N ic,sv,.int .i64 room] H (.tuple []) db:=by
   cases ao:jr f N with
   |true =>
    rw [ao]at jn;have hle:¬dH≤rest:=fun h=>jj ⟨ao,h⟩
    rcases t6 with ⟨jO,oW⟩|⟨jO,s,bc,b3,kR,iQ,mV,hR,oW⟩
    ·obtain⟨v,U,D,rfl,rfl⟩:=Q4 H H1 af ax au aU H H db N ic q ver off kV.length oc (opens f N).length wc (af.next+2) (af.next+5) oo nK sv room rest weight dH c9 cJ 0 (fun v U=>v=.tuple []∧U=db)
      (ae (Nat.le_refl _) (ae (by omega) (ae (by omega) (ae (by omega) ⟨aR.cx jn,ae (by omega) ⟨b7 hle,aR.cx pV,ae (by omega) ⟨t1 _ rfl,t2 _ rfl,ae t3 ⟨aR.cx t4,ae t5 ⟨b7 (by omega),ae (by omega) ⟨aR.cx oW,df (by omega) ⟨rfl,rfl⟩⟩⟩⟩⟩⟩⟩))))
     exact D
    ·obtain⟨v,U,D,rfl,rfl⟩:=Q3 H H1 af ax au aU bc b3 db N ic q ver off kV.length oc (opens f N).length wc (af.next+2) (af.next+5) oo nK sv room rest weight dH c9 cJ s (fun v U=>v=.tuple []∧U=db)
      (ae (Nat.le_refl _) (ae (by omega) (ae (by omega) (ae (by omega) ⟨aR.cx jn,ae (by omega) ⟨b7 hle,aR.cx pV,ae (by omega) ⟨t1 _ rfl,t2 _ rfl,ae t3 ⟨aR.cx t4,ae t5 ⟨bB (by omega),ae (by omega) ⟨⟨kR⟩,iQ,⟨mV⟩,ae hR ⟨aR.cx oW,df (by omega) ⟨rfl,rfl⟩⟩⟩⟩⟩⟩⟩⟩))))
     exact D
   |false =>
    rw [ao]at jn;rcases t6 with ⟨jO,oW⟩|⟨jO,s,bc,b3,kR,iQ,mV,hR,oW⟩
    ·obtain⟨v,U,D,rfl,rfl⟩:=Q6 H H1 af ax au aU H H db N ic q ver off kV.length oc (opens f N).length wc (af.next+2) (af.next+5) oo nK sv room rest weight dH c9 cJ 0 (fun v U=>v=.tuple []∧U=db)
      (ae (Nat.le_refl _) (ae (by omega) (ae (by omega) (ae (by omega) ⟨aR.cx jn,ae (by omega) ⟨aR.cx pV,ae (by omega) ⟨t1 _ rfl,t2 _ rfl,ae t3 ⟨aR.cx t4,ae t5 ⟨b7 (by omega),ae (by omega) ⟨aR.cx oW,df (by omega) ⟨rfl,rfl⟩⟩⟩⟩⟩⟩⟩))))
     exact D
    ·obtain⟨v,U,D,rfl,rfl⟩:=Q5 H H1 af ax au aU bc b3 db N ic q ver off kV.length oc (opens f N).length wc (af.next+2) (af.next+5) oo nK sv room rest weight dH c9 cJ s (fun v U=>v=.tuple []∧U=db)
      (ae (Nat.le_refl _) (ae (by omega) (ae (by omega) (ae (by omega) ⟨aR.cx jn,ae (by omega) ⟨aR.cx pV,ae (by omega) ⟨t1 _ rfl,t2 _ rfl,ae t3 ⟨aR.cx t4,ae t5 ⟨bB (by omega),ae (by omega) ⟨⟨kR⟩,iQ,⟨mV⟩,ae hR ⟨aR.cx oW,df (by omega) ⟨rfl,rfl⟩⟩⟩⟩⟩⟩⟩⟩))))
     exact D
  exact⟨z,db,D,t8,fin.1,fin.2,aI⟩
end Go.Proofs.YtjpfnbihopoeeaaGreatDoor
