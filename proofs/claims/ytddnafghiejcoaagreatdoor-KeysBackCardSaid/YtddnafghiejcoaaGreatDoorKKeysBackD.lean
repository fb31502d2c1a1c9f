/-
  Parts of the proof of KeysBack.
-/
import Derived.Test.YtddnafghiejcoaaGreatDoorKKeysBackC
set_option linter.unusedVariables false
set_option linter.unusedSimpArgs false
namespace Go.Proofs.YtddnafghiejcoaaGreatDoor
open Go.cf Go.Keys
set_option maxRecDepth 1000000
abbrev nr(l:List aa)(v f:Nat):af:= {bk:=l,es:=1,exact:=false,ro:=false,ad:=v,gd:=0,hj:=f,ty:=some (5,0)}
abbrev jk(v n:Nat):aa:=aa.slice (some ⟨0,v,0,0,1⟩) n n
abbrev BH:aa:=aa.slice (cm 68) 3 3
abbrev WY:c':=(ak 21001 (ak 21005 (ak 6000 .nil)))
abbrev jZ(v f:Nat)(l:List aa):af:=⟨l,1,false,false,v,0,f,some (21,0)⟩
abbrev Gu:aa:=aa.agg [.int .u8 239,.int .u8 191,.int .u8 189,.int .u8 0]
abbrev BI(i:Nat)(l:List aa):aa:=aa.agg [.int .u8 (b2 .u8 (bw .i32 (ba l (0+Int.toNat (i:Int))) (6)) (192)),.int .u8 (b2 .u8 (128) (bp .i32 (ba l (0+Int.toNat (i:Int))) (63))),.int .u8 0,.int .u8 0]
abbrev BJ(i:Nat)(l:List aa):aa:=aa.agg [.int .u8 (b2 .u8 (bw .i32 (bw .i32 (ba l (0+Int.toNat (i:Int))) (6)) (6)) (224)),.int .u8 (b2 .u8 (128) (bp .i32 (bw .i32 (ba l (0+Int.toNat (i:Int))) (6)) (63))),.int .u8 (b2 .u8 (128) (bp .i32 (ba l (0+Int.toNat (i:Int))) (63))),.int .u8 0]
abbrev vh(i:Nat)(l:List aa):aa:=aa.agg [.int .u8 (b2 .u8 (bw .i32 (bw .i32 (bw .i32 (ba l (0+Int.toNat (i:Int))) (6)) (6)) (6)) (240)),.int .u8 (b2 .u8 (128) (bp .i32 (bw .i32 (bw .i32 (ba l (0+Int.toNat (i:Int))) (6)) (6)) (63))),.int .u8 (b2 .u8 (128) (bp .i32 (bw .i32 (ba l (0+Int.toNat (i:Int))) (6)) (63))),.int .u8 (b2 .u8 (128) (bp .i32 (ba l (0+Int.toNat (i:Int))) (63)))]
abbrev vi:af:=(af.an ([Gu]) 4 true (some (95,4)))
abbrev M9:c':=(ak 19002 (ak 19003 (ak 20001 WY)))
abbrev M'(i v f:Nat)(l:List aa):J:=(J.ar 34 [(0,(jZ v f l)),(29,af.an [.int .u8 (ba l (0+Int.toNat (i:Int)))] 1 true),(30,af.an [.int .u8 (ba l (0+Int.toNat (i:Int)))] 1 false (some (5,0)))])
abbrev Na(i v f:Nat)(l:List aa):J:=(J.ar 63 [(0,(jZ v f l)),(31,(af.an ([(BI i l)]) 4 true (some (95,4)))),(59,af.an [.int .u8 (b2 .u8 (bw .i32 (ba l (0+Int.toNat (i:Int))) (6)) (192)),.int .u8 (b2 .u8 (128) (bp .i32 (ba l (0+Int.toNat (i:Int))) (63)))] 1 false (some (5,0)))])
abbrev Nb(i v f:Nat)(l:List aa):J:=(J.ar 71 [(0,(jZ v f l)),(32,(af.an ([(BJ i l)]) 4 true (some (95,4)))),(67,af.an [.int .u8 (b2 .u8 (bw .i32 (bw .i32 (ba l (0+Int.toNat (i:Int))) (6)) (6)) (224)),.int .u8 (b2 .u8 (128) (bp .i32 (bw .i32 (ba l (0+Int.toNat (i:Int))) (6)) (63))),.int .u8 (b2 .u8 (128) (bp .i32 (ba l (0+Int.toNat (i:Int))) (63)))] 1 false (some (5,0)))])
abbrev Nc(i v f:Nat)(l:List aa):J:=(J.ar 78 [(0,(jZ v f l)),(32,(af.an ([(vh i l)]) 4 true (some (95,4)))),(74,af.an [.int .u8 (b2 .u8 (bw .i32 (bw .i32 (bw .i32 (ba l (0+Int.toNat (i:Int))) (6)) (6)) (6)) (240)),.int .u8 (b2 .u8 (128) (bp .i32 (bw .i32 (bw .i32 (ba l (0+Int.toNat (i:Int))) (6)) (6)) (63))),.int .u8 (b2 .u8 (128) (bp .i32 (bw .i32 (ba l (0+Int.toNat (i:Int))) (6)) (63))),.int .u8 (b2 .u8 (128) (bp .i32 (ba l (0+Int.toNat (i:Int))) (63)))] 1 false (some (5,0)))])
abbrev Nd(i v f:Nat)(l:List aa):J:=(J.ar 79 [(0,(jZ v f l)),(33,(af.an ([(vh i l)]) 4 true (some (95,4)))),(75,af.an [.int .u8 (b2 .u8 (bw .i32 (bw .i32 (bw .i32 (ba l (0+Int.toNat (i:Int))) (6)) (6)) (6)) (240)),.int .u8 (b2 .u8 (128) (bp .i32 (bw .i32 (bw .i32 (ba l (0+Int.toNat (i:Int))) (6)) (6)) (63))),.int .u8 (b2 .u8 (128) (bp .i32 (bw .i32 (ba l (0+Int.toNat (i:Int))) (6)) (63))),.int .u8 (b2 .u8 (128) (bp .i32 (ba l (0+Int.toNat (i:Int))) (63)))] 1 false (some (5,0)))])
abbrev Nf:c':=(ak 17003 (ak 18001 (ak 19001 M9)))
abbrev BK(v f:Nat)(l:List aa):J:=(J.ar 72 [(0,(jZ v f l)),(33,vi),(68,af.an [.int .u8 239,.int .u8 191,.int .u8 189] 1 false (some (5,0)))])
abbrev Gv(i v f n:Nat)(l:List aa)(ae:cW→bJ→J→Prop):Prop:=(ba l (0+Int.toNat (i:Int))<128→(0≤ba l (0+Int.toNat (i:Int))∧ba l (0+Int.toNat (i:Int))≤255)∧(-9223372036854775808≤(i:Int)+1∧(i:Int)+1≤9223372036854775807)∧ae .normal [(3,.slice (cm 30) 1 1),(6,(jk v n)),(7,.int .i64 (n:Int)),(8,.int .i64 ((i:Int)+1))] (M' i v f l))
abbrev Gw(i v f n:Nat)(l:List aa)(ae:cW→bJ→J→Prop):Prop:=(¬65536≤ba l (0+Int.toNat (i:Int))→True∧(0≤bp .i32 (ba l (0+Int.toNat (i:Int))) (63)∧bp .i32 (ba l (0+Int.toNat (i:Int))) (63)≤255)∧True∧Int.NonNeg (6-0)∧(0≤bw .i32 (ba l (0+Int.toNat (i:Int))) (6)∧bw .i32 (ba l (0+Int.toNat (i:Int))) (6)≤255)∧True∧(-9223372036854775808≤(i:Int)+1∧(i:Int)+1≤9223372036854775807)∧ae .normal [(3,.slice (cm 59) 2 2),(6,(jk v n)),(7,.int .i64 (n:Int)),(8,.int .i64 ((i:Int)+1))] (Na i v f l))
abbrev Gx(i v f n:Nat)(l:List aa)(ae:cW→bJ→J→Prop):Prop:=(¬65536≤ba l (0+Int.toNat (i:Int))→True∧(0≤bp .i32 (ba l (0+Int.toNat (i:Int))) (63)∧bp .i32 (ba l (0+Int.toNat (i:Int))) (63)≤255)∧True∧Int.NonNeg (6-0)∧True∧(0≤bp .i32 (bw .i32 (ba l (0+Int.toNat (i:Int))) (6)) (63)∧bp .i32 (bw .i32 (ba l (0+Int.toNat (i:Int))) (6)) (63)≤255)∧True∧Int.NonNeg (6-0)∧(0≤bw .i32 (bw .i32 (ba l (0+Int.toNat (i:Int))) (6)) (6)∧bw .i32 (bw .i32 (ba l (0+Int.toNat (i:Int))) (6)) (6)≤255)∧True∧(-9223372036854775808≤(i:Int)+1∧(i:Int)+1≤9223372036854775807)∧ae .normal [(3,.slice (cm 67) 3 3),(6,(jk v n)),(7,.int .i64 (n:Int)),(8,.int .i64 ((i:Int)+1))] (Nb i v f l))
abbrev Gy(i v f n:Nat)(l:List aa)(ae:cW→bJ→J→Prop):Prop:=(65536≤ba l (0+Int.toNat (i:Int))→True∧(0≤bp .i32 (ba l (0+Int.toNat (i:Int))) (63)∧bp .i32 (ba l (0+Int.toNat (i:Int))) (63)≤255)∧True∧Int.NonNeg (6-0)∧True∧(0≤bp .i32 (bw .i32 (ba l (0+Int.toNat (i:Int))) (6)) (63)∧bp .i32 (bw .i32 (ba l (0+Int.toNat (i:Int))) (6)) (63)≤255)∧True∧Int.NonNeg (6-0)∧True∧(0≤bp .i32 (bw .i32 (bw .i32 (ba l (0+Int.toNat (i:Int))) (6)) (6)) (63)∧bp .i32 (bw .i32 (bw .i32 (ba l (0+Int.toNat (i:Int))) (6)) (6)) (63)≤255)∧True∧Int.NonNeg (6-0)∧(0≤bw .i32 (bw .i32 (bw .i32 (ba l (0+Int.toNat (i:Int))) (6)) (6)) (6)∧bw .i32 (bw .i32 (bw .i32 (ba l (0+Int.toNat (i:Int))) (6)) (6)) (6)≤255)∧True∧(-9223372036854775808≤(i:Int)+1∧(i:Int)+1≤9223372036854775807)∧ae .normal [(3,.slice (cm 74) 4 4),(6,(jk v n)),(7,.int .i64 (n:Int)),(8,.int .i64 ((i:Int)+1))] (Nc i v f l))
abbrev Gz(i v f n:Nat)(l:List aa)(ae:cW→bJ→J→Prop):Prop:=(65536≤ba l (0+Int.toNat (i:Int))→True∧(0≤bp .i32 (ba l (0+Int.toNat (i:Int))) (63)∧bp .i32 (ba l (0+Int.toNat (i:Int))) (63)≤255)∧True∧Int.NonNeg (6-0)∧True∧(0≤bp .i32 (bw .i32 (ba l (0+Int.toNat (i:Int))) (6)) (63)∧bp .i32 (bw .i32 (ba l (0+Int.toNat (i:Int))) (6)) (63)≤255)∧True∧Int.NonNeg (6-0)∧True∧(0≤bp .i32 (bw .i32 (bw .i32 (ba l (0+Int.toNat (i:Int))) (6)) (6)) (63)∧bp .i32 (bw .i32 (bw .i32 (ba l (0+Int.toNat (i:Int))) (6)) (6)) (63)≤255)∧True∧Int.NonNeg (6-0)∧(0≤bw .i32 (bw .i32 (bw .i32 (ba l (0+Int.toNat (i:Int))) (6)) (6)) (6)∧bw .i32 (bw .i32 (bw .i32 (ba l (0+Int.toNat (i:Int))) (6)) (6)) (6)≤255)∧True∧(-9223372036854775808≤(i:Int)+1∧(i:Int)+1≤9223372036854775807)∧ae .normal [(3,.slice (cm 75) 4 4),(6,(jk v n)),(7,.int .i64 (n:Int)),(8,.int .i64 ((i:Int)+1))] (Nd i v f l))
abbrev WZ:c':=(ak 16001 (ak 17001 (ak 17002 Nf)))
abbrev GA(i v f n:Nat)(l:List aa)(ae:cW→bJ→J→Prop):Prop:=(1114111<ba l (0+Int.toNat (i:Int))→(-9223372036854775808≤(i:Int)+1∧(i:Int)+1≤9223372036854775807)∧ae .normal [(3,BH),(6,(jk v n)),(7,.int .i64 (n:Int)),(8,.int .i64 ((i:Int)+1))] (BK v f l))
abbrev Ng:c':=(ak 15001 (ak 15002 (ak 15003 WZ)))
abbrev Nh:c':=(.aI 6001 (.aI 8001 Ng (ak 17001 (ak 17002 Nf))) (.aI 8001 Ng (ak 19001 M9)))
theorem W0(i v f n:Nat)(l:List aa)(ae:cW→bJ→J→Prop)(aW:((i:Int)<(n:Int)→(0≤(i:Int)∧(i:Int)<(n:Int))∧v=v∧l[0+Int.toNat (i:Int)]? =some (.int .i32 (ba l (0+Int.toNat (i:Int))))∧(ba l (0+Int.toNat (i:Int))<0→(-9223372036854775808≤(i:Int)+1∧(i:Int)+1≤9223372036854775807)∧ae .normal [(3,BH),(6,(jk v n)),(7,.int .i64 (n:Int)),(8,.int .i64 ((i:Int)+1))] (BK v f l))∧(¬ba l (0+Int.toNat (i:Int))<0→(55296≤ba l (0+Int.toNat (i:Int))→(ba l (0+Int.toNat (i:Int))≤57343→(-9223372036854775808≤(i:Int)+1∧(i:Int)+1≤9223372036854775807)∧ae .normal [(3,BH),(6,(jk v n)),(7,.int .i64 (n:Int)),(8,.int .i64 ((i:Int)+1))] (BK v f l))∧(¬ba l (0+Int.toNat (i:Int))≤57343→(GA i v f n l ae)∧(¬1114111<ba l (0+Int.toNat (i:Int))→(Gv i v f n l ae)∧(¬ba l (0+Int.toNat (i:Int))<128→(2048≤ba l (0+Int.toNat (i:Int))→(Gz i v f n l ae)∧(Gx i v f n l ae))∧(¬2048≤ba l (0+Int.toNat (i:Int))→(Gy i v f n l ae)∧(Gw i v f n l ae))))))∧(¬55296≤ba l (0+Int.toNat (i:Int))→(GA i v f n l ae)∧(¬1114111<ba l (0+Int.toNat (i:Int))→(Gv i v f n l ae)∧(¬ba l (0+Int.toNat (i:Int))<128→(2048≤ba l (0+Int.toNat (i:Int))→(Gz i v f n l ae)∧(Gx i v f n l ae))∧(¬2048≤ba l (0+Int.toNat (i:Int))→(Gy i v f n l ae)∧(Gw i v f n l ae)))))))∧(¬(i:Int)<(n:Int)→ae (.exit 0) [(3,.slice none 0 0),(6,(jk v n)),(7,.int .i64 (n:Int)),(8,.int .i64 (i:Int))] (J.ar 2 [(0,(jZ v f l))]))) :
 ∃e aU ac,dc 1 18 (cs 51 0) [(3,.slice none 0 0),(6,.slice (some ⟨0,v,0,0,1⟩) n n),(7,.int .i64 n),(8,.int .i64 i)] (J.rows 1 [(0,hh l v f)]) e aU ac∧ae e aU ac :=
 fP eN mixed cx (hs:= .aI 3000 (ak 4000 (ak 4001 (he 5002 (.aI 1001 (.skip 6000 (ak 6000 .nil)) (.aI 1004 (.aI 1007 (.skip 6000 (ak 6000 .nil)) (.aI 1012 (.skip 6000 (ak 6000 .nil)) (.aI 3001 (ak 4002 (ak 6000 .nil)) Nh))) (.aI 1012 (.skip 6000 (ak 6000 .nil)) (.aI 3001 (ak 4002 (ak 6000 .nil)) Nh))))))) .nil) (keep:=[3,6,7,8]) ay aW
abbrev W1:c':=(ak 21005 (ak 22003 (ak 6000 .nil)))
abbrev xU(v2 n2:Nat):aa:=aa.slice (some {id:=50,ad:=v2+1,idx:=0,fld:=0,es:=1}) (n2+3) (n2+3)
abbrev GB(v2 n2:Nat):aa:=aa.slice (some {id:=50,ad:=v2+1,idx:=0,fld:=0,es:=1}) (n2+4) (n2+4)
abbrev Ni(i v2 f2:Nat)(l l2:List aa):af:=⟨l2++[.int .u8 (ba l (0+Int.toNat (i:Int)))],1,false,false,v2+1,0,if 0=v2 then List.length l2 else min f2 (List.length l2),some (5,0)⟩
abbrev BL(v2 f2:Nat)(l2:List aa):af:=⟨l2++[.int .u8 239,.int .u8 191,.int .u8 189],1,false,false,v2+1,0,if 0=v2 then List.length l2 else min f2 (List.length l2),some (5,0)⟩
abbrev Nj(i v2 f2:Nat)(l l2:List aa):af:=⟨l2++[.int .u8 (b2 .u8 (bw .i32 (ba l (0+Int.toNat (i:Int))) (6)) (192)),.int .u8 (b2 .u8 (128) (bp .i32 (ba l (0+Int.toNat (i:Int))) (63)))],1,false,false,v2+1,0,if 0=v2 then List.length l2 else min f2 (List.length l2),some (5,0)⟩
abbrev Nk(i v2 f2:Nat)(l l2:List aa):af:=⟨l2++[.int .u8 (b2 .u8 (bw .i32 (bw .i32 (ba l (0+Int.toNat (i:Int))) (6)) (6)) (224)),.int .u8 (b2 .u8 (128) (bp .i32 (bw .i32 (ba l (0+Int.toNat (i:Int))) (6)) (63))),.int .u8 (b2 .u8 (128) (bp .i32 (ba l (0+Int.toNat (i:Int))) (63)))],1,false,false,v2+1,0,if 0=v2 then List.length l2 else min f2 (List.length l2),some (5,0)⟩
abbrev GC(i v2 f2:Nat)(l l2:List aa):af:=⟨l2++[.int .u8 (b2 .u8 (bw .i32 (bw .i32 (bw .i32 (ba l (0+Int.toNat (i:Int))) (6)) (6)) (6)) (240)),.int .u8 (b2 .u8 (128) (bp .i32 (bw .i32 (bw .i32 (ba l (0+Int.toNat (i:Int))) (6)) (6)) (63))),.int .u8 (b2 .u8 (128) (bp .i32 (bw .i32 (ba l (0+Int.toNat (i:Int))) (6)) (63))),.int .u8 (b2 .u8 (128) (bp .i32 (ba l (0+Int.toNat (i:Int))) (63)))],1,false,false,v2+1,0,if 0=v2 then List.length l2 else min f2 (List.length l2),some (5,0)⟩
abbrev Nl:c':=(ak 19003 (ak 20001 (ak 21001 W1)))
abbrev GD(i v f n v2 f2 n2:Nat)(l l2:List aa)(ae:cW→bJ→J→Prop):Prop:=(ba l (0+Int.toNat (i:Int))<128→(0≤ba l (0+Int.toNat (i:Int))∧ba l (0+Int.toNat (i:Int))≤255)∧(v2=v2∧0+n2=List.length l2∧n2<n2+1∧(n2+1+(n2+1)/4+512)*1≤281474976710656∧n2+1<4611686018427387904)∧(-9223372036854775808≤(i:Int)+1∧(i:Int)+1≤9223372036854775807)∧ae .normal [(3,.slice (some {id:=50,ad:=v2+1,idx:=0,fld:=0,es:=1}) (n2+1) (n2+1)),(6,(jk v n)),(7,.int .i64 (n:Int)),(8,.int .i64 ((i:Int)+1))] (J.ar 93 [(0,(jZ v f l)),(50,(Ni i v2 f2 l l2)),(88,af.an [.int .u8 (ba l (0+Int.toNat (i:Int)))] 1 true)]))
abbrev GF(i v f n v2 f2 n2:Nat)(l l2:List aa)(ae:cW→bJ→J→Prop):Prop:=(¬65536≤ba l (0+Int.toNat (i:Int))→True∧(0≤bp .i32 (ba l (0+Int.toNat (i:Int))) (63)∧bp .i32 (ba l (0+Int.toNat (i:Int))) (63)≤255)∧True∧Int.NonNeg (6-0)∧(0≤bw .i32 (ba l (0+Int.toNat (i:Int))) (6)∧bw .i32 (ba l (0+Int.toNat (i:Int))) (6)≤255)∧True∧(v2=v2∧0+n2=List.length l2∧n2<n2+2∧(n2+2+(n2+2)/4+512)*1≤281474976710656∧n2+2<4611686018427387904)∧(-9223372036854775808≤(i:Int)+1∧(i:Int)+1≤9223372036854775807)∧ae .normal [(3,.slice (some {id:=50,ad:=v2+1,idx:=0,fld:=0,es:=1}) (n2+2) (n2+2)),(6,(jk v n)),(7,.int .i64 (n:Int)),(8,.int .i64 ((i:Int)+1))] (J.ar 122 [(0,(jZ v f l)),(50,(Nj i v2 f2 l l2)),(90,(af.an ([(BI i l)]) 4 true (some (95,4))))]))
abbrev GG(i v f n v2 f2 n2:Nat)(l l2:List aa)(ae:cW→bJ→J→Prop):Prop:=(¬65536≤ba l (0+Int.toNat (i:Int))→True∧(0≤bp .i32 (ba l (0+Int.toNat (i:Int))) (63)∧bp .i32 (ba l (0+Int.toNat (i:Int))) (63)≤255)∧True∧Int.NonNeg (6-0)∧True∧(0≤bp .i32 (bw .i32 (ba l (0+Int.toNat (i:Int))) (6)) (63)∧bp .i32 (bw .i32 (ba l (0+Int.toNat (i:Int))) (6)) (63)≤255)∧True∧Int.NonNeg (6-0)∧(0≤bw .i32 (bw .i32 (ba l (0+Int.toNat (i:Int))) (6)) (6)∧bw .i32 (bw .i32 (ba l (0+Int.toNat (i:Int))) (6)) (6)≤255)∧True∧(v2=v2∧0+n2=List.length l2∧n2<n2+3∧(n2+3+(n2+3)/4+512)*1≤281474976710656∧n2+3<4611686018427387904)∧(-9223372036854775808≤(i:Int)+1∧(i:Int)+1≤9223372036854775807)∧ae .normal [(3,(xU v2 n2)),(6,(jk v n)),(7,.int .i64 (n:Int)),(8,.int .i64 ((i:Int)+1))] (J.ar 130 [(0,(jZ v f l)),(50,(Nk i v2 f2 l l2)),(91,(af.an ([(BJ i l)]) 4 true (some (95,4))))]))
abbrev GH(i v f n v2 f2 n2:Nat)(l l2:List aa)(ae:cW→bJ→J→Prop):Prop:=(65536≤ba l (0+Int.toNat (i:Int))→True∧(0≤bp .i32 (ba l (0+Int.toNat (i:Int))) (63)∧bp .i32 (ba l (0+Int.toNat (i:Int))) (63)≤255)∧True∧Int.NonNeg (6-0)∧True∧(0≤bp .i32 (bw .i32 (ba l (0+Int.toNat (i:Int))) (6)) (63)∧bp .i32 (bw .i32 (ba l (0+Int.toNat (i:Int))) (6)) (63)≤255)∧True∧Int.NonNeg (6-0)∧True∧(0≤bp .i32 (bw .i32 (bw .i32 (ba l (0+Int.toNat (i:Int))) (6)) (6)) (63)∧bp .i32 (bw .i32 (bw .i32 (ba l (0+Int.toNat (i:Int))) (6)) (6)) (63)≤255)∧True∧Int.NonNeg (6-0)∧(0≤bw .i32 (bw .i32 (bw .i32 (ba l (0+Int.toNat (i:Int))) (6)) (6)) (6)∧bw .i32 (bw .i32 (bw .i32 (ba l (0+Int.toNat (i:Int))) (6)) (6)) (6)≤255)∧True∧(v2=v2∧0+n2=List.length l2∧n2<n2+4∧(n2+4+(n2+4)/4+512)*1≤281474976710656∧n2+4<4611686018427387904)∧(-9223372036854775808≤(i:Int)+1∧(i:Int)+1≤9223372036854775807)∧ae .normal [(3,(GB v2 n2)),(6,(jk v n)),(7,.int .i64 (n:Int)),(8,.int .i64 ((i:Int)+1))] (J.ar 137 [(0,(jZ v f l)),(50,(GC i v2 f2 l l2)),(91,(af.an ([(vh i l)]) 4 true (some (95,4))))]))
abbrev GI(i v f n v2 f2 n2:Nat)(l l2:List aa)(ae:cW→bJ→J→Prop):Prop:=(65536≤ba l (0+Int.toNat (i:Int))→True∧(0≤bp .i32 (ba l (0+Int.toNat (i:Int))) (63)∧bp .i32 (ba l (0+Int.toNat (i:Int))) (63)≤255)∧True∧Int.NonNeg (6-0)∧True∧(0≤bp .i32 (bw .i32 (ba l (0+Int.toNat (i:Int))) (6)) (63)∧bp .i32 (bw .i32 (ba l (0+Int.toNat (i:Int))) (6)) (63)≤255)∧True∧Int.NonNeg (6-0)∧True∧(0≤bp .i32 (bw .i32 (bw .i32 (ba l (0+Int.toNat (i:Int))) (6)) (6)) (63)∧bp .i32 (bw .i32 (bw .i32 (ba l (0+Int.toNat (i:Int))) (6)) (6)) (63)≤255)∧True∧Int.NonNeg (6-0)∧(0≤bw .i32 (bw .i32 (bw .i32 (ba l (0+Int.toNat (i:Int))) (6)) (6)) (6)∧bw .i32 (bw .i32 (bw .i32 (ba l (0+Int.toNat (i:Int))) (6)) (6)) (6)≤255)∧True∧(v2=v2∧0+n2=List.length l2∧n2<n2+4∧(n2+4+(n2+4)/4+512)*1≤281474976710656∧n2+4<4611686018427387904)∧(-9223372036854775808≤(i:Int)+1∧(i:Int)+1≤9223372036854775807)∧ae .normal [(3,(GB v2 n2)),(6,(jk v n)),(7,.int .i64 (n:Int)),(8,.int .i64 ((i:Int)+1))] (J.ar 138 [(0,(jZ v f l)),(50,(GC i v2 f2 l l2)),(92,(af.an ([(vh i l)]) 4 true (some (95,4))))]))
abbrev W2:c':=(ak 18001 (ak 19001 (ak 19002 Nl)))
abbrev GJ(i v f n v2 f2 n2:Nat)(l l2:List aa)(ae:cW→bJ→J→Prop):Prop:=(1114111<ba l (0+Int.toNat (i:Int))→(v2=v2∧0+n2=List.length l2∧n2<n2+3∧(n2+3+(n2+3)/4+512)*1≤281474976710656∧n2+3<4611686018427387904)∧(-9223372036854775808≤(i:Int)+1∧(i:Int)+1≤9223372036854775807)∧ae .normal [(3,(xU v2 n2)),(6,(jk v n)),(7,.int .i64 (n:Int)),(8,.int .i64 ((i:Int)+1))] (J.ar 131 [(0,(jZ v f l)),(50,(BL v2 f2 l2)),(92,vi)]))
abbrev Nn:c':=(ak 17001 (ak 17002 (ak 17003 W2)))
abbrev No:c':=(ak 15002 (ak 15003 (ak 16001 Nn)))
abbrev Np:c':=(.aI 6001 (.aI 8001 (ak 15001 No) Nn) (.aI 8001 (ak 15001 No) (ak 19001 (ak 19002 Nl))))
theorem Nq(i v f n v2 f2 n2:Nat)(l l2:List aa)(ae:cW→bJ→J→Prop)(aW:((i:Int)<(n:Int)→(0≤(i:Int)∧(i:Int)<(n:Int))∧v=v∧l[0+Int.toNat (i:Int)]? =some (.int .i32 (ba l (0+Int.toNat (i:Int))))∧(ba l (0+Int.toNat (i:Int))<0→(v2=v2∧0+n2=List.length l2∧n2<n2+3∧(n2+3+(n2+3)/4+512)*1≤281474976710656∧n2+3<4611686018427387904)∧(-9223372036854775808≤(i:Int)+1∧(i:Int)+1≤9223372036854775807)∧ae .normal [(3,(xU v2 n2)),(6,(jk v n)),(7,.int .i64 (n:Int)),(8,.int .i64 ((i:Int)+1))] (J.ar 131 [(0,(jZ v f l)),(50,(BL v2 f2 l2)),(92,vi)]))∧(¬ba l (0+Int.toNat (i:Int))<0→(55296≤ba l (0+Int.toNat (i:Int))→(ba l (0+Int.toNat (i:Int))≤57343→(v2=v2∧0+n2=List.length l2∧n2<n2+3∧(n2+3+(n2+3)/4+512)*1≤281474976710656∧n2+3<4611686018427387904)∧(-9223372036854775808≤(i:Int)+1∧(i:Int)+1≤9223372036854775807)∧ae .normal [(3,(xU v2 n2)),(6,(jk v n)),(7,.int .i64 (n:Int)),(8,.int .i64 ((i:Int)+1))] (J.ar 131 [(0,(jZ v f l)),(50,(BL v2 f2 l2)),(92,vi)]))∧(¬ba l (0+Int.toNat (i:Int))≤57343→(GJ i v f n v2 f2 n2 l l2 ae)∧(¬1114111<ba l (0+Int.toNat (i:Int))→(GD i v f n v2 f2 n2 l l2 ae)∧(¬ba l (0+Int.toNat (i:Int))<128→(2048≤ba l (0+Int.toNat (i:Int))→(GI i v f n v2 f2 n2 l l2 ae)∧(GG i v f n v2 f2 n2 l l2 ae))∧(¬2048≤ba l (0+Int.toNat (i:Int))→(GH i v f n v2 f2 n2 l l2 ae)∧(GF i v f n v2 f2 n2 l l2 ae))))))∧(¬55296≤ba l (0+Int.toNat (i:Int))→(GJ i v f n v2 f2 n2 l l2 ae)∧(¬1114111<ba l (0+Int.toNat (i:Int))→(GD i v f n v2 f2 n2 l l2 ae)∧(¬ba l (0+Int.toNat (i:Int))<128→(2048≤ba l (0+Int.toNat (i:Int))→(GI i v f n v2 f2 n2 l l2 ae)∧(GG i v f n v2 f2 n2 l l2 ae))∧(¬2048≤ba l (0+Int.toNat (i:Int))→(GH i v f n v2 f2 n2 l l2 ae)∧(GF i v f n v2 f2 n2 l l2 ae)))))))∧(¬(i:Int)<(n:Int)→ae (.exit 0) [(3,.slice (some ⟨50,v2,0,0,1⟩) n2 n2),(6,(jk v n)),(7,.int .i64 (n:Int)),(8,.int .i64 (i:Int))] (J.ar 61 [(0,(jZ v f l)),(50,⟨l2,1,false,false,v2,0,f2,some (5,0)⟩)]))) :
 ∃e aU ac,dc 1 18 (cs 51 0) [(3,.slice (some ⟨50,v2,0,0,1⟩) n2 n2),(6,.slice (some ⟨0,v,0,0,1⟩) n n),(7,.int .i64 n),(8,.int .i64 i)] (J.rows 60 [(0,hh l v f),(50,nr l2 v2 f2)]) e aU ac∧ae e aU ac :=
 fP eN mixed cx (hs:= .aI 3000 (ak 4000 (ak 4001 (he 5002 (.aI 1001 (ak 22003 (ak 6000 .nil)) (.aI 1004 (.aI 1007 (ak 22003 (ak 6000 .nil)) (.aI 1012 (ak 22003 (ak 6000 .nil)) (.aI 3001 (ak 4002 (ak 4004 (ak 6000 .nil))) Np))) (.aI 1012 (ak 22003 (ak 6000 .nil)) (.aI 3001 (ak 4002 (ak 4004 (ak 6000 .nil))) Np))))))) .nil) (keep:=[3,6,7,8]) ay aW
end Go.Proofs.YtddnafghiejcoaaGreatDoor
namespace Go.cf
theorem qo(x:Nat)(h:x<2^31):bp .i32 (x:Int) 63=((x%64:Nat):Int):=by
 unfold bp;rw [BitVec.toNat_and]
 have a:(BitVec.ofInt IntKind.i32.bits (x:Int)).toNat=x:=by show(BitVec.ofInt 32 (x:Int)).toNat=x;rw [BitVec.toNat_ofInt];omega
 have b:(BitVec.ofInt IntKind.i32.bits 63).toNat=63:= aS;rw [a,b,show x &&& 63=x%64 from Nat.and_two_pow_sub_one_eq_mod x 6];exact qd (k:= .i32) (by simp only [h'];omega)
theorem k8(x:Nat):bw .i32 (x:Int) 6=((x/64:Nat):Int):=by unfold bw;show Int.fdiv (x:Int) 64=_;rw [Int.fdiv_eq_ediv_of_nonneg _ aS];rfl
theorem vj:∀m:Fin 64,b2 .u8 128 (m.val:Int)=((128+m.val:Nat):Int):=by decide+kernel
theorem W3:∀m:Fin 32,b2 .u8 (m.val:Int) 192=((192+m.val:Nat):Int):=by decide+kernel
theorem W4:∀m:Fin 16,b2 .u8 (m.val:Int) 224=((224+m.val:Nat):Int):=by decide+kernel
theorem W5:∀m:Fin 8,b2 .u8 (m.val:Int) 240=((240+m.val:Nat):Int):=by decide+kernel
end Go.cf
namespace Go.Proofs.YtddnafghiejcoaaGreatDoor
open Go.cf Go.Keys
set_option maxRecDepth 1000000
theorem pi{n:Nat}(h:n<256):((u8 n).toNat:Int)=n:=by
 have:(u8 n).toNat=n%256:=by unfold u8;simp [UInt8.toNat_ofNat']
 rw [this];omega
theorem BM{x:Nat}(h:¬(55296≤x∧x≤57343∨1114111<x)):put x=if x<128 then [u8 x]else if x<2048 then [u8 (192+x/64),u8 (128+x%64)]else if x<65536 then [u8 (224+x/4096),u8 (128+x/64%64),u8 (128+x%64)]else [u8 (240+x/262144),u8 (128+x/4096%64),u8 (128+x/64%64),u8 (128+x%64)]:=by unfold put;simp only [if_neg h]
theorem pj{x:Nat}(h:x<128): [aa.int .u8 (x:Int)]=aN (put x):=by rw [BM ab,if_pos h];simp only [aN,List.map_cons,List.map_nil,pi (show x<256 by omega)]
theorem rT{x:Nat}(h:128≤x)(ai:x<2048): [aa.int .u8 (b2 .u8 (bw .i32 (x:Int) 6) 192),aa.int .u8 (b2 .u8 128 (bp .i32 (x:Int) 63))]=aN (put x):=by rw [BM ab,if_neg ab,if_pos ai];simp only [aN,List.map_cons,List.map_nil,pi (show 192+x/64<256 by omega),pi (show 128+x%64<256 by omega)];rw [qo x ab,k8,W3 ⟨x/64,ab⟩,vj ⟨x%64,ab⟩]
theorem qp{x:Nat}(h:2048≤x)(ai:x<65536)(a8:¬(55296≤x∧x≤57343)): [aa.int .u8 (b2 .u8 (bw .i32 (bw .i32 (x:Int) 6) 6) 224),aa.int .u8 (b2 .u8 128 (bp .i32 (bw .i32 (x:Int) 6) 63)),aa.int .u8 (b2 .u8 128 (bp .i32 (x:Int) 63))]=aN (put x):=by rw [BM ab,if_neg ab,if_neg ab,if_pos ai];simp only [aN,List.map_cons,List.map_nil,pi (show 224+x/4096<256 by omega),pi (show 128+x/64%64<256 by omega),pi (show 128+x%64<256 by omega)];rw [qo x ab,k8,k8,qo (x/64) ab,W4 ⟨x/64/64,ab⟩,vj ⟨x%64,ab⟩,vj ⟨x/64%64,ab⟩];simp only [show x/64/64=x/4096 by omega]
theorem rU{x:Nat}(h:65536≤x)(ai:x≤1114111): [aa.int .u8 (b2 .u8 (bw .i32 (bw .i32 (bw .i32 (x:Int) 6) 6) 6) 240),aa.int .u8 (b2 .u8 128 (bp .i32 (bw .i32 (bw .i32 (x:Int) 6) 6) 63)),aa.int .u8 (b2 .u8 128 (bp .i32 (bw .i32 (x:Int) 6) 63)),aa.int .u8 (b2 .u8 128 (bp .i32 (x:Int) 63))]=aN (put x):=by rw [BM ab,if_neg ab,if_neg ab,if_neg ab];simp only [aN,List.map_cons,List.map_nil,pi (show 240+x/262144<256 by omega),pi (show 128+x/4096%64<256 by omega),pi (show 128+x/64%64<256 by omega),pi (show 128+x%64<256 by omega)];rw [qo x ab,k8,k8,k8,qo (x/64) ab,qo (x/64/64) ab,W5 ⟨x/64/64/64,ab⟩,vj ⟨x%64,ab⟩,vj ⟨x/64%64,ab⟩,vj ⟨x/64/64%64,ab⟩];simp only [show x/64/64=x/4096 by omega,show x/4096/64=x/262144 by omega]
theorem Nr{x:Nat}(h:(55296≤x∧x≤57343)∨1114111<x): [aa.int .u8 239,aa.int .u8 191,aa.int .u8 189]=aN (put x):=by unfold put;simp only;rw [if_pos h];rfl
theorem rV{x:Nat}(h:x<2^31):0≤bp .i32 (x:Int) 63∧bp .i32 (x:Int) 63≤255:=by rw [qo x h];omega
theorem rW{x:Nat}(h:x<2^31):0≤bp .i32 (bw .i32 (x:Int) 6) 63∧bp .i32 (bw .i32 (x:Int) 6) 63≤255:=by rw [k8,qo _ ab];omega
theorem vk{x:Nat}(h:x<2^31):0≤bp .i32 (bw .i32 (bw .i32 (x:Int) 6) 6) 63∧bp .i32 (bw .i32 (bw .i32 (x:Int) 6) 6) 63≤255:=by rw [k8,k8,qo _ ab];omega
theorem vl{x:Nat}(h:x<2048):0≤bw .i32 (x:Int) 6∧bw .i32 (x:Int) 6≤255:=by rw [k8];omega
theorem rX{x:Nat}(h:x<65536):0≤bw .i32 (bw .i32 (x:Int) 6) 6∧bw .i32 (bw .i32 (x:Int) 6) 6≤255:=by rw [k8,k8];omega
theorem vm{x:Nat}(h:x≤1114111):0≤bw .i32 (bw .i32 (bw .i32 (x:Int) 6) 6) 6∧bw .i32 (bw .i32 (bw .i32 (x:Int) 6) 6) 6≤255:=by rw [k8,k8,k8];omega
theorem GK{L:List Nat}{i:Nat}(h:i<L.length):(dR L)[i]? =some (.int .i32 (L[i]:Nat)):=by simp [dR,h]
theorem Ns{L:List Nat}{i:Nat}(h:i<L.length):ba (dR L) i=(L[i]:Nat):=by unfold ba;rw [GK h]
theorem iN(l:Bytes):(aN l).length=l.length:=by simp [aN]
theorem W6(a b:Bytes):aN (a++b)=aN a++aN b:=by simp [aN]
abbrev oe(v n i v2 n2 j:Nat):bJ:=[(3,.slice (some ⟨j,v2,0,0,1⟩) n2 n2),(6,.slice (some ⟨0,v,0,0,1⟩) n n),(7,.int .i64 (n:Nat)),(8,.int .i64 (i:Nat))]
def xV(v f n i v2:Nat)(R:af)(acc:Bytes)(x BN:Nat)(e:cW)(aU:bJ)(ac:J):Prop :=
 ∃j,1≤j∧e=.normal∧aU=oe v n (i+1) v2 (acc.length+(put x).length) j∧ac.get 0=some R∧ac.get j=some (nr (aN (acc++put x)) v2 BN)
theorem pk{v f n i v2 x BN j n2:Nat}{R:af}{acc:Bytes}{bs:List aa}{ac:J}{i1:Int}(ax:bs=aN (put x))(a1:1≤j)(au:n2=acc.length+bs.length)(aq:i1=((i+1:Nat):Int))(bf:ac.get 0=some R)(ak:ac.get j=some (nr (aN acc++bs) v2 BN)) :
 xV v f n i v2 R acc x BN .normal [(3,.slice (some ⟨j,v2,0,0,1⟩) n2 n2),(6,.slice (some ⟨0,v,0,0,1⟩) n n),(7,.int .i64 (n:Nat)),(8,.int .i64 i1)] ac:=by
 subst ax aq au;rw [iN];exact⟨j,a1,rfl,rfl,bf,by rw [W6];exact ak⟩
theorem W7(L:List Nat)(v f i:Nat)(aq:i<L.length)(aC:L.length<2^41)(aj:L[i]<2^31):∃e aU ac,dc 1 18 (cs 51 0) [(3,.slice none 0 0),(6,.slice (some ⟨0,v,0,0,1⟩) L.length L.length),(7,.int .i64 L.length),(8,.int .i64 i)] (J.rows 1 [(0,hh (dR L) v f)]) e aU ac∧xV v f L.length i 0 (hh (dR L) v f) [] L[i] 0 e aU ac:=by
 refine W0 i v f L.length (dR L) (xV v f L.length i 0 (hh (dR L) v f) [] L[i] 0) ?_
 delta jZ jk Gw Na BI Gy Nc vh Gx Nb BJ Gz Nd Gv M' GA BK vi Gu BH
 rw [show 0+Int.toNat (i:Int)=i by simp,Ns aq,GK aq];generalize L[i]=x at aj;have ho:((i:Int)+1)=((i+1:Nat):Int):= ab;refine⟨fun _=>⟨⟨ab,ab⟩,rfl,rfl,?_⟩,fun h=> ab⟩
 repeat' (first|exact True.intro|apply And.intro|intro _)
 all_goals first
  |omega
  |(exfalso;omega)
  |exact hS
  |exact(rV aj).1|exact(rV aj).2|exact(rW aj).1|exact(rW aj).2|exact(vk aj).1|exact(vk aj).2
  |exact(vl ab).1|exact(vl ab).2|exact(rX ab).1|exact(rX ab).2|exact(vm ab).1|exact(vm ab).2
  |exact pk (acc:=[]) (pj ab) aS rfl ho rfl rfl
  |exact pk (acc:=[]) (rT ab ab) aS rfl ho rfl rfl
  |exact pk (acc:=[]) (Nr ab) aS rfl ho rfl rfl
  |exact pk (acc:=[]) (qp ab ab ab) aS rfl ho rfl rfl
  |exact pk (acc:=[]) (rU ab ab) aS rfl ho rfl rfl
theorem W8(L:List Nat)(acc:Bytes)(v f i v2 f2:Nat)(aq:i<L.length)(aC:L.length<2^41)(aT:acc.length<2^44)(aj:L[i]<2^31):∃e aU ac,dc 1 18 (cs 51 0) (oe v L.length i v2 acc.length 50) (J.rows 60 [(0,hh (dR L) v f),(50,nr (aN acc) v2 f2)]) e aU ac ∧
 xV v f L.length i (v2+1) (hh (dR L) v f) acc L[i] (if 0=v2 then(aN acc).length else min f2 (aN acc).length) e aU ac:=by
 refine Nq i v f L.length v2 f2 acc.length (dR L) (aN acc) (xV v f L.length i (v2+1) (hh (dR L) v f) acc L[i] (if 0=v2 then(aN acc).length else min f2 (aN acc).length)) ?_
 delta jZ jk GF BI Nj GH vh GC GB GG BJ Nk xU GI GD Ni GJ vi Gu BL
 rw [show 0+Int.toNat (i:Int)=i by simp,Ns aq,GK aq];generalize L[i]=x at aj;have ho:((i:Int)+1)=((i+1:Nat):Int):= ab;have aht:=iN acc;refine⟨fun _=>⟨⟨ab,ab⟩,rfl,rfl,?_⟩,fun h=> ab⟩
 repeat' (first|exact True.intro|apply And.intro|intro _)
 all_goals first
  |omega
  |(exfalso;omega)
  |exact hS
  |exact(rV aj).1|exact(rV aj).2|exact(rW aj).1|exact(rW aj).2|exact(vk aj).1|exact(vk aj).2
  |exact(vl ab).1|exact(vl ab).2|exact(rX ab).1|exact(rX ab).2|exact(vm ab).1|exact(vm ab).2
  |exact pk (pj ab) aS rfl ho rfl rfl
  |exact pk (rT ab ab) aS rfl ho rfl rfl
  |exact pk (Nr ab) aS rfl ho rfl rfl
  |exact pk (qp ab ab ab) aS rfl ho rfl rfl
  |exact pk (rU ab ab) aS rfl ho rfl rfl
theorem W9(ae:bI)(aW:ae (.str []) (J.ar 9 [])) :
 b4 51 [.slice none 0 0] (⟨0,.nil⟩) ae :=
 b9 cx (.az (.rounds 300) .nil) aW
theorem W'(qq f n v2 f2 n2:Nat)(l l2:List aa)(ae:bI)(aW:dc 1 18 (Code.loop (cs 51 0)) [(3,.slice none 0 0),(6,.slice (some ⟨0,qq,0,0,1⟩) n n),(7,.int .i64 (n:Int)),(8,.int .i64 0)] (J.ar 6 [(0,⟨l,1,false,false,qq,0,f,some (21,0)⟩)]) (.exit 0) (oe qq n n v2 n2 50) (J.ar 60 [(0,hh l qq f),(50,nr l2 v2 f2)])∧v2=v2∧0+n2≤List.length l2∧(∃l,List.take n2 (List.drop (bA.idx ⟨50,v2,0,0,1⟩) (af.bk ⟨l2,1,false,false,v2,0,f2,some (5,0)⟩))=aN l)∧ae (.str (strOf (List.take n2 l2))) (J.ar 63 [(0,⟨l,1,false,false,qq,0,f,some (21,0)⟩),(50,⟨l2,1,false,false,v2,0,f2,some (5,0)⟩)])) :
 b4 51 [.slice (some ⟨0,qq,0,0,1⟩) n n] (J.of [hh l qq f]) ae :=
 b9 cx (.az (.keep [3,6,7,8]) (.az (.loop (oe qq n n v2 n2 50) (J.ar 60 [(0,hh l qq f),(50,nr l2 v2 f2)]) (.exit 0)) (ak 7001 .nil))) aW
end Go.Proofs.YtddnafghiejcoaaGreatDoor
namespace Go.cf
noncomputable section
open Go.RowKit
theorem Xa{F:bJ}{t:Nat}{v:aa}(bh:hc F t=some v):(t,v)∈F:=by
 induction F with
 |nil=>cases bh
 |cons p r ih =>
  obtain⟨k,u⟩:=p;rw [k3]at bh;split at bh
  ·rename_i e;simp only [Option.some.injEq]at bh;subst e;subst bh;simp
  ·exact List.mem_cons_of_mem _ (ih bh)
theorem Xb{F:bJ}{g:aa→aa}{t:Nat}{v:aa}(bh:hc F t=some v):hc (F.map fun p=>(p.1,g p.2)) t=some (g v):=by
 induction F with
 |nil=>cases bh
 |cons p r ih =>
  obtain⟨k,u⟩:=p;rw [List.map_cons,k3];rw [k3]at bh;split at bh
  ·rename_i e;simp only [Option.some.injEq]at bh;subst bh;rw [if_pos e]
  ·rename_i e;rw [if_neg e];exact ih bh
theorem eL.move{base n:Nat}{F aU:bJ}{h:J}{K:Nat}{l:List (Nat×af)}(r:Nat→Nat)(aC:l.map (fun p=>h.get (r p.1))=l.map (fun p=>some (p.2.bg r)))(c8:l.all (fun p=>Nat.blt p.1 K)=true)
 (bc:((l.map (·.1)).map r).Nodup) (ax:(List.range base).all (fun i=>(l.map (·.1)).contains i&&Nat.beq (r i) i)=true) (fS:l.all (fun p=>Nat.blt p.1 base || Nat.ble base (r p.1))=true)
 (Xc:F=aU.map fun p=>(p.1,p.2.bg r)) (aR:aU.all (fun p=>Nat.blt p.1 n)=true) (fx:bR (aU.map fun p=>ch (cp (l.map (·.1))) p.2))
 (aw:bR (l.map fun p=> ∀e∈p.2.bk,ch (cp (l.map (·.1))) e)):eL base n F h aU (J.rows K l):=by
 have eX:∀i b,(J.rows K l).get i=some b→i<K∧h.get (r i)=some (b.bg r):=by intro i b k;have hm:=J.tm k;refine⟨Nat.blt_eq.mp (List.all_eq_true.1 c8 _ hm),?_⟩;obtain⟨j,a1,e⟩:=List.mem_iff_getElem.1 hm;have ac:=congrArg (fun(x:List (Option af))=>x[j]?) aC;simp only [List.getElem?_map,List.getElem?_eq_getElem a1,Option.map_some,e,Option.some.injEq]at ac;exact ac
 have rH:∀{v:aa},ch (cp (l.map (·.1))) v→ch (In (J.rows K l)) v:=ch.mono fun i aq=>J.u0 aq
 subst Xc;refine eL.bg (r:=r) ⟨fun i b k=>⟨by rw [J.Bb];exact(eX i b k).1,(eX i b k).2⟩,?_,?_⟩ ?_ ?_ ?_ ?_
 ·intro i j aq a1 e;have aq:=J.u1 aq;have a1:=J.u1 a1;obtain⟨a,aT,rfl⟩:=List.mem_iff_getElem.1 aq;obtain⟨b,fy,rfl⟩:=List.mem_iff_getElem.1 a1;have ac:((l.map (·.1)).map r)[a]'(by simpa using aT)=((l.map (·.1)).map r)[b]'(by simpa using fy):=by simpa using e
  have:=(List.getElem_inj bc).1 ac;subst this;rfl
 ·intro i b k e he;have hm:=J.tm k;exact rH (aw _ (List.mem_map.2 ⟨_,hm,rfl⟩) e he)
 ·intro t v bh;have hm:=Xa bh;exact⟨Nat.blt_eq.mp (List.all_eq_true.1 aR _ hm),Xb bh,rH (fx _ (List.mem_map.2 ⟨_,hm,rfl⟩))⟩
 ·intro i aq _;have:=List.all_eq_true.1 ax i (List.mem_range.2 aq);simp only [Bool.and_eq_true]at this;exact J.u0 (by simpa using this.1)
 ·intro i aq _;have:=List.all_eq_true.1 ax i (List.mem_range.2 aq);simp only [Bool.and_eq_true]at this;exact Nat.eq_of_beq_eq_true this.2
 ·intro i aq cG;have aq:=J.u1 aq;obtain⟨p,hm,rfl⟩:=List.mem_map.1 aq;have:=List.all_eq_true.1 fS p hm;simp only [Bool.or_eq_true]at this;rcases this with ac|ac
  ·exact Nat.blt_eq.mp ac
  ·have:=Nat.le_of_ble_eq_true ac;omega
end
end Go.cf
namespace Go.Keys
theorem Nt(x:Nat)(l:List Nat):gf (x::l)=put x++gf l:=rfl
theorem Xd:gf []=[]:=rfl
theorem GL(r:Nat):(put r).length≤4:=by
 unfold put;simp only
 repeat' split
 all_goals simp
end Go.Keys
namespace Go.Proofs.YtddnafghiejcoaaGreatDoor
open Go.cf Go.Keys
set_option maxRecDepth 1000000
theorem Xe(l:Bytes):∀e∈aN l,cU e:=by intro e he;obtain⟨b,_,rfl⟩:=List.mem_map.1 he;exact cU.int _ _
theorem GM(acc:Bytes)(v f:Nat):dy (nr (aN acc) v f):=Xe acc
theorem Xf(a b:af):J.rows 60 [(0,a),(50,b)]=J.ar 60 [(0,a),(50,b)]:= ay
theorem Xg{n l c v:Nat} :ch (Go.cf.cp [0,50]) (.slice (some ⟨0,v,0,0,1⟩) l c):=(by show(0:Nat)∈ [0,50];simp)
theorem Xh{n l c v:Nat} :ch (Go.cf.cp [0,50]) (.slice (some ⟨50,v,0,0,1⟩) l c):=(by show(50:Nat)∈ [0,50];simp)
theorem GN{v n i v2 n2 j:Nat}{ac:J}{R B:af}(a1:1≤j)(dX:dy R)(cH:dy B)(bf:ac.get 0=some R)(ak:ac.get j=some B):eL 1 18 (oe v n i v2 n2 j) ac (oe v n i v2 n2 50) (J.rows 60 [(0,R),(50,B)]):=by
 refine eL.move (K:=60) (l:=[(0,R),(50,B)]) (fun k=>if k=0 then 0 else j) ?_ rfl ?_ rfl ?_ ?_ rfl ?_ ?_
 ·simp [bf,ak,dX.bg,cH.bg]
 ·simp;omega
 ·simp;exact a1
 ·simp [aa.bg,bA.bg]
 ·exact bR.cons (Xh (n:=0)) (bR.cons (Xg (n:=0)) (bR.cons trivial (bR.cons trivial bR.nil)))
 ·exact bR.cons (fun e he=>(dX e he).eM _) (bR.cons (fun e he=>(cH e he).eM _) bR.nil)
theorem Xi(L:List Nat)(v f:Nat)(aC:L.length<2^41)(aj:∀x∈L,x<2^31):∀(k i:Nat)(acc:Bytes)(v2 f2:Nat),L.length-i≤k→i≤L.length→acc.length≤4*i→ ∃v3 f3,
 hd 1 18 (cs 51 0) (oe v L.length i v2 acc.length 50) (J.rows 60 [(0,hh (dR L) v f),(50,nr (aN acc) v2 f2)]) (.exit 0) (oe v L.length L.length v3 (acc++gf (L.drop i)).length 50)
  (J.rows 60 [(0,hh (dR L) v f),(50,nr (aN (acc++gf (L.drop i))) v3 f3)]):=by
 intro k
 have fin:∀(acc:Bytes)(v2 f2:Nat),∃v3 f3,hd 1 18 (cs 51 0) (oe v L.length L.length v2 acc.length 50) (J.rows 60 [(0,hh (dR L) v f),(50,nr (aN acc) v2 f2)]) (.exit 0) (oe v L.length L.length v3 (acc++gf (L.drop L.length)).length 50)
  (J.rows 60 [(0,hh (dR L) v f),(50,nr (aN (acc++gf (L.drop L.length))) v3 f3)]):=by
  intro acc v2 f2;obtain⟨e,aU,ac,bc,rfl,rfl,bf,ak⟩:=Nq L.length v f L.length v2 f2 acc.length (dR L) (aN acc) (fun e aU ac=>e=.exit 0∧aU=oe v L.length L.length v2 acc.length 50∧ac.get 0=some (hh (dR L) v f)∧ac.get 50=some (nr (aN acc) v2 f2)) ⟨fun h=> ab,fun _=>⟨rfl,rfl,rfl,rfl⟩⟩;refine⟨v2,f2,?_⟩;rw [List.drop_length,Xd,List.append_nil];exact(dK.last aM bc).post (GN (R:=hh (dR L) v f) aS (rS L) (GM _ _ _) bf ak)
 induction k with
 |zero =>
  intro i acc v2 f2 au aq aT;obtain rfl:i=L.length:= ab;exact fin acc v2 f2
 |succ k ih =>
  intro i acc v2 f2 au aq aT;by_cases aw:i<L.length
  ·obtain⟨e,aU,ac,bc,j,a1,rfl,rfl,bf,ak⟩:=W8 L acc v f i v2 f2 aw aC ab (aj _ (List.getElem_mem aw));have ah:=GL L[i];obtain⟨v3,f3,dN⟩:=ih (i+1) (acc++put L[i]) (v2+1) _ ab ab (by rw [List.length_append];omega)
   have bi:(acc++put L[i])++gf (L.drop (i+1))=acc++gf (L.drop i):=by rw [List.drop_eq_getElem_cons aw,Nt,List.append_assoc]
   rw [bi]at dN;refine⟨v3,f3,dK.step (bc.post ?_) dN⟩;rw [List.length_append];exact GN (R:=hh (dR L) v f) a1 (rS L) (GM _ _ _) bf ak
  ·obtain rfl:i=L.length:= ab;exact fin acc v2 f2
theorem Xj(H:J):bS 51 [.slice none 0 0] H (.str []) H:=b1.eT (W9 (fun v _=>v=.str []) rfl) rfl rfl H
theorem Xk{L:List Nat}{v f:Nat}(aC:L.length<2^41)(aj:∀x∈L,x<2^31)(bf:L≠[]){H:J}{id:Nat}(hid:id<H.U)(ak:H.get id=some (hh (dR L) v f)) :
 bS 51 [.slice (some ⟨id,v,0,0,1⟩) L.length L.length] H (.str (gf L)) H:=by
 have iE:0<L.length:=List.length_pos_iff.2 bf;obtain⟨e,aU,ac,bc,j,a1,rfl,rfl,bx,mv⟩:=W7 L v f 0 iE aC (aj _ (List.getElem_mem iE));obtain⟨v3,f3,dN⟩:=Xi L v f aC aj L.length 1 ([]++put L[0]) 0 0 ab ab (by have:=GL L[0];simp only [List.nil_append];omega)
 have bi:([]++put L[0])++gf (L.drop 1)=gf L:=by
  have:L=L[0]::L.drop 1:=by rw [←List.drop_eq_getElem_cons iE,List.drop_zero]
  conv=>rhs;rw [this,Nt]
  rfl
 rw [bi]at dN;have Nu:=GN (R:=hh (dR L) v f) (v:=v) (n:=L.length) (i:=0+1) (v2:=0) (n2:=([]:Bytes).length+(put L[0]).length) a1 (rS L) (GM _ _ _) bx mv;have bu:([]:Bytes).length+(put L[0]).length=([]++put L[0]:Bytes).length:= aM;rw [bu]at Nu bc;have Nv:=(dK.step (bc.post Nu) dN).pre (eL.drop (h:=J.ar 6 [(0,hh (dR L) v f)]) (F:=[(3,aa.slice none 0 0),(6,aa.slice (some ⟨0,v,0,0,1⟩) L.length L.length),(7,aa.int .i64 L.length),(8,aa.int .i64 (0:Nat))]) (K:=1) (l:=[(0,hh (dR L) v f)]) rfl rfl rfl rfl (bR.cons trivial (bR.cons (show(0:Nat)∈ [0]by simp) (bR.cons trivial (bR.cons trivial bR.nil)))) (bR.cons (fun e he=>((rS L) e he).eM _) bR.nil));rw [Xf]at Nv;have el:List.take (gf L).length (aN (gf L))=aN (gf L):=by rw [←iN,List.take_length]
 have k:=W' v f L.length v3 f3 (gf L).length (dR L) (aN (gf L)) (fun v1 ai=>v1=.str (gf L)∧ai.get 0=some (hh (dR L) v f)) ⟨fw.hQ Nv,rfl,by rw [iN];omega,⟨gf L,by simpa using el⟩,by rw [el,jh],rfl⟩;obtain⟨v1,ai,aE,rfl,mu⟩:=k;have:=b1.pure (l:=[hh (dR L) v f]) aE (fun b ax=>by rw [List.mem_singleton.1 ax];exact rS L) (by show [ai.get 0]=_;rw [mu];rfl) (cU.str _) (by exact⟨by show 0<1;decide,trivial⟩) (H:=H) [id] aM (by intro j a1;rw [List.mem_singleton.1 a1];exact hid) (by simp [ak]);simpa [aa.bg,bA.bg,dJ]using this
noncomputable def GO:List aa→J→Option ey:=fun args h=>match args with
 |[.str s]=>some (.or (s=[]) (.one (.slice none 0 0) h []) (.one (.slice (some ⟨h.U,(eE s).length-1,0,0,1⟩) (eE s).length (eE s).length) (h.hp [] [nq (eE s)]) [s.length<2^40]))
 |_=>none
theorem Xl:∀args h a,GO args h=some a→a.dt Tryz.prog cX 150 args h:=by
 intro args h a e;unfold GO at e;split at e<;>first|(cases e;done)|skip
 simp only [Option.some.injEq]at e;subst e;refine⟨fun bf _=> ?_,fun bf ah=> ?_⟩
 ·subst bf;exact WW h
 ·exact WX _ ah.head bf h
noncomputable def Xm:e1:=qi.add 150 GO
theorem Xn:eJ Tryz.prog cX Xm:=cx.add Xl
abbrev BO(s:Bytes):af:=⟨dR (eE s),1,false,false,List.length (eE s)-1,0,jY (List.length (eE s)),some (21,0)⟩
theorem Xo(s:Bytes)(ae:bI)(aW:(s=[]→ca 51 [.slice none 0 0] (J.ar 11 []) (.str (gf (eE s))) (J.ar 11 [])∧(gf (eE s)=s→ae (.bool true) (J.ar 11 []))∧(¬gf (eE s)=s→ae (.bool false) (J.ar 11 [])))∧(¬s=[]→List.length s<1099511627776∧ca 51 [.slice (some {id:=11,ad:=List.length (eE s)-1,idx:=0,fld:=0,es:=1}) (List.length (eE s)) (List.length (eE s))] (J.hp (J.ar 11 []) [] [(BO s)]) (.str (gf (eE s))) (J.hp (J.ar 11 []) [] [(BO s)])∧(gf (eE s)=s→ae (.bool true) (J.hp (J.ar 11 []) [] [(BO s)]))∧(¬gf (eE s)=s→ae (.bool false) (J.hp (J.ar 11 []) [] [(BO s)])))) :
 b4 109 [.str s] (⟨0,.nil⟩) ae :=
 b9 Xn (he 1001 (.aI 1001 (.az (.val 1002 (.str (gf (eE s)))) (.skip 1003 (.aI 1003 .nil .nil))) (.az (.val 1002 (.str (gf (eE s)))) (.skip 1003 (.aI 1003 .nil .nil))))) aW
end Go.Proofs.YtddnafghiejcoaaGreatDoor
namespace Go.Keys
theorem Nw:∀(k i bb aq v:Nat)(l:Bytes),(tail k i bb aq v l).1<(v+1)*64^k∨(tail k i bb aq v l).1=65533
 |0,i,bb,aq,v,l=>by simp [tail]
 |k+1,i,bb,aq,v,[]=>by simp [tail]
 |k + 1,i,bb,aq,v,c::r=>by
  simp only [tail];split
  ·exact .inr rfl
  ·rcases Nw k (i+1) 128 191 (v*64+c.toNat%64) r with h|h
   ·refine .inl (Nat.lt_of_lt_of_le h ?_);rw [Nat.pow_succ,←Nat.mul_assoc,Nat.mul_right_comm];exact Nat.mul_le_mul_right _ ab
   ·exact .inr h
theorem Xp(s:Bytes):(first s).1<2^31:=by
 cases s with
 |nil=>simp [first]
 |cons b r =>
  simp only [first];have ax:=b.toNat_lt;split
  ·simp
  ·split
   ·simp only;omega
   ·have aR:(lead b.toNat).1≤4:=MI _;rcases Nw ((lead b.toNat).1-1) 1 (lead b.toNat).2.1 (lead b.toNat).2.2 (b.toNat%2^(7- (lead b.toNat).1)) r with h|h
    ·have ac:b.toNat%2^(7- (lead b.toNat).1)+1≤256:=by have:=Nat.mod_le b.toNat (2^(7- (lead b.toNat).1));omega
     have ai:64^((lead b.toNat).1-1)≤64^3:=Nat.pow_le_pow_right aS ab;have a8:=Nat.mul_le_mul ac ai;have bQ:(256:Nat)*64^3<2^31:= aS;omega
    ·rw [h];decide
theorem Nx:∀(k:Nat)(s:Bytes),∀x∈jB k s,x<2^31
 |0,s,x,h=>by simp [jB]at h
 |k+1,[],x,h=>by simp [jB]at h
 |k+1,b::r,x,h=>by
  simp only [jB,List.mem_cons]at h;rcases h with rfl|h
  ·exact Xp _
  ·exact Nx k _ x h
theorem Xq(s:Bytes):∀x∈eE s,x<2^31:=Nx _ s
theorem Xr{s:Bytes}(h:s≠[]):eE s≠[]:=by rw [BG h];simp
end Go.Keys
namespace Go.Proofs.YtddnafghiejcoaaGreatDoor
open Go.cf Go.Keys
set_option maxRecDepth 1000000
theorem Xs(s:Bytes)(hs:s.length<2^40)(H:J):bS 109 [.str s] H (.bool (valid s)) H:=by
 have bW:gf (eE s)=s→valid s=true:=fun h=>by unfold valid;rw [h];simp
 have aZ:¬gf (eE s)=s→valid s=false:=fun h=>by unfold valid;rw [beq_eq_false_iff_ne];exact h
 refine b1.eT (Xo s (fun v _=>v=.bool (valid s)) ⟨fun bf=>⟨⟨?_⟩,fun h=>by rw [bW h],fun h=>by rw [aZ h]⟩,fun bf=>⟨hs,⟨?_⟩,fun h=>by rw [bW h],fun h=>by rw [aZ h]⟩⟩) rfl rfl H
 ·subst bf;exact Xj _
 ·have aR:=M5 s.length s (Nat.le_refl _);exact Xk (id:=11) ab (Xq s) (Xr bf) (by show 11<12;decide) rfl
def eo(k:Int):UInt8:=UInt8.ofNat k.toNat
def og(a0 av a2 a3 n:Int):Bytes:=([a0,av,a2,a3].take n.toNat).map eo
def b6(a0 av a2 a3 n c:Int):List Nat×Bytes:=b' (og a0 av a2 a3 n) (eo c)
structure ix(a0 av a2 a3 n c:Int):Prop where
 aR:0≤n∧n≤3
 aA:0<n→0≤a0∧a0≤255
 a':1<n→0≤av∧av≤255
 bP:2<n→0≤a2∧a2≤255
 aw:0≤c∧c≤255
 op:n=0∨(first (og a0 av a2 a3 n)).2.2=true
noncomputable def xW:List aa→J→Option ey:=fun args h =>
 match args with
 |[.ptr (some u),.slice (some b) GP rY] =>
  match h.get u.id,h.get b.id with
  |some j4,some kj =>
   match j4.bk,kj.bk with
   |[.agg [.int .u8 a0,.int .u8 av,.int .u8 a2,.int .u8 a3,.int .i64 n]],[.int .u8 c] =>
    cond (Nat.beq u.ad 0&&Nat.beq u.idx 0&&Nat.beq u.fld 0&&Nat.beq u.es 5&&Nat.beq b.ad 0&&Nat.beq b.idx 0&&Nat.beq b.fld 0&&Nat.beq b.es 1&&Nat.beq GP 1&&Nat.beq rY 1
     && Nat.beq j4.es 5&&j4.exact&&!j4.ro&&Nat.beq j4.ad 0&&Nat.beq j4.gd 0&&Nat.beq j4.hj 0&&Nat.beq kj.es 1&&kj.exact&&!kj.ro&&Nat.beq kj.ad 0&&Nat.beq kj.gd 0&&Nat.beq kj.hj 0&&kj.ty.isNone&&Nat.blt u.id h.U&&Nat.blt b.id h.U&&!(Nat.beq u.id b.id))
     (some (.or ((b6 a0 av a2 a3 n c).1=[])
      (.one (.slice none 0 0) (h.hp [u.id,b.id] [cb (b6 a0 av a2 a3 n c).2 a0 av a2 a3 j4.ty,gN c]) [ix a0 av a2 a3 n c])
      (.or ((b6 a0 av a2 a3 n c).1.length=1)
       (.one (.slice (some ⟨h.U,0,0,0,1⟩) 1 1) (h.hp [u.id,b.id] [cb (b6 a0 av a2 a3 n c).2 a0 av a2 a3 j4.ty,gN c,xO ((b6 a0 av a2 a3 n c).1.getD 0 0)]) [ix a0 av a2 a3 n c])
       (.one (.slice (some ⟨h.U,1,0,0,1⟩) 2 2) (h.hp [u.id,b.id] [cb (b6 a0 av a2 a3 n c).2 a0 av a2 a3 j4.ty,gN c,xP ((b6 a0 av a2 a3 n c).1.getD 0 0) ((b6 a0 av a2 a3 n c).1.getD 1 0)]) [ix a0 av a2 a3 n c])))) none
   |_,_=>none
  |_,_=>none
 |_=>none
noncomputable def Ny:List aa→J→Option ey:=kD fun a=>match a with | [.str s]=>some (.bool (valid s),[s.length<2^40])|_=>none
noncomputable def Nz:e1:=(qi.add 107 xW).add 109 Ny
theorem rZ{c:Int}(h:0≤c∧c≤255):((eo c).toNat:Int)=c:=by
 unfold eo;have:(UInt8.ofNat c.toNat).toNat=c.toNat%256:=by simp [UInt8.toNat_ofNat']
 rw [this];omega
abbrev GQ(v:aa)(R:af)(c:Int)(ac:J):Prop:=bS 107 [.ptr (some ⟨0,0,0,0,5⟩),.slice (some ⟨1,0,0,0,1⟩) 1 1] (J.of [R,gN c]) v ac
theorem Xt{a0 av a2 a3 n c:Int}(p:ix a0 av a2 a3 n c)(ty:bL):∃v ac,GQ v (hg a0 av a2 a3 n ty) c ac∧np a0 av a2 a3 c ty (b6 a0 av a2 a3 n c) v ac:=by
 have aw:=rZ p.aw;obtain⟨ap,eY⟩:=p.aR;have aR:n=0∨n=1∨n=2∨n=3:= ab;unfold b6;generalize eo c=C at aw;subst aw;rcases aR with rfl|rfl|rfl|rfl
 ·exact V4 C a0 av a2 a3 ty
 ·have e0:=rZ (p.aA aS);have op:=p.op.resolve_left aS;have bU:og a0 av a2 a3 1=[eo a0]:=rfl;rw [bU]at op⊢;generalize eo a0=hU at e0 op;subst e0;obtain⟨b,r,e,aC,aZ⟩:=vg op;simp only [List.cons.injEq]at e;obtain⟨rfl,rfl⟩:=e;rcases jW hU.toNat with h|h|h|h|h
  ·omega
  ·omega
  ·exact V6 hU C av a2 a3 ty h
  ·exact V7 hU C av a2 a3 ty h
  ·exact V8 hU C av a2 a3 ty h
 ·have e0:=rZ (p.aA aS);have bi:=rZ (p.a' aS);have op:=p.op.resolve_left aS;have bU:og a0 av a2 a3 2=[eo a0,eo av]:=rfl;rw [bU]at op⊢;generalize eo a0=hU at e0 op;generalize eo av=k9 at bi op;subst e0 bi;obtain⟨b,r,e,aC,aZ⟩:=vg op;simp only [List.cons.injEq]at e;obtain⟨rfl,rfl⟩:=e;rw [aZ]at op;rcases jW hU.toNat with h|h|h|h|h
  ·omega
  ·omega
  ·rw [h]at op;simp only [tail]at op;split at op<;>simp at op
  ·have ac:¬(k9.toNat<(lead hU.toNat).2.1∨(lead hU.toNat).2.2<k9.toNat):=by intro q;rw [h]at op;simp only [tail]at op;rw [if_pos q]at op;simp at op
   exact V9 hU k9 C a2 a3 ty h ac
  ·have ac:¬(k9.toNat<(lead hU.toNat).2.1∨(lead hU.toNat).2.2<k9.toNat):=by intro q;rw [h]at op;simp only [tail]at op;rw [if_pos q]at op;simp at op
   exact V' hU k9 C a2 a3 ty h ac
 ·have e0:=rZ (p.aA aS);have bi:=rZ (p.a' aS);have bu:=rZ (p.bP aS);have op:=p.op.resolve_left aS;have bU:og a0 av a2 a3 3=[eo a0,eo av,eo a2]:=rfl;rw [bU]at op⊢;generalize eo a0=hU at e0 op;generalize eo av=k9 at bi op;generalize eo a2=GR at bu op;subst e0 bi bu;obtain⟨b,r,e,aC,aZ⟩:=vg op;simp only [List.cons.injEq]at e;obtain⟨rfl,rfl⟩:=e;rw [aZ]at op
  have ac:¬(k9.toNat<(lead hU.toNat).2.1∨(lead hU.toNat).2.2<k9.toNat):=by
   intro q;obtain⟨m,hm⟩:∃m,(lead hU.toNat).1-1=m+1:=⟨(lead hU.toNat).1-2,ab⟩
   rw [hm]at op;simp only [tail]at op;rw [if_pos q]at op;simp at op
  rcases jW hU.toNat with h|h|h|h|h
  ·omega
  ·omega
  ·rw [h]at op;simp only [tail]at op;rw [if_neg ac]at op;simp at op
  ·rw [h]at op;simp only [tail]at op;rw [if_neg ac]at op;split at op<;>simp at op
  ·have ai:¬(GR.toNat<128∨191<GR.toNat):=by intro q;rw [h]at op;simp only [tail]at op;rw [if_neg ac,if_pos q]at op;simp at op
   exact Wa hU k9 GR C a3 ty h ac ai
theorem vn(bx aK aP bt n:Int)(ty:bL):dy (hg bx aK aP bt n ty):=by intro e he;rw [List.mem_singleton.1 he];exact cU.of rfl
theorem NA(c:Int):dy (gN c):=by intro e he;rw [List.mem_singleton.1 he];exact cU.int _ _
theorem Xu{a b:af}(aT:dy a)(ax:dy b):∀x∈ [a,b],dy x:=by
 intro x aj;simp only [List.mem_cons,List.not_mem_nil,or_false]at aj;rcases aj with rfl|rfl
 ·exact aT
 ·exact ax
theorem Xv(r:Nat):dy (xO r):=by intro e he;rw [List.mem_singleton.1 he];exact cU.int _ _
theorem Xw(r s:Nat):dy (xP r s):=by intro e he;simp only [List.mem_cons,List.not_mem_nil,or_false]at he;rcases he with rfl|rfl<;>exact cU.int _ _
theorem GS{R r0:af}{c:Int}{v v2:aa}{ac:J}(k:GQ v R c ac)(dX:dy R)(Xx:dy r0)(hr:List Nat)(l:List af)(aC:∀x∈l,dy x)(xg:l.length=hr.length)(eX:(List.range (l.length+2)).map (fun i=>ac.get (gu 2 hr i))=(r0::gN c::l).map some)(bh:v=v2.bg (gu 2 hr))(xA:ch (fun i=>i<l.length+2) v2)
 (FR:hr.all (fun j=>Nat.ble 2 j)=true) (hX:hr.Nodup) {H:J} {u b:Nat} (xX:u≠b) (hu:u<H.U) (ax:b<H.U) (Xy:H.get u=some R) (xY:H.get b=some (gN c)) :
 bS 107 [.ptr (some ⟨u,0,0,0,5⟩),.slice (some ⟨b,0,0,0,1⟩) 1 1] H (v2.bg (dJ [u,b] H.U)) (H.hp [u,b] (r0::gN c::l)):=by
 have fy:∀x∈r0::gN c::l,dy x:=by
  intro x aj;rcases List.mem_cons.1 aj with rfl|aj
  ·exact Xx
  ·rcases List.mem_cons.1 aj with rfl|aj
   ·exact NA c
   ·exact aC x aj
 have aK:=k.fin hr (r0::gN c::l) v2 fy (by simp [xg];omega) eX bh xA FR hX;have aP:=aK.Vk (Xu dX (NA c)) fy aM (by exact⟨by show 0<2;decide,by show 1<2;decide,trivial⟩) (H:=H) [u,b] (by simp [xX]) (by intro j a1;simp at a1;omega) (by simp [Xy,xY]);simpa [aa.bg,bA.bg,dJ]using aP
theorem NB:∀args h a,xW args h=some a→a.dt Tryz.prog cX 107 args h:=by
 intro args H a e;unfold xW at e;split at e<;>first|(cases e;done)|skip
 rename_i u b GP rY;split at e<;>first|(cases e;done)|skip
 rename_i j4 kj xX n1;split at e<;>first|(cases e;done)|skip
 rename_i a0 av a2 a3 n c rr o5
 cases aB:(Nat.beq u.ad 0&&Nat.beq u.idx 0&&Nat.beq u.fld 0&&Nat.beq u.es 5&&Nat.beq b.ad 0&&Nat.beq b.idx 0&&Nat.beq b.fld 0&&Nat.beq b.es 1&&Nat.beq GP 1&&Nat.beq rY 1
  && Nat.beq j4.es 5&&j4.exact&&!j4.ro&&Nat.beq j4.ad 0&&Nat.beq j4.gd 0&&Nat.beq j4.hj 0&&Nat.beq kj.es 1&&kj.exact&&!kj.ro&&Nat.beq kj.ad 0&&Nat.beq kj.gd 0&&Nat.beq kj.hj 0&&kj.ty.isNone&&Nat.blt u.id H.U&&Nat.blt b.id H.U&&!(Nat.beq u.id b.id))with
 |false=>rw [aB]at e;cases e
 |true =>
  rw [aB,cond_true]at e;simp only [Bool.and_eq_true,Nat.beq_eq,Bool.not_eq_true',Nat.blt_eq,Option.isNone_iff_eq_none]at aB;simp only [Option.some.injEq]at e;subst e;obtain⟨⟨⟨⟨⟨⟨⟨⟨⟨⟨⟨⟨⟨⟨⟨⟨⟨⟨⟨⟨⟨⟨⟨⟨⟨dh,du⟩,fE⟩,k2⟩,ns⟩,tw⟩,NC⟩,ND⟩,NE⟩,NF⟩,NG⟩,NH⟩,NI⟩,NJ⟩,NK⟩,NL⟩,NM⟩,NN⟩,NO⟩,NP⟩,NQ⟩,NR⟩,NS⟩,BP⟩,BQ⟩,GU⟩:=aB;obtain⟨Lc,ahu,ahv,ahw,ahx⟩:=u;obtain⟨EY,bv,oP,l5,ahy⟩:=b;obtain⟨et,l2,lM,vo,vp,GV,ahz,o3⟩:=j4;obtain⟨m1,m2,m3,m4,m5,m6,m7,m8⟩:=kj;simp only at dh du fE k2 ns tw NC ND NE NF NG NH NI NJ NK NL NM NN NO NP NQ NR NS BP BQ GU rr o5;subst dh du fE k2 ns tw NC ND NE NF NG NH NI NJ NK NL NM NN NO NP NQ NR NS rr o5;have bX:Lc≠EY:=fun h=>by rw [h]at GU;simp at GU
  have ok:ix a0 av a2 a3 n c→ ∃v ac,GQ v (hg a0 av a2 a3 n o3) c ac∧np a0 av a2 a3 c o3 (b6 a0 av a2 a3 n c) v ac:=fun p=>Xt p o3
  refine⟨fun bf ah=> ?_,fun bf=>⟨fun ac ah=> ?_,fun ac ah=> ?_⟩⟩
  ·obtain⟨v,ac,aE,g0,g1,g2⟩:=ok ah.head;rw [bf]at g2;simp only at g2;have:=GS (v2:= .slice none 0 0) aE (vn _ _ _ _ _ _) (vn _ _ _ _ _ _) [] [] (fun x aj=>by cases aj) rfl (r0:=cb (b6 a0 av a2 a3 n c).2 a0 av a2 a3 o3) (by simp [gu,List.range_succ,g0,g1]) (by rw [g2];rfl) trivial rfl List.nodup_nil bX BP BQ xX n1;simpa [aa.bg]using this
  ·obtain⟨v,ai,aE,g0,g1,g2⟩:=ok ah.head;cases aC:(b6 a0 av a2 a3 n c).1 with
   |nil=>exact absurd aC bf
   |cons r t =>
    cases t with
    |cons x y=>rw [aC]at ac;simp at ac
    |nil =>
     rw [aC]at g2;obtain⟨j,a1,bh,ak⟩:=g2;have:=GS (v2:= .slice (some ⟨2,0,0,0,1⟩) 1 1) aE (vn _ _ _ _ _ _) (vn _ _ _ _ _ _) [j] [xO r] (fun x aj=>by rw [List.mem_singleton.1 aj];exact Xv r) rfl (r0:=cb (b6 a0 av a2 a3 n c).2 a0 av a2 a3 o3) (by simp [gu,List.range_succ,g0,g1,ak]) (by rw [bh];simp [aa.bg,bA.bg,gu]) (by show 2<3;decide) (by simp [a1]) aM bX BP BQ xX n1;simpa [aa.bg,bA.bg,dJ,aC]using this
  ·obtain⟨v,ai,aE,g0,g1,g2⟩:=ok ah.head;cases aC:(b6 a0 av a2 a3 n c).1 with
   |nil=>exact absurd aC bf
   |cons r t =>
    cases t with
    |nil=>rw [aC]at ac;simp at ac
    |cons x y =>
     cases y with
     |cons _ _=>rw [aC]at g2;exact g2.elim
     |nil =>
      rw [aC]at g2;obtain⟨j,a1,bh,ak⟩:=g2;have:=GS (v2:= .slice (some ⟨2,1,0,0,1⟩) 2 2) aE (vn _ _ _ _ _ _) (vn _ _ _ _ _ _) [j] [xP r x] (fun z eK=>by rw [List.mem_singleton.1 eK];exact Xw r x) rfl (r0:=cb (b6 a0 av a2 a3 n c).2 a0 av a2 a3 o3) (by simp [gu,List.range_succ,g0,g1,ak]) (by rw [bh];simp [aa.bg,bA.bg,gu]) (by show 2<3;decide) (by simp [a1]) aM bX BP BQ xX n1;simpa [aa.bg,bA.bg,dJ,aC]using this
theorem Xz:∀args h a,Ny args h=some a→a.dt Tryz.prog cX 109 args h:=by
 refine lH ?_;intro args v ps e ah H;split at e<;>first|(cases e;done)|skip
 simp only [Option.some.injEq,Prod.mk.injEq]at e;obtain⟨rfl,rfl⟩:=e;exact Xs _ ah.head H
theorem XA:eJ Tryz.prog cX Nz:=(cx.add NB).add Xz
def cy:nj→Nat
 |.ground=>30
 |.dj=>59
 |.da=>90
 |.sequence=>87
 |.single=>88
 |.cK=>129
theorem XB{a b:nj}(h:cy a=cy b):a=b:=by cases a<;>cases b<;>first|rfl|(exact absurd h aS)
structure cp where
 u:Nat
 k:Nat
 p:Nat
 o:Nat
def cp.map(r:Nat→Nat)(I:cp):cp:=⟨r I.u,r I.k,r I.p,r I.o⟩
abbrev b0(d f u:Nat)(kv pv:aa)(pas:Bool)(ov:aa)(ty:bL):af :=
 af.an [.agg [.func (.func f) [.ptr (some ⟨d,0,0,0,6⟩)] [],kv,pv,.bool pas,.ptr (some ⟨u,0,0,0,5⟩),ov]] 6 true ty
abbrev ct(l:List aa)(es v m f:Nat)(ty:bL):af:= {bk:=l,es:=es,exact:=false,ro:=false,ad:=v,gd:=m,hj:=f,ty:=ty}
abbrev cA:bL:=some (5,0)
abbrev k':bL:=some (42,0)
inductive fY where
 |nil|one|grown (junk:Bytes)
def Grown(H:J)(k:Nat)(v:aa)(l junk:Bytes):Prop :=
 ∃ad m f,v=.slice (some ⟨k,ad,junk.length,0,1⟩) l.length l.length∧H.get k=some (ct (aN (junk++l)) 1 ad m f cA)
def jl(H:J)(d k:Nat)(v:aa):fY→Bytes→Prop
 |.nil,l=>v=.slice none 0 0∧l=[]∧k=d
 |.one,l=>k≠d∧v=.slice (some ⟨k,0,0,0,1⟩) 1 1∧H.get k=some (af.an [.int .u8 27] 1 true)∧l=[27]
 |.grown junk,l=>k≠d∧Grown H k v l junk
def jm(H:J)(d p:Nat)(v:aa)(l:Bytes):Prop :=
 (v=.slice none 0 0∧l=[]∧p=d)∨(p≠d∧l≠[]∧Grown H p v l [])
def jn(H:J)(d o:Nat)(v:aa)(es:List bl):Prop :=
 (v=.slice none 0 0∧es=[]∧o=d)∨(o≠d∧es≠[]∧∃ad m f,v=.slice (some ⟨o,ad,0,0,6⟩) es.length es.length∧H.get o=some (ct (es.map cB) 6 ad m f k'))
structure dP(H:J)(d:Nat)(I:cp)(f:Nat)(pas:Bool)(ks:fY)(al aF aD:Bytes)(es:List bl):Prop where
 ex:∃kv pv ov ty,H.get d=some (b0 d f I.u kv pv pas ov ty)∧jl H d I.k kv ks al∧jm H d I.p pv aD∧jn H d I.o ov es
 iD:∃j0 j1 j2 j3 ty,H.get I.u=some (cb aF j0 j1 j2 j3 ty)
 lt:d<H.U∧I.u<H.U∧I.k<H.U∧I.p<H.U∧I.o<H.U
 ne:I.k=d∨I.p=d∨I.k≠I.p
def qs:nj→fY→Bytes→Prop
 |.ground,.nil,_=>True
 |.dj,.one,_=>True
 |.cK,.nil,_=>True
 |.cK,.grown _,_=>True
 |.da,.grown [],l=>l≠[]
 |.sequence,.grown [],l=>l≠[]
 |.single,.grown [],l=>l≠[]
 |_,_,_=>False
def ci(H:J)(d:Nat)(I:cp)(s:bK)(es:List bl):Prop:= ∃ks,dP H d I (cy s.nx) (decide (s.nx=.cK)) ks s.al s.aF s.aD es∧qs s.nx ks s.al
theorem XC{a b:Bytes}(h:aN a=aN b):a=b:=by
 have:=congrArg strOf h
 rwa [jh,jh]at this
theorem NT{a b:bl}(h:cB a=cB b):a=b:=by unfold cB at h;simp only [aa.agg.injEq,List.cons.injEq,aa.int.injEq,aa.str.injEq,and_true,true_and]at h;cases a;cases b;simp_all
theorem NU:∀{a b:List bl},a.map cB=b.map cB→a=b
 |[],[],_=>rfl
 |[],_::_,h=>by simp at h
 |_::_,[],h=>by simp at h
 |x::a,y::b,h=>by simp only [List.map_cons,List.cons.injEq]at h;rw [NT h.1,NU h.2]
theorem GW{H:J}{k aP:Nat}{v:aa}{l l2 j j2:Bytes}(h:Grown H k v l j)(ai:Grown H aP v l2 j2):k=aP∧l=l2∧j=j2:=by obtain⟨ad,m,f,e,g⟩:=h;obtain⟨XD,m2,f2,bu,g2⟩:=ai;rw [e]at bu;simp only [aa.slice.injEq,Option.some.injEq,bA.mk.injEq]at bu;obtain⟨⟨au,_,a1,_⟩,_,_⟩:=bu;subst au;rw [g]at g2;simp only [Option.some.injEq,af.mk.injEq]at g2;have:=XC g2.1;exact⟨rfl,(List.append_inj this a1).2,(List.append_inj this a1).1⟩
theorem XE{H:J}{d k aP:Nat}{v:aa}{ks r1:fY}{l l2:Bytes}(h:jl H d k v ks l)(ai:jl H d aP v r1 l2):k=aP∧l=l2∧ks=r1:=by
 cases ks<;>cases r1<;>simp only [jl]at h ai
 ·exact⟨ab,by rw [h.2.1,ai.2.1],rfl⟩
 ·have:=h.1.symm.trans ai.2.1;simp at this
 ·obtain⟨_,_,_,_,e,_⟩:=ai;rw [h.1]at e;simp at e
 ·have:=ai.1.symm.trans h.2.1;simp at this
 ·have:=h.2.1.symm.trans ai.2.1;exact⟨by simpa using this,by rw [h.2.2.2,ai.2.2.2],rfl⟩
 ·obtain⟨_,_,_,_,e,g⟩:=ai;have:=h.2.1.symm.trans e;simp only [aa.slice.injEq,Option.some.injEq,bA.mk.injEq]at this;obtain⟨⟨au,_⟩,_⟩:=this;rw [au,g]at h;simp [af.an]at h
 ·obtain⟨_,_,_,_,e,_⟩:=h;rw [ai.1]at e;simp at e
 ·obtain⟨_,_,_,_,e,g⟩:=h;have:=ai.2.1.symm.trans e;simp only [aa.slice.injEq,Option.some.injEq,bA.mk.injEq]at this;obtain⟨⟨au,_⟩,_⟩:=this;rw [au,g]at ai;simp [af.an]at ai
 ·obtain⟨a,b,c⟩:=GW h.2 ai.2;exact⟨a,b,by rw [c]⟩
theorem XF{H:J}{d k aP:Nat}{v:aa}{l l2:Bytes}(h:jm H d k v l)(ai:jm H d aP v l2):k=aP∧l=l2:=by
 rcases h with ⟨a,b,c⟩|⟨a,b,g⟩<;>rcases ai with ⟨a2,bP,c2⟩|⟨a2,bP,g2⟩
 ·exact⟨ab,by rw [b,bP]⟩
 ·obtain⟨_,_,_,e,_⟩:=g2;rw [a]at e;simp at e
 ·obtain⟨_,_,_,e,_⟩:=g;rw [a2]at e;simp at e
 ·exact⟨(GW g g2).1,(GW g g2).2.1⟩
theorem XG{H:J}{d k aP:Nat}{v:aa}{l l2:List bl}(h:jn H d k v l)(ai:jn H d aP v l2):k=aP∧l=l2:=by
 rcases h with ⟨a,b,c⟩|⟨a,b,ad,m,f,e,g⟩<;>rcases ai with ⟨a2,bP,c2⟩|⟨a2,bP,XD,m2,f2,bu,g2⟩
 ·exact⟨ab,by rw [b,bP]⟩
 ·rw [a]at bu;simp at bu
 ·rw [a2]at e;simp at e
 ·rw [e]at bu;simp only [aa.slice.injEq,Option.some.injEq,bA.mk.injEq]at bu;obtain⟨⟨au,_⟩,_⟩:=bu;subst au;rw [g]at g2;simp only [Option.some.injEq,af.mk.injEq]at g2;exact⟨rfl,NU g2.1⟩
theorem XH{h ai:Bytes}{j0 j1 j2 j3 i0 i1 i2 i3:Int}{ty nt:bL}(aC:h.length≤4)(e:cb h j0 j1 j2 j3 ty=cb ai i0 i1 i2 i3 nt):h=ai:=by
 simp only [af.an,af.mk.injEq,List.cons.injEq,aa.agg.injEq,aa.int.injEq,true_and,and_true]at e;obtain⟨⟨e0,bi,bu,b7,fK⟩,_⟩:=e;have fK:h.length=ai.length:= ab;apply List.ext_getElem? fun i=> ?_
 by_cases aq:i<h.length
 ·have vq:i<ai.length:= ab
  have key:b8 h i 0=b8 ai i 0:=by
   have:i=0∨i=1∨i=2∨i=3:= ab;have g:∀(x:Bytes)(a b:Int),i<x.length→b8 x i a=b8 x i b:=fun x a b aj=>by simp [b8,List.getElem?_eq_getElem aj]
   rcases this with rfl|rfl|rfl|rfl
   ·rw [g h 0 j0 aq,g ai 0 i0 vq];exact e0
   ·rw [g h 0 j1 aq,g ai 0 i1 vq];exact bi
   ·rw [g h 0 j2 aq,g ai 0 i2 vq];exact bu
   ·rw [g h 0 j3 aq,g ai 0 i3 vq];exact b7
  simp only [b8,List.getElem?_eq_getElem aq,List.getElem?_eq_getElem vq]at key;rw [List.getElem?_eq_getElem aq,List.getElem?_eq_getElem vq]
  congr 1
  exact UInt8.toNat_inj.1 ab
 ·rw [List.getElem?_eq_none ab,List.getElem?_eq_none ab]
theorem dP.rD{H:J}{d:Nat}{I cZ:cp}{f f2:Nat}{pas r2:Bool}{ks r1:fY}{al GX aF BR aD GY:Bytes}{es r3:List bl}(h:dP H d I f pas ks al aF aD es)(ai:dP H d cZ f2 r2 r1 GX BR GY r3)(aC:aF.length≤4) :
 I=cZ∧f=f2∧pas=r2∧ks=r1∧al=GX∧aF=BR∧aD=GY∧es=r3:=by
 obtain⟨kv,pv,ov,ty,e,au,ah,ao⟩:=h.ex;obtain⟨vr,vt,r4,nt,bu,cn,vu,ib⟩:=ai.ex;rw [e]at bu;simp only [af.an,Option.some.injEq,af.mk.injEq,List.cons.injEq,aa.agg.injEq,aa.func.injEq,Fn.func.injEq,aa.ptr.injEq,bA.mk.injEq,aa.bool.injEq,true_and,and_true]at bu;obtain⟨⟨aZ,rfl,rfl,nu,hu,rfl⟩,_⟩:=bu;obtain⟨j0,j1,j2,j3,uty,XI⟩:=h.iD;obtain⟨i0,i1,i2,i3,ahA,NV⟩:=ai.iD;rw [←hu,XI]at NV;have bU:=XH aC (Option.some.inj NV);obtain⟨aK,aP,bt⟩:=XE au cn;obtain⟨ep,hb⟩:=XF ah vu;obtain⟨BS,GZ⟩:=XG ao ib;cases I;cases cZ
 simp_all
theorem ci.rD{H:J}{d:Nat}{I cZ:cp}{s s2:bK}{es r3:List bl}(h:ci H d I s es)(ai:ci H d cZ s2 r3)(aC:s.aF.length≤4):I=cZ∧s=s2∧es=r3:=by
 obtain⟨ks,g,_⟩:=h;obtain⟨r1,g2,_⟩:=ai;obtain⟨a,b,c,d,e,f,g,i⟩:=g.rD g2 aC;have:=XB b;cases s;cases s2
 simp_all
theorem lN(l:Bytes):∀e∈aN l,cU e:=by intro e he;obtain⟨b,_,rfl⟩:=List.mem_map.1 he;exact cU.int _ _
theorem NW(e:bl):cU (cB e):=cU.of rfl
theorem NX(l:List bl):∀e∈l.map cB,cU e:=by intro e he;obtain⟨b,_,rfl⟩:=List.mem_map.1 he;exact NW b
theorem r5(bx aK aP bt n:Int)(ty:bL):dy (hg bx aK aP bt n ty):=by intro e he;rw [List.mem_singleton.1 he];exact cU.of rfl
theorem qt{l:List aa}(h:∀e∈l,cU e)(es v m f:Nat)(ty:bL):dy (ct l es v m f ty):=h
theorem NY:dy (af.an [.int .u8 27] 1 true):=by intro e he;rw [List.mem_singleton.1 he];exact cU.of rfl
theorem Grown.pn{ag aQ:J}{r:Nat→Nat}(bc:∀i b,ag.get i=some b→aQ.get (r i)=some (b.bg r)){k:Nat}{v:aa}{l junk:Bytes}(g:Grown ag k v l junk):Grown aQ (r k) (v.bg r) l junk:=by
 obtain⟨ad,m,f,rfl,ak⟩:=g;refine⟨ad,m,f,rfl,?_⟩;have:=bc _ _ ak
 rwa [(qt (lN _) _ _ _ _ _).bg]at this
theorem dP.pn{ag aQ:J}{r:Nat→Nat}(bc:∀i b,ag.get i=some b→aQ.get (r i)=some (b.bg r))(iu:∀i j,r i=r j→i=j)(cG:∀i,i<ag.U→r i<aQ.U){d:Nat}{I:cp}{f:Nat}{pas:Bool}{ks:fY}{al aF aD:Bytes}{es:List bl}
 (g:dP ag d I f pas ks al aF aD es):dP aQ (r d) (I.map r) f pas ks al aF aD es where
 ex := by
  obtain⟨kv,pv,ov,ty,e,au,ah,ao⟩:=g.ex;refine⟨kv.bg r,pv.bg r,ov.bg r,ty,?_,?_,?_,?_⟩
  ·rw [bc _ _ e];simp [af.bg,af.an,aa.bg,aa.gK,bA.bg,cp.map]
  ·cases ks with
   |nil =>
    obtain⟨rfl,rfl,au⟩:=au;exact⟨rfl,rfl,by show r I.k=r d;rw [au]⟩
   |one =>
    obtain⟨bX,rfl,au,rfl⟩:=au;refine⟨fun e=>bX (iu _ _ e),rfl,?_,rfl⟩;have:=bc _ _ au
    rwa [NY.bg]at this
   |grown junk=>exact⟨fun e=>au.1 (iu _ _ e),au.2.pn bc⟩
  ·rcases ah with ⟨rfl,rfl,ah⟩|⟨ac,ai,a8⟩
   ·exact .inl ⟨rfl,rfl,by show r I.p=r d;rw [ah]⟩
   ·exact .inr ⟨fun e=>ac (iu _ _ e),ai,a8.pn bc⟩
  ·rcases ao with ⟨rfl,rfl,ao⟩|⟨ac,ai,ad,m,aG,rfl,ak⟩
   ·exact .inl ⟨rfl,rfl,by show r I.o=r d;rw [ao]⟩
   ·refine .inr ⟨fun e=>ac (iu _ _ e),ai,ad,m,aG,rfl,?_⟩;have:=bc _ _ ak
    rwa [(qt (NX _) _ _ _ _ _).bg]at this
 iD:=by
  obtain⟨j0,j1,j2,j3,ty,hu⟩:=g.iD;refine⟨j0,j1,j2,j3,ty,?_⟩;have:=bc _ _ hu
  rwa [(r5 _ _ _ _ _ _).bg]at this
 lt:=⟨cG _ g.lt.1,cG _ g.lt.2.1,cG _ g.lt.2.2.1,cG _ g.lt.2.2.2.1,cG _ g.lt.2.2.2.2⟩
 ne:=by
  rcases g.ne with h|h|h
  ·exact .inl (by show r I.k=r d;rw [h])
  ·exact .inr (.inl (by show r I.p=r d;rw [h]))
  ·exact .inr (.inr fun e=>h (iu _ _ e))
structure Fr(h ag:J)(d:Nat)(I aO:cp):Prop where
 U:h.U≤ag.U
 get:∀j,j<h.U→j≠d→j≠I.u→j≠I.k→j≠I.p→j≠I.o→ag.get j=h.get j
 ids:∀x,x=aO.u∨x=aO.k∨x=aO.p∨x=aO.o→x=d∨x=I.u∨x=I.k∨x=I.p∨x=I.o∨h.U≤x
theorem Fr.trans{h ac ai:J}{d:Nat}{I oh cZ:cp}(a:Fr h ac d I oh)(b:Fr ac ai d oh cZ):Fr h ai d I cZ where
 U:=Nat.le_trans a.U b.U
 get j a1 bi bu b7 cc iw:=by
  have key:∀x,(x=oh.u∨x=oh.k∨x=oh.p∨x=oh.o)→j≠x:=by intro x aj e;subst e;have:=a.ids _ aj;omega
  rw [b.get j (Nat.lt_of_lt_of_le a1 a.U) bi (key _ (.inl rfl)) (key _ (.inr (.inl rfl))) (key _ (.inr (.inr (.inl rfl)))) (key _ (.inr (.inr (.inr rfl)))),a.get j a1 bi bu b7 cc iw]
 ids x aj:=by
  rcases b.ids x aj with h|h|h|h|h|h
  ·exact .inl h
  ·exact a.ids x (.inl h)
  ·exact a.ids x (.inr (.inl h))
  ·exact a.ids x (.inr (.inr (.inl h)))
  ·exact a.ids x (.inr (.inr (.inr h)))
  ·have:=a.U;omega
def mw:af:=af.an [] 1 true
theorem G0:dy mw:=by intro e he;cases he
noncomputable def vv(H:J):J:=⟨H.U+3,(((H.set H.U mw).set (H.U+1) mw).set (H.U+2) mw).aH⟩
theorem BT(H:J)(j:Nat):(vv H).get j=if H.U+2=j then some mw else if H.U+1=j then some mw else if H.U=j then some mw else H.get j:=by show(((H.set H.U mw).set (H.U+1) mw).set (H.U+2) mw).get j=_;rw [J.kQ,J.kQ,J.kQ]
theorem oi(H:J)(j:Nat)(h:j<H.U):(vv H).get j=H.get j:=by rw [BT,if_neg ab,if_neg ab,if_neg ab]
structure Part(H:J)(d x i XJ:Nat)(v v0:aa)(B:af)(j jA es:Nat):Prop where
 bare:dy B
 bg:∀r:Nat→Nat,r i=j→v0.bg r=v
 eM:∀D:Nat→Prop,D i→ch D v0
 row:(vv H).get j=some B
 at':(jA=0∧x=d∧j=H.U+XJ)∨(jA=i∧x=j∧j≠d∧j<H.U∧B.es=es)
theorem XK{H:J}{d k:Nat}{v:aa}{ks:fY}{l:Bytes}(h:jl H d k v ks l)(au:k<H.U):∃v0 B j jA,Part H d k 2 0 v v0 B j jA 1∧∀bf:J,bf.get 2=some B→jl bf 0 jA v0 ks l:=by
 cases ks with
 |nil =>
  obtain⟨rfl,rfl,rfl⟩:=h;exact⟨.slice none 0 0,mw,H.U,0,⟨G0,fun _ _=>rfl,fun _ _=>trivial,by rw [BT,if_neg ab,if_neg ab,if_pos rfl],.inl ⟨rfl,rfl,rfl⟩⟩,fun bf _=>⟨rfl,rfl,rfl⟩⟩
 |one =>
  obtain⟨bX,rfl,ak,rfl⟩:=h;exact⟨.slice (some ⟨2,0,0,0,1⟩) 1 1,af.an [.int .u8 27] 1 true,k,2,⟨NY,fun r bc=>by simp [aa.bg,bA.bg,bc],fun D bZ=>bZ,by rw [oi _ _ au];exact ak,.inr ⟨rfl,rfl,bX,au,rfl⟩⟩,fun bf g0=>⟨aS,rfl,g0,rfl⟩⟩
 |grown junk =>
  obtain⟨bX,ad,m,f,rfl,ak⟩:=h
  exact⟨.slice (some ⟨2,ad,junk.length,0,1⟩) l.length l.length,ct (aN (junk++l)) 1 ad m f cA,k,2,⟨qt (lN _) _ _ _ _ _,fun r bc=>by simp [aa.bg,bA.bg,bc],fun D bZ=>bZ,by rw [oi _ _ au];exact ak,.inr ⟨rfl,rfl,bX,au,rfl⟩⟩,
   fun bf g0=>⟨aS,ad,m,f,rfl,g0⟩⟩
theorem XL{H:J}{d k:Nat}{v:aa}{l:Bytes}(h:jm H d k v l)(au:k<H.U):∃v0 B j jA,Part H d k 3 1 v v0 B j jA 1∧∀bf:J,bf.get 3=some B→jm bf 0 jA v0 l:=by
 rcases h with ⟨rfl,rfl,rfl⟩|⟨bX,aC,ad,m,f,rfl,ak⟩
 ·exact⟨.slice none 0 0,mw,H.U+1,0,⟨G0,fun _ _=>rfl,fun _ _=>trivial,by rw [BT,if_neg ab,if_pos rfl],.inl ⟨rfl,rfl,rfl⟩⟩,fun bf _=> .inl ⟨rfl,rfl,rfl⟩⟩
 ·exact⟨.slice (some ⟨3,ad,0,0,1⟩) l.length l.length,ct (aN ([]++l)) 1 ad m f cA,k,3,⟨qt (lN _) _ _ _ _ _,fun r bc=>by simp [aa.bg,bA.bg,bc],fun D bZ=>bZ,by rw [oi _ _ au];exact ak,.inr ⟨rfl,rfl,bX,au,rfl⟩⟩,
   fun bf g0=> .inr ⟨aS,aC,ad,m,f,rfl,g0⟩⟩
theorem XM{H:J}{d k:Nat}{v:aa}{l:List bl}(h:jn H d k v l)(au:k<H.U):∃v0 B j jA,Part H d k 4 2 v v0 B j jA 6∧(jA=4→B.exact=false)∧∀bf:J,bf.get 4=some B→jn bf 0 jA v0 l:=by
 rcases h with ⟨rfl,rfl,rfl⟩|⟨bX,aC,ad,m,f,rfl,ak⟩
 ·exact⟨.slice none 0 0,mw,H.U+2,0,⟨G0,fun _ _=>rfl,fun _ _=>trivial,by rw [BT,if_pos rfl],.inl ⟨rfl,rfl,rfl⟩⟩,(fun e=>by cases e),fun bf _=> .inl ⟨rfl,rfl,rfl⟩⟩
 ·exact⟨.slice (some ⟨4,ad,0,0,6⟩) l.length l.length,ct (l.map cB) 6 ad m f k',k,4,⟨qt (NX _) _ _ _ _ _,fun r bc=>by simp [aa.bg,bA.bg,bc],fun D bZ=>bZ,by rw [oi _ _ au];exact ak,.inr ⟨rfl,rfl,bX,au,rfl⟩⟩,fun _=>rfl,
   fun bf g0=> .inr ⟨aS,aC,ad,m,f,rfl,g0⟩⟩
theorem dP.NZ{H:J}{d:Nat}{I:cp}{f:Nat}{pas:Bool}{ks:fY}{al aF aD:Bytes}{es:List bl}(g:dP H d I f pas ks al aF aD es){fn:FuncId}{rest:List aa}{v:aa}(uZ:∀a∈rest,cU a)(bh:cU v)
 {Q:J→Nat→cp→Prop} (eD:∀(ag aQ:J)(r:Nat→Nat)(d:Nat)(I:cp),(∀i b,ag.get i=some b→aQ.get (r i)=some (b.bg r))→(∀i j,r i=r j→i=j)→(∀i,i<ag.U→r i<aQ.U)→Q ag d I→Q aQ (r d) (I.map r))
 (small:∀kv pv ov ty uty j0 j1 j2 j3 K P O a7,dP (J.of [b0 0 f 1 kv pv pas ov ty,cb aF j0 j1 j2 j3 uty,K,P,O]) 0 a7 f pas ks al aF aD es→(a7.u=1∧(a7.k=0∨a7.k=2)∧(a7.p=0∨a7.p=3)∧(a7.o=0∨a7.o=4))→dy K→dy P→dy O →
  ∃ag,bS fn (.ptr (some ⟨0,0,0,0,6⟩)::rest) (J.of [b0 0 f 1 kv pv pas ov ty,cb aF j0 j1 j2 j3 uty,K,P,O]) v ag∧∃aO,Q ag 0 aO∧Fr (J.of [b0 0 f 1 kv pv pas ov ty,cb aF j0 j1 j2 j3 uty,K,P,O]) ag 0 a7 aO) :
 ∃aQ,bS fn (.ptr (some ⟨d,0,0,0,6⟩)::rest) H v aQ∧∃aO,Q aQ d aO∧Fr H aQ d I aO:=by
 obtain⟨kv,pv,ov,ty,e,au,ah,ao⟩:=g.ex;obtain⟨j0,j1,j2,j3,uty,hu⟩:=g.iD;obtain⟨et,l2,lM,vo,vp⟩:=g.lt;obtain⟨xZ,K,r6,tz,lO,XN⟩:=XK au lM;obtain⟨lP,P,r7,tA,pp,XO⟩:=XL ah vo;obtain⟨BU,O,po,ku,jC,ahB,co⟩:=XM ao vp;have N0:r6<H.U→H.get r6=some K:=fun h=>by rw [←oi _ _ h];exact lO.row
 have N1:r7<H.U→H.get r7=some P:=fun h=>by rw [←oi _ _ h];exact pp.row
 have G1:po<H.U→H.get po=some O:=fun h=>by rw [←oi _ _ h];exact jC.row
 have XP:d≠I.u:=by intro h;rw [←h,e]at hu;simp [af.an]at hu
 have XQ:r6<H.U→K.es=1→I.u≠r6:=by intro ac ai h;have:=N0 ac;rw [←h,hu]at this;simp only [Option.some.injEq]at this;rw [←this]at ai;simp [af.an]at ai
 have XR:r7<H.U→P.es=1→I.u≠r7:=by intro ac ai h;have:=N1 ac;rw [←h,hu]at this;simp only [Option.some.injEq]at this;rw [←this]at ai;simp [af.an]at ai
 have XS:po<H.U→O.es=6→I.u≠po:=by intro ac ai h;have:=G1 ac;rw [←h,hu]at this;simp only [Option.some.injEq]at this;rw [←this]at ai;simp [af.an]at ai
 have XT:r6<H.U→K.es=1→po<H.U→O.es=6→r6≠po:=by intro ac ai a8 bQ h;have:=N0 ac;rw [h,G1 a8]at this;simp only [Option.some.injEq]at this;rw [this]at bQ;omega
 have XU:r7<H.U→P.es=1→po<H.U→O.es=6→r7≠po:=by intro ac ai a8 bQ h;have:=N1 ac;rw [h,G1 a8]at this;simp only [Option.some.injEq]at this;rw [this]at bQ;omega
 let ids:=[d,I.u,r6,r7,po]
 let H2:=vv H
 let r:=dJ ids H2.U
 have lQ:H2.U=H.U+3:=rfl
 have hX:ids.Nodup:=by
  have av:=lO.at';have a2:=pp.at';have a3:=jC.at';have a4:=g.ne;simp only [ids,List.nodup_cons,List.mem_cons,List.not_mem_nil,or_false,not_or,List.nodup_nil,and_true,not_false_eq_true];refine⟨⟨XP,?_,?_,?_⟩,⟨?_,?_,?_⟩,⟨?_,?_⟩,?_⟩
  ·omega
  ·omega
  ·omega
  ·rcases av with ⟨_,_,h⟩|⟨_,_,_,h,ag⟩
   ·omega
   ·exact XQ h ag
  ·rcases a2 with ⟨_,_,h⟩|⟨_,_,_,h,ag⟩
   ·omega
   ·exact XR h ag
  ·rcases a3 with ⟨_,_,h⟩|⟨_,_,_,h,ag⟩
   ·omega
   ·exact XS h ag
  ·omega
  ·rcases av with ⟨_,_,h⟩|⟨_,_,_,h,ag⟩<;>rcases a3 with ⟨_,_,q⟩|⟨_,_,_,q,jP⟩
   ·omega
   ·omega
   ·omega
   ·exact XT h ag q jP
  ·rcases a2 with ⟨_,_,h⟩|⟨_,_,_,h,ag⟩<;>rcases a3 with ⟨_,_,q⟩|⟨_,_,_,q,jP⟩
   ·omega
   ·omega
   ·omega
   ·exact XU h ag q jP
 have cG:∀j∈ids,j<H2.U:=by have av:=lO.at';have a2:=pp.at';have a3:=jC.at';intro j a1;simp only [ids,List.mem_cons,List.not_mem_nil,or_false]at a1;rcases a1 with rfl|rfl|rfl|rfl|rfl<;>omega
 have iB:r 0=d:=rfl;have e8:r 1=I.u:=rfl;have il:r 2=r6:=rfl;have my:r 3=r7:=rfl;have G2:r 4=po:=rfl
 let l:List af:=[b0 0 f 1 xZ lP pas BU ty,cb aF j0 j1 j2 j3 uty,K,P,O]
 have XV:∀b∈l,Bo (fun i=>i<l.length) b:=by
  intro b ax;simp only [l,List.mem_cons,List.not_mem_nil,or_false]at ax;rcases ax with rfl|rfl|rfl|rfl|rfl
  ·intro x aj;rw [List.mem_singleton.1 aj];simp only [ch,fp,l,List.length_cons,List.length_nil];exact⟨⟨⟨aS,trivial⟩,trivial⟩,lO.eM _ aS,pp.eM _ aS,trivial,aS,jC.eM _ aS,trivial⟩
  ·exact(r5 _ _ _ _ _ _).eM _
  ·exact lO.bare.eM _
  ·exact pp.bare.eM _
  ·exact jC.bare.eM _
 have aC:∀i b,l[i]? =some b→H2.get (r i)=some (b.bg r):=by
  intro i b ax;have aq:=(List.getElem?_eq_some_iff.1 ax).1;simp only [l,List.length_cons,List.length_nil]at aq;have:i=0∨i=1∨i=2∨i=3∨i=4:= ab;rcases this with rfl|rfl|rfl|rfl|rfl
  ·simp only [l,List.getElem?_cons_zero,Option.some.injEq]at ax;subst ax;rw [iB];show(vv H).get d=_;rw [oi _ _ et,e];have bi:=lO.bg r il;have bu:=pp.bg r my;have b7:=jC.bg r G2;simp [af.bg,af.an,aa.bg,aa.gK,bA.bg,bi,bu,b7,iB,e8]
  ·simp only [l,List.getElem?_cons_zero,List.getElem?_cons_succ,Option.some.injEq]at ax;subst ax;rw [e8,(r5 _ _ _ _ _ _).bg];show(vv H).get I.u=_;rw [oi _ _ l2];exact hu
  ·simp only [l,List.getElem?_cons_zero,List.getElem?_cons_succ,Option.some.injEq]at ax;subst ax;rw [il,lO.bare.bg];exact lO.row
  ·simp only [l,List.getElem?_cons_zero,List.getElem?_cons_succ,Option.some.injEq]at ax;subst ax;rw [my,pp.bare.bg];exact pp.row
  ·simp only [l,List.getElem?_cons_zero,List.getElem?_cons_succ,Option.some.injEq]at ax;subst ax;rw [G2,jC.bare.bg];exact jC.row
 have gs:dP (J.of l) 0 ⟨1,tz,tA,ku⟩ f pas ks al aF aD es:=by
  refine⟨⟨xZ,lP,BU,ty,by rw [J.eV];rfl,XN _ (by rw [J.eV];rfl),XO _ (by rw [J.eV];rfl),co _ (by rw [J.eV];rfl)⟩,⟨j0,j1,j2,j3,uty,by rw [J.eV];rfl⟩,?_,?_⟩
  ·have av:=lO.at';have a2:=pp.at';have a3:=jC.at';show 0<5∧1<5∧tz<5∧tA<5∧ku<5;omega
  ·have av:=lO.at';have a2:=pp.at';show tz=0∨tA=0∨tz≠tA;omega
 obtain⟨ag,aE,aO,aB,cF⟩:=small xZ lP BU ty uty j0 j1 j2 j3 K P O _ gs (by have av:=lO.at';have a2:=pp.at';have a3:=jC.at';show 1=1∧(tz=0∨tz=2)∧(tA=0∨tA=3)∧(ku=0∨ku=4);omega) lO.bare pp.bare jC.bare;have XW:5≤ag.U:=cF.U
 obtain⟨aQ,gk,rC,eX,kd⟩:=aE.place (tl:=XW) XV (by
  refine tb.2 fun a aT=> ?_
  rcases List.mem_cons.1 aT with rfl|aT
  ·show 0<5;decide
  ·exact(uZ a aT).eM _) (H:=H2) ids hX cG rfl aC
 have gz:(aa.ptr (some ⟨0,0,0,0,6⟩)::rest).map (aa.bg (dJ ids H2.U))=aa.ptr (some ⟨d,0,0,0,6⟩)::rest:=by
  rw [List.map_cons]
  congr 1
  conv=>rhs;rw [←List.map_id rest]
  exact List.map_congr_left fun a aT=>(uZ a aT).1 _
 rw [gz,bh.1]at gk;have iu:∀i j,r i=r j→i=j:=fun i j h=>MF hX cG h
 have XX:∀i,i<ag.U→r i<aQ.U:=by
  intro i aq;have rC:aQ.U=H.U+3+(ag.U-5):=rC;by_cases c:i<5
  ·have bF:i<ids.length:=c;have:=cG _ (List.getElem_mem bF);show dJ ids H2.U i<_;rw [tr bF];omega
  ·show dJ ids H2.U i<_;rw [n9 (show ids.length≤i by show 5≤i;omega)];show H.U+3+(i-5)<_;omega
 refine⟨aQ,gk.less (by show H.U≤H.U+3;omega) (fun i aq=>oi H i aq),aO.map r,eD ag aQ r 0 aO eX iu XX aB,?_,?_,?_⟩
 ·have rC:aQ.U=H.U+3+(ag.U-5):=rC;omega
 ·intro j a1 bi bu b7 cc iw
  have w2:j ∉ ids:=by have av:=lO.at';have a2:=pp.at';have a3:=jC.at';simp only [ids,List.mem_cons,List.not_mem_nil,or_false,not_or];refine⟨bi,bu,?_,?_,?_⟩<;>omega
  rw [kd j (by show j<H.U+3;omega) w2];exact oi H j a1
 ·intro x aj
  have key:∀y,(y=aO.u∨y=aO.k∨y=aO.p∨y=aO.o)→r y=d∨r y=I.u∨r y=I.k∨r y=I.p∨r y=I.o∨H.U≤r y:=by
   intro y bV;have av:=lO.at';have a2:=pp.at';have a3:=jC.at';rcases cF.ids y bV with h|h|h|h|h|h
   ·left;rw [h];exact iB
   ·right;left;rw [h];exact e8
   ·have h:y=tz:=h;rcases av with ⟨a',_,_⟩|⟨a',bP,_⟩
    ·left;rw [h,a'];exact iB
    ·right;right;left;rw [h,a',il,bP]
   ·have h:y=tA:=h;rcases a2 with ⟨a',_,_⟩|⟨a',bP,_⟩
    ·left;rw [h,a'];exact iB
    ·right;right;right;left;rw [h,a',my,bP]
   ·have h:y=ku:=h;rcases a3 with ⟨a',_,_⟩|⟨a',bP,_⟩
    ·left;rw [h,a'];exact iB
    ·right;right;right;right;left;rw [h,a',G2,bP]
   ·right;right;right;right;right;have h:5≤y:=h;show H.U≤dJ ids H2.U y;rw [n9 (show ids.length≤y from h)];show H.U≤H.U+3+_;omega
  rcases aj with h|h|h|h<;>(rw [h];exact key _ aM)
theorem dP.lift{H:J}{d:Nat}{I:cp}{f:Nat}{pas:Bool}{ks:fY}{al aF aD:Bytes}{es:List bl}(g:dP H d I f pas ks al aF aD es){fn:FuncId}{rest:List aa}{v:aa}(uZ:∀a∈rest,cU a)(bh:cU v)
 {Q:J→Nat→cp→Prop} (eD:∀(ag aQ:J)(r:Nat→Nat)(d:Nat)(I:cp),(∀i b,ag.get i=some b→aQ.get (r i)=some (b.bg r))→(∀i j,r i=r j→i=j)→(∀i,i<ag.U→r i<aQ.U)→Q ag d I→Q aQ (r d) (I.map r))
 (small:∀kv pv ov ty uty j0 j1 j2 j3 K P O a7,dP (J.of [b0 0 f 1 kv pv pas ov ty,cb aF j0 j1 j2 j3 uty,K,P,O]) 0 a7 f pas ks al aF aD es→(a7.u=1∧(a7.k=0∨a7.k=2)∧(a7.p=0∨a7.p=3)∧(a7.o=0∨a7.o=4)) →
  ∃ag,bS fn (.ptr (some ⟨0,0,0,0,6⟩)::rest) (J.of [b0 0 f 1 kv pv pas ov ty,cb aF j0 j1 j2 j3 uty,K,P,O]) v ag∧∃aO,Q ag 0 aO∧Fr (J.of [b0 0 f 1 kv pv pas ov ty,cb aF j0 j1 j2 j3 uty,K,P,O]) ag 0 a7 aO) :
 ∃aQ,bS fn (.ptr (some ⟨d,0,0,0,6⟩)::rest) H v aQ∧∃aO,Q aQ d aO∧Fr H aQ d I aO :=
 g.NZ uZ bh eD fun kv pv ov ty uty j0 j1 j2 j3 K P O a7 gs cL _ _ _=>small kv pv ov ty uty j0 j1 j2 j3 K P O a7 gs cL
theorem jl.keep{H aQ:J}{d k:Nat}{v:aa}{ks:fY}{l:Bytes}(h:jl H d k v ks l)(ak:k≠d→aQ.get k=H.get k):jl aQ d k v ks l:=by
 cases ks with
 |nil=>exact h
 |one=>exact⟨h.1,h.2.1,by rw [ak h.1];exact h.2.2.1,h.2.2.2⟩
 |grown junk =>
  obtain⟨ac,ad,m,f,e,g⟩:=h;exact⟨ac,ad,m,f,e,by rw [ak ac];exact g⟩
theorem jm.keep{H aQ:J}{d k:Nat}{v:aa}{l:Bytes}(h:jm H d k v l)(ak:k≠d→aQ.get k=H.get k):jm aQ d k v l:=by
 rcases h with h|⟨ac,ai,ad,m,f,e,g⟩
 ·exact .inl h
 ·exact .inr ⟨ac,ai,ad,m,f,e,by rw [ak ac];exact g⟩
theorem jn.keep{H aQ:J}{d k:Nat}{v:aa}{l:List bl}(h:jn H d k v l)(ak:k≠d→aQ.get k=H.get k):jn aQ d k v l:=by
 rcases h with h|⟨ac,ai,ad,m,f,e,g⟩
 ·exact .inl h
 ·exact .inr ⟨ac,ai,ad,m,f,e,by rw [ak ac];exact g⟩
abbrev r8(l8 lR em ex je:Int)(k0:Bytes):aa:=aa.agg [.int .i8 l8,.int .i32 lR,.int .u8 em,.int .i64 ex,.int .i64 je,.str k0]
theorem XY(f:Nat)(kv pv:aa)(pas:Bool)(dty:bL)(bj K P O:af)(l8 lR em ex je:Int)(k0:Bytes)(ae:bI)(aW:ae (.tuple []) (J.ar 27 [(0,⟨[.agg [.func (.func 30) [.ptr (aJ 0)] [],.slice none 0 0,pv,.bool pas,.ptr (some ⟨1,0,0,0,5⟩),.slice (aJ 13) 1 1]],6,true,false,0,0,0,dty⟩),(1,bj),(2,K),(3,P),(4,O),(5,af.an [(r8 l8 lR em ex je k0)] 6 true (some (42,6))),(12,af.an [(r8 l8 lR em ex je k0)] 6 true),(13,af.an [(r8 l8 lR em ex je k0)] 6 false (some (42,0)))])) :
 b4 58 [.ptr (aJ 0),cB ⟨l8,lR,em,ex,je,k0⟩] (J.of [b0 0 f 1 kv pv pas (.slice none 0 0) dty,bj,K,P,O]) ae :=
 b9 gC (.nil) aW
theorem XZ(f:Nat)(kv pv:aa)(pas:Bool)(dty:bL)(bj K P:af)(l8 lR em ex je:Int)(k0:Bytes)(es:List aa)(ad m aG n:Nat)(ae:bI)(aW:(ad=ad∧0+n=List.length es∧n<n+1∧(n+1+(n+1)/4+512)*48≤281474976710656∧n+1<4611686018427387904)∧ae (.tuple []) (J.ar 27 [(0,{bk:=[.agg [.func (.func 30) [.ptr (aJ 0)] [],.slice none 0 0,pv,.bool pas,.ptr (some ⟨1,0,0,0,5⟩),.slice (some {id:=4,ad:=ad+1,idx:=0,fld:=0,es:=6}) (n+1) (n+1)]],es:=6,exact:=true,ro:=false,ad:=0,gd:=0,hj:=0,ty:=dty}),(1,bj),(2,K),(3,P),(4,⟨es++[(r8 l8 lR em ex je k0)],6,false,false,ad+1,m,if m=ad then List.length es else min aG (List.length es),some (42,0)⟩),(5,af.an [(r8 l8 lR em ex je k0)] 6 true (some (42,6))),(12,af.an [(r8 l8 lR em ex je k0)] 6 true)])) :
 b4 58 [.ptr (aJ 0),cB ⟨l8,lR,em,ex,je,k0⟩] (J.of [b0 0 f 1 kv pv pas (.slice (some ⟨4,ad,0,0,6⟩) n n) dty,bj,K,P,ct es 6 ad m aG k']) ae :=
 b9 gC (ak 1007 .nil) aW
theorem N2{H:J}{d:Nat}{I:cp}{f:Nat}{pas:Bool}{ks:fY}{al aF aD:Bytes}{es:List bl}(g:dP H d I f pas ks al aF aD es)(e:bl)(ck:es.length<2^30) :
 ∃aQ,bS 58 [.ptr (some ⟨d,0,0,0,6⟩),cB e] H (.tuple []) aQ∧∃aO,dP aQ d aO (cy .ground) pas .nil [] aF aD (es++[e])∧Fr H aQ d I aO:=by
 refine g.lift (Q:=fun h d I=>dP h d I (cy .ground) pas .nil [] aF aD (es++[e])) (fun a aT=>by rw [List.mem_singleton.1 aT];exact NW e) (cU.of rfl) (fun ag aQ r d I bc iu cG q=>q.pn bc iu cG) ?_;intro kv pv ov ty uty j0 j1 j2 j3 K P O a7 gs cL;obtain⟨G3,ic,G4,G5,e0,au,ah,ao⟩:=gs.ex;rw [J.eV]at e0;simp only [List.getElem?_cons_zero,Option.some.injEq,af.an,af.mk.injEq,List.cons.injEq,aa.agg.injEq,aa.func.injEq,aa.ptr.injEq,bA.mk.injEq,true_and,and_true]at e0;obtain⟨⟨rfl,rfl,hu,rfl⟩,rfl⟩:=e0;obtain⟨i0,x0,ip,pq⟩:=cL
 have fin:∀(v:aa)(ag:J)(x:Nat),v=.tuple []∧(∃aO,dP ag 0 aO (cy .ground) pas .nil [] aF aD (es++[e])∧Fr (J.of [b0 0 f 1 kv pv pas ov ty,cb aF j0 j1 j2 j3 uty,K,P,O]) ag 0 a7 aO) →
  bS 58 [.ptr (some ⟨0,0,0,0,6⟩),cB e] (J.of [b0 0 f 1 kv pv pas ov ty,cb aF j0 j1 j2 j3 uty,K,P,O]) v ag →
  ∃ag,bS 58 [.ptr (some ⟨0,0,0,0,6⟩),cB e] (J.of [b0 0 f 1 kv pv pas ov ty,cb aF j0 j1 j2 j3 uty,K,P,O]) (.tuple []) ag∧∃aO,dP ag 0 aO (cy .ground) pas .nil [] aF aD (es++[e])∧Fr (J.of [b0 0 f 1 kv pv pas ov ty,cb aF j0 j1 j2 j3 uty,K,P,O]) ag 0 a7 aO:=by
  rintro v ag x ⟨rfl,q⟩ aE;exact⟨ag,aE,q⟩
 rcases ao with ⟨rfl,rfl,ao⟩|⟨jD,ib,ad,m,aG,rfl,iO⟩
 ·obtain⟨v,ag,aE,q⟩:=XY f kv pv pas ty (cb aF j0 j1 j2 j3 uty) K P O e.kind e.code e.df e.x e.y e.text (fun v ag=>v=.tuple []∧∃aO,dP ag 0 aO (cy .ground) pas .nil [] aF aD [e]∧Fr (J.of [b0 0 f 1 kv pv pas (.slice none 0 0) ty,cb aF j0 j1 j2 j3 uty,K,P,O]) ag 0 a7 aO) (by
   delta r8
   refine⟨rfl,⟨1,0,a7.p,13⟩,⟨⟨.slice none 0 0,pv,.slice (some ⟨13,0,0,0,6⟩) 1 1,ty,ay,⟨rfl,rfl,rfl⟩,ah.keep ?_,.inr ⟨by show 13≠0;decide,aM,0,0,0,rfl,?_⟩⟩,⟨j0,j1,j2,j3,uty,ay⟩,?_,.inl rfl⟩,⟨?_,?_,?_⟩⟩
   rotate_left
   ·kernel_rfl
   rotate_right
   ·intro bX;rw [J.eV];rcases ip with ip|ip
    ·exact absurd ip bX
    ·rw [ip];kernel_rfl
   ·show 0<27∧1<27∧0<27∧a7.p<27∧13<27;omega
   ·show 5≤27;decide
   ·intro j a1 bi bu _ _ _;have a1:j<5:=a1;have:j=2∨j=3∨j=4:= ab;rw [J.eV];rcases this with rfl|rfl|rfl<;>(show _=_;kernel_rfl)
   ·intro x aj;show x=0∨x=a7.u∨x=a7.k∨x=a7.p∨x=a7.o∨5≤x;have aj:x=1∨x=0∨x=a7.p∨x=13:=aj
    omega)
  exact fin v ag 0 q aE
 ·have pq:a7.o=4:= ab;rw [pq,J.eV]at iO;simp only [List.getElem?_cons_zero,List.getElem?_cons_succ,Option.some.injEq]at iO;subst iO
  obtain⟨v,ag,aE,q⟩:=XZ f kv pv pas ty (cb aF j0 j1 j2 j3 uty) K P e.kind e.code e.df e.x e.y e.text (es.map cB) ad m aG es.length (fun v ag=>v=.tuple []∧∃aO,dP ag 0 aO (cy .ground) pas .nil [] aF aD (es++[e])∧Fr (J.of [b0 0 f 1 kv pv pas (.slice (some ⟨4,ad,0,0,6⟩) es.length es.length) ty,cb aF j0 j1 j2 j3 uty,K,P,ct (es.map cB) 6 ad m aG k']) ag 0 a7 aO) (by
   delta r8
   refine⟨⟨rfl,aM,ab,ab,ab⟩,rfl,⟨1,0,a7.p,4⟩,⟨⟨.slice none 0 0,pv,.slice (some ⟨4,ad+1,0,0,6⟩) (es.length+1) (es.length+1),ty,ay,⟨rfl,rfl,rfl⟩,ah.keep ?_,.inr ⟨by show 4≠0;decide,aM,ad+1,m,if m=ad then(es.map cB).length else min aG (es.map cB).length,aM,?_⟩⟩,⟨j0,j1,j2,j3,uty,ay⟩,?_,.inl rfl⟩,⟨?_,?_,?_⟩⟩
   rotate_left
   ·rw [List.map_append];kernel_rfl
   rotate_right
   ·intro bX;rw [J.eV];rcases ip with ip|ip
    ·exact absurd ip bX
    ·rw [ip];kernel_rfl
   ·show 0<27∧1<27∧0<27∧a7.p<27∧4<27;omega
   ·show 5≤27;decide
   ·intro j a1 bi bu _ _ iw;have a1:j<5:=a1;have:j=2∨j=3:= ab;rw [J.eV];rcases this with rfl|rfl<;>(show _=_;kernel_rfl)
   ·intro x aj;show x=0∨x=a7.u∨x=a7.k∨x=a7.p∨x=a7.o∨5≤x;have aj:x=1∨x=0∨x=a7.p∨x=4:=aj
    omega)
  rw [pq]at fin⊢;exact fin v ag 0 q aE
structure cq(h:J)(a:bA)(cD:aa):Prop where
 at':a=⟨a.id,0,0,0,6⟩
 ex:∃I f pas ks al aF aD es e,cD=cB e∧dP h a.id I f pas ks al aF aD es∧es.length<2^30∧aF.length≤4
structure cr(h:J)(a:bA)(cD:aa)(ag:J):Prop where
 all:∀I f pas ks al aF aD es e,cD=cB e→dP h a.id I f pas ks al aF aD es→aF.length≤4→ ∃aO,dP ag a.id aO (cy .ground) pas .nil [] aF aD (es++[e])∧Fr h ag a.id I aO
 U:h.U≤ag.U
def G6:List aa→J→Option ey:=fun args h =>
 match args with
 |[.ptr (some a),.agg bm]=>some (.some (.tuple []) [cq h a (.agg bm)] (cr h a (.agg bm)))
 |_=>none
theorem X0:∀args h a,G6 args h=some a→a.dt Tryz.prog cX 58 args h:=by
 intro args h a e;unfold G6 at e;split at e<;>first|(cases e;done)|skip
 rename_i a bm;simp only [Option.some.injEq]at e;subst e;intro ah;have aT:=ah.head.at';obtain⟨I,f,pas,ks,al,aF,aD,es,e,he,g,ck,aC⟩:=ah.head.ex;obtain⟨ag,aE,aO,dp,cF⟩:=N2 g e ck;rw [←aT,←he]at aE;refine⟨ag,aE,⟨?_,cF.U⟩⟩;intro cZ f2 r2 r1 GX BR GY r3 bu o5 g2 uF;obtain⟨rfl,rfl,rfl,rfl,rfl,rfl,rfl,rfl⟩:=g.rD g2 aC;have:=NT (he.symm.trans o5);subst this;exact⟨aO,dp,cF⟩
structure dA(N:Nat)(R:bK→UInt8→Prop)(h:J)(a:bA)(c:Int):Prop where
 at':a=⟨a.id,0,0,0,6⟩
 ex:∃I s es,ci h a.id I s es∧es.length<N∧s.aF.length≤4∧R s (eo c)
 c:0≤c∧c≤255
structure dB(F:bK→UInt8→bK×List bl)(h:J)(a:bA)(c:Int)(ag:J):Prop where
 all:∀I s es,ci h a.id I s es→s.aF.length≤4→ ∃aO,ci ag a.id aO (F s (eo c)).1 (es++(F s (eo c)).2)∧Fr h ag a.id I aO
 U:h.U≤ag.U
def j5(N:Nat)(R:bK→UInt8→Prop)(F:bK→UInt8→bK×List bl):List aa→J→Option ey:=fun args h =>
 match args with
 |[.ptr (some a),.int .u8 c]=>some (.some (.tuple []) [dA N R h a c] (dB F h a c))
 |_=>none
theorem vw(c:UInt8):eo (c.toNat:Int)=c:=by unfold eo;simp
theorem N3{c:Int}(h:0≤c∧c≤255):((eo c).toNat:Int)=c:=by
 unfold eo;have:(UInt8.ofNat c.toNat).toNat=c.toNat%256:=by simp [UInt8.toNat_ofNat']
 rw [this];omega
theorem r9{N:Nat}{f:FuncId}{R:bK→UInt8→Prop}{F:bK→UInt8→bK×List bl}(k:∀H d I s es c,ci H d I s es→es.length<N→s.aF.length≤4→R s c→ ∃aQ,bS f [.ptr (some ⟨d,0,0,0,6⟩),.int .u8 (c:UInt8).toNat] H (.tuple []) aQ∧∃aO,ci aQ d aO (F s c).1 (es++(F s c).2)∧Fr H aQ d I aO) :
 ∀args h a,j5 N R F args h=some a→a.dt Tryz.prog cX f args h:=by
 intro args h a e;unfold j5 at e;split at e<;>first|(cases e;done)|skip
 rename_i a c;simp only [Option.some.injEq]at e;subst e;intro ah;have aT:=ah.head.at';obtain⟨_,⟨I,s,es,g,ck,aC,dX⟩,aw⟩:=ah.head;obtain⟨ag,aE,aO,dp,cF⟩:=k h a.id I s es (eo c) g ck aC dX;rw [←aT,N3 aw]at aE;refine⟨ag,aE,⟨?_,cF.U⟩⟩;intro cZ s2 r3 g2 uF;obtain⟨rfl,rfl,rfl⟩:=g.rD g2 aC;exact⟨aO,dp,cF⟩
noncomputable def BV:e1:=Nz.add 58 G6
theorem x1:eJ Tryz.prog cX BV:=XA.add X0
theorem X1{h:J}{f:Nat}{kv pv ov:aa}{pas:Bool}{ty uty:bL}{aF al aD:Bytes}{j0 j1 j2 j3:Int}{D bj K P O:af}{ks:fY}{es:List bl}{k p o:Nat}
 (e0:h.get 0=some (b0 0 f 1 kv pv pas ov ty)) (bi:h.get 1=some (cb aF j0 j1 j2 j3 uty)) (b7:h.get 3=some P) (cc:h.get 4=some O) (au:jl h 0 k kv ks al) (ky:k<h.U) (bF:5≤h.U)
 (ah:jm (J.of [D,bj,K,P,O]) 0 p pv aD) (ao:jn (J.of [D,bj,K,P,O]) 0 o ov es) (ip:p=0∨p=3) (pq:o=0∨o=4) (bX:k=0∨k=2∨5≤k):dP h 0 ⟨1,k,p,o⟩ f pas ks al aF aD es where
 ex :=by
  refine⟨kv,pv,ov,ty,e0,au,ah.keep fun aR=> ?_,ao.keep fun aR=> ?_⟩
  ·rcases ip with rfl|rfl
   ·exact absurd rfl aR
   ·rw [b7,J.eV];rfl
  ·rcases pq with rfl|rfl
   ·exact absurd rfl aR
   ·rw [cc,J.eV];rfl
 iD:=⟨j0,j1,j2,j3,uty,bi⟩
 lt:=by show 0<h.U∧1<h.U∧k<h.U∧p<h.U∧o<h.U;omega
 ne:=by show k=0∨p=0∨k≠p;omega
theorem X2{h:J}{D bj K P O:af}{a7:cp}{k:Nat}(cL:a7.u=1∧(a7.k=0∨a7.k=2)∧(a7.p=0∨a7.p=3)∧(a7.o=0∨a7.o=4))(bu:h.get 2=some K∨a7.k=2)(b7:h.get 3=some P)(cc:h.get 4=some O)(bF:5≤h.U)(au:k=0∨5≤k∨(k=2∧a7.k=2)) :
 Fr (J.of [D,bj,K,P,O]) h 0 a7 ⟨1,k,a7.p,a7.o⟩ where
 U:=bF
 get j a1 a6 n2 eY hN ha:=by
  have a1:j<5:=a1;have:(j=2∧a7.k≠2)∨j=3∨j=4:= ab;rw [J.eV];rcases this with ⟨rfl,au⟩|rfl|rfl
  ·rcases bu with e|e
   ·exact e
   ·exact absurd e au
  ·exact b7
  ·exact cc
 ids x aj:=by show x=0∨x=a7.u∨x=a7.k∨x=a7.p∨x=a7.o∨5≤x;have aj:x=1∨x=k∨x=a7.p∨x=a7.o:=aj;omega
theorem iy{h:J}{f:Nat}{kv pv ov:aa}{pas:Bool}{ty uty:bL}{aF al aD:Bytes}{j0 j1 j2 j3:Int}{D bj K P O:af}{ks:fY}{es:List bl}{a7:cp}{k n:Nat}(aR:h.U=n)(bF:5≤n)
 (e0:h.get 0=some (b0 0 f 1 kv pv pas ov ty)) (bi:h.get 1=some (cb aF j0 j1 j2 j3 uty)) (bu:h.get 2=some K∨a7.k=2) (b7:h.get 3=some P) (cc:h.get 4=some O) (au:jl h 0 k kv ks al) (ky:k<n)
 (ah:jm (J.of [D,bj,K,P,O]) 0 a7.p pv aD) (ao:jn (J.of [D,bj,K,P,O]) 0 a7.o ov es) (cL:a7.u=1∧(a7.k=0∨a7.k=2)∧(a7.p=0∨a7.p=3)∧(a7.o=0∨a7.o=4)) (bX:k=0∨5≤k∨(k=2∧a7.k=2)) :
 dP h 0 ⟨1,k,a7.p,a7.o⟩ f pas ks al aF aD es∧Fr (J.of [D,bj,K,P,O]) h 0 a7 ⟨1,k,a7.p,a7.o⟩ :=
 ⟨X1 e0 bi b7 cc au ab ab ah ao cL.2.2.1 cL.2.2.2 ab,X2 cL bu b7 cc ab bX⟩
theorem BW(h:J):jl h 0 0 (.slice none 0 0) .nil []:=⟨rfl,rfl,rfl⟩
theorem oj{h:J}{k ad m f n:Nat}{l:Bytes}{es:List aa}(au:k≠0)(aR:n=l.length)(he:es=aN l)(e:h.get k=some (ct es 1 ad m f cA)):jl h 0 k (.slice (some ⟨k,ad,0,0,1⟩) n n) (.grown []) l:=by subst aR;subst he;exact⟨au,ad,m,f,rfl,e⟩
theorem G7{l h ag:J}{cD:aa}{e:bl}{a7 I:cp}{f:Nat}{pas:Bool}{ks:fY}{al aF aD:Bytes}{es:List bl}(t:cr h ⟨0,0,0,0,6⟩ cD ag)(g:dP h 0 I f pas ks al aF aD es)(cF:Fr l h 0 a7 I)(he:cD=cB e)(aC:aF.length≤4) :
 ∃aO,dP ag 0 aO (cy .ground) pas .nil [] aF aD (es++[e])∧Fr l ag 0 a7 aO:=by
 obtain⟨aO,dp,fZ⟩:=t.all I f pas ks al aF aD es e he g aC;exact⟨aO,dp,cF.trans fZ⟩
theorem G8{h:J}{cD:aa}{e:bl}{I:cp}{f:Nat}{pas:Bool}{ks:fY}{al aF aD:Bytes}{es:List bl}(g:dP h 0 I f pas ks al aF aD es)(he:cD=cB e)(ck:es.length<2^30)(aC:aF.length≤4):cq h ⟨0,0,0,0,6⟩ cD :=
 ⟨rfl,I,f,pas,ks,al,aF,aD,es,e,he,g,ck,aC⟩
theorem r'{a b:Nat}{p:Prop}(h:a≤b)(k:p):_root_.cond (Nat.ble a b) p False:=by rw [Nat.ble_eq.mpr h];exact k
abbrev N4(c:Int):aa:=aa.str [UInt8.ofNat (Int.toNat c)]
abbrev N5:aa:=aa.slice (cm 98) 1 1
abbrev eF(f:Nat):aa:= .func (.func f) [.ptr (aJ 0)] []
abbrev sa:aa:= .func (.func 90) [.ptr (aJ 0)] []
abbrev vx:c':=(.aI 6024 (.aI 9001 .nil .nil) (he 12004 (.aI 1007 .nil .nil)))
abbrev jE(a0 av a2 a3 n c:Int):af:=(af.an ([.int .i32 (↑(List.getD (Prod.fst (b6 a0 av a2 a3 n c)) 0 0):Int)]) 1 false (some (21,0)))
abbrev G9(a0 av a2 a3 n:Int):aa:=aa.agg [.int .u8 a0,.int .u8 av,.int .u8 a2,.int .u8 a3,.int .i64 n]
abbrev fQ(a0 av a2 a3 n c:Int):aa:=aa.agg [.int .i8 1,.int .i32 (↑(List.getD (Prod.fst (b6 a0 av a2 a3 n c)) 0 0):Int),.int .u8 0,.int .i64 0,.int .i64 0,.str []]
abbrev vy(a0 av a2 a3 n c:Int):af:=⟨[.int .i32 (↑(List.getD (Prod.fst (b6 a0 av a2 a3 n c)) 0 0):Int),.int .i32 (↑(List.getD (Prod.fst (b6 a0 av a2 a3 n c)) 1 0):Int)],1,false,false,1,0,1,some (21,0)⟩
abbrev vz(c:Int):aa:=aa.agg [.int .i8 (bl.kind (Keys.control (Int.toNat c))),.int .i32 (bl.code (Keys.control (Int.toNat c))),.int .u8 (bl.df (Keys.control (Int.toNat c))),.int .i64 (bl.x (Keys.control (Int.toNat c))),.int .i64 (bl.y (Keys.control (Int.toNat c))),.str (Keys.control (Int.toNat c)).6]
abbrev tB(a0 av a2 a3 n c:Int):aa:=aa.agg [.int .u8 (b8 (Prod.snd (b6 a0 av a2 a3 n c)) 0 a0),.int .u8 (b8 (Prod.snd (b6 a0 av a2 a3 n c)) 1 av),.int .u8 (b8 (Prod.snd (b6 a0 av a2 a3 n c)) 2 a2),.int .u8 (b8 (Prod.snd (b6 a0 av a2 a3 n c)) 3 a3),.int .i64 (↑(List.length (Prod.snd (b6 a0 av a2 a3 n c))):Int)]
abbrev x2(c:Int):af:=(af.an ([(vz c)]) 6 true (some (42,6)))
abbrev N6(pv ov:aa):aa:=aa.agg [sa,N5,pv,.bool false,.ptr (some ⟨1,0,0,0,5⟩),ov]
abbrev G'(f:Nat)(pv ov:aa):aa:=aa.agg [(eF f),.slice none 0 0,pv,.bool false,.ptr (some ⟨1,0,0,0,5⟩),ov]
abbrev tC(uty:bL)(a0 av a2 a3 n:Int):af:=⟨[(G9 a0 av a2 a3 n)],5,true,false,0,0,0,uty⟩
abbrev la(uty:bL)(a0 av a2 a3 n c:Int):af:=⟨[(tB a0 av a2 a3 n c)],5,true,false,0,0,0,uty⟩
abbrev ol(c:Int):aa:=aa.agg [.int .i8 7,.int .i32 0,.int .u8 0,.int .i64 0,.int .i64 0,(N4 c)]
abbrev Ha(pv ov:aa)(dty:bL):af:=⟨[.agg [sa,.slice (cm 97) 1 1,pv,.bool false,.ptr (some ⟨1,0,0,0,5⟩),ov]],6,true,false,0,0,0,dty⟩
abbrev x3(pv ov:aa)(dty:bL):af:=⟨[(N6 pv ov)],6,true,false,0,0,0,dty⟩
abbrev sb(f:Nat)(pv ov:aa)(dty:bL):af:=⟨[(G' f pv ov)],6,true,false,0,0,0,dty⟩
abbrev x4(pv ov:aa)(dty uty:bL)(K P O:af)(a0 av a2 a3 n c:Int):J:=(J.ar 119 [(0,(x3 pv ov dty)),(1,(la uty a0 av a2 a3 n c)),(2,K),(3,P),(4,O),(42,(cV c)),(45,(jE a0 av a2 a3 n c)),(97,af.an [.int .u8 c] 1 true),(98,af.an [.int .u8 c] 1 false (some (5,0)))])
abbrev x5(pv ov:aa)(dty uty:bL)(K P O:af)(a0 av a2 a3 n c:Int):J:=(J.ar 120 [(0,(x3 pv ov dty)),(1,(la uty a0 av a2 a3 n c)),(2,K),(3,P),(4,O),(42,(cV c)),(45,(jE a0 av a2 a3 n c)),(97,af.an [.int .u8 c] 1 true),(98,af.an [.int .u8 c] 1 false (some (5,0)))])
abbrev x6(pv ov:aa)(dty uty:bL)(K P O:af)(a0 av a2 a3 n c:Int):J:=(J.ar 119 [(0,(x3 pv ov dty)),(1,(la uty a0 av a2 a3 n c)),(2,K),(3,P),(4,O),(42,(cV c)),(45,(vy a0 av a2 a3 n c)),(86,af.an [.int .u8 c] 1 true),(97,af.an [.int .u8 c] 1 true),(98,af.an [.int .u8 c] 1 false (some (5,0)))])
abbrev x7(pv ov:aa)(dty uty:bL)(K P O:af)(a0 av a2 a3 n c:Int):J:=(J.ar 120 [(0,(x3 pv ov dty)),(1,(la uty a0 av a2 a3 n c)),(2,K),(3,P),(4,O),(42,(cV c)),(45,(vy a0 av a2 a3 n c)),(86,af.an [.int .u8 c] 1 true),(97,af.an [.int .u8 c] 1 true),(98,af.an [.int .u8 c] 1 false (some (5,0)))])
theorem X3(f:Nat)(pv ov:aa)(dty uty:bL)(K P O:af)(a0 av a2 a3 n c:Int)(ae:bI)(aW:(c<32→(0≤c∧(c<32∨c=127))∧(c=27→False)∧cq (J.ar 24 [(0,(sb f pv ov dty)),(1,(tC uty a0 av a2 a3 n)),(2,K),(3,P),(4,O),(13,(x2 c))]) ⟨0,0,0,0,6⟩ ((vz c))∧∀(jF:J),cr (J.ar 24 [(0,(sb f pv ov dty)),(1,(tC uty a0 av a2 a3 n)),(2,K),(3,P),(4,O),(13,(x2 c))]) ⟨0,0,0,0,6⟩ ((vz c)) jF→bC 5 (jF.U) (ae (.tuple []) jF))∧(¬c<32→(c=127→(0≤c∧(c<32∨c=127))∧(c=27→False)∧cq (J.ar 24 [(0,(sb f pv ov dty)),(1,(tC uty a0 av a2 a3 n)),(2,K),(3,P),(4,O),(13,(x2 c))]) ⟨0,0,0,0,6⟩ ((vz c))∧∀(jF:J),cr (J.ar 24 [(0,(sb f pv ov dty)),(1,(tC uty a0 av a2 a3 n)),(2,K),(3,P),(4,O),(13,(x2 c))]) ⟨0,0,0,0,6⟩ ((vz c)) jF→bC 5 (jF.U) (ae (.tuple []) jF))∧(¬c=127→((b6 a0 av a2 a3 n c).1=[]→ix a0 av a2 a3 n c∧(0<(↑(List.length (Prod.snd (b6 a0 av a2 a3 n c))):Int)→ae (.tuple []) (J.ar 75 [(0,⟨[.agg [sa,.slice (cm 71) 1 1,pv,.bool false,.ptr (some ⟨1,0,0,0,5⟩),ov]],6,true,false,0,0,0,dty⟩),(1,(la uty a0 av a2 a3 n c)),(2,K),(3,P),(4,O),(42,(cV c)),(70,af.an [.int .u8 c] 1 true),(71,af.an [.int .u8 c] 1 false (some (5,0)))]))∧(¬0<(↑(List.length (Prod.snd (b6 a0 av a2 a3 n c))):Int)→1<1099511627776∧(valid [UInt8.ofNat (Int.toNat c)]=true→1<1099511627776∧(valid [UInt8.ofNat (Int.toNat c)]=true→False)∧(valid [UInt8.ofNat (Int.toNat c)]=false→cq (J.ar 119 [(0,(Ha pv ov dty)),(1,(la uty a0 av a2 a3 n c)),(2,K),(3,P),(4,O),(42,(cV c)),(85,af.an [.int .u8 c] 1 true),(96,af.an [.int .u8 c] 1 true),(97,af.an [.int .u8 c] 1 false (some (5,0)))]) ⟨0,0,0,0,6⟩ ((ol c))∧∀(b5:J),cr (J.ar 119 [(0,(Ha pv ov dty)),(1,(la uty a0 av a2 a3 n c)),(2,K),(3,P),(4,O),(42,(cV c)),(85,af.an [.int .u8 c] 1 true),(96,af.an [.int .u8 c] 1 true),(97,af.an [.int .u8 c] 1 false (some (5,0)))]) ⟨0,0,0,0,6⟩ ((ol c)) b5→bC 20 (b5.U) (bC 5 (b5.U) (ae (.tuple []) b5))))∧(valid [UInt8.ofNat (Int.toNat c)]=false→((↑(List.length (Prod.snd (b6 a0 av a2 a3 n c))):Int)=0→False)∧(¬(↑(List.length (Prod.snd (b6 a0 av a2 a3 n c))):Int)=0→False))))∧(¬(b6 a0 av a2 a3 n c).1=[]→(List.length (Prod.fst (b6 a0 av a2 a3 n c))=1→ix a0 av a2 a3 n c∧(0<(↑(List.length (Prod.snd (b6 a0 av a2 a3 n c))):Int)→1<1099511627776∧(valid [UInt8.ofNat (Int.toNat c)]=true→cq (x4 pv ov dty uty K P O a0 av a2 a3 n c) ⟨0,0,0,0,6⟩ ((fQ a0 av a2 a3 n c))∧∀(cl:J),cr (x4 pv ov dty uty K P O a0 av a2 a3 n c) ⟨0,0,0,0,6⟩ ((fQ a0 av a2 a3 n c)) cl→bC 20 (cl.U) (bC 5 (cl.U) (ae (.tuple []) cl)))∧(valid [UInt8.ofNat (Int.toNat c)]=false→cq (x5 pv ov dty uty K P O a0 av a2 a3 n c) ⟨0,0,0,0,6⟩ ((ol c))∧∀(b5:J),cr (x5 pv ov dty uty K P O a0 av a2 a3 n c) ⟨0,0,0,0,6⟩ ((ol c)) b5→bC 20 (b5.U) (bC 5 (b5.U) (ae (.tuple []) b5))))∧(¬0<(↑(List.length (Prod.snd (b6 a0 av a2 a3 n c))):Int)→1<1099511627776∧(valid [UInt8.ofNat (Int.toNat c)]=true→cq (x4 pv ov dty uty K P O a0 av a2 a3 n c) ⟨0,0,0,0,6⟩ ((fQ a0 av a2 a3 n c))∧∀(cl:J),cr (x4 pv ov dty uty K P O a0 av a2 a3 n c) ⟨0,0,0,0,6⟩ ((fQ a0 av a2 a3 n c)) cl→bC 20 (cl.U) (bC 5 (cl.U) (ae (.tuple []) cl)))∧(valid [UInt8.ofNat (Int.toNat c)]=false→cq (x5 pv ov dty uty K P O a0 av a2 a3 n c) ⟨0,0,0,0,6⟩ ((ol c))∧∀(b5:J),cr (x5 pv ov dty uty K P O a0 av a2 a3 n c) ⟨0,0,0,0,6⟩ ((ol c)) b5→bC 20 (b5.U) (bC 5 (b5.U) (ae (.tuple []) b5)))))∧(¬List.length (Prod.fst (b6 a0 av a2 a3 n c))=1→ix a0 av a2 a3 n c∧(0<(↑(List.length (Prod.snd (b6 a0 av a2 a3 n c))):Int)→1<1099511627776∧(valid [UInt8.ofNat (Int.toNat c)]=true→1<1099511627776∧(valid [UInt8.ofNat (Int.toNat c)]=true→cq (x6 pv ov dty uty K P O a0 av a2 a3 n c) ⟨0,0,0,0,6⟩ ((fQ a0 av a2 a3 n c))∧∀(cl:J),cr (x6 pv ov dty uty K P O a0 av a2 a3 n c) ⟨0,0,0,0,6⟩ ((fQ a0 av a2 a3 n c)) cl→bC 20 (cl.U) (bC 5 (cl.U) (ae (.tuple []) cl)))∧(valid [UInt8.ofNat (Int.toNat c)]=false→cq (x7 pv ov dty uty K P O a0 av a2 a3 n c) ⟨0,0,0,0,6⟩ ((ol c))∧∀(b5:J),cr (x7 pv ov dty uty K P O a0 av a2 a3 n c) ⟨0,0,0,0,6⟩ ((ol c)) b5→bC 20 (b5.U) (bC 5 (b5.U) (ae (.tuple []) b5))))∧(valid [UInt8.ofNat (Int.toNat c)]=false→((↑(List.length (Prod.snd (b6 a0 av a2 a3 n c))):Int)=0→False)∧(¬(↑(List.length (Prod.snd (b6 a0 av a2 a3 n c))):Int)=0→False)))∧(¬0<(↑(List.length (Prod.snd (b6 a0 av a2 a3 n c))):Int)→1<1099511627776∧(valid [UInt8.ofNat (Int.toNat c)]=true→1<1099511627776∧(valid [UInt8.ofNat (Int.toNat c)]=true→cq (x6 pv ov dty uty K P O a0 av a2 a3 n c) ⟨0,0,0,0,6⟩ ((fQ a0 av a2 a3 n c))∧∀(cl:J),cr (x6 pv ov dty uty K P O a0 av a2 a3 n c) ⟨0,0,0,0,6⟩ ((fQ a0 av a2 a3 n c)) cl→bC 20 (cl.U) (bC 5 (cl.U) (ae (.tuple []) cl)))∧(valid [UInt8.ofNat (Int.toNat c)]=false→cq (x7 pv ov dty uty K P O a0 av a2 a3 n c) ⟨0,0,0,0,6⟩ ((ol c))∧∀(b5:J),cr (x7 pv ov dty uty K P O a0 av a2 a3 n c) ⟨0,0,0,0,6⟩ ((ol c)) b5→bC 20 (b5.U) (bC 5 (b5.U) (ae (.tuple []) b5))))∧(valid [UInt8.ofNat (Int.toNat c)]=false→((↑(List.length (Prod.snd (b6 a0 av a2 a3 n c))):Int)=0→False)∧(¬(↑(List.length (Prod.snd (b6 a0 av a2 a3 n c))):Int)=0→False)))))))) :
 b4 60 [.ptr (aJ 0),.int .u8 c] (J.of [b0 0 f 1 (.slice none 0 0) pv false ov dty,hg a0 av a2 a3 n uty,K,P,O]) ae :=
 b9 x1 (.aI 1 .nil (.aI 4 .nil (he 6002 (.aI 3006 (he 4004 (.aI 4005 .nil vx)) (.aI 3006 (he 4004 (.aI 4005 (.aI 9001 .nil .nil) (.aI 9001 .nil .nil))) (he 4004 (.aI 4005 vx vx))))))) aW
abbrev Hb:aa:=aa.slice (cm 2) 1 1
abbrev N7:aa:=aa.slice (cm 100) 2 2
abbrev N8(c:Int):aa:=aa.str [{toBitVec:= {toFin:=⟨27,Nat.mod_lt (Int.toNat (27)) (BitVec.ofNat._proof_1 8)⟩}},UInt8.ofNat (Int.toNat c)]
abbrev ie(a0 av a2 a3 n c:Int):aa:=aa.agg [.int .i8 1,.int .i32 (↑(List.getD (Prod.fst (b6 a0 av a2 a3 n c)) 0 0):Int),.int .u8 2,.int .i64 0,.int .i64 0,.str []]
abbrev vA(c:Int):aa:=aa.agg [.int .i8 (bl.kind (Keys.control (Int.toNat c))),.int .i32 (bl.code (Keys.control (Int.toNat c))),.int .u8 (b2 .u8 (bl.df (Keys.control (Int.toNat c))) (2)),.int .i64 (bl.x (Keys.control (Int.toNat c))),.int .i64 (bl.y (Keys.control (Int.toNat c))),.str (Keys.control (Int.toNat c)).6]
abbrev N9(c:Int):af:=(af.an ([(vA c)]) 6 true (some (42,6)))
abbrev N'(pv ov:aa):aa:=aa.agg [sa,N7,pv,.bool false,.ptr (some ⟨1,0,0,0,5⟩),ov]
abbrev Hc(f:Nat)(pv ov:aa):aa:=aa.agg [(eF f),Hb,pv,.bool false,.ptr (some ⟨1,0,0,0,5⟩),ov]
abbrev om(c:Int):aa:=aa.agg [.int .i8 7,.int .i32 0,.int .u8 0,.int .i64 0,.int .i64 0,(N8 c)]
abbrev Oa(pv ov:aa)(dty:bL):af:=⟨[.agg [sa,.slice (cm 99) 2 2,pv,.bool false,.ptr (some ⟨1,0,0,0,5⟩),ov]],6,true,false,0,0,0,dty⟩
abbrev x8(pv ov:aa)(dty:bL):af:=⟨[(N' pv ov)],6,true,false,0,0,0,dty⟩
abbrev tD(f:Nat)(pv ov:aa)(dty:bL):af:=⟨[(Hc f pv ov)],6,true,false,0,0,0,dty⟩
abbrev Hd(pv ov:aa)(dty uty:bL)(P O:af)(a0 av a2 a3 n c:Int):J:=(J.ar 121 [(0,(Oa pv ov dty)),(1,(la uty a0 av a2 a3 n c)),(2,af.an [.int .u8 27] 1 true),(3,P),(4,O),(44,(cV c)),(87,af.an [.int .u8 c] 1 true),(98,af.an [.int .u8 c] 1 true),(99,af.an [.int .u8 27,.int .u8 c] 1 false (some (5,0)))])
abbrev x9(f:Nat)(pv ov:aa)(dty uty:bL)(P O:af)(a0 av a2 a3 n c:Int):J:=(J.ar 29 [(0,(tD f pv ov dty)),(1,(tC uty a0 av a2 a3 n)),(2,af.an [.int .u8 27] 1 true),(3,P),(4,O),(13,(N9 c))])
abbrev x'(pv ov:aa)(dty uty:bL)(P O:af)(a0 av a2 a3 n c:Int):J:=(J.ar 121 [(0,(x8 pv ov dty)),(1,(la uty a0 av a2 a3 n c)),(2,af.an [.int .u8 27] 1 true),(3,P),(4,O),(44,(cV c)),(47,(jE a0 av a2 a3 n c)),(99,af.an [.int .u8 c] 1 true),(100,af.an [.int .u8 27,.int .u8 c] 1 false (some (5,0)))])
abbrev ya(pv ov:aa)(dty uty:bL)(P O:af)(a0 av a2 a3 n c:Int):J:=(J.ar 122 [(0,(x8 pv ov dty)),(1,(la uty a0 av a2 a3 n c)),(2,af.an [.int .u8 27] 1 true),(3,P),(4,O),(44,(cV c)),(47,(jE a0 av a2 a3 n c)),(99,af.an [.int .u8 c] 1 true),(100,af.an [.int .u8 27,.int .u8 c] 1 false (some (5,0)))])
abbrev yb(pv ov:aa)(dty uty:bL)(P O:af)(a0 av a2 a3 n c:Int):J:=(J.ar 121 [(0,(x8 pv ov dty)),(1,(la uty a0 av a2 a3 n c)),(2,af.an [.int .u8 27] 1 true),(3,P),(4,O),(44,(cV c)),(47,(vy a0 av a2 a3 n c)),(88,af.an [.int .u8 c] 1 true),(99,af.an [.int .u8 c] 1 true),(100,af.an [.int .u8 27,.int .u8 c] 1 false (some (5,0)))])
abbrev yc(pv ov:aa)(dty uty:bL)(P O:af)(a0 av a2 a3 n c:Int):J:=(J.ar 122 [(0,(x8 pv ov dty)),(1,(la uty a0 av a2 a3 n c)),(2,af.an [.int .u8 27] 1 true),(3,P),(4,O),(44,(cV c)),(47,(vy a0 av a2 a3 n c)),(88,af.an [.int .u8 c] 1 true),(99,af.an [.int .u8 c] 1 true),(100,af.an [.int .u8 27,.int .u8 c] 1 false (some (5,0)))])
theorem X4(f:Nat)(pv ov:aa)(dty uty:bL)(P O:af)(a0 av a2 a3 n c:Int)(ae:bI)(aW:(c<32→(0≤c∧(c<32∨c=127))∧(c=27→False)∧True∧cq (x9 f pv ov dty uty P O a0 av a2 a3 n c) ⟨0,0,0,0,6⟩ ((vA c))∧∀(jF:J),cr (x9 f pv ov dty uty P O a0 av a2 a3 n c) ⟨0,0,0,0,6⟩ ((vA c)) jF→bC 5 (jF.U) (ae (.tuple []) jF))∧(¬c<32→(c=127→(0≤c∧(c<32∨c=127))∧(c=27→False)∧True∧cq (x9 f pv ov dty uty P O a0 av a2 a3 n c) ⟨0,0,0,0,6⟩ ((vA c))∧∀(jF:J),cr (x9 f pv ov dty uty P O a0 av a2 a3 n c) ⟨0,0,0,0,6⟩ ((vA c)) jF→bC 5 (jF.U) (ae (.tuple []) jF))∧(¬c=127→((b6 a0 av a2 a3 n c).1=[]→ix a0 av a2 a3 n c∧(0<(↑(List.length (Prod.snd (b6 a0 av a2 a3 n c))):Int)→ae (.tuple []) (J.ar 77 [(0,⟨[.agg [sa,.slice (cm 73) 2 2,pv,.bool false,.ptr (some ⟨1,0,0,0,5⟩),ov]],6,true,false,0,0,0,dty⟩),(1,(la uty a0 av a2 a3 n c)),(2,af.an [.int .u8 27] 1 true),(3,P),(4,O),(44,(cV c)),(72,af.an [.int .u8 c] 1 true),(73,af.an [.int .u8 27,.int .u8 c] 1 false (some (5,0)))]))∧(¬0<(↑(List.length (Prod.snd (b6 a0 av a2 a3 n c))):Int)→1<1099511627776∧(valid [UInt8.ofNat (Int.toNat c)]=true→1<1099511627776∧(valid [UInt8.ofNat (Int.toNat c)]=true→False)∧(valid [UInt8.ofNat (Int.toNat c)]=false→cq (Hd pv ov dty uty P O a0 av a2 a3 n c) ⟨0,0,0,0,6⟩ ((om c))∧∀(b5:J),cr (Hd pv ov dty uty P O a0 av a2 a3 n c) ⟨0,0,0,0,6⟩ ((om c)) b5→bC 20 (b5.U) (bC 5 (b5.U) (ae (.tuple []) b5))))∧(valid [UInt8.ofNat (Int.toNat c)]=false→((↑(List.length (Prod.snd (b6 a0 av a2 a3 n c))):Int)=0→False)∧(¬(↑(List.length (Prod.snd (b6 a0 av a2 a3 n c))):Int)=0→False))))∧(¬(b6 a0 av a2 a3 n c).1=[]→(List.length (Prod.fst (b6 a0 av a2 a3 n c))=1→ix a0 av a2 a3 n c∧(0<(↑(List.length (Prod.snd (b6 a0 av a2 a3 n c))):Int)→1<1099511627776∧(valid [UInt8.ofNat (Int.toNat c)]=true→cq (x' pv ov dty uty P O a0 av a2 a3 n c) ⟨0,0,0,0,6⟩ ((ie a0 av a2 a3 n c))∧∀(cl:J),cr (x' pv ov dty uty P O a0 av a2 a3 n c) ⟨0,0,0,0,6⟩ ((ie a0 av a2 a3 n c)) cl→bC 20 (cl.U) (bC 5 (cl.U) (ae (.tuple []) cl)))∧(valid [UInt8.ofNat (Int.toNat c)]=false→cq (ya pv ov dty uty P O a0 av a2 a3 n c) ⟨0,0,0,0,6⟩ ((om c))∧∀(b5:J),cr (ya pv ov dty uty P O a0 av a2 a3 n c) ⟨0,0,0,0,6⟩ ((om c)) b5→bC 20 (b5.U) (bC 5 (b5.U) (ae (.tuple []) b5))))∧(¬0<(↑(List.length (Prod.snd (b6 a0 av a2 a3 n c))):Int)→1<1099511627776∧(valid [UInt8.ofNat (Int.toNat c)]=true→cq (x' pv ov dty uty P O a0 av a2 a3 n c) ⟨0,0,0,0,6⟩ ((ie a0 av a2 a3 n c))∧∀(cl:J),cr (x' pv ov dty uty P O a0 av a2 a3 n c) ⟨0,0,0,0,6⟩ ((ie a0 av a2 a3 n c)) cl→bC 20 (cl.U) (bC 5 (cl.U) (ae (.tuple []) cl)))∧(valid [UInt8.ofNat (Int.toNat c)]=false→cq (ya pv ov dty uty P O a0 av a2 a3 n c) ⟨0,0,0,0,6⟩ ((om c))∧∀(b5:J),cr (ya pv ov dty uty P O a0 av a2 a3 n c) ⟨0,0,0,0,6⟩ ((om c)) b5→bC 20 (b5.U) (bC 5 (b5.U) (ae (.tuple []) b5)))))∧(¬List.length (Prod.fst (b6 a0 av a2 a3 n c))=1→ix a0 av a2 a3 n c∧(0<(↑(List.length (Prod.snd (b6 a0 av a2 a3 n c))):Int)→1<1099511627776∧(valid [UInt8.ofNat (Int.toNat c)]=true→1<1099511627776∧(valid [UInt8.ofNat (Int.toNat c)]=true→cq (yb pv ov dty uty P O a0 av a2 a3 n c) ⟨0,0,0,0,6⟩ ((ie a0 av a2 a3 n c))∧∀(cl:J),cr (yb pv ov dty uty P O a0 av a2 a3 n c) ⟨0,0,0,0,6⟩ ((ie a0 av a2 a3 n c)) cl→bC 20 (cl.U) (bC 5 (cl.U) (ae (.tuple []) cl)))∧(valid [UInt8.ofNat (Int.toNat c)]=false→cq (yc pv ov dty uty P O a0 av a2 a3 n c) ⟨0,0,0,0,6⟩ ((om c))∧∀(b5:J),cr (yc pv ov dty uty P O a0 av a2 a3 n c) ⟨0,0,0,0,6⟩ ((om c)) b5→bC 20 (b5.U) (bC 5 (b5.U) (ae (.tuple []) b5))))∧(valid [UInt8.ofNat (Int.toNat c)]=false→((↑(List.length (Prod.snd (b6 a0 av a2 a3 n c))):Int)=0→False)∧(¬(↑(List.length (Prod.snd (b6 a0 av a2 a3 n c))):Int)=0→False)))∧(¬0<(↑(List.length (Prod.snd (b6 a0 av a2 a3 n c))):Int)→1<1099511627776∧(valid [UInt8.ofNat (Int.toNat c)]=true→1<1099511627776∧(valid [UInt8.ofNat (Int.toNat c)]=true→cq (yb pv ov dty uty P O a0 av a2 a3 n c) ⟨0,0,0,0,6⟩ ((ie a0 av a2 a3 n c))∧∀(cl:J),cr (yb pv ov dty uty P O a0 av a2 a3 n c) ⟨0,0,0,0,6⟩ ((ie a0 av a2 a3 n c)) cl→bC 20 (cl.U) (bC 5 (cl.U) (ae (.tuple []) cl)))∧(valid [UInt8.ofNat (Int.toNat c)]=false→cq (yc pv ov dty uty P O a0 av a2 a3 n c) ⟨0,0,0,0,6⟩ ((om c))∧∀(b5:J),cr (yc pv ov dty uty P O a0 av a2 a3 n c) ⟨0,0,0,0,6⟩ ((om c)) b5→bC 20 (b5.U) (bC 5 (b5.U) (ae (.tuple []) b5))))∧(valid [UInt8.ofNat (Int.toNat c)]=false→((↑(List.length (Prod.snd (b6 a0 av a2 a3 n c))):Int)=0→False)∧(¬(↑(List.length (Prod.snd (b6 a0 av a2 a3 n c))):Int)=0→False)))))))) :
 b4 60 [.ptr (aJ 0),.int .u8 c] (J.of [b0 0 f 1 (.slice (cm 2) 1 1) pv false ov dty,hg a0 av a2 a3 n uty,af.an [.int .u8 27] 1 true,P,O]) ae :=
 b9 x1 (.aI 1 (ak 3002 .nil) (.aI 4 (ak 3002 .nil) (he 6002 (.aI 3006 (he 4004 (.aI 4005 .nil vx)) (.aI 3006 (he 4004 (.aI 4005 (.aI 9001 .nil .nil) (.aI 9001 .nil .nil))) (he 4004 (.aI 4005 vx vx))))))) aW
theorem nv{f gb:Nat}{kv pv ov:aa}{pas X5:Bool}{ty:bL}{bj K P O:af}{a7:cp}{ks:fY}{al aF aD:Bytes}{es:List bl}(gs:dP (J.of [b0 0 f 1 kv pv pas ov ty,bj,K,P,O]) 0 a7 gb X5 ks al aF aD es) :
 jl (J.of [b0 0 f 1 kv pv pas ov ty,bj,K,P,O]) 0 a7.k kv ks al∧jm (J.of [b0 0 f 1 kv pv pas ov ty,bj,K,P,O]) 0 a7.p pv aD∧jn (J.of [b0 0 f 1 kv pv pas ov ty,bj,K,P,O]) 0 a7.o ov es:=by
 obtain⟨G3,ic,G4,G5,e0,au,ah,ao⟩:=gs.ex;rw [J.eV]at e0;simp only [List.getElem?_cons_zero,Option.some.injEq,af.an,af.mk.injEq,List.cons.injEq,aa.agg.injEq,aa.func.injEq,aa.ptr.injEq,bA.mk.injEq,true_and,and_true]at e0;obtain⟨⟨_,rfl,rfl,_,_,rfl⟩,rfl⟩:=e0;exact⟨au,ah,ao⟩
theorem Ob{l h:J}{cD:aa}{e:bl}{a7 I:cp}{f:Nat}{pas:Bool}{ks:fY}{al aF aD:Bytes}{es:List bl}{n a' bP:Nat}(aR:h.U=n)(hE:a'≤n)(kV:bP≤n)(f':dP h 0 I f pas ks al aF aD es∧Fr l h 0 a7 I)(he:cD=cB e)(ck:es.length<2^30)(aC:aF.length≤4)
 {R:J→Prop} (dX:∀ag aO,dP ag 0 aO (cy .ground) pas .nil [] aF aD (es++[e])→Fr l ag 0 a7 aO→R ag):cq h ⟨0,0,0,0,6⟩ cD∧∀ag,cr h ⟨0,0,0,0,6⟩ cD ag→_root_.cond (Nat.ble a' ag.U) (_root_.cond (Nat.ble bP ag.U) (R ag) False) False:=by
 refine⟨G8 f'.1 he ck aC,fun ag t=> ?_⟩;have:=t.U;obtain⟨aO,dp,fZ⟩:=G7 t f'.1 f'.2 he aC;exact r' ab (r' ab (dX ag aO dp fZ))
theorem tE{l h:J}{cD:aa}{e:bl}{a7 I:cp}{f:Nat}{pas:Bool}{ks:fY}{al aF aD:Bytes}{es:List bl}{n a':Nat}(aR:h.U=n)(hE:a'≤n)(f':dP h 0 I f pas ks al aF aD es∧Fr l h 0 a7 I)(he:cD=cB e)(ck:es.length<2^30)(aC:aF.length≤4)
 {R:J→Prop} (dX:∀ag aO,dP ag 0 aO (cy .ground) pas .nil [] aF aD (es++[e])→Fr l ag 0 a7 aO→R ag):cq h ⟨0,0,0,0,6⟩ cD∧∀ag,cr h ⟨0,0,0,0,6⟩ cD ag→_root_.cond (Nat.ble a' ag.U) (R ag) False:=by
 refine⟨G8 f'.1 he ck aC,fun ag t=> ?_⟩;have:=t.U;obtain⟨aO,dp,fZ⟩:=G7 t f'.1 f'.2 he aC;exact r' ab (dX ag aO dp fZ)
theorem pr{l h:J}{a7 I:cp}{s:bK}{ks:fY}{es:List bl}(f':dP h 0 I (cy s.nx) (decide (s.nx=.cK)) ks s.al s.aF s.aD es∧Fr l h 0 a7 I)(gA:qs s.nx ks s.al):∃aO,ci h 0 aO s es∧Fr l h 0 a7 aO:=⟨I,⟨ks,f'.1,gA⟩,f'.2⟩
theorem yd{h:J}{I:cp}{aF aD:Bytes}{es:List bl}(g:dP h 0 I (cy .ground) false .nil [] aF aD es):ci h 0 I ⟨.ground,[],aF,aD⟩ es:=⟨.nil,g,trivial⟩
theorem Oc{c:UInt8}(h:c≠27):c.toNat≠27:=fun e=>h (UInt8.toNat_inj.1 e)
theorem X6(aD:Bytes){c:UInt8}(ji:c≠27)(h:c.toNat<32∨c.toNat=127):Keys.ground ⟨.ground,[],[],aD⟩ c=(⟨.ground,[],[],aD⟩,[control c.toNat]):=by simp [Keys.ground,ji,iv,h,tell]
theorem X7(aD:Bytes){c:UInt8}(ji:c≠27)(h:¬(c.toNat<32∨c.toNat=127))(aB:b' [] c=([],[c])):Keys.ground ⟨.ground,[],[],aD⟩ c=(⟨.da,[c],[c],aD⟩,[]):=by simp [Keys.ground,ji,iv,h,gv,aB]
theorem X8(aD:Bytes){c:UInt8}(ji:c≠27)(h:¬(c.toNat<32∨c.toNat=127)){r:Nat}(aB:b' [] c=([r],[])):Keys.ground ⟨.ground,[],[],aD⟩ c=(⟨.ground,[],[],aD⟩,[if valid [c]=true then fi r else gM [c]]):=by by_cases bh:valid [c]=true<;>simp [Keys.ground,ji,iv,h,gv,aB,at',bh,tell]
theorem Od(c:UInt8):b' [] c=([],[c])∨ ∃r,b' [] c=([r],[]):=by
 rcases jW c.toNat with h|h|h|h|h
 ·exact .inr ⟨_,lK c h⟩
 ·exact .inr ⟨_,lL c h⟩
 ·exact .inl (e' c 0 h)
 ·exact .inl (e' c 1 h)
 ·exact .inl (e' c 2 h)
theorem Oe(j0 j1 j2 j3:Int)(c:UInt8):b6 j0 j1 j2 j3 0 c.toNat=b' [] c:=by unfold b6 og;rw [vw];rfl
theorem Of(j0 j1 j2 j3:Int)(c:UInt8):ix j0 j1 j2 j3 0 c.toNat :=
 ⟨ab,ab,ab,ab,by have:=c.toNat_lt;omega,.inl rfl⟩
theorem Og:1<1099511627776:= aS
theorem pt(c:UInt8):UInt8.ofNat (Int.toNat (c.toNat:Int))=c:= aM
theorem X9{f:Nat}{pv ov:aa}{ty uty:bL}{K P O:af}{a7:cp}{aD:Bytes}{es:List bl}{j0 j1 j2 j3:Int}(gs:dP (J.of [b0 0 f 1 (.slice none 0 0) pv false ov ty,cb [] j0 j1 j2 j3 uty,K,P,O]) 0 a7 f false .nil [] [] aD es)
 (cL:a7.u=1∧(a7.k=0∨a7.k=2)∧(a7.p=0∨a7.p=3)∧(a7.o=0∨a7.o=4)) (c:UInt8) (ji:c≠27) (ck:es.length<2^30) :
 ∃ag,bS 60 [.ptr (some ⟨0,0,0,0,6⟩),.int .u8 c.toNat] (J.of [b0 0 f 1 (.slice none 0 0) pv false ov ty,cb [] j0 j1 j2 j3 uty,K,P,O]) (.tuple []) ag ∧
  ∃aO,ci ag 0 aO (Keys.ground ⟨.ground,[],[],aD⟩ c).1 (es++(Keys.ground ⟨.ground,[],[],aD⟩ c).2)∧Fr (J.of [b0 0 f 1 (.slice none 0 0) pv false ov ty,cb [] j0 j1 j2 j3 uty,K,P,O]) ag 0 a7 aO:=by
 obtain⟨au,ah,ao⟩:=nv gs;have aw:=c.toNat_lt;have aR:=Oc ji
 obtain ⟨v,ag,aE,rfl,q⟩:=X3 f pv ov ty uty K P O j0 j1 j2 j3 0 c.toNat (fun v ag=>v=.tuple []∧∃aO,ci ag 0 aO (Keys.ground ⟨.ground,[],[],aD⟩ c).1 (es++(Keys.ground ⟨.ground,[],[],aD⟩ c).2)∧Fr (J.of [b0 0 f 1 (.slice none 0 0) pv false ov ty,cb [] j0 j1 j2 j3 uty,K,P,O]) ag 0 a7 aO) (by
  delta ol N4 x7 vy cV la tB x3 N6 N5 sa fQ x6 x5 jE x4 Ha vz x2 tC G9 sb G' eF
  have ye:(c.toNat<32∨c.toNat=127)→ ∀ag aO,dP ag 0 aO (cy .ground) false .nil [] [] aD (es++[control c.toNat])→Fr (J.of [b0 0 f 1 (.slice none 0 0) pv false ov ty,cb [] j0 j1 j2 j3 uty,K,P,O]) ag 0 a7 aO→aa.tuple []=.tuple []∧∃aO,ci ag 0 aO (Keys.ground ⟨.ground,[],[],aD⟩ c).1 (es++(Keys.ground ⟨.ground,[],[],aD⟩ c).2)∧Fr (J.of [b0 0 f 1 (.slice none 0 0) pv false ov ty,cb [] j0 j1 j2 j3 uty,K,P,O]) ag 0 a7 aO :=
   fun kX ag aO dp fZ=>⟨rfl,aO,by rw [X6 aD ji kX];exact yd dp,fZ⟩
  refine⟨fun ac=>⟨ab,ab,?_⟩,fun ac=>⟨fun ai=>⟨ab,ab,?_⟩,fun ai=> ?_⟩⟩
  ·exact tE (n:=24) (e:=control c.toNat) (I:=⟨1,0,a7.p,a7.o⟩) (f:=f) (pas:=false) (ks:= .nil) (al:=[]) (aF:=[]) rfl aS (iy (n:=24) (j0:=j0) (j1:=j1) (j2:=j2) (j3:=j3) (kv:= .slice none 0 0) (pv:=pv) (ov:=ov) (ty:=ty) (uty:=uty) rfl aS ay ay (.inl ay) ay ay (BW _) aS ah ao cL (.inl rfl)) (by rw [Int.toNat_natCast];rfl) ck aS (ye ab)
  ·exact tE (n:=24) (e:=control c.toNat) (I:=⟨1,0,a7.p,a7.o⟩) (f:=f) (pas:=false) (ks:= .nil) (al:=[]) (aF:=[]) rfl aS (iy (n:=24) (j0:=j0) (j1:=j1) (j2:=j2) (j3:=j3) (kv:= .slice none 0 0) (pv:=pv) (ov:=ov) (ty:=ty) (uty:=uty) rfl aS ay ay (.inl ay) ay ay (BW _) aS ah ao cL (.inl rfl)) (by rw [Int.toNat_natCast];rfl) ck aS (ye ab)
  ·have yf:¬(c.toNat<32∨c.toNat=127):= ab;rw [Oe,pt];have pre:=Of j0 j1 j2 j3 c;rcases Od c with aB|⟨r,aB⟩
   ·rw [aB];refine⟨fun _=>⟨pre,fun _=>⟨rfl,?_⟩,fun e=>absurd aM e⟩,fun e=>absurd rfl e⟩;rw [X7 aD ji yf aB,List.append_nil]
    exact pr (s:=⟨.da,[c],[c],aD⟩) (iy (n:=75) (k:=71) (j0:=j0) (j1:=j1) (j2:=j2) (j3:=j3) (kv:= .slice (some ⟨71,0,0,0,1⟩) 1 1) (pv:=pv) (ov:=ov) (ty:=ty) (uty:=uty) rfl aS ay ay (.inl ay) ay ay
     (oj (es:=[.int .u8 c.toNat]) (ad:=0) (m:=0) (f:=0) aS rfl rfl ay) aS ah ao cL (.inr (.inl aS))) (by simp [qs])
   ·rw [aB]
    have one:∀(n:Nat)(h:J)(cD:aa)(e:bl),h.U=n→75≤n→h.get 0=some (b0 0 90 1 (.slice (some ⟨98,0,0,0,1⟩) 1 1) pv false ov ty)→h.get 1=some (cb [] j0 j1 j2 j3 uty)→h.get 2=some K→h.get 3=some P→h.get 4=some O→h.get 98=some (af.an [.int .u8 c.toNat] 1 false cA)→98<n→cD=cB e →
     (if valid [c]=true then fi r else gM [c])=e →
     cq h ⟨0,0,0,0,6⟩ cD∧∀ag,cr h ⟨0,0,0,0,6⟩ cD ag→_root_.cond (Nat.ble 20 ag.U) (_root_.cond (Nat.ble 5 ag.U) (aa.tuple []=.tuple []∧∃aO,ci ag 0 aO (Keys.ground ⟨.ground,[],[],aD⟩ c).1 (es++(Keys.ground ⟨.ground,[],[],aD⟩ c).2)∧Fr (J.of [b0 0 f 1 (.slice none 0 0) pv false ov ty,cb [] j0 j1 j2 j3 uty,K,P,O]) ag 0 a7 aO) False) False:=by
     intro n h cD e aR ahC e0 bi bu b7 cc iw X' he He;rw [X8 aD ji yf aB,He];exact Ob aR ab ab (iy (k:=98) aR ab e0 bi (.inl bu) b7 cc (oj (l:=[c]) aS rfl rfl iw) X' ah ao cL (.inr (.inl aS))) he ck aS fun ag aO dp fZ=>⟨rfl,pr (s:=⟨.ground,[],[],aD⟩) ⟨dp,fZ⟩ trivial⟩
    refine⟨fun e=>absurd e aM,fun _=>⟨fun _=>⟨pre,fun e=>absurd e aM,fun _=>⟨Og,fun bh=> ?_,fun bh=> ?_⟩⟩,fun e=>absurd rfl e⟩⟩
    ·exact one 119 _ _ (fi r) rfl aS ay ay ay ay ay ay aS rfl (by rw [if_pos bh])
    ·exact one 120 _ _ (gM [c]) rfl aS ay ay ay ay ay ay aS rfl (by rw [if_neg (by rw [bh];decide)]))
 exact⟨ag,aE,q⟩
def tF(e:bl):bl:= {e with df:=e.df+2}
theorem Ya(n:Nat):(control n).df=0∨(control n).df=4:=by
 unfold Keys.control
 repeat' split
 all_goals simp [er,fi]
theorem Oh(n:Nat):aa.agg [.int .i8 (control n).kind,.int .i32 (control n).code,.int .u8 (b2 .u8 (control n).df 2),.int .i64 (control n).x,.int .i64 (control n).y,.str (control n).text]=cB (tF (control n)):=by unfold cB tF;rcases Ya n with h|h<;>rw [h]<;>rfl
theorem Yb(aD:Bytes){c:UInt8}(h:c.toNat<32∨c.toNat=127):Keys.plain ⟨.dj,[27],[],aD⟩ c=(⟨.ground,[],[],aD⟩,[tF (control c.toNat)]):=by simp [Keys.plain,iv,h,tell,tF]
theorem Yc(aD:Bytes){c:UInt8}(h:¬(c.toNat<32∨c.toNat=127))(aB:b' [] c=([],[c])):Keys.plain ⟨.dj,[27],[],aD⟩ c=(⟨.da,[27,c],[c],aD⟩,[]):=by simp [Keys.plain,iv,h,gv,aB]
theorem Yd(aD:Bytes){c:UInt8}(h:¬(c.toNat<32∨c.toNat=127)){r:Nat}(aB:b' [] c=([r],[])):Keys.plain ⟨.dj,[27],[],aD⟩ c=(⟨.ground,[],[],aD⟩,[if valid [c]=true then fi r 2 else gM [27,c]]):=by by_cases bh:valid [c]=true<;>simp [Keys.plain,iv,h,gv,aB,at',bh,tell]
theorem Ye{f:Nat}{pv ov:aa}{ty uty:bL}{P O:af}{a7:cp}{aD:Bytes}{es:List bl}{j0 j1 j2 j3:Int}(gs:dP (J.of [b0 0 f 1 (.slice (some ⟨2,0,0,0,1⟩) 1 1) pv false ov ty,cb [] j0 j1 j2 j3 uty,af.an [.int .u8 27] 1 true,P,O]) 0 a7 f false .one [27] [] aD es)
 (cL:a7.u=1∧(a7.k=0∨a7.k=2)∧(a7.p=0∨a7.p=3)∧(a7.o=0∨a7.o=4)) (c:UInt8) (ji:c≠27) (ck:es.length<2^30) :
 ∃ag,bS 60 [.ptr (some ⟨0,0,0,0,6⟩),.int .u8 c.toNat] (J.of [b0 0 f 1 (.slice (some ⟨2,0,0,0,1⟩) 1 1) pv false ov ty,cb [] j0 j1 j2 j3 uty,af.an [.int .u8 27] 1 true,P,O]) (.tuple []) ag ∧
  ∃aO,ci ag 0 aO (Keys.plain ⟨.dj,[27],[],aD⟩ c).1 (es++(Keys.plain ⟨.dj,[27],[],aD⟩ c).2)∧Fr (J.of [b0 0 f 1 (.slice (some ⟨2,0,0,0,1⟩) 1 1) pv false ov ty,cb [] j0 j1 j2 j3 uty,af.an [.int .u8 27] 1 true,P,O]) ag 0 a7 aO:=by
 obtain⟨au,ah,ao⟩:=nv gs;have cn:a7.k=2:=by have:=au.1;omega
 have aw:=c.toNat_lt;have aR:=Oc ji
 obtain ⟨v,ag,aE,rfl,q⟩:=X4 f pv ov ty uty P O j0 j1 j2 j3 0 c.toNat (fun v ag=>v=.tuple []∧∃aO,ci ag 0 aO (Keys.plain ⟨.dj,[27],[],aD⟩ c).1 (es++(Keys.plain ⟨.dj,[27],[],aD⟩ c).2)∧Fr (J.of [b0 0 f 1 (.slice (some ⟨2,0,0,0,1⟩) 1 1) pv false ov ty,cb [] j0 j1 j2 j3 uty,af.an [.int .u8 27] 1 true,P,O]) ag 0 a7 aO) (by
  delta om N8 yc vy cV la tB x8 N' N7 sa ie yb ya jE x' Hd Oa vA x9 N9 tC G9 tD Hc Hb eF
  have ye:(c.toNat<32∨c.toNat=127)→ ∀ag aO,dP ag 0 aO (cy .ground) false .nil [] [] aD (es++[tF (control c.toNat)])→Fr (J.of [b0 0 f 1 (.slice (some ⟨2,0,0,0,1⟩) 1 1) pv false ov ty,cb [] j0 j1 j2 j3 uty,af.an [.int .u8 27] 1 true,P,O]) ag 0 a7 aO→aa.tuple []=.tuple []∧∃aO,ci ag 0 aO (Keys.plain ⟨.dj,[27],[],aD⟩ c).1 (es++(Keys.plain ⟨.dj,[27],[],aD⟩ c).2)∧Fr (J.of [b0 0 f 1 (.slice (some ⟨2,0,0,0,1⟩) 1 1) pv false ov ty,cb [] j0 j1 j2 j3 uty,af.an [.int .u8 27] 1 true,P,O]) ag 0 a7 aO :=
   fun kX ag aO dp fZ=>⟨rfl,aO,by rw [Yb aD kX];exact yd dp,fZ⟩
  refine⟨fun ac=>⟨ab,ab,trivial,?_⟩,fun ac=>⟨fun ai=>⟨ab,ab,trivial,?_⟩,fun ai=> ?_⟩⟩
  ·exact tE (n:=29) (e:=tF (control c.toNat)) (I:=⟨1,2,a7.p,a7.o⟩) (f:=f) (pas:=false) (ks:= .one) (al:=[27]) (aF:=[]) rfl aS (iy (n:=29) (j0:=j0) (j1:=j1) (j2:=j2) (j3:=j3) (kv:= .slice (some ⟨2,0,0,0,1⟩) 1 1) (pv:=pv) (ov:=ov) (ty:=ty) (uty:=uty) rfl aS ay ay (.inl ay) ay ay ⟨aS,rfl,ay,rfl⟩ aS ah ao cL (.inr (.inr ⟨rfl,cn⟩))) (by rw [Int.toNat_natCast];exact Oh _) ck aS (ye ab)
  ·exact tE (n:=29) (e:=tF (control c.toNat)) (I:=⟨1,2,a7.p,a7.o⟩) (f:=f) (pas:=false) (ks:= .one) (al:=[27]) (aF:=[]) rfl aS (iy (n:=29) (j0:=j0) (j1:=j1) (j2:=j2) (j3:=j3) (kv:= .slice (some ⟨2,0,0,0,1⟩) 1 1) (pv:=pv) (ov:=ov) (ty:=ty) (uty:=uty) rfl aS ay ay (.inl ay) ay ay ⟨aS,rfl,ay,rfl⟩ aS ah ao cL (.inr (.inr ⟨rfl,cn⟩))) (by rw [Int.toNat_natCast];exact Oh _) ck aS (ye ab)
  ·have yf:¬(c.toNat<32∨c.toNat=127):= ab;rw [Oe,pt];have pre:=Of j0 j1 j2 j3 c;rcases Od c with aB|⟨r,aB⟩
   ·rw [aB];refine⟨fun _=>⟨pre,fun _=>⟨rfl,?_⟩,fun e=>absurd aM e⟩,fun e=>absurd rfl e⟩;rw [Yc aD yf aB,List.append_nil]
    exact pr (s:=⟨.da,[27,c],[c],aD⟩) (iy (n:=77) (k:=73) (j0:=j0) (j1:=j1) (j2:=j2) (j3:=j3) (kv:= .slice (some ⟨73,0,0,0,1⟩) 2 2) (pv:=pv) (ov:=ov) (ty:=ty) (uty:=uty) rfl aS ay ay (.inl ay) ay ay
     (oj (es:=[.int .u8 27,.int .u8 c.toNat]) (ad:=0) (m:=0) (f:=0) aS rfl rfl ay) aS ah ao cL (.inr (.inl aS))) (by simp [qs])
   ·rw [aB]
    have one:∀(n:Nat)(h:J)(cD:aa)(e:bl),h.U=n→77≤n→h.get 0=some (b0 0 90 1 (.slice (some ⟨100,0,0,0,1⟩) 2 2) pv false ov ty)→h.get 1=some (cb [] j0 j1 j2 j3 uty)→h.get 2=some (af.an [.int .u8 27] 1 true)→h.get 3=some P→h.get 4=some O→h.get 100=some (af.an [.int .u8 27,.int .u8 c.toNat] 1 false cA)→100<n→cD=cB e →
     (if valid [c]=true then fi r 2 else gM [27,c])=e →
     cq h ⟨0,0,0,0,6⟩ cD∧∀ag,cr h ⟨0,0,0,0,6⟩ cD ag→_root_.cond (Nat.ble 20 ag.U) (_root_.cond (Nat.ble 5 ag.U) (aa.tuple []=.tuple []∧∃aO,ci ag 0 aO (Keys.plain ⟨.dj,[27],[],aD⟩ c).1 (es++(Keys.plain ⟨.dj,[27],[],aD⟩ c).2)∧Fr (J.of [b0 0 f 1 (.slice (some ⟨2,0,0,0,1⟩) 1 1) pv false ov ty,cb [] j0 j1 j2 j3 uty,af.an [.int .u8 27] 1 true,P,O]) ag 0 a7 aO) False) False:=by
     intro n h cD e aR ahD e0 bi bu b7 cc iw Yf he He;rw [Yd aD yf aB,He];exact Ob aR ab ab (iy (k:=100) aR ab e0 bi (.inl bu) b7 cc (oj (l:=[27,c]) aS rfl rfl iw) Yf ah ao cL (.inr (.inl aS))) he ck aS fun ag aO dp fZ=>⟨rfl,pr (s:=⟨.ground,[],[],aD⟩) ⟨dp,fZ⟩ trivial⟩
    refine⟨fun e=>absurd e aM,fun _=>⟨fun _=>⟨pre,fun e=>absurd e aM,fun _=>⟨Og,fun bh=> ?_,fun bh=> ?_⟩⟩,fun e=>absurd rfl e⟩⟩
    ·exact one 121 _ _ (fi r 2) rfl aS ay ay ay ay ay ay aS rfl (by rw [if_pos bh])
    ·exact one 122 _ _ (gM [27,c]) rfl aS ay ay ay ay ay ay aS rfl (by rw [if_neg (by rw [bh];decide)]))
 exact⟨ag,aE,q⟩
theorem ci.pn{ag aQ:J}{r:Nat→Nat}(bc:∀i b,ag.get i=some b→aQ.get (r i)=some (b.bg r))(iu:∀i j,r i=r j→i=j)(cG:∀i,i<ag.U→r i<aQ.U){d:Nat}{I:cp}{s:bK}{es:List bl}(g:ci ag d I s es):ci aQ (r d) (I.map r) s es:=by obtain⟨ks,g,hs⟩:=g;exact⟨ks,g.pn bc iu cG,hs⟩
theorem tG{fn:FuncId}{s bG:bK}{es Hf:List bl}{c:UInt8}
 (small:∀ks kv pv ov ty uty j0 j1 j2 j3 K P O a7,qs s.nx ks s.al→dP (J.of [b0 0 (cy s.nx) 1 kv pv (decide (s.nx=.cK)) ov ty,cb s.aF j0 j1 j2 j3 uty,K,P,O]) 0 a7 (cy s.nx) (decide (s.nx=.cK)) ks s.al s.aF s.aD es→(a7.u=1∧(a7.k=0∨a7.k=2)∧(a7.p=0∨a7.p=3)∧(a7.o=0∨a7.o=4)) →
  ∃ag,bS fn [.ptr (some ⟨0,0,0,0,6⟩),.int .u8 c.toNat] (J.of [b0 0 (cy s.nx) 1 kv pv (decide (s.nx=.cK)) ov ty,cb s.aF j0 j1 j2 j3 uty,K,P,O]) (.tuple []) ag∧∃aO,ci ag 0 aO bG Hf∧Fr (J.of [b0 0 (cy s.nx) 1 kv pv (decide (s.nx=.cK)) ov ty,cb s.aF j0 j1 j2 j3 uty,K,P,O]) ag 0 a7 aO)
 {H:J} {d:Nat} {I:cp} (g:ci H d I s es):∃aQ,bS fn [.ptr (some ⟨d,0,0,0,6⟩),.int .u8 c.toNat] H (.tuple []) aQ∧∃aO,ci aQ d aO bG Hf∧Fr H aQ d I aO:=by
 obtain⟨ks,g,hs⟩:=g;exact g.lift (Q:=fun h d I=>ci h d I bG Hf) (fun a aT=>by rw [List.mem_singleton.1 aT];exact cU.int _ _) (cU.of rfl) (fun ag aQ r d I bc iu cG q=>q.pn bc iu cG) fun kv pv ov ty uty j0 j1 j2 j3 K P O a7 gs cL=>small ks kv pv ov ty uty j0 j1 j2 j3 K P O a7 hs gs cL
def sc(s:bK)(c:UInt8):bK×List bl:=match s.nx with|.ground=>Keys.ground s c|_=>Keys.plain s c
def yg(s:bK)(c:UInt8):Prop:=s.aF=[]∧c≠27∧(s.nx=.ground∨s.nx=.dj)
theorem Yg{H:J}{d:Nat}{I:cp}{s:bK}{es:List bl}{c:UInt8}(g:ci H d I s es)(ck:es.length<2^30)(dX:yg s c):∃aQ,bS 60 [.ptr (some ⟨d,0,0,0,6⟩),.int .u8 c.toNat] H (.tuple []) aQ ∧
 ∃aO,ci aQ d aO (sc s c).1 (es++(sc s c).2)∧Fr H aQ d I aO:=by
 refine tG ?_ g;intro ks kv pv ov ty uty j0 j1 j2 j3 K P O a7 hs gs cL;obtain⟨au,ah,ao⟩:=nv gs;obtain⟨nx,al,aF,aD⟩:=s;obtain⟨ac,ji,ai⟩:=dX;simp only at ac ai hs gs au ah ao⊢;subst ac;rcases ai with rfl|rfl
 ·cases ks with
  |nil =>
   obtain⟨rfl,rfl,_⟩:=au;exact X9 gs cL c ji ck
  |one=>exact hs.elim
  |grown j=>exact hs.elim
 ·cases ks with
  |one =>
   obtain⟨kE,rfl,c8,rfl⟩:=au;have:a7.k=2:= ab;rw [this,J.eV]at c8;simp only [List.getElem?_cons_zero,List.getElem?_cons_succ,Option.some.injEq]at c8;subst c8;rw [this]at gs⊢;exact Ye gs cL c ji ck
  |nil=>exact hs.elim
  |grown j=>exact hs.elim
theorem Yh:∀args h a,j5 (2^30-4) yg sc args h=some a→a.dt Tryz.prog cX 60 args h:=r9 fun H d I s es c g ck aC dX=>Yg g ab dX
noncomputable def Oi:e1:=BV.add 60 (j5 (2^30-4) yg sc)
theorem Oj:eJ Tryz.prog cX Oi:=x1.add Yh
theorem Yi(f:Nat)(pv ov:aa)(dty:bL)(bj K P O:af)(c:Int)(ae:bI)(aW:(c=27→ae (.tuple []) (J.ar 19 [(0,⟨[.agg [.func (.func 59) [.ptr (aJ 0)] [],.slice (cm 9) 1 1,pv,.bool false,.ptr (some ⟨1,0,0,0,5⟩),ov]],6,true,false,0,0,0,dty⟩),(1,bj),(2,K),(3,P),(4,O),(9,af.an [.int .u8 c] 1 true)]))∧(¬c=27→dA (2^30-4) yg (J.ar 10 [(0,(sb f pv ov dty)),(1,bj),(2,K),(3,P),(4,O)]) ⟨0,0,0,0,6⟩ c∧∀(pu:J),dB sc (J.ar 10 [(0,(sb f pv ov dty)),(1,bj),(2,K),(3,P),(4,O)]) ⟨0,0,0,0,6⟩ c pu→bC 5 (pu.U) (ae (.tuple []) pu))) :
 b4 30 [.ptr (aJ 0),.int .u8 c] (J.of [b0 0 f 1 (.slice none 0 0) pv false ov dty,bj,K,P,O]) ae :=
 b9 Oj (.aI 1 .nil .nil) aW
theorem yh{l h:J}{R:bK→UInt8→Prop}{F:bK→UInt8→bK×List bl}{a7 I:cp}{s:bK}{es:List bl}{c:UInt8}{n a' N:Nat}(aR:h.U=n)(hE:a'≤n)(f':ci h 0 I s es∧Fr l h 0 a7 I)(ck:es.length<N)(aC:s.aF.length≤4)(bc:R s c)
 {Q:J→Prop} (eD:∀ag aO,ci ag 0 aO (F s c).1 (es++(F s c).2)→Fr l ag 0 a7 aO→Q ag):dA N R h ⟨0,0,0,0,6⟩ c.toNat∧∀ag,dB F h ⟨0,0,0,0,6⟩ c.toNat ag→_root_.cond (Nat.ble a' ag.U) (Q ag) False:=by
 have aw:=c.toNat_lt;refine⟨⟨rfl,⟨I,s,es,f'.1,ck,aC,by rw [vw];exact bc⟩,ab⟩,fun ag t=> ?_⟩;have:=t.U;obtain⟨aO,dp,fZ⟩:=t.all I s es f'.1 aC;rw [vw]at dp;exact r' ab (eD ag aO dp (f'.2.trans fZ))
theorem BX{l h:J}{a7 I:cp}{s:bK}{ks:fY}{es:List bl}(f':dP h 0 I (cy s.nx) (decide (s.nx=.cK)) ks s.al s.aF s.aD es∧Fr l h 0 a7 I)(gA:qs s.nx ks s.al):ci h 0 I s es∧Fr l h 0 a7 I:=⟨⟨ks,f'.1,gA⟩,f'.2⟩
def mz(s:bK)(c:UInt8):Prop:=s.aF=[]∧s.nx=.ground
theorem Yj{H:J}{d:Nat}{I:cp}{s:bK}{es:List bl}{c:UInt8}(g:ci H d I s es)(ck:es.length<2^30-4)(dX:mz s c):∃aQ,bS 30 [.ptr (some ⟨d,0,0,0,6⟩),.int .u8 c.toNat] H (.tuple []) aQ ∧
 ∃aO,ci aQ d aO (Keys.ground s c).1 (es++(Keys.ground s c).2)∧Fr H aQ d I aO:=by
 refine tG ?_ g;intro ks kv pv ov ty uty j0 j1 j2 j3 K P O a7 hs gs cL;obtain⟨au,ah,ao⟩:=nv gs;obtain⟨nx,al,aF,aD⟩:=s;obtain⟨ac,ai⟩:=dX;simp only at ac ai hs gs au ah ao⊢;subst ac ai;cases ks with
 |one=>exact hs.elim
 |grown j=>exact hs.elim
 |nil =>
  obtain⟨rfl,rfl,_⟩:=au
  obtain⟨v,ag,aE,rfl,q⟩:=Yi (cy .ground) pv ov ty (cb [] j0 j1 j2 j3 uty) K P O c.toNat (fun v ag=>v=.tuple []∧∃aO,ci ag 0 aO (Keys.ground ⟨.ground,[],[],aD⟩ c).1 (es++(Keys.ground ⟨.ground,[],[],aD⟩ c).2)∧Fr (J.of [b0 0 (cy .ground) 1 (.slice none 0 0) pv false ov ty,cb [] j0 j1 j2 j3 uty,K,P,O]) ag 0 a7 aO) (by
   delta sb G' eF
   refine⟨fun e=>⟨rfl,?_⟩,fun e=> ?_⟩
   ·have aw:c=27:=UInt8.toNat_inj.1 (by show c.toNat=27;omega);rw [show Keys.ground ⟨.ground,[],[],aD⟩ c=(⟨.dj,[27],[],aD⟩,[])by simp [Keys.ground,aw],List.append_nil]
    exact pr (s:=⟨.dj,[27],[],aD⟩) (iy (n:=19) (k:=9) (ks:= .one) (j0:=j0) (j1:=j1) (j2:=j2) (j3:=j3) (kv:= .slice (some ⟨9,0,0,0,1⟩) 1 1) (pv:=pv) (ov:=ov) (ty:=ty) (uty:=uty) rfl aS ay ay (.inl ay) ay ay
     ⟨aS,rfl,by rw [←e];kernel_rfl,rfl⟩ aS ah ao cL (.inr (.inl aS))) trivial
   ·have aw:c≠27:=by rintro rfl;exact e rfl
    refine yh (s:=⟨.ground,[],[],aD⟩) (I:=⟨1,0,a7.p,a7.o⟩) (n:=10) rfl aS (BX (ks:= .nil) (iy (n:=10) (k:=0) (j0:=j0) (j1:=j1) (j2:=j2) (j3:=j3) (kv:= .slice none 0 0) (pv:=pv) (ov:=ov) (ty:=ty) (uty:=uty) rfl aS ay ay (.inl ay) ay ay (BW _) aS ah ao cL (.inl rfl)) trivial) ck aM ⟨rfl,aw,.inl rfl⟩ fun ag aO dp fZ=>⟨rfl,aO,dp,fZ⟩)
  exact⟨ag,aE,q⟩
theorem Yk:∀args h a,j5 (2^30-4) mz Keys.ground args h=some a→a.dt Tryz.prog cX 30 args h:=r9 fun H d I s es c g ck aC dX=>Yj g ck dX
noncomputable def Ok:e1:=Oi.add 30 (j5 (2^30-4) mz Keys.ground)
theorem BY:eJ Tryz.prog cX Ok:=Oj.add Yk
abbrev ee(l:List aa)(ad m aG:Nat):af:=⟨l,1,false,false,ad,m,aG,some (5,0)⟩
abbrev Hg(l:List aa)(n:Nat):aa:=aa.agg [.int .i8 7,.int .i32 0,.int .u8 0,.int .i64 0,.int .i64 0,.str (strOf (List.take n l))]
abbrev Hh(f:Nat)(pv ov:aa)(dty:bL)(ad n:Nat):af:=⟨[.agg [(eF f),.slice (some ⟨2,ad,0,0,1⟩) n n,pv,.bool false,.ptr (some ⟨1,0,0,0,5⟩),ov]],6,true,false,0,0,0,dty⟩
theorem Yl(f:Nat)(pv ov:aa)(dty:bL)(bj P O:af)(l:List aa)(ad m aG n:Nat)(c:Int)(ae:bI)(aW:ad=ad∧0+n≤List.length l∧(∃b3,List.take n (List.drop (bA.idx ⟨2,ad,0,0,1⟩) (af.bk (ee l ad m aG)))=aN b3)∧cq (J.ar 13 [(0,(Hh f pv ov dty ad n)),(1,bj),(2,(ee l ad m aG)),(3,P),(4,O)]) ⟨0,0,0,0,6⟩ ((Hg l n))∧∀(cE:J),cr (J.ar 13 [(0,(Hh f pv ov dty ad n)),(1,bj),(2,(ee l ad m aG)),(3,P),(4,O)]) ⟨0,0,0,0,6⟩ ((Hg l n)) cE→bd 5 (cE.U) (bM env.D 66 ⟨0,0,0,0,6⟩ (J.mk (cE.U+6) (cE.2))=some (.func (.func 30) [.ptr (aJ 0)] [])∧dA (2^30-4) mz (J.mk (cE.U+6) (J.aH cE)) ⟨0,0,0,0,6⟩ c∧∀(Hi:J),dB ground (J.mk (cE.U+6) (J.aH cE)) ⟨0,0,0,0,6⟩ c Hi→bC 5 (Hi.U) (ae (.tuple []) Hi))) :
 b4 106 [.ptr (aJ 0),.int .u8 c] (J.of [b0 0 f 1 (.slice (some ⟨2,ad,0,0,1⟩) n n) pv false ov dty,bj,ct l 1 ad m aG cA,P,O]) ae :=
 b9 BY (ak 5 (.az (.val 1003 (.func (.func 30) [.ptr (aJ 0)] [])) .nil)) aW
abbrev fL:aa:=aa.agg [.int .i8 2,.int .i32 4,.int .u8 0,.int .i64 0,.int .i64 0,.str []]
theorem Ym(f:Nat)(pv ov:aa)(dty:bL)(bj P O:af)(c:Int)(ae:bI)(aW:(c=27→cq (J.ar 11 [(0,(tD f pv ov dty)),(1,bj),(2,af.an [.int .u8 27] 1 true),(3,P),(4,O)]) ⟨0,0,0,0,6⟩ (fL)∧∀(pu:J),cr (J.ar 11 [(0,(tD f pv ov dty)),(1,bj),(2,af.an [.int .u8 27] 1 true),(3,P),(4,O)]) ⟨0,0,0,0,6⟩ (fL) pu→bd 5 (pu.U) (dA (2^30-4) mz (J.mk (pu.U+3) (J.aH pu)) ⟨0,0,0,0,6⟩ c∧∀(jF:J),dB ground (J.mk (pu.U+3) (J.aH pu)) ⟨0,0,0,0,6⟩ c jF→bC 5 (jF.U) (ae (.tuple []) jF)))∧(¬c=27→(c=91→ae (.tuple []) (J.ar 27 [(0,⟨[.agg [.func (.func 87) [.ptr (aJ 0)] [],.slice (cm 17) 2 2,pv,.bool false,.ptr (some ⟨1,0,0,0,5⟩),ov]],6,true,false,0,0,0,dty⟩),(1,bj),(2,af.an [.int .u8 27] 1 true),(3,P),(4,O),(16,af.an [.int .u8 c] 1 true),(17,af.an [.int .u8 27,.int .u8 c] 1 false (some (5,0)))]))∧(¬c=91→(c=79→ae (.tuple []) (J.ar 29 [(0,⟨[.agg [.func (.func 88) [.ptr (aJ 0)] [],.slice (cm 19) 2 2,pv,.bool false,.ptr (some ⟨1,0,0,0,5⟩),ov]],6,true,false,0,0,0,dty⟩),(1,bj),(2,af.an [.int .u8 27] 1 true),(3,P),(4,O),(18,af.an [.int .u8 c] 1 true),(19,af.an [.int .u8 27,.int .u8 c] 1 false (some (5,0)))]))∧(¬c=79→dA (2^30-4) yg (J.ar 15 [(0,(tD f pv ov dty)),(1,bj),(2,af.an [.int .u8 27] 1 true),(3,P),(4,O)]) ⟨0,0,0,0,6⟩ c∧∀(Hj:J),dB sc (J.ar 15 [(0,(tD f pv ov dty)),(1,bj),(2,af.an [.int .u8 27] 1 true),(3,P),(4,O)]) ⟨0,0,0,0,6⟩ c Hj→bC 5 (Hj.U) (ae (.tuple []) Hj))))) :
 b4 59 [.ptr (aJ 0),.int .u8 c] (J.of [b0 0 f 1 (.slice (cm 2) 1 1) pv false ov dty,bj,af.an [.int .u8 27] 1 true,P,O]) ae :=
 b9 BY (.aI 2000 .nil (.aI 5000 .nil (.aI 8000 .nil .nil))) aW
abbrev yi:aa:= .func (.func 30) [.ptr (aJ 0)] []
abbrev yj:aa:=aa.agg [.int .i8 2,.int .i32 1,.int .u8 0,.int .i64 0,.int .i64 0,.str []]
abbrev yk:aa:=aa.agg [.int .i8 1,.int .i32 79,.int .u8 2,.int .i64 0,.int .i64 0,.str []]
abbrev oo(c:Int):aa:=aa.agg [.int .i8 2,.int .i32 (hf c),.int .u8 0,.int .i64 0,.int .i64 0,.str []]
abbrev Hk(c:Int):aa:=aa.agg [.int .i8 2,.int .i32 (21+(c-80)),.int .u8 0,.int .i64 0,.int .i64 0,.str []]
abbrev Ol(f:Nat)(kv pv ov:aa):aa:=aa.agg [(eF f),kv,pv,.bool false,.ptr (some ⟨1,0,0,0,5⟩),ov]
abbrev vB(f:Nat)(kv pv ov:aa)(dty:bL):af:=⟨[(Ol f kv pv ov)],6,true,false,0,0,0,dty⟩
abbrev qu(f:Nat)(kv pv ov:aa)(dty:bL)(bj K P O:af):J:=(J.ar 21 [(0,(vB f kv pv ov dty)),(1,bj),(2,K),(3,P),(4,O)])
theorem Yn(f:Nat)(kv pv ov:aa)(dty:bL)(bj K P O:af)(c:Int)(ae:bI)(aW:(0<hf c→cq (J.ar 14 [(0,(vB f kv pv ov dty)),(1,bj),(2,K),(3,P),(4,O)]) ⟨0,0,0,0,6⟩ ((oo c))∧∀(Hl:J),cr (J.ar 14 [(0,(vB f kv pv ov dty)),(1,bj),(2,K),(3,P),(4,O)]) ⟨0,0,0,0,6⟩ ((oo c)) Hl→bC 5 (Hl.U) (ae (.tuple []) Hl))∧(¬0<hf c→(80≤c→(c≤83→(0≤c-80∧c-80≤255)∧(-2147483648≤c-80∧c-80≤2147483647)∧(-2147483648≤21+(c-80)∧21+(c-80)≤2147483647)∧cq (J.ar 23 [(0,(vB f kv pv ov dty)),(1,bj),(2,K),(3,P),(4,O)]) ⟨0,0,0,0,6⟩ ((Hk c))∧∀(Hm:J),cr (J.ar 23 [(0,(vB f kv pv ov dty)),(1,bj),(2,K),(3,P),(4,O)]) ⟨0,0,0,0,6⟩ ((Hk c)) Hm→bC 5 (Hm.U) (ae (.tuple []) Hm))∧(¬c≤83→(c=77→cq (qu f kv pv ov dty bj K P O) ⟨0,0,0,0,6⟩ (yj)∧∀(gn:J),cr (qu f kv pv ov dty bj K P O) ⟨0,0,0,0,6⟩ (yj) gn→bC 5 (gn.U) (ae (.tuple []) gn))∧(¬c=77→cq (qu f kv pv ov dty bj K P O) ⟨0,0,0,0,6⟩ (yk)∧∀(dG:J),cr (qu f kv pv ov dty bj K P O) ⟨0,0,0,0,6⟩ (yk) dG→bd 5 (dG.U) (bM env.D 66 ⟨0,0,0,0,6⟩ (J.mk (dG.U+6) (dG.2))=some (yi)∧dA (2^30-4) mz (J.mk (dG.U+6) (J.aH dG)) ⟨0,0,0,0,6⟩ c∧∀(tH:J),dB ground (J.mk (dG.U+6) (J.aH dG)) ⟨0,0,0,0,6⟩ c tH→bC 5 (tH.U) (ae (.tuple []) tH)))))∧(¬80≤c→(c=77→cq (qu f kv pv ov dty bj K P O) ⟨0,0,0,0,6⟩ (yj)∧∀(gn:J),cr (qu f kv pv ov dty bj K P O) ⟨0,0,0,0,6⟩ (yj) gn→bC 5 (gn.U) (ae (.tuple []) gn))∧(¬c=77→cq (qu f kv pv ov dty bj K P O) ⟨0,0,0,0,6⟩ (yk)∧∀(dG:J),cr (qu f kv pv ov dty bj K P O) ⟨0,0,0,0,6⟩ (yk) dG→bd 5 (dG.U) (bM env.D 66 ⟨0,0,0,0,6⟩ (J.mk (dG.U+6) (dG.2))=some (yi)∧dA (2^30-4) mz (J.mk (dG.U+6) (J.aH dG)) ⟨0,0,0,0,6⟩ c∧∀(tH:J),dB ground (J.mk (dG.U+6) (J.aH dG)) ⟨0,0,0,0,6⟩ c tH→bC 5 (tH.U) (ae (.tuple []) tH)))))) :
 b4 88 [.ptr (aJ 0),.int .u8 c] (J.of [b0 0 f 1 kv pv false ov dty,bj,K,P,O]) ae :=
 b9 BY (.aI 1001 .nil (.aI 3001 (.aI 3004 (ak 4002 (ak 4003 (ak 4004 .nil))) (.aI 5001 .nil (.az (.val 8003 (yi)) .nil))) (.aI 5001 .nil (.az (.val 8003 (yi)) .nil)))) aW
theorem Om{h:J}{d k:Nat}{I:cp}{f:Nat}{pas:Bool}{ks:fY}{al aF aD:Bytes}{es:List bl}(g:dP h d I f pas ks al aF aD es):dP ⟨h.U+k,h.aH⟩ d I f pas ks al aF aD es where
 ex:=g.ex
 iD:=g.iD
 lt:=by have:=g.lt;show d<h.U+k∧I.u<h.U+k∧I.k<h.U+k∧I.p<h.U+k∧I.o<h.U+k;omega
 ne:=g.ne
theorem Yo{l h:J}{d k:Nat}{I aO:cp}(cF:Fr l h d I aO):Fr l ⟨h.U+k,h.aH⟩ d I aO where
 U:=by have:=cF.U;show l.U≤h.U+k;omega
 get:=cF.get
 ids:=cF.ids
theorem yl(x:Bytes):List.take x.length (aN x)=aN x:=by
 have e:x.length=(aN x).length:=by simp [aN]
 rw [e,List.take_length]
theorem Yp{h:J}{I:cp}{pas:Bool}{ks:fY}{al aF aD:Bytes}{es:List bl}(g:dP h 0 I (cy .ground) pas ks al aF aD es):bM (bY.D env) 66 ⟨0,0,0,0,6⟩ h=some (.func (.func 30) [.ptr (some ⟨0,0,0,0,6⟩)] []):=by
 obtain⟨kv,pv,ov,ty,e,_⟩:=g.ex;unfold bM;rw [e]
 kernel_rfl
theorem On{l h:J}{cD:aa}{e:bl}{a7 I:cp}{f:Nat}{ks:fY}{al aD:Bytes}{es:List bl}{c:UInt8}{k:Nat}(bF:5≤h.U)(f':dP h 0 I f false ks al [] aD es∧Fr l h 0 a7 I)(he:cD=cB e)(ck:es.length<2^30-8)
 {Q:J→Prop} (eD:∀ag aO,ci ag 0 aO (Keys.ground ⟨.ground,[],[],aD⟩ c).1 (es++(e::(Keys.ground ⟨.ground,[],[],aD⟩ c).2))→Fr l ag 0 a7 aO→Q ag) :
 cq h ⟨0,0,0,0,6⟩ cD∧∀cE,cr h ⟨0,0,0,0,6⟩ cD cE→(_root_.cond (Nat.ble 5 cE.U&&true) (dA (2^30-4) mz ⟨cE.U+k,cE.aH⟩ ⟨0,0,0,0,6⟩ c.toNat ∧
  ∀ag,dB Keys.ground ⟨cE.U+k,cE.aH⟩ ⟨0,0,0,0,6⟩ c.toNat ag→_root_.cond (Nat.ble 5 ag.U) (Q ag) False) False)∧bM (bY.D env) 66 ⟨0,0,0,0,6⟩ ⟨cE.U+k,cE.aH⟩=some (.func (.func 30) [.ptr (some ⟨0,0,0,0,6⟩)] []):=by
 refine⟨G8 f'.1 he ab aM,fun cE t=> ?_⟩;have aR:=t.U;obtain⟨aO,dp,fZ⟩:=G7 t f'.1 f'.2 he aM;have Yq:ci ⟨cE.U+k,cE.aH⟩ 0 aO ⟨.ground,[],[],aD⟩ (es++[e]):=⟨.nil,Om dp,trivial⟩
 refine⟨?_,Yp (Om dp)⟩;rw [Nat.ble_eq.mpr ab];refine yh (n:=cE.U+k) rfl ab ⟨Yq,Yo fZ⟩ (by simp;omega) aM ⟨rfl,rfl⟩ fun ag Yr Oo Ys=>eD ag Yr (by rw [List.append_assoc]at Oo;exact Oo) Ys
theorem Oq{l h:J}{cD:aa}{e:bl}{a7 I:cp}{f:Nat}{ks:fY}{al aD:Bytes}{es:List bl}{c:UInt8}{k:Nat}(bF:5≤h.U)(f':dP h 0 I f false ks al [] aD es∧Fr l h 0 a7 I)(he:cD=cB e)(ck:es.length<2^30-8)
 {Q:J→Prop} (eD:∀ag aO,ci ag 0 aO (Keys.ground ⟨.ground,[],[],aD⟩ c).1 (es++(e::(Keys.ground ⟨.ground,[],[],aD⟩ c).2))→Fr l ag 0 a7 aO→Q ag) :
 cq h ⟨0,0,0,0,6⟩ cD∧∀cE,cr h ⟨0,0,0,0,6⟩ cD cE→_root_.cond (Nat.ble 5 cE.U&&true) (bM (bY.D env) 66 ⟨0,0,0,0,6⟩ ⟨cE.U+k,cE.aH⟩=some (.func (.func 30) [.ptr (some ⟨0,0,0,0,6⟩)] [])∧dA (2^30-4) mz ⟨cE.U+k,cE.aH⟩ ⟨0,0,0,0,6⟩ c.toNat ∧
  ∀ag,dB Keys.ground ⟨cE.U+k,cE.aH⟩ ⟨0,0,0,0,6⟩ c.toNat ag→_root_.cond (Nat.ble 5 ag.U) (Q ag) False) False:=by
 obtain⟨a,b⟩:=On (k:=k) bF f' he ck eD;refine⟨a,fun cE t=> ?_⟩;obtain⟨a',bP⟩:=b cE t;have aR:=t.U;rw [Nat.ble_eq.mpr ab]at a' ⊢;exact⟨bP,a'⟩
def ez(s:bK)(c:UInt8):Prop:=s.aF=[]∧(s.nx=.da∨s.nx=.sequence)
theorem Yt{H:J}{d:Nat}{I:cp}{s:bK}{es:List bl}{c:UInt8}(g:ci H d I s es)(ck:es.length<2^30-8)(dX:ez s c):∃aQ,bS 106 [.ptr (some ⟨d,0,0,0,6⟩),.int .u8 c.toNat] H (.tuple []) aQ ∧
 ∃aO,ci aQ d aO (Keys.bad s c).1 (es++(Keys.bad s c).2)∧Fr H aQ d I aO:=by
 refine tG ?_ g;intro ks kv pv ov ty uty j0 j1 j2 j3 K P O a7 hs gs cL;obtain⟨au,ah,ao⟩:=nv gs;obtain⟨nx,al,aF,aD⟩:=s;obtain⟨ac,ai⟩:=dX;simp only at ac ai hs gs au ah ao⊢;subst ac
 have nb:ks=.grown []∧decide (nx=nj.cK)=false:=by
  rcases ai with rfl|rfl
  ·cases ks with
   |grown j=>cases j with
    |nil=>exact⟨rfl,rfl⟩
    |cons a b=>exact hs.elim
   |_=>exact hs.elim
  ·cases ks with
   |grown j=>cases j with
    |nil=>exact⟨rfl,rfl⟩
    |cons a b=>exact hs.elim
   |_=>exact hs.elim
 obtain⟨rfl,nu⟩:=nb;rw [nu]at gs⊢;obtain⟨kE,ad,m,aG,rfl,c8⟩:=au;have cn:a7.k=2:= ab;rw [cn,J.eV]at c8;simp only [List.getElem?_cons_zero,List.getElem?_cons_succ,Option.some.injEq,List.nil_append]at c8;simp only [List.length_nil]at ah ao⊢;subst c8;rw [cn,nu]at ah ao;rw [cn];have xG:∀x:List UInt8,List.take x.length (List.drop 0 (aN x))=aN x:=fun x=>yl x
 obtain⟨v,ag,aE,rfl,q⟩:=Yl (cy nx) pv ov ty (cb [] j0 j1 j2 j3 uty) P O (aN al) ad m aG al.length c.toNat (fun v ag=>v=.tuple []∧∃aO,ci ag 0 aO (Keys.bad ⟨nx,al,[],aD⟩ c).1 (es++(Keys.bad ⟨nx,al,[],aD⟩ c).2)∧Fr (J.of [b0 0 (cy nx) 1 (.slice (some ⟨2,ad,0,0,1⟩) al.length al.length) pv false ov ty,cb [] j0 j1 j2 j3 uty,ct (aN al) 1 ad m aG cA,P,O]) ag 0 a7 aO) (by
  delta Hg ee Hh eF
  refine⟨rfl,by simp [aN];try omega,⟨al,xG al⟩,?_⟩
  exact Oq (k:=6) (e:=gM al) (by show 5≤13;decide) (iy (n:=13) (f:=cy nx) (pas:=false) (ks:= .grown []) (al:=al) (aF:=[]) (k:=2) (j0:=j0) (j1:=j1) (j2:=j2) (j3:=j3) (kv:= .slice (some ⟨2,ad,0,0,1⟩) al.length al.length) (pv:=pv) (ov:=ov) (ty:=ty) (uty:=uty) rfl aS ay ay (.inr cn) ay ay
   (oj (es:=aN al) (ad:=ad) (m:=m) (f:=aG) aS rfl rfl ay) aS ah ao cL (.inr (.inr ⟨rfl,cn⟩))) (by rw [yl,jh];rfl) ck fun ag aO dp fZ=>⟨rfl,aO,dp,fZ⟩)
 exact⟨ag,aE,q⟩
theorem Yu:∀args h a,j5 (2^30-8) ez Keys.bad args h=some a→a.dt Tryz.prog cX 106 args h:=r9 fun H d I s es c g ck aC dX=>Yt g ab dX
noncomputable def Ot:e1:=Ok.add 106 (j5 (2^30-8) ez Keys.bad)
theorem Yv:eJ Tryz.prog cX Ot:=BY.add Yu
theorem Yw{l h:J}{cD:aa}{e:bl}{a7 I:cp}{f:Nat}{ks:fY}{al aD:Bytes}{es:List bl}{c:UInt8}{k:Nat}(bF:5≤h.U)(f':dP h 0 I f false ks al [] aD es∧Fr l h 0 a7 I)(he:cD=cB e)(ck:es.length<2^30-8)
 {Q:J→Prop} (eD:∀ag aO,ci ag 0 aO (Keys.ground ⟨.ground,[],[],aD⟩ c).1 (es++(e::(Keys.ground ⟨.ground,[],[],aD⟩ c).2))→Fr l ag 0 a7 aO→Q ag) :
 cq h ⟨0,0,0,0,6⟩ cD∧∀cE,cr h ⟨0,0,0,0,6⟩ cD cE→_root_.cond (Nat.ble 5 cE.U&&true) (dA (2^30-4) mz ⟨cE.U+k,cE.aH⟩ ⟨0,0,0,0,6⟩ c.toNat ∧
  ∀ag,dB Keys.ground ⟨cE.U+k,cE.aH⟩ ⟨0,0,0,0,6⟩ c.toNat ag→_root_.cond (Nat.ble 5 ag.U) (Q ag) False) False:=by
 obtain⟨a,b⟩:=On (k:=k) bF f' he ck eD;exact⟨a,fun cE t=>(b cE t).1⟩
theorem Ou{h:J}{k n:Nat}{l:Bytes}{es:List aa}(au:k≠0)(aR:n=l.length)(he:es=aN l)(e:h.get k=some (af.an es 1 false cA)):jl h 0 k (.slice (some ⟨k,0,0,0,1⟩) n n) (.grown []) l:=oj (ad:=0) (m:=0) (f:=0) au aR he e
def ym(s:bK)(c:UInt8):Prop:=s.aF=[]∧s.nx=.dj
theorem Yx{H:J}{d:Nat}{I:cp}{s:bK}{es:List bl}{c:UInt8}(g:ci H d I s es)(ck:es.length<2^30-8)(dX:ym s c):∃aQ,bS 59 [.ptr (some ⟨d,0,0,0,6⟩),.int .u8 c.toNat] H (.tuple []) aQ ∧
 ∃aO,ci aQ d aO (Keys.dj s c).1 (es++(Keys.dj s c).2)∧Fr H aQ d I aO:=by
 refine tG ?_ g;intro ks kv pv ov ty uty j0 j1 j2 j3 K P O a7 hs gs cL;obtain⟨au,ah,ao⟩:=nv gs;obtain⟨nx,al,aF,aD⟩:=s;obtain⟨ac,ai⟩:=dX;simp only at ac ai hs gs au ah ao⊢;subst ac ai;cases ks with
 |nil=>exact hs.elim
 |grown j=>exact hs.elim
 |one =>
  obtain⟨kE,rfl,c8,rfl⟩:=au;have cn:a7.k=2:= ab;rw [cn,J.eV]at c8;simp only [List.getElem?_cons_zero,List.getElem?_cons_succ,Option.some.injEq]at c8;subst c8;rw [cn]at gs ah ao⊢
  obtain⟨v,ag,aE,rfl,q⟩:=Ym (cy .dj) pv ov ty (cb [] j0 j1 j2 j3 uty) P O c.toNat (fun v ag=>v=.tuple []∧∃aO,ci ag 0 aO (Keys.dj ⟨.dj,[27],[],aD⟩ c).1 (es++(Keys.dj ⟨.dj,[27],[],aD⟩ c).2)∧Fr (J.of [b0 0 (cy .dj) 1 (.slice (some ⟨2,0,0,0,1⟩) 1 1) pv false ov ty,cb [] j0 j1 j2 j3 uty,af.an [.int .u8 27] 1 true,P,O]) ag 0 a7 aO) (by
   delta tD Hc Hb eF fL
   refine⟨fun e=> ?_,fun e=>⟨fun bu=>⟨rfl,?_⟩,fun bu=>⟨fun b7=>⟨rfl,?_⟩,fun b7=> ?_⟩⟩⟩
   ·have aw:c=27:=UInt8.toNat_inj.1 (by show c.toNat=27;omega);rw [show Keys.dj ⟨.dj,[27],[],aD⟩ c=((Keys.ground ⟨.ground,[],[],aD⟩ c).1,er 4::(Keys.ground ⟨.ground,[],[],aD⟩ c).2)by simp [Keys.dj,aw,tell]]
    exact Yw (k:=3) (e:=er 4) (by show 5≤11;decide) (iy (n:=11) (f:=cy .dj) (pas:=false) (ks:= .one) (al:=[27]) (aF:=[]) (k:=2) (j0:=j0) (j1:=j1) (j2:=j2) (j3:=j3) (kv:= .slice (some ⟨2,0,0,0,1⟩) 1 1) (pv:=pv) (ov:=ov) (ty:=ty) (uty:=uty) rfl aS ay ay (.inr cn) ay ay
     ⟨aS,rfl,ay,rfl⟩ aS ah ao cL (.inr (.inr ⟨rfl,cn⟩))) rfl ck fun ag aO dp fZ=>⟨rfl,aO,dp,fZ⟩
   ·have aw:c=91:=UInt8.toNat_inj.1 (by show c.toNat=91;omega);rw [show Keys.dj ⟨.dj,[27],[],aD⟩ c=(⟨.sequence,[27,c],[],aD⟩,[])by simp [Keys.dj,aw],List.append_nil]
    exact pr (s:=⟨.sequence,[27,c],[],aD⟩) (iy (n:=27) (k:=17) (ks:= .grown []) (j0:=j0) (j1:=j1) (j2:=j2) (j3:=j3) (kv:= .slice (some ⟨17,0,0,0,1⟩) 2 2) (pv:=pv) (ov:=ov) (ty:=ty) (uty:=uty) rfl aS ay ay (.inr cn) ay ay
     (Ou (es:=[.int .u8 27,.int .u8 c.toNat]) aS rfl rfl ay) aS ah ao cL (.inr (.inl aS))) (by simp [qs])
   ·have aw:c=79:=UInt8.toNat_inj.1 (by show c.toNat=79;omega);rw [show Keys.dj ⟨.dj,[27],[],aD⟩ c=(⟨.single,[27,c],[],aD⟩,[])by simp [Keys.dj,aw],List.append_nil]
    exact pr (s:=⟨.single,[27,c],[],aD⟩) (iy (n:=29) (k:=19) (ks:= .grown []) (j0:=j0) (j1:=j1) (j2:=j2) (j3:=j3) (kv:= .slice (some ⟨19,0,0,0,1⟩) 2 2) (pv:=pv) (ov:=ov) (ty:=ty) (uty:=uty) rfl aS ay ay (.inr cn) ay ay
     (Ou (es:=[.int .u8 27,.int .u8 c.toNat]) aS rfl rfl ay) aS ah ao cL (.inr (.inl aS))) (by simp [qs])
   ·have aw:c≠27:=by rintro rfl;exact e rfl
    have kX:c≠91:=by rintro rfl;exact bu rfl
    have sU:c≠79:=by rintro rfl;exact b7 rfl
    rw [show Keys.dj ⟨.dj,[27],[],aD⟩ c=sc ⟨.dj,[27],[],aD⟩ c by simp [Keys.dj,aw,kX,sU,sc]]
    exact yh (s:=⟨.dj,[27],[],aD⟩) (n:=15) rfl aS (BX (iy (n:=15) (f:=cy .dj) (pas:=false) (ks:= .one) (al:=[27]) (aF:=[]) (k:=2) (j0:=j0) (j1:=j1) (j2:=j2) (j3:=j3) (kv:= .slice (some ⟨2,0,0,0,1⟩) 1 1) (pv:=pv) (ov:=ov) (ty:=ty) (uty:=uty) rfl aS ay ay (.inr cn) ay ay
     ⟨aS,rfl,ay,rfl⟩ aS ah ao cL (.inr (.inr ⟨rfl,cn⟩))) trivial) ab aM ⟨rfl,aw,.inr rfl⟩ fun ag aO dp fZ=>⟨rfl,aO,dp,fZ⟩)
  exact⟨ag,aE,q⟩
theorem Yy:∀args h a,j5 (2^30-8) ym Keys.dj args h=some a→a.dt Tryz.prog cX 59 args h:=r9 fun H d I s es c g ck aC dX=>Yx g ck dX
theorem yn(c:Nat):hf (c:Int)=gw c:=by
 unfold hf gw;by_cases ac:65≤c∧c≤68
 ·have ai:(65:Int)≤c∧(c:Int)≤68:= ab;rw [if_pos ac,if_pos ai]
 ·have ai:¬((65:Int)≤c∧(c:Int)≤68):= ab;rw [if_neg ac,if_neg ai];by_cases a8:c=72
  ·have bQ:(c:Int)=72:= ab;rw [if_pos a8,if_pos bQ]
  ·have bQ:¬(c:Int)=72:= ab;rw [if_neg a8,if_neg bQ];by_cases bF:c=70
   ·have dv:(c:Int)=70:= ab;rw [if_pos bF,if_pos dv]
   ·have dv:¬(c:Int)=70:= ab;rw [if_neg bF,if_neg dv]
def singleR(s:bK)(c:UInt8):Prop:=s.aF=[]∧s.nx=.single
theorem Yz{H:J}{d:Nat}{I:cp}{s:bK}{es:List bl}{c:UInt8}(g:ci H d I s es)(ck:es.length<2^30-8)(dX:singleR s c):∃aQ,bS 88 [.ptr (some ⟨d,0,0,0,6⟩),.int .u8 c.toNat] H (.tuple []) aQ ∧
 ∃aO,ci aQ d aO (Keys.single s c).1 (es++(Keys.single s c).2)∧Fr H aQ d I aO:=by
 refine tG ?_ g;intro ks kv pv ov ty uty j0 j1 j2 j3 K P O a7 hs gs cL;obtain⟨au,ah,ao⟩:=nv gs;obtain⟨nx,al,aF,aD⟩:=s;obtain⟨ac,ai⟩:=dX;simp only at ac ai hs gs au ah ao⊢;subst ac ai
 have nb:ks=.grown []:=by
  cases ks with
  |grown j=>cases j with
   |nil=>rfl
   |cons a b=>exact hs.elim
  |_=>exact hs.elim
 subst nb;have aw:=c.toNat_lt;have cn:a7.k=2:=by have:=au.1;omega
 have YA:∀h:J,h.get 2=some K→jl h 0 2 kv (.grown []) al:=fun h e=>by obtain⟨kE,ad,m,aG,bh,c8⟩:=au;rw [cn]at bh c8;refine⟨aS,ad,m,aG,bh,?_⟩;rw [e,←c8,J.eV];rfl
 have mk:∀{h:J}{n:Nat},h.U=n→5≤n→h.get 0=some (b0 0 (cy .single) 1 kv pv false ov ty)→h.get 1=some (cb [] j0 j1 j2 j3 uty)→h.get 2=some K→h.get 3=some P→h.get 4=some O →
  dP h 0 ⟨1,2,a7.p,a7.o⟩ (cy .single) false (.grown []) al [] aD es∧Fr (J.of [b0 0 (cy .single) 1 kv pv false ov ty,cb [] j0 j1 j2 j3 uty,K,P,O]) h 0 a7 ⟨1,2,a7.p,a7.o⟩:=fun aR bF e0 bi bu b7 cc =>
  iy aR bF e0 bi (.inr cn) b7 cc (YA _ bu) ab ah ao cL (.inr (.inr ⟨rfl,cn⟩))
 have t1:∀{h:J}{n:Nat}{cD:aa}(e:bl),h.U=n→5≤n→h.get 0=some (b0 0 (cy .single) 1 kv pv false ov ty)→h.get 1=some (cb [] j0 j1 j2 j3 uty)→h.get 2=some K→h.get 3=some P→h.get 4=some O→cD=cB e→Keys.single ⟨.single,al,[],aD⟩ c=tell ⟨.single,al,[],aD⟩ e →
  cq h ⟨0,0,0,0,6⟩ cD∧∀ag,cr h ⟨0,0,0,0,6⟩ cD ag→_root_.cond (Nat.ble 5 ag.U) (aa.tuple []=aa.tuple []∧∃aO,ci ag 0 aO (Keys.single ⟨.single,al,[],aD⟩ c).1 (es++(Keys.single ⟨.single,al,[],aD⟩ c).2)∧Fr (J.of [b0 0 (cy .single) 1 kv pv false ov ty,cb [] j0 j1 j2 j3 uty,K,P,O]) ag 0 a7 aO) False:=fun {h n cD} e aR bF e0 bi bu b7 cc he hm=>by
  rw [hm];exact tE (n:=n) aR bF (mk aR bF e0 bi bu b7 cc) he ab aM fun ag aO dp fZ=>⟨rfl,aO,yd dp,fZ⟩
 have t2:∀{h:J}{n:Nat}{cD:aa}(e:bl),h.U=n→5≤n→h.get 0=some (b0 0 (cy .single) 1 kv pv false ov ty)→h.get 1=some (cb [] j0 j1 j2 j3 uty)→h.get 2=some K→h.get 3=some P→h.get 4=some O→cD=cB e→Keys.single ⟨.single,al,[],aD⟩ c=((Keys.ground ⟨.ground,[],[],aD⟩ c).1,e::(Keys.ground ⟨.ground,[],[],aD⟩ c).2) →
  cq h ⟨0,0,0,0,6⟩ cD∧∀cE,cr h ⟨0,0,0,0,6⟩ cD cE→_root_.cond (Nat.ble 5 cE.U&&true) (bM (bY.D env) 66 ⟨0,0,0,0,6⟩ ⟨cE.U+6,cE.aH⟩=some (.func (.func 30) [.ptr (some ⟨0,0,0,0,6⟩)] [])∧dA (2^30-4) mz ⟨cE.U+6,cE.aH⟩ ⟨0,0,0,0,6⟩ c.toNat ∧
  ∀ag,dB Keys.ground ⟨cE.U+6,cE.aH⟩ ⟨0,0,0,0,6⟩ c.toNat ag→_root_.cond (Nat.ble 5 ag.U) (aa.tuple []=aa.tuple []∧∃aO,ci ag 0 aO (Keys.single ⟨.single,al,[],aD⟩ c).1 (es++(Keys.single ⟨.single,al,[],aD⟩ c).2)∧Fr (J.of [b0 0 (cy .single) 1 kv pv false ov ty,cb [] j0 j1 j2 j3 uty,K,P,O]) ag 0 a7 aO) False) False:=fun {h n cD} e aR bF e0 bi bu b7 cc he hm=>by
  rw [hm];exact Oq (k:=6) ab (mk aR bF e0 bi bu b7 cc) he ck fun ag aO dp fZ=>⟨rfl,aO,dp,fZ⟩
 obtain⟨v,ag,aE,rfl,q⟩:=Yn (cy .single) kv pv ov ty (cb [] j0 j1 j2 j3 uty) K P O c.toNat (fun v ag=>v=.tuple []∧∃aO,ci ag 0 aO (Keys.single ⟨.single,al,[],aD⟩ c).1 (es++(Keys.single ⟨.single,al,[],aD⟩ c).2)∧Fr (J.of [b0 0 (cy .single) 1 kv pv false ov ty,cb [] j0 j1 j2 j3 uty,K,P,O]) ag 0 a7 aO) (by
  delta yi yk qu vB Ol eF yj Hk oo
  rw [yn];have fx:0<gw c.toNat∨ ¬0<gw c.toNat:= ab;refine⟨fun e=> ?_,fun e=>⟨fun bu=>⟨fun b7=>⟨ab,ab,ab,?_⟩,fun b7=>⟨fun cc=> ?_,fun cc=> ?_⟩⟩,fun bu=>⟨fun cc=> ?_,fun cc=> ?_⟩⟩⟩
  ·exact t1 (n:=14) (er (gw c.toNat)) rfl aS ay ay ay ay ay rfl (by simp only [Keys.single];rw [if_pos e])
  ·exact t1 (n:=23) (er (21+(c.toNat-80))) rfl aS ay ay ay ay ay rfl (by simp only [Keys.single];rw [if_neg e,if_pos ab])
  ·omega
  ·exact t2 (n:=21) (fi 79 2) rfl aS ay ay ay ay ay rfl (by simp only [Keys.single];rw [if_neg e,if_neg ab,if_neg ab];rfl)
  ·exact t1 (n:=21) (er 1) rfl aS ay ay ay ay ay rfl (by simp only [Keys.single];rw [if_neg e,if_neg ab,if_pos ab])
  ·exact t2 (n:=21) (fi 79 2) rfl aS ay ay ay ay ay rfl (by simp only [Keys.single];rw [if_neg e,if_neg ab,if_neg ab];rfl))
 exact⟨ag,aE,q⟩
theorem YB:∀args h a,j5 (2^30-8) singleR Keys.single args h=some a→a.dt Tryz.prog cX 88 args h:=r9 fun H d I s es c g ck aC dX=>Yz g ck dX
noncomputable def yo:e1:=(Ot.add 59 (j5 (2^30-8) ym Keys.dj)).add 88 (j5 (2^30-8) singleR Keys.single)
theorem BZ:eJ Tryz.prog cX yo:=(Yv.add Yy).add YB
def ey.pick(k:Nat):ey→Option ey
 |.or p (.one v1 ac YC) (.or hb (.one v2 ai YD) (.one v3 a8 YE)) =>
  match k with
  |0=>some (.one v1 ac (p::YC))
  |1=>some (.one v2 ai ((¬p)::hb::YD))
  |_=>some (.one v3 a8 ((¬p)::(¬hb)::YE))
 |_=>none
noncomputable def yp(k:Nat):List aa→J→Option ey:=fun args h=>(xW args h).bind (ey.pick k)
theorem YF{f:FuncId}{args:List aa}{h:J}{k:Nat} :∀{a b:ey},a.dt Tryz.prog cX f args h→ey.pick k a=some b→b.dt Tryz.prog cX f args h:=by
 intro a b aT ax;unfold ey.pick at ax;split at ax<;>first|(cases ax;done)|skip
 split at ax<;>simp only [Option.some.injEq]at ax<;>subst ax<;>intro ah
 ·exact aT.1 (ah _ List.mem_cons_self) (fun x aj=>ah x (List.mem_cons_of_mem _ aj))
 ·exact(aT.2 (ah _ List.mem_cons_self)).1 (ah _ (List.mem_cons_of_mem _ List.mem_cons_self)) (fun x aj=>ah x (List.mem_cons_of_mem _ (List.mem_cons_of_mem _ aj)))
 ·exact(aT.2 (ah _ List.mem_cons_self)).2 (ah _ (List.mem_cons_of_mem _ List.mem_cons_self)) (fun x aj=>ah x (List.mem_cons_of_mem _ (List.mem_cons_of_mem _ aj)))
theorem Hn(k:Nat):∀args h a,yp k args h=some a→a.dt Tryz.prog cX 107 args h:=by
 intro args h a e;unfold yp at e;cases hs:xW args h with
 |none=>rw [hs]at e;cases e
 |some b=>rw [hs]at e;exact YF (NB args h b hs) e
noncomputable def YG:e1:=yo.add 107 (yp 0)
theorem YH:eJ Tryz.prog cX YG:=BZ.add (Hn 0)
noncomputable def YI:e1:=yo.add 107 (yp 1)
theorem YJ:eJ Tryz.prog cX YI:=BZ.add (Hn 1)
noncomputable def YK:e1:=yo.add 107 (yp 2)
theorem YL:eJ Tryz.prog cX YK:=BZ.add (Hn 2)
abbrev vC(ad len:Nat):aa:=aa.slice (some ⟨2,ad,0,0,1⟩) len len
abbrev yq(ad len:Nat):aa:=aa.slice (some {id:=2,ad:=ad+1,idx:=0,fld:=0,es:=1}) (len+1) (len+1)
abbrev YM:c':=(.aI 6024 (ak 7007 (ak 8006 (.aI 9001 .nil (ak 11005 .nil)))) (he 12004 (.aI 1007 .nil .nil)))
abbrev dn(l:List aa)(ad m aG:Nat)(c:Int):af:=⟨l++[.int .u8 c],1,false,false,ad+1,m,if m=ad then List.length l else min aG (List.length l),some (5,0)⟩
abbrev ef(l:List aa)(len:Nat)(c:Int):aa:=aa.agg [.int .i8 7,.int .i32 0,.int .u8 0,.int .i64 0,.int .i64 0,.str (strOf (List.take (len+1) (List.drop 0 (List.append l [.int .u8 c]))))]
abbrev B0(a0 av a2 a3 n c:Int):aa:=aa.agg [.int .u8 (b8 (Prod.snd (b6 a0 av a2 a3 n c)) 0 a0),.int .u8 (b8 (Prod.snd (b6 a0 av a2 a3 n c)) 1 av),.int .u8 (b8 (Prod.snd (b6 a0 av a2 a3 n c)) 2 a2),.int .u8 (b8 (Prod.snd (b6 a0 av a2 a3 n c)) 3 a3),.int .i64 0]
abbrev vD(f:Nat)(pv ov:aa)(ad len:Nat):aa:=aa.agg [(eF f),(vC ad len),pv,.bool false,.ptr (some ⟨1,0,0,0,5⟩),ov]
abbrev yr(f:Nat)(pv ov:aa)(ad len:Nat):aa:=aa.agg [(eF f),(yq ad len),pv,.bool false,.ptr (some ⟨1,0,0,0,5⟩),ov]
abbrev Ov:c':=(he 4004 (.aI 4005 (ak 5007 .nil) (ak 6019 (ak 6023 YM))))
abbrev pw(uty:bL)(ad:Nat)(a0 av a2 a3 n c:Int):af:=⟨[(B0 a0 av a2 a3 n c)],5,true,false,0,0,0,uty⟩
abbrev gP(uty:bL)(ad:Nat)(a0 av a2 a3 n c:Int):af:=⟨[(tB a0 av a2 a3 n c)],5,true,false,0,0,0,uty⟩
abbrev hx(f:Nat)(pv ov:aa)(dty:bL)(ad len:Nat):af:=⟨[(vD f pv ov ad len)],6,true,false,0,0,0,dty⟩
abbrev hy(f:Nat)(pv ov:aa)(dty:bL)(ad len:Nat):af:=⟨[(yr f pv ov ad len)],6,true,false,0,0,0,dty⟩
abbrev yt(f:Nat)(pv ov:aa)(dty uty:bL)(P O:af)(l:List aa)(ad m aG len:Nat)(a0 av a2 a3 n c:Int):J:=(J.ar 94 [(0,(hx f pv ov dty ad len)),(1,(gP uty ad a0 av a2 a3 n c)),(2,(ee l ad m aG)),(3,P),(4,O),(27,(cV c)),(70,af.an [.int .u8 c] 1 true)])
abbrev yu(f:Nat)(pv ov:aa)(dty uty:bL)(P O:af)(l:List aa)(ad m aG len:Nat)(a0 av a2 a3 n c:Int):J:=(J.ar 104 [(0,(hy f pv ov dty ad len)),(1,(gP uty ad a0 av a2 a3 n c)),(2,(dn l ad m aG c)),(3,P),(4,O),(27,(cV c)),(70,af.an [.int .u8 c] 1 true),(81,af.an [.int .u8 c] 1 true)])
abbrev yv(f:Nat)(pv ov:aa)(dty uty:bL)(P O:af)(l:List aa)(ad m aG len:Nat)(a0 av a2 a3 n c:Int):J:=(J.ar 99 [(0,(hx f pv ov dty ad len)),(1,(pw uty ad a0 av a2 a3 n c)),(2,(ee l ad m aG)),(3,P),(4,O),(27,(cV c)),(70,af.an [.int .u8 c] 1 true),(94,af.an [.int .i32 65533] 1 true)])
theorem YN(f:Nat)(pv ov:aa)(dty uty:bL)(P O:af)(l:List aa)(ad m aG len:Nat)(a0 av a2 a3 n c:Int)(ae:bI)(aW:(0<(len:Int)→((0:Int)≤0∧0<(len:Int))∧ad=ad∧l[0]? =some (.int .u8 (ba l 0))∧(ba l 0=27→(b6 a0 av a2 a3 n c).1=[]∧ix a0 av a2 a3 n c∧(0<(↑(List.length (Prod.snd (b6 a0 av a2 a3 n c))):Int)→(ad=ad∧0+len=List.length l∧len<len+1∧(len+1+(len+1)/4+512)*1≤281474976710656∧len+1<4611686018427387904)∧ae (.tuple []) (J.ar 62 [(0,(hy f pv ov dty ad len)),(1,(gP uty ad a0 av a2 a3 n c)),(2,(dn l ad m aG c)),(3,P),(4,O),(29,(cV c)),(57,af.an [.int .u8 c] 1 true)]))∧(¬0<(↑(List.length (Prod.snd (b6 a0 av a2 a3 n c))):Int)→((0:Int)≤1∧1≤(len:Int)∧len≤len)∧ad=ad∧1+(len-1)≤List.length l∧(∃b3,List.take (len-1) (List.drop (bA.idx ⟨2,ad,1,0,1⟩) (af.bk (ee l ad m aG)))=aN b3)∧Nat.le (Nat.succ (List.length (strOf (List.take (len-1) (List.drop 1 l)))+List.length [UInt8.ofNat (Int.toNat c)])) (2^62)∧List.length (strOf (List.take (len-1) (List.drop 1 l))++[UInt8.ofNat (Int.toNat c)])<1099511627776∧(valid (strOf (List.take (len-1) (List.drop 1 l))++[UInt8.ofNat (Int.toNat c)])=true→(ad=ad∧0+len=List.length l∧len<len+1∧(len+1+(len+1)/4+512)*1≤281474976710656∧len+1<4611686018427387904)∧((0:Int)≤1∧1≤(↑(len+1):Int)∧len+1≤len+1)∧ad+1=ad+1∧1+(len+1-1)≤List.length (l++[.int .u8 c])∧(∃b3,List.take (len+1-1) (List.drop (bA.idx {id:=2,ad:=ad+1,idx:=1,fld:=0,es:=1}) (af.bk (dn l ad m aG c)))=aN b3)∧List.length (strOf (List.take (len+1-1) (List.drop 1 (List.append l [.int .u8 c]))))<1099511627776∧(valid (strOf (List.take (len+1-1) (List.drop 1 (List.append l [.int .u8 c]))))=true→False)∧(valid (strOf (List.take (len+1-1) (List.drop 1 (List.append l [.int .u8 c]))))=false→ad+1=ad+1∧0+(len+1)≤List.length (l++[.int .u8 c])∧(∃b3,List.take (len+1) (List.drop (bA.idx {id:=2,ad:=ad+1,idx:=0,fld:=0,es:=1}) (af.bk (dn l ad m aG c)))=aN b3)∧cq (J.ar 106 [(0,(hy f pv ov dty ad len)),(1,(gP uty ad a0 av a2 a3 n c)),(2,(dn l ad m aG c)),(3,P),(4,O),(29,(cV c)),(72,af.an [.int .u8 c] 1 true),(83,af.an [.int .u8 c] 1 true)]) ⟨0,0,0,0,6⟩ ((ef l len c))∧∀(b5:J),cr (J.ar 106 [(0,(hy f pv ov dty ad len)),(1,(gP uty ad a0 av a2 a3 n c)),(2,(dn l ad m aG c)),(3,P),(4,O),(29,(cV c)),(72,af.an [.int .u8 c] 1 true),(83,af.an [.int .u8 c] 1 true)]) ⟨0,0,0,0,6⟩ ((ef l len c)) b5→bC 5 (b5.U) (ae (.tuple []) b5)))∧(valid (strOf (List.take (len-1) (List.drop 1 l))++[UInt8.ofNat (Int.toNat c)])=false→((↑(List.length (Prod.snd (b6 a0 av a2 a3 n c))):Int)=0→dA (2^30-8) ez (J.ar 96 [(0,(hx f pv ov dty ad len)),(1,(gP uty ad a0 av a2 a3 n c)),(2,(ee l ad m aG)),(3,P),(4,O),(29,(cV c)),(72,af.an [.int .u8 c] 1 true)]) ⟨0,0,0,0,6⟩ c∧∀(cg:J),dB bad (J.ar 96 [(0,(hx f pv ov dty ad len)),(1,(gP uty ad a0 av a2 a3 n c)),(2,(ee l ad m aG)),(3,P),(4,O),(29,(cV c)),(72,af.an [.int .u8 c] 1 true)]) ⟨0,0,0,0,6⟩ c cg→bC 5 (cg.U) (ae (.tuple []) cg))∧(¬(↑(List.length (Prod.snd (b6 a0 av a2 a3 n c))):Int)=0→dA (2^30-8) ez (J.ar 101 [(0,(hx f pv ov dty ad len)),(1,(pw uty ad a0 av a2 a3 n c)),(2,(ee l ad m aG)),(3,P),(4,O),(29,(cV c)),(72,af.an [.int .u8 c] 1 true),(96,af.an [.int .i32 65533] 1 true)]) ⟨0,0,0,0,6⟩ c∧∀(cg:J),dB bad (J.ar 101 [(0,(hx f pv ov dty ad len)),(1,(pw uty ad a0 av a2 a3 n c)),(2,(ee l ad m aG)),(3,P),(4,O),(29,(cV c)),(72,af.an [.int .u8 c] 1 true),(96,af.an [.int .i32 65533] 1 true)]) ⟨0,0,0,0,6⟩ c cg→bC 5 (cg.U) (ae (.tuple []) cg)))))∧(¬ba l 0=27→(b6 a0 av a2 a3 n c).1=[]∧ix a0 av a2 a3 n c∧(0<(↑(List.length (Prod.snd (b6 a0 av a2 a3 n c))):Int)→(ad=ad∧0+len=List.length l∧len<len+1∧(len+1+(len+1)/4+512)*1≤281474976710656∧len+1<4611686018427387904)∧ae (.tuple []) (J.ar 60 [(0,(hy f pv ov dty ad len)),(1,(gP uty ad a0 av a2 a3 n c)),(2,(dn l ad m aG c)),(3,P),(4,O),(27,(cV c)),(55,af.an [.int .u8 c] 1 true)]))∧(¬0<(↑(List.length (Prod.snd (b6 a0 av a2 a3 n c))):Int)→ad=ad∧0+(len-0)≤List.length l∧(∃b3,List.take (len-0) (List.drop (bA.idx ⟨2,ad,0,0,1⟩) (af.bk (ee l ad m aG)))=aN b3)∧Nat.le (Nat.succ (List.length (strOf (List.take (len-0) l))+List.length [UInt8.ofNat (Int.toNat c)])) (2^62)∧List.length (strOf (List.take (len-0) l)++[UInt8.ofNat (Int.toNat c)])<1099511627776∧(valid (strOf (List.take (len-0) l)++[UInt8.ofNat (Int.toNat c)])=true→(ad=ad∧0+len=List.length l∧len<len+1∧(len+1+(len+1)/4+512)*1≤281474976710656∧len+1<4611686018427387904)∧ad+1=ad+1∧0+(len+1-0)≤List.length (l++[.int .u8 c])∧(∃b3,List.take (len+1-0) (List.drop (bA.idx {id:=2,ad:=ad+1,idx:=0,fld:=0,es:=1}) (af.bk (dn l ad m aG c)))=aN b3)∧List.length (strOf (List.take (len+1-0) (List.drop 0 (List.append l [.int .u8 c]))))<1099511627776∧(valid (strOf (List.take (len+1-0) (List.drop 0 (List.append l [.int .u8 c]))))=true→False)∧(valid (strOf (List.take (len+1-0) (List.drop 0 (List.append l [.int .u8 c]))))=false→ad+1=ad+1∧0+(len+1)≤List.length (l++[.int .u8 c])∧(∃b3,List.take (len+1) (List.drop (bA.idx {id:=2,ad:=ad+1,idx:=0,fld:=0,es:=1}) (af.bk (dn l ad m aG c)))=aN b3)∧cq (yu f pv ov dty uty P O l ad m aG len a0 av a2 a3 n c) ⟨0,0,0,0,6⟩ ((ef l len c))∧∀(b5:J),cr (yu f pv ov dty uty P O l ad m aG len a0 av a2 a3 n c) ⟨0,0,0,0,6⟩ ((ef l len c)) b5→bC 5 (b5.U) (ae (.tuple []) b5)))∧(valid (strOf (List.take (len-0) l)++[UInt8.ofNat (Int.toNat c)])=false→((↑(List.length (Prod.snd (b6 a0 av a2 a3 n c))):Int)=0→dA (2^30-8) ez (yt f pv ov dty uty P O l ad m aG len a0 av a2 a3 n c) ⟨0,0,0,0,6⟩ c∧∀(cg:J),dB bad (yt f pv ov dty uty P O l ad m aG len a0 av a2 a3 n c) ⟨0,0,0,0,6⟩ c cg→bC 5 (cg.U) (ae (.tuple []) cg))∧(¬(↑(List.length (Prod.snd (b6 a0 av a2 a3 n c))):Int)=0→dA (2^30-8) ez (yv f pv ov dty uty P O l ad m aG len a0 av a2 a3 n c) ⟨0,0,0,0,6⟩ c∧∀(cg:J),dB bad (yv f pv ov dty uty P O l ad m aG len a0 av a2 a3 n c) ⟨0,0,0,0,6⟩ c cg→bC 5 (cg.U) (ae (.tuple []) cg))))))∧(¬0<(len:Int)→(b6 a0 av a2 a3 n c).1=[]∧ix a0 av a2 a3 n c∧(0<(↑(List.length (Prod.snd (b6 a0 av a2 a3 n c))):Int)→(ad=ad∧0+len=List.length l∧len<len+1∧(len+1+(len+1)/4+512)*1≤281474976710656∧len+1<4611686018427387904)∧ae (.tuple []) (J.ar 60 [(0,(hy f pv ov dty ad len)),(1,(gP uty ad a0 av a2 a3 n c)),(2,(dn l ad m aG c)),(3,P),(4,O),(27,(cV c)),(55,af.an [.int .u8 c] 1 true)]))∧(¬0<(↑(List.length (Prod.snd (b6 a0 av a2 a3 n c))):Int)→ad=ad∧0+(len-0)≤List.length l∧(∃b3,List.take (len-0) (List.drop (bA.idx ⟨2,ad,0,0,1⟩) (af.bk (ee l ad m aG)))=aN b3)∧Nat.le (Nat.succ (List.length (strOf (List.take (len-0) l))+List.length [UInt8.ofNat (Int.toNat c)])) (2^62)∧List.length (strOf (List.take (len-0) l)++[UInt8.ofNat (Int.toNat c)])<1099511627776∧(valid (strOf (List.take (len-0) l)++[UInt8.ofNat (Int.toNat c)])=true→(ad=ad∧0+len=List.length l∧len<len+1∧(len+1+(len+1)/4+512)*1≤281474976710656∧len+1<4611686018427387904)∧ad+1=ad+1∧0+(len+1-0)≤List.length (l++[.int .u8 c])∧(∃b3,List.take (len+1-0) (List.drop (bA.idx {id:=2,ad:=ad+1,idx:=0,fld:=0,es:=1}) (af.bk (dn l ad m aG c)))=aN b3)∧List.length (strOf (List.take (len+1-0) (List.drop 0 (List.append l [.int .u8 c]))))<1099511627776∧(valid (strOf (List.take (len+1-0) (List.drop 0 (List.append l [.int .u8 c]))))=true→False)∧(valid (strOf (List.take (len+1-0) (List.drop 0 (List.append l [.int .u8 c]))))=false→ad+1=ad+1∧0+(len+1)≤List.length (l++[.int .u8 c])∧(∃b3,List.take (len+1) (List.drop (bA.idx {id:=2,ad:=ad+1,idx:=0,fld:=0,es:=1}) (af.bk (dn l ad m aG c)))=aN b3)∧cq (yu f pv ov dty uty P O l ad m aG len a0 av a2 a3 n c) ⟨0,0,0,0,6⟩ ((ef l len c))∧∀(b5:J),cr (yu f pv ov dty uty P O l ad m aG len a0 av a2 a3 n c) ⟨0,0,0,0,6⟩ ((ef l len c)) b5→bC 5 (b5.U) (ae (.tuple []) b5)))∧(valid (strOf (List.take (len-0) l)++[UInt8.ofNat (Int.toNat c)])=false→((↑(List.length (Prod.snd (b6 a0 av a2 a3 n c))):Int)=0→dA (2^30-8) ez (yt f pv ov dty uty P O l ad m aG len a0 av a2 a3 n c) ⟨0,0,0,0,6⟩ c∧∀(cg:J),dB bad (yt f pv ov dty uty P O l ad m aG len a0 av a2 a3 n c) ⟨0,0,0,0,6⟩ c cg→bC 5 (cg.U) (ae (.tuple []) cg))∧(¬(↑(List.length (Prod.snd (b6 a0 av a2 a3 n c))):Int)=0→dA (2^30-8) ez (yv f pv ov dty uty P O l ad m aG len a0 av a2 a3 n c) ⟨0,0,0,0,6⟩ c∧∀(cg:J),dB bad (yv f pv ov dty uty P O l ad m aG len a0 av a2 a3 n c) ⟨0,0,0,0,6⟩ c cg→bC 5 (cg.U) (ae (.tuple []) cg)))))) :
 b4 90 [.ptr (aJ 0),.int .u8 c] (J.of [b0 0 f 1 (.slice (some ⟨2,ad,0,0,1⟩) len len) pv false ov dty,hg a0 av a2 a3 n uty,ct l 1 ad m aG cA,P,O]) ae :=
 b9 YH (.aI 1005 (ak 1011 (ak 1012 (.aI 1013 (he 4004 (.aI 4005 (ak 5007 .nil) (ak 6018 (ak 6019 (ak 6023 (.aI 6024 (ak 7007 (ak 8005 (ak 8006 (.aI 9001 .nil (ak 11005 .nil))))) (he 12004 (.aI 1007 .nil .nil)))))))) Ov))) Ov) aW
abbrev Ow:c':=(ak 7007 (ak 8006 (.aI 9001 .nil (ak 11005 .nil))))
abbrev Ho:c':=(ak 8005 (ak 8006 (.aI 9001 .nil (ak 11005 .nil))))
abbrev Hp:c':=(.aI 6024 Ow (he 12004 (.aI 1007 .nil .nil)))
abbrev B1:c':=(ak 6023 (.aI 6024 (ak 7007 Ho) (he 12004 (.aI 1007 .nil .nil))))
abbrev B2:c':=(.aI 6010 Ow (ak 6019 (ak 6023 Hp)))
abbrev qv(f:Nat)(pv ov:aa)(dty uty:bL)(P O:af)(l:List aa)(ad m aG len:Nat)(a0 av a2 a3 n c:Int):J:=(J.ar 95 [(0,(hx f pv ov dty ad len)),(1,(gP uty ad a0 av a2 a3 n c)),(2,(ee l ad m aG)),(3,P),(4,O),(27,(cV c)),(30,(jE a0 av a2 a3 n c)),(71,af.an [.int .u8 c] 1 true)])
abbrev yw(f:Nat)(pv ov:aa)(dty uty:bL)(P O:af)(l:List aa)(ad m aG len:Nat)(a0 av a2 a3 n c:Int):J:=(J.ar 97 [(0,(hx f pv ov dty ad len)),(1,(gP uty ad a0 av a2 a3 n c)),(2,(ee l ad m aG)),(3,P),(4,O),(29,(cV c)),(32,(jE a0 av a2 a3 n c)),(73,af.an [.int .u8 c] 1 true)])
abbrev qw(f:Nat)(pv ov:aa)(dty uty:bL)(P O:af)(l:List aa)(ad m aG len:Nat)(a0 av a2 a3 n c:Int):J:=(J.ar 104 [(0,(hy f pv ov dty ad len)),(1,(gP uty ad a0 av a2 a3 n c)),(2,(dn l ad m aG c)),(3,P),(4,O),(27,(cV c)),(30,(jE a0 av a2 a3 n c)),(82,af.an [.int .u8 c] 1 true)])
abbrev qx(f:Nat)(pv ov:aa)(dty uty:bL)(P O:af)(l:List aa)(ad m aG len:Nat)(a0 av a2 a3 n c:Int):J:=(J.ar 105 [(0,(hy f pv ov dty ad len)),(1,(gP uty ad a0 av a2 a3 n c)),(2,(dn l ad m aG c)),(3,P),(4,O),(27,(cV c)),(30,(jE a0 av a2 a3 n c)),(82,af.an [.int .u8 c] 1 true)])
abbrev yx(f:Nat)(pv ov:aa)(dty uty:bL)(P O:af)(l:List aa)(ad m aG len:Nat)(a0 av a2 a3 n c:Int):J:=(J.ar 106 [(0,(hy f pv ov dty ad len)),(1,(gP uty ad a0 av a2 a3 n c)),(2,(dn l ad m aG c)),(3,P),(4,O),(29,(cV c)),(32,(jE a0 av a2 a3 n c)),(84,af.an [.int .u8 c] 1 true)])
abbrev yy(f:Nat)(pv ov:aa)(dty uty:bL)(P O:af)(l:List aa)(ad m aG len:Nat)(a0 av a2 a3 n c:Int):J:=(J.ar 107 [(0,(hy f pv ov dty ad len)),(1,(gP uty ad a0 av a2 a3 n c)),(2,(dn l ad m aG c)),(3,P),(4,O),(29,(cV c)),(32,(jE a0 av a2 a3 n c)),(84,af.an [.int .u8 c] 1 true)])
abbrev qy(f:Nat)(pv ov:aa)(dty uty:bL)(P O:af)(l:List aa)(ad m aG len:Nat)(a0 av a2 a3 n c:Int):J:=(J.ar 104 [(0,(hy f pv ov dty ad len)),(1,(gP uty ad a0 av a2 a3 n c)),(2,(dn l ad m aG c)),(3,P),(4,O),(27,(cV c)),(30,(jE a0 av a2 a3 n c)),(71,af.an [.int .u8 c] 1 true),(82,af.an [.int .u8 c] 1 true)])
abbrev qz(f:Nat)(pv ov:aa)(dty uty:bL)(P O:af)(l:List aa)(ad m aG len:Nat)(a0 av a2 a3 n c:Int):J:=(J.ar 105 [(0,(hy f pv ov dty ad len)),(1,(gP uty ad a0 av a2 a3 n c)),(2,(dn l ad m aG c)),(3,P),(4,O),(27,(cV c)),(30,(jE a0 av a2 a3 n c)),(71,af.an [.int .u8 c] 1 true),(82,af.an [.int .u8 c] 1 true)])
abbrev yz(f:Nat)(pv ov:aa)(dty uty:bL)(P O:af)(l:List aa)(ad m aG len:Nat)(a0 av a2 a3 n c:Int):J:=(J.ar 106 [(0,(hy f pv ov dty ad len)),(1,(gP uty ad a0 av a2 a3 n c)),(2,(dn l ad m aG c)),(3,P),(4,O),(29,(cV c)),(32,(jE a0 av a2 a3 n c)),(73,af.an [.int .u8 c] 1 true),(84,af.an [.int .u8 c] 1 true)])
abbrev yA(f:Nat)(pv ov:aa)(dty uty:bL)(P O:af)(l:List aa)(ad m aG len:Nat)(a0 av a2 a3 n c:Int):J:=(J.ar 107 [(0,(hy f pv ov dty ad len)),(1,(gP uty ad a0 av a2 a3 n c)),(2,(dn l ad m aG c)),(3,P),(4,O),(29,(cV c)),(32,(jE a0 av a2 a3 n c)),(73,af.an [.int .u8 c] 1 true),(84,af.an [.int .u8 c] 1 true)])
abbrev qA(f:Nat)(pv ov:aa)(dty uty:bL)(P O:af)(l:List aa)(ad m aG len:Nat)(a0 av a2 a3 n c:Int):J:=(J.ar 100 [(0,(hx f pv ov dty ad len)),(1,(pw uty ad a0 av a2 a3 n c)),(2,(ee l ad m aG)),(3,P),(4,O),(27,(cV c)),(30,(jE a0 av a2 a3 n c)),(71,af.an [.int .u8 c] 1 true),(95,af.an [.int .i32 65533] 1 true)])
abbrev yB(f:Nat)(pv ov:aa)(dty uty:bL)(P O:af)(l:List aa)(ad m aG len:Nat)(a0 av a2 a3 n c:Int):J:=(J.ar 102 [(0,(hx f pv ov dty ad len)),(1,(pw uty ad a0 av a2 a3 n c)),(2,(ee l ad m aG)),(3,P),(4,O),(29,(cV c)),(32,(jE a0 av a2 a3 n c)),(73,af.an [.int .u8 c] 1 true),(97,af.an [.int .i32 65533] 1 true)])
theorem YO(f:Nat)(pv ov:aa)(dty uty:bL)(P O:af)(l:List aa)(ad m aG len:Nat)(a0 av a2 a3 n c:Int)(ae:bI)(aW:(0<(len:Int)→((0:Int)≤0∧0<(len:Int))∧ad=ad∧l[0]? =some (.int .u8 (ba l 0))∧(ba l 0=27→ ¬(b6 a0 av a2 a3 n c).1=[]∧List.length (Prod.fst (b6 a0 av a2 a3 n c))=1∧ix a0 av a2 a3 n c∧(0<(↑(List.length (Prod.snd (b6 a0 av a2 a3 n c))):Int)→((len:Int)=1→(ad=ad∧0+len=List.length l∧len<len+1∧(len+1+(len+1)/4+512)*1≤281474976710656∧len+1<4611686018427387904)∧((0:Int)≤1∧1≤(↑(len+1):Int)∧len+1≤len+1)∧ad+1=ad+1∧1+(len+1-1)≤List.length (l++[.int .u8 c])∧(∃b3,List.take (len+1-1) (List.drop (bA.idx {id:=2,ad:=ad+1,idx:=1,fld:=0,es:=1}) (af.bk (dn l ad m aG c)))=aN b3)∧List.length (strOf (List.take (len+1-1) (List.drop 1 (List.append l [.int .u8 c]))))<1099511627776∧(valid (strOf (List.take (len+1-1) (List.drop 1 (List.append l [.int .u8 c]))))=true→cq (yx f pv ov dty uty P O l ad m aG len a0 av a2 a3 n c) ⟨0,0,0,0,6⟩ ((ie a0 av a2 a3 n c))∧∀(cl:J),cr (yx f pv ov dty uty P O l ad m aG len a0 av a2 a3 n c) ⟨0,0,0,0,6⟩ ((ie a0 av a2 a3 n c)) cl→bC 5 (cl.U) (ae (.tuple []) cl))∧(valid (strOf (List.take (len+1-1) (List.drop 1 (List.append l [.int .u8 c]))))=false→ad+1=ad+1∧0+(len+1)≤List.length (l++[.int .u8 c])∧(∃b3,List.take (len+1) (List.drop (bA.idx {id:=2,ad:=ad+1,idx:=0,fld:=0,es:=1}) (af.bk (dn l ad m aG c)))=aN b3)∧cq (yy f pv ov dty uty P O l ad m aG len a0 av a2 a3 n c) ⟨0,0,0,0,6⟩ ((ef l len c))∧∀(b5:J),cr (yy f pv ov dty uty P O l ad m aG len a0 av a2 a3 n c) ⟨0,0,0,0,6⟩ ((ef l len c)) b5→bC 5 (b5.U) (ae (.tuple []) b5)))∧(¬(len:Int)=1→((0:Int)≤1∧1≤(len:Int)∧len≤len)∧ad=ad∧1+(len-1)≤List.length l∧(∃b3,List.take (len-1) (List.drop (bA.idx ⟨2,ad,1,0,1⟩) (af.bk (ee l ad m aG)))=aN b3)∧Nat.le (Nat.succ (List.length (strOf (List.take (len-1) (List.drop 1 l)))+List.length [UInt8.ofNat (Int.toNat c)])) (2^62)∧List.length (strOf (List.take (len-1) (List.drop 1 l))++[UInt8.ofNat (Int.toNat c)])<1099511627776∧(valid (strOf (List.take (len-1) (List.drop 1 l))++[UInt8.ofNat (Int.toNat c)])=true→(ad=ad∧0+len=List.length l∧len<len+1∧(len+1+(len+1)/4+512)*1≤281474976710656∧len+1<4611686018427387904)∧((0:Int)≤1∧1≤(↑(len+1):Int)∧len+1≤len+1)∧ad+1=ad+1∧1+(len+1-1)≤List.length (l++[.int .u8 c])∧(∃b3,List.take (len+1-1) (List.drop (bA.idx {id:=2,ad:=ad+1,idx:=1,fld:=0,es:=1}) (af.bk (dn l ad m aG c)))=aN b3)∧List.length (strOf (List.take (len+1-1) (List.drop 1 (List.append l [.int .u8 c]))))<1099511627776∧(valid (strOf (List.take (len+1-1) (List.drop 1 (List.append l [.int .u8 c]))))=true→cq (yz f pv ov dty uty P O l ad m aG len a0 av a2 a3 n c) ⟨0,0,0,0,6⟩ ((ie a0 av a2 a3 n c))∧∀(cl:J),cr (yz f pv ov dty uty P O l ad m aG len a0 av a2 a3 n c) ⟨0,0,0,0,6⟩ ((ie a0 av a2 a3 n c)) cl→bC 5 (cl.U) (ae (.tuple []) cl))∧(valid (strOf (List.take (len+1-1) (List.drop 1 (List.append l [.int .u8 c]))))=false→ad+1=ad+1∧0+(len+1)≤List.length (l++[.int .u8 c])∧(∃b3,List.take (len+1) (List.drop (bA.idx {id:=2,ad:=ad+1,idx:=0,fld:=0,es:=1}) (af.bk (dn l ad m aG c)))=aN b3)∧cq (yA f pv ov dty uty P O l ad m aG len a0 av a2 a3 n c) ⟨0,0,0,0,6⟩ ((ef l len c))∧∀(b5:J),cr (yA f pv ov dty uty P O l ad m aG len a0 av a2 a3 n c) ⟨0,0,0,0,6⟩ ((ef l len c)) b5→bC 5 (b5.U) (ae (.tuple []) b5)))∧(valid (strOf (List.take (len-1) (List.drop 1 l))++[UInt8.ofNat (Int.toNat c)])=false→((↑(List.length (Prod.snd (b6 a0 av a2 a3 n c))):Int)=0→dA (2^30-8) ez (yw f pv ov dty uty P O l ad m aG len a0 av a2 a3 n c) ⟨0,0,0,0,6⟩ c∧∀(cg:J),dB bad (yw f pv ov dty uty P O l ad m aG len a0 av a2 a3 n c) ⟨0,0,0,0,6⟩ c cg→bC 5 (cg.U) (ae (.tuple []) cg))∧(¬(↑(List.length (Prod.snd (b6 a0 av a2 a3 n c))):Int)=0→dA (2^30-8) ez (yB f pv ov dty uty P O l ad m aG len a0 av a2 a3 n c) ⟨0,0,0,0,6⟩ c∧∀(cg:J),dB bad (yB f pv ov dty uty P O l ad m aG len a0 av a2 a3 n c) ⟨0,0,0,0,6⟩ c cg→bC 5 (cg.U) (ae (.tuple []) cg)))))∧(¬0<(↑(List.length (Prod.snd (b6 a0 av a2 a3 n c))):Int)→((len:Int)=1→(ad=ad∧0+len=List.length l∧len<len+1∧(len+1+(len+1)/4+512)*1≤281474976710656∧len+1<4611686018427387904)∧((0:Int)≤1∧1≤(↑(len+1):Int)∧len+1≤len+1)∧ad+1=ad+1∧1+(len+1-1)≤List.length (l++[.int .u8 c])∧(∃b3,List.take (len+1-1) (List.drop (bA.idx {id:=2,ad:=ad+1,idx:=1,fld:=0,es:=1}) (af.bk (dn l ad m aG c)))=aN b3)∧List.length (strOf (List.take (len+1-1) (List.drop 1 (List.append l [.int .u8 c]))))<1099511627776∧(valid (strOf (List.take (len+1-1) (List.drop 1 (List.append l [.int .u8 c]))))=true→cq (yx f pv ov dty uty P O l ad m aG len a0 av a2 a3 n c) ⟨0,0,0,0,6⟩ ((ie a0 av a2 a3 n c))∧∀(cl:J),cr (yx f pv ov dty uty P O l ad m aG len a0 av a2 a3 n c) ⟨0,0,0,0,6⟩ ((ie a0 av a2 a3 n c)) cl→bC 5 (cl.U) (ae (.tuple []) cl))∧(valid (strOf (List.take (len+1-1) (List.drop 1 (List.append l [.int .u8 c]))))=false→ad+1=ad+1∧0+(len+1)≤List.length (l++[.int .u8 c])∧(∃b3,List.take (len+1) (List.drop (bA.idx {id:=2,ad:=ad+1,idx:=0,fld:=0,es:=1}) (af.bk (dn l ad m aG c)))=aN b3)∧cq (yy f pv ov dty uty P O l ad m aG len a0 av a2 a3 n c) ⟨0,0,0,0,6⟩ ((ef l len c))∧∀(b5:J),cr (yy f pv ov dty uty P O l ad m aG len a0 av a2 a3 n c) ⟨0,0,0,0,6⟩ ((ef l len c)) b5→bC 5 (b5.U) (ae (.tuple []) b5)))∧(¬(len:Int)=1→((0:Int)≤1∧1≤(len:Int)∧len≤len)∧ad=ad∧1+(len-1)≤List.length l∧(∃b3,List.take (len-1) (List.drop (bA.idx ⟨2,ad,1,0,1⟩) (af.bk (ee l ad m aG)))=aN b3)∧Nat.le (Nat.succ (List.length (strOf (List.take (len-1) (List.drop 1 l)))+List.length [UInt8.ofNat (Int.toNat c)])) (2^62)∧List.length (strOf (List.take (len-1) (List.drop 1 l))++[UInt8.ofNat (Int.toNat c)])<1099511627776∧(valid (strOf (List.take (len-1) (List.drop 1 l))++[UInt8.ofNat (Int.toNat c)])=true→(ad=ad∧0+len=List.length l∧len<len+1∧(len+1+(len+1)/4+512)*1≤281474976710656∧len+1<4611686018427387904)∧((0:Int)≤1∧1≤(↑(len+1):Int)∧len+1≤len+1)∧ad+1=ad+1∧1+(len+1-1)≤List.length (l++[.int .u8 c])∧(∃b3,List.take (len+1-1) (List.drop (bA.idx {id:=2,ad:=ad+1,idx:=1,fld:=0,es:=1}) (af.bk (dn l ad m aG c)))=aN b3)∧List.length (strOf (List.take (len+1-1) (List.drop 1 (List.append l [.int .u8 c]))))<1099511627776∧(valid (strOf (List.take (len+1-1) (List.drop 1 (List.append l [.int .u8 c]))))=true→cq (yz f pv ov dty uty P O l ad m aG len a0 av a2 a3 n c) ⟨0,0,0,0,6⟩ ((ie a0 av a2 a3 n c))∧∀(cl:J),cr (yz f pv ov dty uty P O l ad m aG len a0 av a2 a3 n c) ⟨0,0,0,0,6⟩ ((ie a0 av a2 a3 n c)) cl→bC 5 (cl.U) (ae (.tuple []) cl))∧(valid (strOf (List.take (len+1-1) (List.drop 1 (List.append l [.int .u8 c]))))=false→ad+1=ad+1∧0+(len+1)≤List.length (l++[.int .u8 c])∧(∃b3,List.take (len+1) (List.drop (bA.idx {id:=2,ad:=ad+1,idx:=0,fld:=0,es:=1}) (af.bk (dn l ad m aG c)))=aN b3)∧cq (yA f pv ov dty uty P O l ad m aG len a0 av a2 a3 n c) ⟨0,0,0,0,6⟩ ((ef l len c))∧∀(b5:J),cr (yA f pv ov dty uty P O l ad m aG len a0 av a2 a3 n c) ⟨0,0,0,0,6⟩ ((ef l len c)) b5→bC 5 (b5.U) (ae (.tuple []) b5)))∧(valid (strOf (List.take (len-1) (List.drop 1 l))++[UInt8.ofNat (Int.toNat c)])=false→((↑(List.length (Prod.snd (b6 a0 av a2 a3 n c))):Int)=0→dA (2^30-8) ez (yw f pv ov dty uty P O l ad m aG len a0 av a2 a3 n c) ⟨0,0,0,0,6⟩ c∧∀(cg:J),dB bad (yw f pv ov dty uty P O l ad m aG len a0 av a2 a3 n c) ⟨0,0,0,0,6⟩ c cg→bC 5 (cg.U) (ae (.tuple []) cg))∧(¬(↑(List.length (Prod.snd (b6 a0 av a2 a3 n c))):Int)=0→dA (2^30-8) ez (yB f pv ov dty uty P O l ad m aG len a0 av a2 a3 n c) ⟨0,0,0,0,6⟩ c∧∀(cg:J),dB bad (yB f pv ov dty uty P O l ad m aG len a0 av a2 a3 n c) ⟨0,0,0,0,6⟩ c cg→bC 5 (cg.U) (ae (.tuple []) cg))))))∧(¬ba l 0=27→ ¬(b6 a0 av a2 a3 n c).1=[]∧List.length (Prod.fst (b6 a0 av a2 a3 n c))=1∧ix a0 av a2 a3 n c∧(0<(↑(List.length (Prod.snd (b6 a0 av a2 a3 n c))):Int)→((len:Int)=0→(ad=ad∧0+len=List.length l∧len<len+1∧(len+1+(len+1)/4+512)*1≤281474976710656∧len+1<4611686018427387904)∧ad+1=ad+1∧0+(len+1-0)≤List.length (l++[.int .u8 c])∧(∃b3,List.take (len+1-0) (List.drop (bA.idx {id:=2,ad:=ad+1,idx:=0,fld:=0,es:=1}) (af.bk (dn l ad m aG c)))=aN b3)∧List.length (strOf (List.take (len+1-0) (List.drop 0 (List.append l [.int .u8 c]))))<1099511627776∧(valid (strOf (List.take (len+1-0) (List.drop 0 (List.append l [.int .u8 c]))))=true→cq (qw f pv ov dty uty P O l ad m aG len a0 av a2 a3 n c) ⟨0,0,0,0,6⟩ ((fQ a0 av a2 a3 n c))∧∀(cl:J),cr (qw f pv ov dty uty P O l ad m aG len a0 av a2 a3 n c) ⟨0,0,0,0,6⟩ ((fQ a0 av a2 a3 n c)) cl→bC 5 (cl.U) (ae (.tuple []) cl))∧(valid (strOf (List.take (len+1-0) (List.drop 0 (List.append l [.int .u8 c]))))=false→ad+1=ad+1∧0+(len+1)≤List.length (l++[.int .u8 c])∧(∃b3,List.take (len+1) (List.drop (bA.idx {id:=2,ad:=ad+1,idx:=0,fld:=0,es:=1}) (af.bk (dn l ad m aG c)))=aN b3)∧cq (qx f pv ov dty uty P O l ad m aG len a0 av a2 a3 n c) ⟨0,0,0,0,6⟩ ((ef l len c))∧∀(b5:J),cr (qx f pv ov dty uty P O l ad m aG len a0 av a2 a3 n c) ⟨0,0,0,0,6⟩ ((ef l len c)) b5→bC 5 (b5.U) (ae (.tuple []) b5)))∧(¬(len:Int)=0→ad=ad∧0+(len-0)≤List.length l∧(∃b3,List.take (len-0) (List.drop (bA.idx ⟨2,ad,0,0,1⟩) (af.bk (ee l ad m aG)))=aN b3)∧Nat.le (Nat.succ (List.length (strOf (List.take (len-0) l))+List.length [UInt8.ofNat (Int.toNat c)])) (2^62)∧List.length (strOf (List.take (len-0) l)++[UInt8.ofNat (Int.toNat c)])<1099511627776∧(valid (strOf (List.take (len-0) l)++[UInt8.ofNat (Int.toNat c)])=true→(ad=ad∧0+len=List.length l∧len<len+1∧(len+1+(len+1)/4+512)*1≤281474976710656∧len+1<4611686018427387904)∧ad+1=ad+1∧0+(len+1-0)≤List.length (l++[.int .u8 c])∧(∃b3,List.take (len+1-0) (List.drop (bA.idx {id:=2,ad:=ad+1,idx:=0,fld:=0,es:=1}) (af.bk (dn l ad m aG c)))=aN b3)∧List.length (strOf (List.take (len+1-0) (List.drop 0 (List.append l [.int .u8 c]))))<1099511627776∧(valid (strOf (List.take (len+1-0) (List.drop 0 (List.append l [.int .u8 c]))))=true→cq (qy f pv ov dty uty P O l ad m aG len a0 av a2 a3 n c) ⟨0,0,0,0,6⟩ ((fQ a0 av a2 a3 n c))∧∀(cl:J),cr (qy f pv ov dty uty P O l ad m aG len a0 av a2 a3 n c) ⟨0,0,0,0,6⟩ ((fQ a0 av a2 a3 n c)) cl→bC 5 (cl.U) (ae (.tuple []) cl))∧(valid (strOf (List.take (len+1-0) (List.drop 0 (List.append l [.int .u8 c]))))=false→ad+1=ad+1∧0+(len+1)≤List.length (l++[.int .u8 c])∧(∃b3,List.take (len+1) (List.drop (bA.idx {id:=2,ad:=ad+1,idx:=0,fld:=0,es:=1}) (af.bk (dn l ad m aG c)))=aN b3)∧cq (qz f pv ov dty uty P O l ad m aG len a0 av a2 a3 n c) ⟨0,0,0,0,6⟩ ((ef l len c))∧∀(b5:J),cr (qz f pv ov dty uty P O l ad m aG len a0 av a2 a3 n c) ⟨0,0,0,0,6⟩ ((ef l len c)) b5→bC 5 (b5.U) (ae (.tuple []) b5)))∧(valid (strOf (List.take (len-0) l)++[UInt8.ofNat (Int.toNat c)])=false→((↑(List.length (Prod.snd (b6 a0 av a2 a3 n c))):Int)=0→dA (2^30-8) ez (qv f pv ov dty uty P O l ad m aG len a0 av a2 a3 n c) ⟨0,0,0,0,6⟩ c∧∀(cg:J),dB bad (qv f pv ov dty uty P O l ad m aG len a0 av a2 a3 n c) ⟨0,0,0,0,6⟩ c cg→bC 5 (cg.U) (ae (.tuple []) cg))∧(¬(↑(List.length (Prod.snd (b6 a0 av a2 a3 n c))):Int)=0→dA (2^30-8) ez (qA f pv ov dty uty P O l ad m aG len a0 av a2 a3 n c) ⟨0,0,0,0,6⟩ c∧∀(cg:J),dB bad (qA f pv ov dty uty P O l ad m aG len a0 av a2 a3 n c) ⟨0,0,0,0,6⟩ c cg→bC 5 (cg.U) (ae (.tuple []) cg)))))∧(¬0<(↑(List.length (Prod.snd (b6 a0 av a2 a3 n c))):Int)→((len:Int)=0→(ad=ad∧0+len=List.length l∧len<len+1∧(len+1+(len+1)/4+512)*1≤281474976710656∧len+1<4611686018427387904)∧ad+1=ad+1∧0+(len+1-0)≤List.length (l++[.int .u8 c])∧(∃b3,List.take (len+1-0) (List.drop (bA.idx {id:=2,ad:=ad+1,idx:=0,fld:=0,es:=1}) (af.bk (dn l ad m aG c)))=aN b3)∧List.length (strOf (List.take (len+1-0) (List.drop 0 (List.append l [.int .u8 c]))))<1099511627776∧(valid (strOf (List.take (len+1-0) (List.drop 0 (List.append l [.int .u8 c]))))=true→cq (qw f pv ov dty uty P O l ad m aG len a0 av a2 a3 n c) ⟨0,0,0,0,6⟩ ((fQ a0 av a2 a3 n c))∧∀(cl:J),cr (qw f pv ov dty uty P O l ad m aG len a0 av a2 a3 n c) ⟨0,0,0,0,6⟩ ((fQ a0 av a2 a3 n c)) cl→bC 5 (cl.U) (ae (.tuple []) cl))∧(valid (strOf (List.take (len+1-0) (List.drop 0 (List.append l [.int .u8 c]))))=false→ad+1=ad+1∧0+(len+1)≤List.length (l++[.int .u8 c])∧(∃b3,List.take (len+1) (List.drop (bA.idx {id:=2,ad:=ad+1,idx:=0,fld:=0,es:=1}) (af.bk (dn l ad m aG c)))=aN b3)∧cq (qx f pv ov dty uty P O l ad m aG len a0 av a2 a3 n c) ⟨0,0,0,0,6⟩ ((ef l len c))∧∀(b5:J),cr (qx f pv ov dty uty P O l ad m aG len a0 av a2 a3 n c) ⟨0,0,0,0,6⟩ ((ef l len c)) b5→bC 5 (b5.U) (ae (.tuple []) b5)))∧(¬(len:Int)=0→ad=ad∧0+(len-0)≤List.length l∧(∃b3,List.take (len-0) (List.drop (bA.idx ⟨2,ad,0,0,1⟩) (af.bk (ee l ad m aG)))=aN b3)∧Nat.le (Nat.succ (List.length (strOf (List.take (len-0) l))+List.length [UInt8.ofNat (Int.toNat c)])) (2^62)∧List.length (strOf (List.take (len-0) l)++[UInt8.ofNat (Int.toNat c)])<1099511627776∧(valid (strOf (List.take (len-0) l)++[UInt8.ofNat (Int.toNat c)])=true→(ad=ad∧0+len=List.length l∧len<len+1∧(len+1+(len+1)/4+512)*1≤281474976710656∧len+1<4611686018427387904)∧ad+1=ad+1∧0+(len+1-0)≤List.length (l++[.int .u8 c])∧(∃b3,List.take (len+1-0) (List.drop (bA.idx {id:=2,ad:=ad+1,idx:=0,fld:=0,es:=1}) (af.bk (dn l ad m aG c)))=aN b3)∧List.length (strOf (List.take (len+1-0) (List.drop 0 (List.append l [.int .u8 c]))))<1099511627776∧(valid (strOf (List.take (len+1-0) (List.drop 0 (List.append l [.int .u8 c]))))=true→cq (qy f pv ov dty uty P O l ad m aG len a0 av a2 a3 n c) ⟨0,0,0,0,6⟩ ((fQ a0 av a2 a3 n c))∧∀(cl:J),cr (qy f pv ov dty uty P O l ad m aG len a0 av a2 a3 n c) ⟨0,0,0,0,6⟩ ((fQ a0 av a2 a3 n c)) cl→bC 5 (cl.U) (ae (.tuple []) cl))∧(valid (strOf (List.take (len+1-0) (List.drop 0 (List.append l [.int .u8 c]))))=false→ad+1=ad+1∧0+(len+1)≤List.length (l++[.int .u8 c])∧(∃b3,List.take (len+1) (List.drop (bA.idx {id:=2,ad:=ad+1,idx:=0,fld:=0,es:=1}) (af.bk (dn l ad m aG c)))=aN b3)∧cq (qz f pv ov dty uty P O l ad m aG len a0 av a2 a3 n c) ⟨0,0,0,0,6⟩ ((ef l len c))∧∀(b5:J),cr (qz f pv ov dty uty P O l ad m aG len a0 av a2 a3 n c) ⟨0,0,0,0,6⟩ ((ef l len c)) b5→bC 5 (b5.U) (ae (.tuple []) b5)))∧(valid (strOf (List.take (len-0) l)++[UInt8.ofNat (Int.toNat c)])=false→((↑(List.length (Prod.snd (b6 a0 av a2 a3 n c))):Int)=0→dA (2^30-8) ez (qv f pv ov dty uty P O l ad m aG len a0 av a2 a3 n c) ⟨0,0,0,0,6⟩ c∧∀(cg:J),dB bad (qv f pv ov dty uty P O l ad m aG len a0 av a2 a3 n c) ⟨0,0,0,0,6⟩ c cg→bC 5 (cg.U) (ae (.tuple []) cg))∧(¬(↑(List.length (Prod.snd (b6 a0 av a2 a3 n c))):Int)=0→dA (2^30-8) ez (qA f pv ov dty uty P O l ad m aG len a0 av a2 a3 n c) ⟨0,0,0,0,6⟩ c∧∀(cg:J),dB bad (qA f pv ov dty uty P O l ad m aG len a0 av a2 a3 n c) ⟨0,0,0,0,6⟩ c cg→bC 5 (cg.U) (ae (.tuple []) cg)))))))∧(¬0<(len:Int)→ ¬(b6 a0 av a2 a3 n c).1=[]∧List.length (Prod.fst (b6 a0 av a2 a3 n c))=1∧ix a0 av a2 a3 n c∧(0<(↑(List.length (Prod.snd (b6 a0 av a2 a3 n c))):Int)→((len:Int)=0→(ad=ad∧0+len=List.length l∧len<len+1∧(len+1+(len+1)/4+512)*1≤281474976710656∧len+1<4611686018427387904)∧ad+1=ad+1∧0+(len+1-0)≤List.length (l++[.int .u8 c])∧(∃b3,List.take (len+1-0) (List.drop (bA.idx {id:=2,ad:=ad+1,idx:=0,fld:=0,es:=1}) (af.bk (dn l ad m aG c)))=aN b3)∧List.length (strOf (List.take (len+1-0) (List.drop 0 (List.append l [.int .u8 c]))))<1099511627776∧(valid (strOf (List.take (len+1-0) (List.drop 0 (List.append l [.int .u8 c]))))=true→cq (qw f pv ov dty uty P O l ad m aG len a0 av a2 a3 n c) ⟨0,0,0,0,6⟩ ((fQ a0 av a2 a3 n c))∧∀(cl:J),cr (qw f pv ov dty uty P O l ad m aG len a0 av a2 a3 n c) ⟨0,0,0,0,6⟩ ((fQ a0 av a2 a3 n c)) cl→bC 5 (cl.U) (ae (.tuple []) cl))∧(valid (strOf (List.take (len+1-0) (List.drop 0 (List.append l [.int .u8 c]))))=false→ad+1=ad+1∧0+(len+1)≤List.length (l++[.int .u8 c])∧(∃b3,List.take (len+1) (List.drop (bA.idx {id:=2,ad:=ad+1,idx:=0,fld:=0,es:=1}) (af.bk (dn l ad m aG c)))=aN b3)∧cq (qx f pv ov dty uty P O l ad m aG len a0 av a2 a3 n c) ⟨0,0,0,0,6⟩ ((ef l len c))∧∀(b5:J),cr (qx f pv ov dty uty P O l ad m aG len a0 av a2 a3 n c) ⟨0,0,0,0,6⟩ ((ef l len c)) b5→bC 5 (b5.U) (ae (.tuple []) b5)))∧(¬(len:Int)=0→ad=ad∧0+(len-0)≤List.length l∧(∃b3,List.take (len-0) (List.drop (bA.idx ⟨2,ad,0,0,1⟩) (af.bk (ee l ad m aG)))=aN b3)∧Nat.le (Nat.succ (List.length (strOf (List.take (len-0) l))+List.length [UInt8.ofNat (Int.toNat c)])) (2^62)∧List.length (strOf (List.take (len-0) l)++[UInt8.ofNat (Int.toNat c)])<1099511627776∧(valid (strOf (List.take (len-0) l)++[UInt8.ofNat (Int.toNat c)])=true→(ad=ad∧0+len=List.length l∧len<len+1∧(len+1+(len+1)/4+512)*1≤281474976710656∧len+1<4611686018427387904)∧ad+1=ad+1∧0+(len+1-0)≤List.length (l++[.int .u8 c])∧(∃b3,List.take (len+1-0) (List.drop (bA.idx {id:=2,ad:=ad+1,idx:=0,fld:=0,es:=1}) (af.bk (dn l ad m aG c)))=aN b3)∧List.length (strOf (List.take (len+1-0) (List.drop 0 (List.append l [.int .u8 c]))))<1099511627776∧(valid (strOf (List.take (len+1-0) (List.drop 0 (List.append l [.int .u8 c]))))=true→cq (qy f pv ov dty uty P O l ad m aG len a0 av a2 a3 n c) ⟨0,0,0,0,6⟩ ((fQ a0 av a2 a3 n c))∧∀(cl:J),cr (qy f pv ov dty uty P O l ad m aG len a0 av a2 a3 n c) ⟨0,0,0,0,6⟩ ((fQ a0 av a2 a3 n c)) cl→bC 5 (cl.U) (ae (.tuple []) cl))∧(valid (strOf (List.take (len+1-0) (List.drop 0 (List.append l [.int .u8 c]))))=false→ad+1=ad+1∧0+(len+1)≤List.length (l++[.int .u8 c])∧(∃b3,List.take (len+1) (List.drop (bA.idx {id:=2,ad:=ad+1,idx:=0,fld:=0,es:=1}) (af.bk (dn l ad m aG c)))=aN b3)∧cq (qz f pv ov dty uty P O l ad m aG len a0 av a2 a3 n c) ⟨0,0,0,0,6⟩ ((ef l len c))∧∀(b5:J),cr (qz f pv ov dty uty P O l ad m aG len a0 av a2 a3 n c) ⟨0,0,0,0,6⟩ ((ef l len c)) b5→bC 5 (b5.U) (ae (.tuple []) b5)))∧(valid (strOf (List.take (len-0) l)++[UInt8.ofNat (Int.toNat c)])=false→((↑(List.length (Prod.snd (b6 a0 av a2 a3 n c))):Int)=0→dA (2^30-8) ez (qv f pv ov dty uty P O l ad m aG len a0 av a2 a3 n c) ⟨0,0,0,0,6⟩ c∧∀(cg:J),dB bad (qv f pv ov dty uty P O l ad m aG len a0 av a2 a3 n c) ⟨0,0,0,0,6⟩ c cg→bC 5 (cg.U) (ae (.tuple []) cg))∧(¬(↑(List.length (Prod.snd (b6 a0 av a2 a3 n c))):Int)=0→dA (2^30-8) ez (qA f pv ov dty uty P O l ad m aG len a0 av a2 a3 n c) ⟨0,0,0,0,6⟩ c∧∀(cg:J),dB bad (qA f pv ov dty uty P O l ad m aG len a0 av a2 a3 n c) ⟨0,0,0,0,6⟩ c cg→bC 5 (cg.U) (ae (.tuple []) cg)))))∧(¬0<(↑(List.length (Prod.snd (b6 a0 av a2 a3 n c))):Int)→((len:Int)=0→(ad=ad∧0+len=List.length l∧len<len+1∧(len+1+(len+1)/4+512)*1≤281474976710656∧len+1<4611686018427387904)∧ad+1=ad+1∧0+(len+1-0)≤List.length (l++[.int .u8 c])∧(∃b3,List.take (len+1-0) (List.drop (bA.idx {id:=2,ad:=ad+1,idx:=0,fld:=0,es:=1}) (af.bk (dn l ad m aG c)))=aN b3)∧List.length (strOf (List.take (len+1-0) (List.drop 0 (List.append l [.int .u8 c]))))<1099511627776∧(valid (strOf (List.take (len+1-0) (List.drop 0 (List.append l [.int .u8 c]))))=true→cq (qw f pv ov dty uty P O l ad m aG len a0 av a2 a3 n c) ⟨0,0,0,0,6⟩ ((fQ a0 av a2 a3 n c))∧∀(cl:J),cr (qw f pv ov dty uty P O l ad m aG len a0 av a2 a3 n c) ⟨0,0,0,0,6⟩ ((fQ a0 av a2 a3 n c)) cl→bC 5 (cl.U) (ae (.tuple []) cl))∧(valid (strOf (List.take (len+1-0) (List.drop 0 (List.append l [.int .u8 c]))))=false→ad+1=ad+1∧0+(len+1)≤List.length (l++[.int .u8 c])∧(∃b3,List.take (len+1) (List.drop (bA.idx {id:=2,ad:=ad+1,idx:=0,fld:=0,es:=1}) (af.bk (dn l ad m aG c)))=aN b3)∧cq (qx f pv ov dty uty P O l ad m aG len a0 av a2 a3 n c) ⟨0,0,0,0,6⟩ ((ef l len c))∧∀(b5:J),cr (qx f pv ov dty uty P O l ad m aG len a0 av a2 a3 n c) ⟨0,0,0,0,6⟩ ((ef l len c)) b5→bC 5 (b5.U) (ae (.tuple []) b5)))∧(¬(len:Int)=0→ad=ad∧0+(len-0)≤List.length l∧(∃b3,List.take (len-0) (List.drop (bA.idx ⟨2,ad,0,0,1⟩) (af.bk (ee l ad m aG)))=aN b3)∧Nat.le (Nat.succ (List.length (strOf (List.take (len-0) l))+List.length [UInt8.ofNat (Int.toNat c)])) (2^62)∧List.length (strOf (List.take (len-0) l)++[UInt8.ofNat (Int.toNat c)])<1099511627776∧(valid (strOf (List.take (len-0) l)++[UInt8.ofNat (Int.toNat c)])=true→(ad=ad∧0+len=List.length l∧len<len+1∧(len+1+(len+1)/4+512)*1≤281474976710656∧len+1<4611686018427387904)∧ad+1=ad+1∧0+(len+1-0)≤List.length (l++[.int .u8 c])∧(∃b3,List.take (len+1-0) (List.drop (bA.idx {id:=2,ad:=ad+1,idx:=0,fld:=0,es:=1}) (af.bk (dn l ad m aG c)))=aN b3)∧List.length (strOf (List.take (len+1-0) (List.drop 0 (List.append l [.int .u8 c]))))<1099511627776∧(valid (strOf (List.take (len+1-0) (List.drop 0 (List.append l [.int .u8 c]))))=true→cq (qy f pv ov dty uty P O l ad m aG len a0 av a2 a3 n c) ⟨0,0,0,0,6⟩ ((fQ a0 av a2 a3 n c))∧∀(cl:J),cr (qy f pv ov dty uty P O l ad m aG len a0 av a2 a3 n c) ⟨0,0,0,0,6⟩ ((fQ a0 av a2 a3 n c)) cl→bC 5 (cl.U) (ae (.tuple []) cl))∧(valid (strOf (List.take (len+1-0) (List.drop 0 (List.append l [.int .u8 c]))))=false→ad+1=ad+1∧0+(len+1)≤List.length (l++[.int .u8 c])∧(∃b3,List.take (len+1) (List.drop (bA.idx {id:=2,ad:=ad+1,idx:=0,fld:=0,es:=1}) (af.bk (dn l ad m aG c)))=aN b3)∧cq (qz f pv ov dty uty P O l ad m aG len a0 av a2 a3 n c) ⟨0,0,0,0,6⟩ ((ef l len c))∧∀(b5:J),cr (qz f pv ov dty uty P O l ad m aG len a0 av a2 a3 n c) ⟨0,0,0,0,6⟩ ((ef l len c)) b5→bC 5 (b5.U) (ae (.tuple []) b5)))∧(valid (strOf (List.take (len-0) l)++[UInt8.ofNat (Int.toNat c)])=false→((↑(List.length (Prod.snd (b6 a0 av a2 a3 n c))):Int)=0→dA (2^30-8) ez (qv f pv ov dty uty P O l ad m aG len a0 av a2 a3 n c) ⟨0,0,0,0,6⟩ c∧∀(cg:J),dB bad (qv f pv ov dty uty P O l ad m aG len a0 av a2 a3 n c) ⟨0,0,0,0,6⟩ c cg→bC 5 (cg.U) (ae (.tuple []) cg))∧(¬(↑(List.length (Prod.snd (b6 a0 av a2 a3 n c))):Int)=0→dA (2^30-8) ez (qA f pv ov dty uty P O l ad m aG len a0 av a2 a3 n c) ⟨0,0,0,0,6⟩ c∧∀(cg:J),dB bad (qA f pv ov dty uty P O l ad m aG len a0 av a2 a3 n c) ⟨0,0,0,0,6⟩ c cg→bC 5 (cg.U) (ae (.tuple []) cg))))))) :
 b4 90 [.ptr (aJ 0),.int .u8 c] (J.of [b0 0 f 1 (.slice (some ⟨2,ad,0,0,1⟩) len len) pv false ov dty,hg a0 av a2 a3 n uty,ct l 1 ad m aG cA,P,O]) ae :=
 b9 YJ (.aI 1005 (ak 1011 (ak 1012 (.aI 1013 (he 4004 (.aI 4005 (.aI 6010 (ak 7007 Ho) (ak 6018 (ak 6019 B1))) (.aI 6010 (ak 7007 Ho) (ak 6018 (ak 6019 B1))))) (he 4004 (.aI 4005 B2 B2))))) (he 4004 (.aI 4005 B2 B2))) aW
end Go.Proofs.YtddnafghiejcoaaGreatDoor
