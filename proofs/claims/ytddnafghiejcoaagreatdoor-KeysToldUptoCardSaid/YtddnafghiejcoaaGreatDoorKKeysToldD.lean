/-
  Parts of the proof of KeysTold.
-/
import Derived.Test.YtddnafghiejcoaaGreatDoorKKeysToldC
set_option linter.unusedVariables false
set_option linter.unusedSimpArgs false
namespace Go.Proofs.YtddnafghiejcoaaGreatDoor
open Go.cH Go.Keys
set_option maxRecDepth 1000000
abbrev mM(l:List o)(v f:Nat):J:= {bi:=l,es:=1,exact:=false,ro:=false,R:=v,fQ:=0,gF:=f,an:=some (5,0)}
abbrev ja(v:Nat)(n:Nat):o:=o.slice (some ⟨0,v,0,0,1⟩) n n
abbrev An:o:=o.slice (some ⟨68,0,0,0,1⟩) 3 3
abbrev Vi:dh:=(ah 21001 (ah 21005 (ah 6000 .nil)))
abbrev jT(v:Nat)(f:Nat)(l:List o):J:=⟨l,1,false,false,v,0,f,some (21,0)⟩
abbrev E3:o:=o.agg [.int .u8 239,.int .u8 191,.int .u8 189,.int .u8 0]
abbrev Ao(i:Nat)(l:List o):o:=o.agg [.int .u8 (cc .u8 (bD .i32 (a8 l (0+Int.toNat (i:Int))) (6)) (192)),.int .u8 (cc .u8 (128) (br .i32 (a8 l (0+Int.toNat (i:Int))) (63))),.int .u8 0,.int .u8 0]
abbrev Ap(i:Nat)(l:List o):o:=o.agg [.int .u8 (cc .u8 (bD .i32 (bD .i32 (a8 l (0+Int.toNat (i:Int))) (6)) (6)) (224)),.int .u8 (cc .u8 (128) (br .i32 (bD .i32 (a8 l (0+Int.toNat (i:Int))) (6)) (63))),.int .u8 (cc .u8 (128) (br .i32 (a8 l (0+Int.toNat (i:Int))) (63))),.int .u8 0]
abbrev uo(i:Nat)(l:List o):o:=o.agg [.int .u8 (cc .u8 (bD .i32 (bD .i32 (bD .i32 (a8 l (0+Int.toNat (i:Int))) (6)) (6)) (6)) (240)),.int .u8 (cc .u8 (128) (br .i32 (bD .i32 (bD .i32 (a8 l (0+Int.toNat (i:Int))) (6)) (6)) (63))),.int .u8 (cc .u8 (128) (br .i32 (bD .i32 (a8 l (0+Int.toNat (i:Int))) (6)) (63))),.int .u8 (cc .u8 (128) (br .i32 (a8 l (0+Int.toNat (i:Int))) (63)))]
abbrev uq:J:=(J.made ([E3]) 4 true (some (95,4)))
abbrev LA:dh:=(ah 19002 (ah 19003 (ah 20001 Vi)))
abbrev LB(i:Nat)(v:Nat)(f:Nat)(l:List o):j:=(j.au 34 [(0,(jT v f l)),(29,J.made [.int .u8 (a8 l (0+Int.toNat (i:Int)))] 1 true),(30,J.made [.int .u8 (a8 l (0+Int.toNat (i:Int)))] 1 false (some (5,0)))])
abbrev LC(i:Nat)(v:Nat)(f:Nat)(l:List o):j:=(j.au 63 [(0,(jT v f l)),(31,(J.made ([(Ao i l)]) 4 true (some (95,4)))),(59,J.made [.int .u8 (cc .u8 (bD .i32 (a8 l (0+Int.toNat (i:Int))) (6)) (192)),.int .u8 (cc .u8 (128) (br .i32 (a8 l (0+Int.toNat (i:Int))) (63)))] 1 false (some (5,0)))])
abbrev LD(i:Nat)(v:Nat)(f:Nat)(l:List o):j:=(j.au 71 [(0,(jT v f l)),(32,(J.made ([(Ap i l)]) 4 true (some (95,4)))),(67,J.made [.int .u8 (cc .u8 (bD .i32 (bD .i32 (a8 l (0+Int.toNat (i:Int))) (6)) (6)) (224)),.int .u8 (cc .u8 (128) (br .i32 (bD .i32 (a8 l (0+Int.toNat (i:Int))) (6)) (63))),.int .u8 (cc .u8 (128) (br .i32 (a8 l (0+Int.toNat (i:Int))) (63)))] 1 false (some (5,0)))])
abbrev LF(i:Nat)(v:Nat)(f:Nat)(l:List o):j:=(j.au 78 [(0,(jT v f l)),(32,(J.made ([(uo i l)]) 4 true (some (95,4)))),(74,J.made [.int .u8 (cc .u8 (bD .i32 (bD .i32 (bD .i32 (a8 l (0+Int.toNat (i:Int))) (6)) (6)) (6)) (240)),.int .u8 (cc .u8 (128) (br .i32 (bD .i32 (bD .i32 (a8 l (0+Int.toNat (i:Int))) (6)) (6)) (63))),.int .u8 (cc .u8 (128) (br .i32 (bD .i32 (a8 l (0+Int.toNat (i:Int))) (6)) (63))),.int .u8 (cc .u8 (128) (br .i32 (a8 l (0+Int.toNat (i:Int))) (63)))] 1 false (some (5,0)))])
abbrev LG(i:Nat)(v:Nat)(f:Nat)(l:List o):j:=(j.au 79 [(0,(jT v f l)),(33,(J.made ([(uo i l)]) 4 true (some (95,4)))),(75,J.made [.int .u8 (cc .u8 (bD .i32 (bD .i32 (bD .i32 (a8 l (0+Int.toNat (i:Int))) (6)) (6)) (6)) (240)),.int .u8 (cc .u8 (128) (br .i32 (bD .i32 (bD .i32 (a8 l (0+Int.toNat (i:Int))) (6)) (6)) (63))),.int .u8 (cc .u8 (128) (br .i32 (bD .i32 (a8 l (0+Int.toNat (i:Int))) (6)) (63))),.int .u8 (cc .u8 (128) (br .i32 (a8 l (0+Int.toNat (i:Int))) (63)))] 1 false (some (5,0)))])
abbrev LH:dh:=(ah 17003 (ah 18001 (ah 19001 LA)))
abbrev Aq(v:Nat)(f:Nat)(l:List o):j:=(j.au 72 [(0,(jT v f l)),(33,uq),(68,J.made [.int .u8 239,.int .u8 191,.int .u8 189] 1 false (some (5,0)))])
abbrev E4(i:Nat)(v:Nat)(f:Nat)(n:Nat)(l:List o)(ab:dj→bT→j→Prop):Prop:=(a8 l (0+Int.toNat (i:Int))<128→(0≤a8 l (0+Int.toNat (i:Int))∧a8 l (0+Int.toNat (i:Int))≤255)∧(-9223372036854775808≤(i:Int)+1∧(i:Int)+1≤9223372036854775807)∧ab .normal [(3,.slice (some ⟨30,0,0,0,1⟩) 1 1),(6,(ja v n)),(7,.int .i64 (n:Int)),(8,.int .i64 ((i:Int)+1))] (LB i v f l))
abbrev E5(i:Nat)(v:Nat)(f:Nat)(n:Nat)(l:List o)(ab:dj→bT→j→Prop):Prop:=(¬65536≤a8 l (0+Int.toNat (i:Int))→True∧(0≤br .i32 (a8 l (0+Int.toNat (i:Int))) (63)∧br .i32 (a8 l (0+Int.toNat (i:Int))) (63)≤255)∧True∧Int.NonNeg (6-0)∧(0≤bD .i32 (a8 l (0+Int.toNat (i:Int))) (6)∧bD .i32 (a8 l (0+Int.toNat (i:Int))) (6)≤255)∧True∧(-9223372036854775808≤(i:Int)+1∧(i:Int)+1≤9223372036854775807)∧ab .normal [(3,.slice (some ⟨59,0,0,0,1⟩) 2 2),(6,(ja v n)),(7,.int .i64 (n:Int)),(8,.int .i64 ((i:Int)+1))] (LC i v f l))
abbrev E6(i:Nat)(v:Nat)(f:Nat)(n:Nat)(l:List o)(ab:dj→bT→j→Prop):Prop:=(¬65536≤a8 l (0+Int.toNat (i:Int))→True∧(0≤br .i32 (a8 l (0+Int.toNat (i:Int))) (63)∧br .i32 (a8 l (0+Int.toNat (i:Int))) (63)≤255)∧True∧Int.NonNeg (6-0)∧True∧(0≤br .i32 (bD .i32 (a8 l (0+Int.toNat (i:Int))) (6)) (63)∧br .i32 (bD .i32 (a8 l (0+Int.toNat (i:Int))) (6)) (63)≤255)∧True∧Int.NonNeg (6-0)∧(0≤bD .i32 (bD .i32 (a8 l (0+Int.toNat (i:Int))) (6)) (6)∧bD .i32 (bD .i32 (a8 l (0+Int.toNat (i:Int))) (6)) (6)≤255)∧True∧(-9223372036854775808≤(i:Int)+1∧(i:Int)+1≤9223372036854775807)∧ab .normal [(3,.slice (some ⟨67,0,0,0,1⟩) 3 3),(6,(ja v n)),(7,.int .i64 (n:Int)),(8,.int .i64 ((i:Int)+1))] (LD i v f l))
abbrev E7(i:Nat)(v:Nat)(f:Nat)(n:Nat)(l:List o)(ab:dj→bT→j→Prop):Prop:=(65536≤a8 l (0+Int.toNat (i:Int))→True∧(0≤br .i32 (a8 l (0+Int.toNat (i:Int))) (63)∧br .i32 (a8 l (0+Int.toNat (i:Int))) (63)≤255)∧True∧Int.NonNeg (6-0)∧True∧(0≤br .i32 (bD .i32 (a8 l (0+Int.toNat (i:Int))) (6)) (63)∧br .i32 (bD .i32 (a8 l (0+Int.toNat (i:Int))) (6)) (63)≤255)∧True∧Int.NonNeg (6-0)∧True∧(0≤br .i32 (bD .i32 (bD .i32 (a8 l (0+Int.toNat (i:Int))) (6)) (6)) (63)∧br .i32 (bD .i32 (bD .i32 (a8 l (0+Int.toNat (i:Int))) (6)) (6)) (63)≤255)∧True∧Int.NonNeg (6-0)∧(0≤bD .i32 (bD .i32 (bD .i32 (a8 l (0+Int.toNat (i:Int))) (6)) (6)) (6)∧bD .i32 (bD .i32 (bD .i32 (a8 l (0+Int.toNat (i:Int))) (6)) (6)) (6)≤255)∧True∧(-9223372036854775808≤(i:Int)+1∧(i:Int)+1≤9223372036854775807)∧ab .normal [(3,.slice (some ⟨74,0,0,0,1⟩) 4 4),(6,(ja v n)),(7,.int .i64 (n:Int)),(8,.int .i64 ((i:Int)+1))] (LF i v f l))
abbrev E8(i:Nat)(v:Nat)(f:Nat)(n:Nat)(l:List o)(ab:dj→bT→j→Prop):Prop:=(65536≤a8 l (0+Int.toNat (i:Int))→True∧(0≤br .i32 (a8 l (0+Int.toNat (i:Int))) (63)∧br .i32 (a8 l (0+Int.toNat (i:Int))) (63)≤255)∧True∧Int.NonNeg (6-0)∧True∧(0≤br .i32 (bD .i32 (a8 l (0+Int.toNat (i:Int))) (6)) (63)∧br .i32 (bD .i32 (a8 l (0+Int.toNat (i:Int))) (6)) (63)≤255)∧True∧Int.NonNeg (6-0)∧True∧(0≤br .i32 (bD .i32 (bD .i32 (a8 l (0+Int.toNat (i:Int))) (6)) (6)) (63)∧br .i32 (bD .i32 (bD .i32 (a8 l (0+Int.toNat (i:Int))) (6)) (6)) (63)≤255)∧True∧Int.NonNeg (6-0)∧(0≤bD .i32 (bD .i32 (bD .i32 (a8 l (0+Int.toNat (i:Int))) (6)) (6)) (6)∧bD .i32 (bD .i32 (bD .i32 (a8 l (0+Int.toNat (i:Int))) (6)) (6)) (6)≤255)∧True∧(-9223372036854775808≤(i:Int)+1∧(i:Int)+1≤9223372036854775807)∧ab .normal [(3,.slice (some ⟨75,0,0,0,1⟩) 4 4),(6,(ja v n)),(7,.int .i64 (n:Int)),(8,.int .i64 ((i:Int)+1))] (LG i v f l))
abbrev Vj:dh:=(ah 16001 (ah 17001 (ah 17002 LH)))
abbrev E9(i:Nat)(v:Nat)(f:Nat)(n:Nat)(l:List o)(ab:dj→bT→j→Prop):Prop:=(1114111<a8 l (0+Int.toNat (i:Int))→(-9223372036854775808≤(i:Int)+1∧(i:Int)+1≤9223372036854775807)∧ab .normal [(3,An),(6,(ja v n)),(7,.int .i64 (n:Int)),(8,.int .i64 ((i:Int)+1))] (Aq v f l))
abbrev LI:dh:=(ah 15001 (ah 15002 (ah 15003 Vj)))
abbrev LJ:dh:=(.aN 6001 (.aN 8001 LI (ah 17001 (ah 17002 LH))) (.aN 8001 LI (ah 19001 LA)))
theorem Vk(i v f n:Nat)(l:List o)(ab:dj→bT→j→Prop)(aY:((i:Int)<(n:Int)→(0≤(i:Int)∧(i:Int)<(n:Int))∧v=v∧l[0+Int.toNat (i:Int)]? =some (.int .i32 (a8 l (0+Int.toNat (i:Int))))∧(a8 l (0+Int.toNat (i:Int))<0→(-9223372036854775808≤(i:Int)+1∧(i:Int)+1≤9223372036854775807)∧ab .normal [(3,An),(6,(ja v n)),(7,.int .i64 (n:Int)),(8,.int .i64 ((i:Int)+1))] (Aq v f l))∧(¬a8 l (0+Int.toNat (i:Int))<0→(55296≤a8 l (0+Int.toNat (i:Int))→(a8 l (0+Int.toNat (i:Int))≤57343→(-9223372036854775808≤(i:Int)+1∧(i:Int)+1≤9223372036854775807)∧ab .normal [(3,An),(6,(ja v n)),(7,.int .i64 (n:Int)),(8,.int .i64 ((i:Int)+1))] (Aq v f l))∧(¬a8 l (0+Int.toNat (i:Int))≤57343→(E9 i v f n l ab)∧(¬1114111<a8 l (0+Int.toNat (i:Int))→(E4 i v f n l ab)∧(¬a8 l (0+Int.toNat (i:Int))<128→(2048≤a8 l (0+Int.toNat (i:Int))→(E8 i v f n l ab)∧(E6 i v f n l ab))∧(¬2048≤a8 l (0+Int.toNat (i:Int))→(E7 i v f n l ab)∧(E5 i v f n l ab))))))∧(¬55296≤a8 l (0+Int.toNat (i:Int))→(E9 i v f n l ab)∧(¬1114111<a8 l (0+Int.toNat (i:Int))→(E4 i v f n l ab)∧(¬a8 l (0+Int.toNat (i:Int))<128→(2048≤a8 l (0+Int.toNat (i:Int))→(E8 i v f n l ab)∧(E6 i v f n l ab))∧(¬2048≤a8 l (0+Int.toNat (i:Int))→(E7 i v f n l ab)∧(E5 i v f n l ab)))))))∧(¬(i:Int)<(n:Int)→ab (.exit 0) [(3,.slice none 0 0),(6,(ja v n)),(7,.int .i64 (n:Int)),(8,.int .i64 (i:Int))] (j.au 2 [(0,(jT v f l))]))) :
 ∃e bb p,cP Tryz.prog aw 1 18 (c4 Tryz.prog 51 0) [(3,.slice none 0 0),(6,.slice (some ⟨0,v,0,0,1⟩) n n),(7,.int .i64 n),(8,.int .i64 i)] (j.rows 1 [(0,hc l v f)]) e bb p∧ab e bb p :=
 hI bU mixed c7 (aq:= .aN 3000 (ah 4000 (ah 4001 (he 5002 (.aN 1001 (.skip 6000 (ah 6000 .nil)) (.aN 1004 (.aN 1007 (.skip 6000 (ah 6000 .nil)) (.aN 1012 (.skip 6000 (ah 6000 .nil)) (.aN 3001 (ah 4002 (ah 6000 .nil)) LJ))) (.aN 1012 (.skip 6000 (ah 6000 .nil)) (.aN 3001 (ah 4002 (ah 6000 .nil)) LJ))))))) .nil) (cN:=[3,6,7,8]) (by kernel_rfl) aY
abbrev Vl:dh:=(ah 21005 (ah 22003 (ah 6000 .nil)))
abbrev wK(v2:Nat)(aP:Nat):o:=o.slice (some {id:=50,R:=v2+1,idx:=0,bP:=0,es:=1}) (aP+3) (aP+3)
abbrev E'(v2:Nat)(aP:Nat):o:=o.slice (some {id:=50,R:=v2+1,idx:=0,bP:=0,es:=1}) (aP+4) (aP+4)
abbrev LK(i:Nat)(v2:Nat)(f2:Nat)(l:List o)(ci:List o):J:=⟨ci++[.int .u8 (a8 l (0+Int.toNat (i:Int)))],1,false,false,v2+1,0,if 0=v2 then List.length ci else min f2 (List.length ci),some (5,0)⟩
abbrev Ar(v2:Nat)(f2:Nat)(ci:List o):J:=⟨ci++[.int .u8 239,.int .u8 191,.int .u8 189],1,false,false,v2+1,0,if 0=v2 then List.length ci else min f2 (List.length ci),some (5,0)⟩
abbrev LL(i:Nat)(v2:Nat)(f2:Nat)(l:List o)(ci:List o):J:=⟨ci++[.int .u8 (cc .u8 (bD .i32 (a8 l (0+Int.toNat (i:Int))) (6)) (192)),.int .u8 (cc .u8 (128) (br .i32 (a8 l (0+Int.toNat (i:Int))) (63)))],1,false,false,v2+1,0,if 0=v2 then List.length ci else min f2 (List.length ci),some (5,0)⟩
abbrev LM(i:Nat)(v2:Nat)(f2:Nat)(l:List o)(ci:List o):J:=⟨ci++[.int .u8 (cc .u8 (bD .i32 (bD .i32 (a8 l (0+Int.toNat (i:Int))) (6)) (6)) (224)),.int .u8 (cc .u8 (128) (br .i32 (bD .i32 (a8 l (0+Int.toNat (i:Int))) (6)) (63))),.int .u8 (cc .u8 (128) (br .i32 (a8 l (0+Int.toNat (i:Int))) (63)))],1,false,false,v2+1,0,if 0=v2 then List.length ci else min f2 (List.length ci),some (5,0)⟩
abbrev Fa(i:Nat)(v2:Nat)(f2:Nat)(l:List o)(ci:List o):J:=⟨ci++[.int .u8 (cc .u8 (bD .i32 (bD .i32 (bD .i32 (a8 l (0+Int.toNat (i:Int))) (6)) (6)) (6)) (240)),.int .u8 (cc .u8 (128) (br .i32 (bD .i32 (bD .i32 (a8 l (0+Int.toNat (i:Int))) (6)) (6)) (63))),.int .u8 (cc .u8 (128) (br .i32 (bD .i32 (a8 l (0+Int.toNat (i:Int))) (6)) (63))),.int .u8 (cc .u8 (128) (br .i32 (a8 l (0+Int.toNat (i:Int))) (63)))],1,false,false,v2+1,0,if 0=v2 then List.length ci else min f2 (List.length ci),some (5,0)⟩
abbrev LN:dh:=(ah 19003 (ah 20001 (ah 21001 Vl)))
abbrev Fb(i:Nat)(v:Nat)(f:Nat)(n:Nat)(v2:Nat)(f2:Nat)(aP:Nat)(l:List o)(ci:List o)(ab:dj→bT→j→Prop):Prop:=(a8 l (0+Int.toNat (i:Int))<128→(0≤a8 l (0+Int.toNat (i:Int))∧a8 l (0+Int.toNat (i:Int))≤255)∧(v2=v2∧0+aP=List.length ci∧aP<aP+1∧(aP+1+(aP+1)/4+512)*1≤281474976710656∧aP+1<4611686018427387904)∧(-9223372036854775808≤(i:Int)+1∧(i:Int)+1≤9223372036854775807)∧ab .normal [(3,.slice (some {id:=50,R:=v2+1,idx:=0,bP:=0,es:=1}) (aP+1) (aP+1)),(6,(ja v n)),(7,.int .i64 (n:Int)),(8,.int .i64 ((i:Int)+1))] (j.au 93 [(0,(jT v f l)),(50,(LK i v2 f2 l ci)),(88,J.made [.int .u8 (a8 l (0+Int.toNat (i:Int)))] 1 true)]))
abbrev Fc(i:Nat)(v:Nat)(f:Nat)(n:Nat)(v2:Nat)(f2:Nat)(aP:Nat)(l:List o)(ci:List o)(ab:dj→bT→j→Prop):Prop:=(¬65536≤a8 l (0+Int.toNat (i:Int))→True∧(0≤br .i32 (a8 l (0+Int.toNat (i:Int))) (63)∧br .i32 (a8 l (0+Int.toNat (i:Int))) (63)≤255)∧True∧Int.NonNeg (6-0)∧(0≤bD .i32 (a8 l (0+Int.toNat (i:Int))) (6)∧bD .i32 (a8 l (0+Int.toNat (i:Int))) (6)≤255)∧True∧(v2=v2∧0+aP=List.length ci∧aP<aP+2∧(aP+2+(aP+2)/4+512)*1≤281474976710656∧aP+2<4611686018427387904)∧(-9223372036854775808≤(i:Int)+1∧(i:Int)+1≤9223372036854775807)∧ab .normal [(3,.slice (some {id:=50,R:=v2+1,idx:=0,bP:=0,es:=1}) (aP+2) (aP+2)),(6,(ja v n)),(7,.int .i64 (n:Int)),(8,.int .i64 ((i:Int)+1))] (j.au 122 [(0,(jT v f l)),(50,(LL i v2 f2 l ci)),(90,(J.made ([(Ao i l)]) 4 true (some (95,4))))]))
abbrev Fe(i:Nat)(v:Nat)(f:Nat)(n:Nat)(v2:Nat)(f2:Nat)(aP:Nat)(l:List o)(ci:List o)(ab:dj→bT→j→Prop):Prop:=(¬65536≤a8 l (0+Int.toNat (i:Int))→True∧(0≤br .i32 (a8 l (0+Int.toNat (i:Int))) (63)∧br .i32 (a8 l (0+Int.toNat (i:Int))) (63)≤255)∧True∧Int.NonNeg (6-0)∧True∧(0≤br .i32 (bD .i32 (a8 l (0+Int.toNat (i:Int))) (6)) (63)∧br .i32 (bD .i32 (a8 l (0+Int.toNat (i:Int))) (6)) (63)≤255)∧True∧Int.NonNeg (6-0)∧(0≤bD .i32 (bD .i32 (a8 l (0+Int.toNat (i:Int))) (6)) (6)∧bD .i32 (bD .i32 (a8 l (0+Int.toNat (i:Int))) (6)) (6)≤255)∧True∧(v2=v2∧0+aP=List.length ci∧aP<aP+3∧(aP+3+(aP+3)/4+512)*1≤281474976710656∧aP+3<4611686018427387904)∧(-9223372036854775808≤(i:Int)+1∧(i:Int)+1≤9223372036854775807)∧ab .normal [(3,(wK v2 aP)),(6,(ja v n)),(7,.int .i64 (n:Int)),(8,.int .i64 ((i:Int)+1))] (j.au 130 [(0,(jT v f l)),(50,(LM i v2 f2 l ci)),(91,(J.made ([(Ap i l)]) 4 true (some (95,4))))]))
abbrev Ff(i:Nat)(v:Nat)(f:Nat)(n:Nat)(v2:Nat)(f2:Nat)(aP:Nat)(l:List o)(ci:List o)(ab:dj→bT→j→Prop):Prop:=(65536≤a8 l (0+Int.toNat (i:Int))→True∧(0≤br .i32 (a8 l (0+Int.toNat (i:Int))) (63)∧br .i32 (a8 l (0+Int.toNat (i:Int))) (63)≤255)∧True∧Int.NonNeg (6-0)∧True∧(0≤br .i32 (bD .i32 (a8 l (0+Int.toNat (i:Int))) (6)) (63)∧br .i32 (bD .i32 (a8 l (0+Int.toNat (i:Int))) (6)) (63)≤255)∧True∧Int.NonNeg (6-0)∧True∧(0≤br .i32 (bD .i32 (bD .i32 (a8 l (0+Int.toNat (i:Int))) (6)) (6)) (63)∧br .i32 (bD .i32 (bD .i32 (a8 l (0+Int.toNat (i:Int))) (6)) (6)) (63)≤255)∧True∧Int.NonNeg (6-0)∧(0≤bD .i32 (bD .i32 (bD .i32 (a8 l (0+Int.toNat (i:Int))) (6)) (6)) (6)∧bD .i32 (bD .i32 (bD .i32 (a8 l (0+Int.toNat (i:Int))) (6)) (6)) (6)≤255)∧True∧(v2=v2∧0+aP=List.length ci∧aP<aP+4∧(aP+4+(aP+4)/4+512)*1≤281474976710656∧aP+4<4611686018427387904)∧(-9223372036854775808≤(i:Int)+1∧(i:Int)+1≤9223372036854775807)∧ab .normal [(3,(E' v2 aP)),(6,(ja v n)),(7,.int .i64 (n:Int)),(8,.int .i64 ((i:Int)+1))] (j.au 137 [(0,(jT v f l)),(50,(Fa i v2 f2 l ci)),(91,(J.made ([(uo i l)]) 4 true (some (95,4))))]))
abbrev Fg(i:Nat)(v:Nat)(f:Nat)(n:Nat)(v2:Nat)(f2:Nat)(aP:Nat)(l:List o)(ci:List o)(ab:dj→bT→j→Prop):Prop:=(65536≤a8 l (0+Int.toNat (i:Int))→True∧(0≤br .i32 (a8 l (0+Int.toNat (i:Int))) (63)∧br .i32 (a8 l (0+Int.toNat (i:Int))) (63)≤255)∧True∧Int.NonNeg (6-0)∧True∧(0≤br .i32 (bD .i32 (a8 l (0+Int.toNat (i:Int))) (6)) (63)∧br .i32 (bD .i32 (a8 l (0+Int.toNat (i:Int))) (6)) (63)≤255)∧True∧Int.NonNeg (6-0)∧True∧(0≤br .i32 (bD .i32 (bD .i32 (a8 l (0+Int.toNat (i:Int))) (6)) (6)) (63)∧br .i32 (bD .i32 (bD .i32 (a8 l (0+Int.toNat (i:Int))) (6)) (6)) (63)≤255)∧True∧Int.NonNeg (6-0)∧(0≤bD .i32 (bD .i32 (bD .i32 (a8 l (0+Int.toNat (i:Int))) (6)) (6)) (6)∧bD .i32 (bD .i32 (bD .i32 (a8 l (0+Int.toNat (i:Int))) (6)) (6)) (6)≤255)∧True∧(v2=v2∧0+aP=List.length ci∧aP<aP+4∧(aP+4+(aP+4)/4+512)*1≤281474976710656∧aP+4<4611686018427387904)∧(-9223372036854775808≤(i:Int)+1∧(i:Int)+1≤9223372036854775807)∧ab .normal [(3,(E' v2 aP)),(6,(ja v n)),(7,.int .i64 (n:Int)),(8,.int .i64 ((i:Int)+1))] (j.au 138 [(0,(jT v f l)),(50,(Fa i v2 f2 l ci)),(92,(J.made ([(uo i l)]) 4 true (some (95,4))))]))
abbrev Vm:dh:=(ah 18001 (ah 19001 (ah 19002 LN)))
abbrev Fh(i:Nat)(v:Nat)(f:Nat)(n:Nat)(v2:Nat)(f2:Nat)(aP:Nat)(l:List o)(ci:List o)(ab:dj→bT→j→Prop):Prop:=(1114111<a8 l (0+Int.toNat (i:Int))→(v2=v2∧0+aP=List.length ci∧aP<aP+3∧(aP+3+(aP+3)/4+512)*1≤281474976710656∧aP+3<4611686018427387904)∧(-9223372036854775808≤(i:Int)+1∧(i:Int)+1≤9223372036854775807)∧ab .normal [(3,(wK v2 aP)),(6,(ja v n)),(7,.int .i64 (n:Int)),(8,.int .i64 ((i:Int)+1))] (j.au 131 [(0,(jT v f l)),(50,(Ar v2 f2 ci)),(92,uq)]))
abbrev LO:dh:=(ah 17001 (ah 17002 (ah 17003 Vm)))
abbrev LP:dh:=(ah 15002 (ah 15003 (ah 16001 LO)))
abbrev LQ:dh:=(.aN 6001 (.aN 8001 (ah 15001 LP) LO) (.aN 8001 (ah 15001 LP) (ah 19001 (ah 19002 LN))))
theorem LR(i v f n v2 f2 aP:Nat)(l ci:List o)(ab:dj→bT→j→Prop)(aY:((i:Int)<(n:Int)→(0≤(i:Int)∧(i:Int)<(n:Int))∧v=v∧l[0+Int.toNat (i:Int)]? =some (.int .i32 (a8 l (0+Int.toNat (i:Int))))∧(a8 l (0+Int.toNat (i:Int))<0→(v2=v2∧0+aP=List.length ci∧aP<aP+3∧(aP+3+(aP+3)/4+512)*1≤281474976710656∧aP+3<4611686018427387904)∧(-9223372036854775808≤(i:Int)+1∧(i:Int)+1≤9223372036854775807)∧ab .normal [(3,(wK v2 aP)),(6,(ja v n)),(7,.int .i64 (n:Int)),(8,.int .i64 ((i:Int)+1))] (j.au 131 [(0,(jT v f l)),(50,(Ar v2 f2 ci)),(92,uq)]))∧(¬a8 l (0+Int.toNat (i:Int))<0→(55296≤a8 l (0+Int.toNat (i:Int))→(a8 l (0+Int.toNat (i:Int))≤57343→(v2=v2∧0+aP=List.length ci∧aP<aP+3∧(aP+3+(aP+3)/4+512)*1≤281474976710656∧aP+3<4611686018427387904)∧(-9223372036854775808≤(i:Int)+1∧(i:Int)+1≤9223372036854775807)∧ab .normal [(3,(wK v2 aP)),(6,(ja v n)),(7,.int .i64 (n:Int)),(8,.int .i64 ((i:Int)+1))] (j.au 131 [(0,(jT v f l)),(50,(Ar v2 f2 ci)),(92,uq)]))∧(¬a8 l (0+Int.toNat (i:Int))≤57343→(Fh i v f n v2 f2 aP l ci ab)∧(¬1114111<a8 l (0+Int.toNat (i:Int))→(Fb i v f n v2 f2 aP l ci ab)∧(¬a8 l (0+Int.toNat (i:Int))<128→(2048≤a8 l (0+Int.toNat (i:Int))→(Fg i v f n v2 f2 aP l ci ab)∧(Fe i v f n v2 f2 aP l ci ab))∧(¬2048≤a8 l (0+Int.toNat (i:Int))→(Ff i v f n v2 f2 aP l ci ab)∧(Fc i v f n v2 f2 aP l ci ab))))))∧(¬55296≤a8 l (0+Int.toNat (i:Int))→(Fh i v f n v2 f2 aP l ci ab)∧(¬1114111<a8 l (0+Int.toNat (i:Int))→(Fb i v f n v2 f2 aP l ci ab)∧(¬a8 l (0+Int.toNat (i:Int))<128→(2048≤a8 l (0+Int.toNat (i:Int))→(Fg i v f n v2 f2 aP l ci ab)∧(Fe i v f n v2 f2 aP l ci ab))∧(¬2048≤a8 l (0+Int.toNat (i:Int))→(Ff i v f n v2 f2 aP l ci ab)∧(Fc i v f n v2 f2 aP l ci ab)))))))∧(¬(i:Int)<(n:Int)→ab (.exit 0) [(3,.slice (some ⟨50,v2,0,0,1⟩) aP aP),(6,(ja v n)),(7,.int .i64 (n:Int)),(8,.int .i64 (i:Int))] (j.au 61 [(0,(jT v f l)),(50,⟨ci,1,false,false,v2,0,f2,some (5,0)⟩)]))) :
 ∃e bb p,cP Tryz.prog aw 1 18 (c4 Tryz.prog 51 0) [(3,.slice (some ⟨50,v2,0,0,1⟩) aP aP),(6,.slice (some ⟨0,v,0,0,1⟩) n n),(7,.int .i64 n),(8,.int .i64 i)] (j.rows 60 [(0,hc l v f),(50,mM ci v2 f2)]) e bb p∧ab e bb p :=
 hI bU mixed c7 (aq:= .aN 3000 (ah 4000 (ah 4001 (he 5002 (.aN 1001 (ah 22003 (ah 6000 .nil)) (.aN 1004 (.aN 1007 (ah 22003 (ah 6000 .nil)) (.aN 1012 (ah 22003 (ah 6000 .nil)) (.aN 3001 (ah 4002 (ah 4004 (ah 6000 .nil))) LQ))) (.aN 1012 (ah 22003 (ah 6000 .nil)) (.aN 3001 (ah 4002 (ah 4004 (ah 6000 .nil))) LQ))))))) .nil) (cN:=[3,6,7,8]) (by kernel_rfl) aY
end Go.Proofs.YtddnafghiejcoaaGreatDoor
namespace Go.cH
theorem pK(x:Nat)(h:x<2^31):br .i32 (x:Int) 63=((x%64:Nat):Int):=by
 unfold br;rw [BitVec.toNat_and]
 have a:(BitVec.ofInt IntKind.i32.bits (x:Int)).toNat=x:=by show(BitVec.ofInt 32 (x:Int)).toNat=x;rw [BitVec.toNat_ofInt];omega
 have b:(BitVec.ofInt IntKind.i32.bits 63).toNat=63:=by decide
 rw [a,b,show x &&& 63=x%64 from Nat.and_two_pow_sub_one_eq_mod x 6];exact pz (k:= .i32) (by simp only [h9];omega)
theorem kV(x:Nat):bD .i32 (x:Int) 6=((x/64:Nat):Int):=by unfold bD;show Int.fdiv (x:Int) 64=_;rw [Int.fdiv_eq_ediv_of_nonneg _ (by decide)];rfl
theorem ur:∀m:Fin 64,cc .u8 128 (m.val:Int)=((128+m.val:Nat):Int):=by decide+kernel
theorem Vn:∀m:Fin 32,cc .u8 (m.val:Int) 192=((192+m.val:Nat):Int):=by decide+kernel
theorem Vo:∀m:Fin 16,cc .u8 (m.val:Int) 224=((224+m.val:Nat):Int):=by decide+kernel
theorem Vp:∀m:Fin 8,cc .u8 (m.val:Int) 240=((240+m.val:Nat):Int):=by decide+kernel
end Go.cH
namespace Go.Proofs.YtddnafghiejcoaaGreatDoor
open Go.cH Go.Keys
set_option maxRecDepth 1000000
theorem oJ{n:Nat}(h:n<256):((u8 n).toNat:Int)=n:=by
 have:(u8 n).toNat=n%256:=by unfold u8;simp [UInt8.toNat_ofNat']
 rw [this];omega
theorem As{x:Nat}(h:¬(55296≤x∧x≤57343∨1114111<x)):put x=if x<128 then [u8 x]else if x<2048 then [u8 (192+x/64),u8 (128+x%64)]else if x<65536 then [u8 (224+x/4096),u8 (128+x/64%64),u8 (128+x%64)]else [u8 (240+x/262144),u8 (128+x/4096%64),u8 (128+x/64%64),u8 (128+x%64)]:=by unfold put;simp only [if_neg h]
theorem wL{x:Nat}(h:x<128): [o.int .u8 (x:Int)]=aJ (put x):=by rw [As (by omega),if_pos h];simp only [aJ,List.map_cons,List.map_nil,oJ (show x<256 by omega)]
theorem Fi{x:Nat}(h:128≤x)(ae:x<2048): [o.int .u8 (cc .u8 (bD .i32 (x:Int) 6) 192),o.int .u8 (cc .u8 128 (br .i32 (x:Int) 63))]=aJ (put x):=by rw [As (by omega),if_neg (by omega),if_pos ae];simp only [aJ,List.map_cons,List.map_nil,oJ (show 192+x/64<256 by omega),oJ (show 128+x%64<256 by omega)];rw [pK x (by omega),kV,Vn ⟨x/64,by omega⟩,ur ⟨x%64,by omega⟩]
theorem At{x:Nat}(h:2048≤x)(ae:x<65536)(bg:¬(55296≤x∧x≤57343)): [o.int .u8 (cc .u8 (bD .i32 (bD .i32 (x:Int) 6) 6) 224),o.int .u8 (cc .u8 128 (br .i32 (bD .i32 (x:Int) 6) 63)),o.int .u8 (cc .u8 128 (br .i32 (x:Int) 63))]=aJ (put x):=by rw [As (by omega),if_neg (by omega),if_neg (by omega),if_pos ae];simp only [aJ,List.map_cons,List.map_nil,oJ (show 224+x/4096<256 by omega),oJ (show 128+x/64%64<256 by omega),oJ (show 128+x%64<256 by omega)];rw [pK x (by omega),kV,kV,pK (x/64) (by omega),Vo ⟨x/64/64,by omega⟩,ur ⟨x%64,by omega⟩,ur ⟨x/64%64,by omega⟩];simp only [show x/64/64=x/4096 by omega]
theorem Fj{x:Nat}(h:65536≤x)(ae:x≤1114111): [o.int .u8 (cc .u8 (bD .i32 (bD .i32 (bD .i32 (x:Int) 6) 6) 6) 240),o.int .u8 (cc .u8 128 (br .i32 (bD .i32 (bD .i32 (x:Int) 6) 6) 63)),o.int .u8 (cc .u8 128 (br .i32 (bD .i32 (x:Int) 6) 63)),o.int .u8 (cc .u8 128 (br .i32 (x:Int) 63))]=aJ (put x):=by rw [As (by omega),if_neg (by omega),if_neg (by omega),if_neg (by omega)];simp only [aJ,List.map_cons,List.map_nil,oJ (show 240+x/262144<256 by omega),oJ (show 128+x/4096%64<256 by omega),oJ (show 128+x/64%64<256 by omega),oJ (show 128+x%64<256 by omega)];rw [pK x (by omega),kV,kV,kV,pK (x/64) (by omega),pK (x/64/64) (by omega),Vp ⟨x/64/64/64,by omega⟩,ur ⟨x%64,by omega⟩,ur ⟨x/64%64,by omega⟩,ur ⟨x/64/64%64,by omega⟩];simp only [show x/64/64=x/4096 by omega,show x/4096/64=x/262144 by omega]
theorem LS{x:Nat}(h:(55296≤x∧x≤57343)∨1114111<x): [o.int .u8 239,o.int .u8 191,o.int .u8 189]=aJ (put x):=by unfold put;simp only;rw [if_pos h];rfl
theorem q4{x:Nat}(h:x<2^31):0≤br .i32 (x:Int) 63∧br .i32 (x:Int) 63≤255:=by rw [pK x h];omega
theorem q5{x:Nat}(h:x<2^31):0≤br .i32 (bD .i32 (x:Int) 6) 63∧br .i32 (bD .i32 (x:Int) 6) 63≤255:=by rw [kV,pK _ (by omega)];omega
theorem us{x:Nat}(h:x<2^31):0≤br .i32 (bD .i32 (bD .i32 (x:Int) 6) 6) 63∧br .i32 (bD .i32 (bD .i32 (x:Int) 6) 6) 63≤255:=by rw [kV,kV,pK _ (by omega)];omega
theorem uu{x:Nat}(h:x<2048):0≤bD .i32 (x:Int) 6∧bD .i32 (x:Int) 6≤255:=by rw [kV];omega
theorem q6{x:Nat}(h:x<65536):0≤bD .i32 (bD .i32 (x:Int) 6) 6∧bD .i32 (bD .i32 (x:Int) 6) 6≤255:=by rw [kV,kV];omega
theorem uv{x:Nat}(h:x≤1114111):0≤bD .i32 (bD .i32 (bD .i32 (x:Int) 6) 6) 6∧bD .i32 (bD .i32 (bD .i32 (x:Int) 6) 6) 6≤255:=by rw [kV,kV,kV];omega
theorem Fk{L:List Nat}{i:Nat}(h:i<L.length):(dR L)[i]? =some (.int .i32 (L[i]:Nat)):=by simp [dR,h]
theorem LU{L:List Nat}{i:Nat}(h:i<L.length):a8 (dR L) i=(L[i]:Nat):=by unfold a8;rw [Fk h]
theorem iK(l:Bytes):(aJ l).length=l.length:=by simp [aJ]
theorem Vq(a b:Bytes):aJ (a++b)=aJ a++aJ b:=by simp [aJ]
abbrev nF(v n i v2 aP C:Nat):bT:=[(3,.slice (some ⟨C,v2,0,0,1⟩) aP aP),(6,.slice (some ⟨0,v,0,0,1⟩) n n),(7,.int .i64 (n:Nat)),(8,.int .i64 (i:Nat))]
def wM(v f n i v2:Nat)(cX:J)(acc:Bytes)(x Au:Nat)(e:dj)(bb:bT)(p:j):Prop :=
 ∃C,1≤C∧e=.normal∧bb=nF v n (i+1) v2 (acc.length+(put x).length) C∧p.get 0=some cX∧p.get C=some (mM (aJ (acc++put x)) v2 Au)
theorem oK{v f n i v2 x Au C aP:Nat}{cX:J}{acc:Bytes}{bs:List o}{p:j}{i1:Int}(av:bs=aJ (put x))(aX:1≤C)(ao:aP=acc.length+bs.length)(al:i1=((i+1:Nat):Int))(bm:p.get 0=some cX)(ah:p.get C=some (mM (aJ acc++bs) v2 Au)) :
 wM v f n i v2 cX acc x Au .normal [(3,.slice (some ⟨C,v2,0,0,1⟩) aP aP),(6,.slice (some ⟨0,v,0,0,1⟩) n n),(7,.int .i64 (n:Nat)),(8,.int .i64 i1)] p:=by
 subst av al ao;rw [iK];exact⟨C,aX,rfl,rfl,bm,by rw [Vq];exact ah⟩
theorem Vr(L:List Nat)(v f i:Nat)(al:i<L.length)(aB:L.length<2^41)(af:L[i]<2^31):∃e bb p,cP Tryz.prog aw 1 18 (c4 Tryz.prog 51 0) [(3,.slice none 0 0),(6,.slice (some ⟨0,v,0,0,1⟩) L.length L.length),(7,.int .i64 L.length),(8,.int .i64 i)] (j.rows 1 [(0,hc (dR L) v f)]) e bb p∧wM v f L.length i 0 (hc (dR L) v f) [] L[i] 0 e bb p:=by
 refine Vk i v f L.length (dR L) (wM v f L.length i 0 (hc (dR L) v f) [] L[i] 0) ?_
 delta jT ja E5 LC Ao E7 LF uo E6 LD Ap E8 LG E4 LB E9 Aq uq E3 An
 rw [show 0+Int.toNat (i:Int)=i by simp,LU al,Fk al];generalize L[i]=x at af;have hF:((i:Int)+1)=((i+1:Nat):Int):=by omega
 refine⟨fun _=>⟨⟨by omega,by omega⟩,rfl,rfl,?_⟩,fun h=>by omega⟩
 repeat' (first|exact True.intro|apply And.intro|intro _)
 all_goals first
  |omega
  |(exfalso;omega)
  |exact hW
  |exact(q4 af).1|exact(q4 af).2|exact(q5 af).1|exact(q5 af).2|exact(us af).1|exact(us af).2
  |exact(uu (by omega)).1|exact(uu (by omega)).2|exact(q6 (by omega)).1|exact(q6 (by omega)).2|exact(uv (by omega)).1|exact(uv (by omega)).2
  |exact oK (acc:=[]) (wL (by omega)) (by decide) rfl hF rfl rfl
  |exact oK (acc:=[]) (Fi (by omega) (by omega)) (by decide) rfl hF rfl rfl
  |exact oK (acc:=[]) (LS (by omega)) (by decide) rfl hF rfl rfl
  |exact oK (acc:=[]) (At (by omega) (by omega) (by omega)) (by decide) rfl hF rfl rfl
  |exact oK (acc:=[]) (Fj (by omega) (by omega)) (by decide) rfl hF rfl rfl
theorem Vs(L:List Nat)(acc:Bytes)(v f i v2 f2:Nat)(al:i<L.length)(aB:L.length<2^41)(aS:acc.length<2^44)(af:L[i]<2^31):∃e bb p,cP Tryz.prog aw 1 18 (c4 Tryz.prog 51 0) (nF v L.length i v2 acc.length 50) (j.rows 60 [(0,hc (dR L) v f),(50,mM (aJ acc) v2 f2)]) e bb p ∧
 wM v f L.length i (v2+1) (hc (dR L) v f) acc L[i] (if 0=v2 then(aJ acc).length else min f2 (aJ acc).length) e bb p:=by
 refine LR i v f L.length v2 f2 acc.length (dR L) (aJ acc) (wM v f L.length i (v2+1) (hc (dR L) v f) acc L[i] (if 0=v2 then(aJ acc).length else min f2 (aJ acc).length)) ?_
 delta jT ja Fc Ao LL Ff uo Fa E' Fe Ap LM wK Fg Fb LK Fh uq E3 Ar
 rw [show 0+Int.toNat (i:Int)=i by simp,LU al,Fk al];generalize L[i]=x at af;have hF:((i:Int)+1)=((i+1:Nat):Int):=by omega
 have ae1:=iK acc;refine⟨fun _=>⟨⟨by omega,by omega⟩,rfl,rfl,?_⟩,fun h=>by omega⟩
 repeat' (first|exact True.intro|apply And.intro|intro _)
 all_goals first
  |omega
  |(exfalso;omega)
  |exact hW
  |exact(q4 af).1|exact(q4 af).2|exact(q5 af).1|exact(q5 af).2|exact(us af).1|exact(us af).2
  |exact(uu (by omega)).1|exact(uu (by omega)).2|exact(q6 (by omega)).1|exact(q6 (by omega)).2|exact(uv (by omega)).1|exact(uv (by omega)).2
  |exact oK (wL (by omega)) (by decide) rfl hF rfl rfl
  |exact oK (Fi (by omega) (by omega)) (by decide) rfl hF rfl rfl
  |exact oK (LS (by omega)) (by decide) rfl hF rfl rfl
  |exact oK (At (by omega) (by omega) (by omega)) (by decide) rfl hF rfl rfl
  |exact oK (Fj (by omega) (by omega)) (by decide) rfl hF rfl rfl
theorem Vt(ab:o→j→Prop)(aY:ab (.str []) (j.au 9 [])) :
 ∃v p,aI Tryz.prog aw 51 [.slice none 0 0] (⟨0,.nil⟩) v p∧ab v p :=
 cf bU mixed c7 (aq:= .aA (.rounds 300) .nil) (by kernel_rfl) aY
theorem Vu(pL f n v2 f2 aP:Nat)(l ci:List o)(ab:o→j→Prop)(aY:cP Tryz.prog aw 1 18 (Code.loop (c4 Tryz.prog 51 0)) [(3,.slice none 0 0),(6,.slice (some ⟨0,pL,0,0,1⟩) n n),(7,.int .i64 (n:Int)),(8,.int .i64 0)] (j.au 6 [(0,⟨l,1,false,false,pL,0,f,some (21,0)⟩)]) (.exit 0) (nF pL n n v2 aP 50) (j.au 60 [(0,hc l pL f),(50,mM ci v2 f2)])∧v2=v2∧0+aP≤List.length ci∧(∃l,List.take aP (List.drop (bH.idx ⟨50,v2,0,0,1⟩) (J.bi ⟨ci,1,false,false,v2,0,f2,some (5,0)⟩))=aJ l)∧ab (.str (strOf (List.take aP ci))) (j.au 63 [(0,⟨l,1,false,false,pL,0,f,some (21,0)⟩),(50,⟨ci,1,false,false,v2,0,f2,some (5,0)⟩)])) :
 ∃v p,aI Tryz.prog aw 51 [.slice (some ⟨0,pL,0,0,1⟩) n n] (j.of [hc l pL f]) v p∧ab v p :=
 cf bU mixed c7 (aq:= .aA (.cN [3,6,7,8]) (.aA (.loop (nF pL n n v2 aP 50) (j.au 60 [(0,hc l pL f),(50,mM ci v2 f2)]) (.exit 0)) (ah 7001 .nil))) (by kernel_rfl) aY
end Go.Proofs.YtddnafghiejcoaaGreatDoor
namespace Go.cH
noncomputable section
open Go.RowKit
theorem Vv{F:bT}{t:Nat}{v:o}(a':g' F t=some v):(t,v)∈F:=by
 induction F with
 |nil=>cases a'
 |cons I r ih =>
  obtain⟨k,u⟩:=I;rw [kS]at a';split at a'
  ·rename_i e;simp only [Option.some.injEq]at a';subst e;subst a';simp
  ·exact List.mem_cons_of_mem _ (ih a')
theorem Vw{F:bT}{g:o→o}{t:Nat}{v:o}(a':g' F t=some v):g' (F.map fun I=>(I.1,g I.2)) t=some (g v):=by
 induction F with
 |nil=>cases a'
 |cons I r ih =>
  obtain⟨k,u⟩:=I;rw [List.map_cons,kS];rw [kS]at a';split at a'
  ·rename_i e;simp only [Option.some.injEq]at a';subst a';rw [if_pos e]
  ·rename_i e;rw [if_neg e];exact ih a'
theorem e0.move{base n:Nat}{F bb:bT}{h:j}{K:Nat}{l:List (Nat×J)}(r:Nat→Nat)(aB:l.map (fun I=>h.get (r I.1))=l.map (fun I=>some (I.2.bc r)))(df:l.all (fun I=>Nat.blt I.1 K)=true)
 (be:((l.map (·.1)).map r).Nodup) (av:(List.range base).all (fun i=>(l.map (·.1)).contains i&&Nat.beq (r i) i)=true) (fb:l.all (fun I=>Nat.blt I.1 base || Nat.ble base (r I.1))=true)
 (Vx:F=bb.map fun I=>(I.1,I.2.bc r)) (aM:bb.all (fun I=>Nat.blt I.1 n)=true) (fE:b0 (bb.map fun I=>cv (cB (l.map (·.1))) I.2))
 (ar:b0 (l.map fun I=> ∀e∈I.2.bi,cv (cB (l.map (·.1))) e)):e0 base n F h bb (j.rows K l):=by
 have eT:∀i b,(j.rows K l).get i=some b→i<K∧h.get (r i)=some (b.bc r):=by intro i b k;have hm:=j.ss k;refine⟨Nat.blt_eq.mp (List.all_eq_true.1 df _ hm),?_⟩;obtain⟨C,aX,e⟩:=List.mem_iff_getElem.1 hm;have p:=congrArg (fun(x:List (Option J))=>x[C]?) aB;simp only [List.getElem?_map,List.getElem?_eq_getElem aX,Option.map_some,e,Option.some.injEq]at p;exact p
 have qS:∀{v:o},cv (cB (l.map (·.1))) v→cv (In (j.rows K l)) v:=cv.mono fun i al=>j.tX al
 subst Vx;refine e0.bc (r:=r) ⟨fun i b k=>⟨by rw [j.zO];exact(eT i b k).1,(eT i b k).2⟩,?_,?_⟩ ?_ ?_ ?_ ?_
 ·intro i C al aX e;have al:=j.tY al;have aX:=j.tY aX;obtain⟨a,aS,rfl⟩:=List.mem_iff_getElem.1 al;obtain⟨b,fw,rfl⟩:=List.mem_iff_getElem.1 aX;have p:((l.map (·.1)).map r)[a]'(by simpa using aS)=((l.map (·.1)).map r)[b]'(by simpa using fw):=by simpa using e
  have:=(List.getElem_inj be).1 p;subst this;rfl
 ·intro i b k e he;have hm:=j.ss k;exact qS (ar _ (List.mem_map.2 ⟨_,hm,rfl⟩) e he)
 ·intro t v a';have hm:=Vv a';exact⟨Nat.blt_eq.mp (List.all_eq_true.1 aM _ hm),Vw a',qS (fE _ (List.mem_map.2 ⟨_,hm,rfl⟩))⟩
 ·intro i al _;have:=List.all_eq_true.1 av i (List.mem_range.2 al);simp only [Bool.and_eq_true]at this;exact j.tX (by simpa using this.1)
 ·intro i al _;have:=List.all_eq_true.1 av i (List.mem_range.2 al);simp only [Bool.and_eq_true]at this;exact Nat.eq_of_beq_eq_true this.2
 ·intro i al cM;have al:=j.tY al;obtain⟨I,hm,rfl⟩:=List.mem_map.1 al;have:=List.all_eq_true.1 fb I hm;simp only [Bool.or_eq_true]at this;rcases this with p|p
  ·exact Nat.blt_eq.mp p
  ·have:=Nat.le_of_ble_eq_true p;omega
end
end Go.cH
namespace Go.Keys
theorem LV(x:Nat)(l:List Nat):fX (x::l)=put x++fX l:=rfl
theorem Vy:fX []=[]:=rfl
theorem Fl(r:Nat):(put r).length≤4:=by
 unfold put;simp only
 repeat' split
 all_goals simp
end Go.Keys
namespace Go.Proofs.YtddnafghiejcoaaGreatDoor
open Go.cH Go.Keys
set_option maxRecDepth 1000000
theorem Vz(l:Bytes):∀e∈aJ l,cT e:=by intro e he;obtain⟨b,_,rfl⟩:=List.mem_map.1 he;exact cT.int _ _
theorem Fm(acc:Bytes)(v f:Nat):dt (mM (aJ acc) v f):=Vz acc
theorem VA(a b:J):j.rows 60 [(0,a),(50,b)]=j.au 60 [(0,a),(50,b)]:=by kernel_rfl
theorem VB{n l c v:Nat} :cv (Go.cH.cB [0,50]) (.slice (some ⟨0,v,0,0,1⟩) l c):=(by show(0:Nat)∈ [0,50];simp)
theorem VC{n l c v:Nat} :cv (Go.cH.cB [0,50]) (.slice (some ⟨50,v,0,0,1⟩) l c):=(by show(50:Nat)∈ [0,50];simp)
theorem Fo{v n i v2 aP C:Nat}{p:j}{cX B:J}(aX:1≤C)(d':dt cX)(c1:dt B)(bm:p.get 0=some cX)(ah:p.get C=some B):e0 1 18 (nF v n i v2 aP C) p (nF v n i v2 aP 50) (j.rows 60 [(0,cX),(50,B)]):=by
 refine e0.move (K:=60) (l:=[(0,cX),(50,B)]) (fun k=>if k=0 then 0 else C) ?_ rfl ?_ rfl ?_ ?_ rfl ?_ ?_
 ·simp [bm,ah,d'.bc,c1.bc]
 ·simp;omega
 ·simp;exact aX
 ·simp [o.bc,bH.bc]
 ·exact b0.cons (VC (n:=0)) (b0.cons (VB (n:=0)) (b0.cons trivial (b0.cons trivial b0.nil)))
 ·exact b0.cons (fun e he=>(d' e he).e2 _) (b0.cons (fun e he=>(c1 e he).e2 _) b0.nil)
theorem VD(L:List Nat)(v f:Nat)(aB:L.length<2^41)(af:∀x∈L,x<2^31):∀(k i:Nat)(acc:Bytes)(v2 f2:Nat),L.length-i≤k→i≤L.length→acc.length≤4*i→ ∃v3 f3,
 db Tryz.prog aw 1 18 (c4 Tryz.prog 51 0) (nF v L.length i v2 acc.length 50) (j.rows 60 [(0,hc (dR L) v f),(50,mM (aJ acc) v2 f2)]) (.exit 0) (nF v L.length L.length v3 (acc++fX (L.drop i)).length 50)
  (j.rows 60 [(0,hc (dR L) v f),(50,mM (aJ (acc++fX (L.drop i))) v3 f3)]):=by
 intro k
 have fin:∀(acc:Bytes)(v2 f2:Nat),∃v3 f3,db Tryz.prog aw 1 18 (c4 Tryz.prog 51 0) (nF v L.length L.length v2 acc.length 50) (j.rows 60 [(0,hc (dR L) v f),(50,mM (aJ acc) v2 f2)]) (.exit 0) (nF v L.length L.length v3 (acc++fX (L.drop L.length)).length 50)
  (j.rows 60 [(0,hc (dR L) v f),(50,mM (aJ (acc++fX (L.drop L.length))) v3 f3)]):=by
  intro acc v2 f2;obtain⟨e,bb,p,be,rfl,rfl,bm,ah⟩:=LR L.length v f L.length v2 f2 acc.length (dR L) (aJ acc) (fun e bb p=>e=.exit 0∧bb=nF v L.length L.length v2 acc.length 50∧p.get 0=some (hc (dR L) v f)∧p.get 50=some (mM (aJ acc) v2 f2)) ⟨fun h=>by omega,fun _=>⟨rfl,rfl,rfl,rfl⟩⟩;refine⟨v2,f2,?_⟩;rw [List.drop_length,Vy,List.append_nil];exact(db.last (by simp) be).post (Fo (cX:=hc (dR L) v f) (by decide) (q3 L) (Fm _ _ _) bm ah)
 induction k with
 |zero =>
  intro i acc v2 f2 ao al aS;obtain rfl:i=L.length:=by omega
  exact fin acc v2 f2
 |succ k ih =>
  intro i acc v2 f2 ao al aS;by_cases ar:i<L.length
  ·obtain⟨e,bb,p,be,C,aX,rfl,rfl,bm,ah⟩:=Vs L acc v f i v2 f2 ar aB (by omega) (af _ (List.getElem_mem ar));have ac:=Fl L[i];obtain⟨v3,f3,dG⟩:=ih (i+1) (acc++put L[i]) (v2+1) _ (by omega) (by omega) (by rw [List.length_append];omega)
   have bu:(acc++put L[i])++fX (L.drop (i+1))=acc++fX (L.drop i):=by rw [List.drop_eq_getElem_cons ar,LV,List.append_assoc]
   rw [bu]at dG;refine⟨v3,f3,db.step (be.post ?_) dG⟩;rw [List.length_append];exact Fo (cX:=hc (dR L) v f) aX (q3 L) (Fm _ _ _) bm ah
  ·obtain rfl:i=L.length:=by omega
   exact fin acc v2 f2
theorem VE(H:j):aI Tryz.prog aw 51 [.slice none 0 0] H (.str []) H:=aI.fk (Vt (fun v _=>v=.str []) rfl) rfl rfl H
theorem VF{L:List Nat}{v f:Nat}(aB:L.length<2^41)(af:∀x∈L,x<2^31)(bm:L≠[]){H:j}{id:Nat}(hid:id<H.next)(ah:H.get id=some (hc (dR L) v f)) :
 aI Tryz.prog aw 51 [.slice (some ⟨id,v,0,0,1⟩) L.length L.length] H (.str (fX L)) H:=by
 have ii:0<L.length:=List.length_pos_iff.2 bm;obtain⟨e,bb,p,be,C,aX,rfl,rfl,bE,l2⟩:=Vr L v f 0 ii aB (af _ (List.getElem_mem ii));obtain⟨v3,f3,dG⟩:=VD L v f aB af L.length 1 ([]++put L[0]) 0 0 (by omega) (by omega) (by have:=Fl L[0];simp only [List.nil_append];omega)
 have bu:([]++put L[0])++fX (L.drop 1)=fX L:=by
  have:L=L[0]::L.drop 1:=by rw [←List.drop_eq_getElem_cons ii,List.drop_zero]
  conv=>rhs;rw [this,LV]
  rfl
 rw [bu]at dG;have LW:=Fo (cX:=hc (dR L) v f) (v:=v) (n:=L.length) (i:=0+1) (v2:=0) (aP:=([]:Bytes).length+(put L[0]).length) aX (q3 L) (Fm _ _ _) bE l2;have bC:([]:Bytes).length+(put L[0]).length=([]++put L[0]:Bytes).length:=by simp
 rw [bC]at LW be;have LX:=(db.step (be.post LW) dG).pre (e0.drop (h:=j.au 6 [(0,hc (dR L) v f)]) (F:=[(3,o.slice none 0 0),(6,o.slice (some ⟨0,v,0,0,1⟩) L.length L.length),(7,o.int .i64 L.length),(8,o.int .i64 (0:Nat))]) (K:=1) (l:=[(0,hc (dR L) v f)]) rfl rfl rfl rfl (b0.cons trivial (b0.cons (show(0:Nat)∈ [0]by simp) (b0.cons trivial (b0.cons trivial b0.nil)))) (b0.cons (fun e he=>((q3 L) e he).e2 _) b0.nil));rw [VA]at LX;have el:List.take (fX L).length (aJ (fX L))=aJ (fX L):=by rw [←iK,List.take_length]
 have k:=Vu v f L.length v3 f3 (fX L).length (dR L) (aJ (fX L)) (fun v1 ae=>v1=.str (fX L)∧ae.get 0=some (hc (dR L) v f)) ⟨cP.h' LX,rfl,by rw [iK];omega,⟨fX L,by simpa using el⟩,by rw [el,iZ],rfl⟩;obtain⟨v1,ae,aD,rfl,jt⟩:=k;have:=aI.pure (l:=[hc (dR L) v f]) aD (fun b av=>by rw [List.mem_singleton.1 av];exact q3 L) (by show [ae.get 0]=_;rw [jt];rfl) (cT.str _) (by exact⟨by show 0<1;decide,trivial⟩) (H:=H) [id] (by simp) (by intro C aX;rw [List.mem_singleton.1 aX];exact hid) (by simp [ah]);simpa [o.bc,bH.bc,dH]using this
noncomputable def Fp:List o→j→Option ev:=fun args h=>match args with
 |[.str s]=>some (.or (s=[]) (.one (.slice none 0 0) h []) (.one (.slice (some ⟨h.next,(ew s).length-1,0,0,1⟩) (ew s).length (ew s).length) (h.hp [] [mL (ew s)]) [s.length<2^40]))
 |_=>none
theorem VG:∀args h a,Fp args h=some a→a.dr Tryz.prog aw 150 args h:=by
 intro args h a e;unfold Fp at e;split at e<;>first|(cases e;done)|skip
 simp only [Option.some.injEq]at e;subst e;refine⟨fun bm _=> ?_,fun bm ac=> ?_⟩
 ·subst bm;exact Vg h
 ·exact Vh _ ac.head bm h
noncomputable def VH:e9:=pE.add 150 Fp
theorem VI:eP Tryz.prog aw VH:=c7.add VG
abbrev Av(s:Bytes):J:=⟨dR (ew s),1,false,false,List.length (ew s)-1,0,jS (List.length (ew s)),some (21,0)⟩
theorem VJ(s:Bytes)(ab:o→j→Prop)(aY:(s=[]→cW Tryz.prog aw 51 [.slice none 0 0] (j.au 11 []) (.str (fX (ew s))) (j.au 11 [])∧(fX (ew s)=s→ab (.bool true) (j.au 11 []))∧(¬fX (ew s)=s→ab (.bool false) (j.au 11 [])))∧(¬s=[]→List.length s<1099511627776∧cW Tryz.prog aw 51 [.slice (some {id:=11,R:=List.length (ew s)-1,idx:=0,bP:=0,es:=1}) (List.length (ew s)) (List.length (ew s))] (j.hp (j.au 11 []) [] [(Av s)]) (.str (fX (ew s))) (j.hp (j.au 11 []) [] [(Av s)])∧(fX (ew s)=s→ab (.bool true) (j.hp (j.au 11 []) [] [(Av s)]))∧(¬fX (ew s)=s→ab (.bool false) (j.hp (j.au 11 []) [] [(Av s)])))) :
 ∃v p,aI Tryz.prog aw 109 [.str s] (⟨0,.nil⟩) v p∧ab v p :=
 cf bU mixed VI (aq:=he 1001 (.aN 1001 (.aA (.val 1002 (.str (fX (ew s)))) (.skip 1003 (.aN 1003 .nil .nil))) (.aA (.val 1002 (.str (fX (ew s)))) (.skip 1003 (.aN 1003 .nil .nil))))) (by kernel_rfl) aY
end Go.Proofs.YtddnafghiejcoaaGreatDoor
namespace Go.Keys
theorem LY:∀(k i a7 al v:Nat)(l:Bytes),(tail k i a7 al v l).1<(v+1)*64^k∨(tail k i a7 al v l).1=65533
 |0,i,a7,al,v,l=>by simp [tail]
 |k+1,i,a7,al,v,[]=>by simp [tail]
 |k + 1,i,a7,al,v,c::r=>by
  simp only [tail];split
  ·exact .inr rfl
  ·rcases LY k (i+1) 128 191 (v*64+c.toNat%64) r with h|h
   ·refine .inl (Nat.lt_of_lt_of_le h ?_);rw [Nat.pow_succ,←Nat.mul_assoc,Nat.mul_right_comm];exact Nat.mul_le_mul_right _ (by omega)
   ·exact .inr h
theorem VK(s:Bytes):(first s).1<2^31:=by
 cases s with
 |nil=>simp [first]
 |cons b r =>
  simp only [first];have av:=b.toNat_lt;split
  ·simp
  ·split
   ·simp only;omega
   ·have aM:(lead b.toNat).1≤4:=K5 _;rcases LY ((lead b.toNat).1-1) 1 (lead b.toNat).2.1 (lead b.toNat).2.2 (b.toNat%2^(7- (lead b.toNat).1)) r with h|h
    ·have p:b.toNat%2^(7- (lead b.toNat).1)+1≤256:=by have:=Nat.mod_le b.toNat (2^(7- (lead b.toNat).1));omega
     have ae:64^((lead b.toNat).1-1)≤64^3:=Nat.pow_le_pow_right (by decide) (by omega);have bg:=Nat.mul_le_mul p ae;have bO:(256:Nat)*64^3<2^31:=by decide
     omega
    ·rw [h];decide
theorem LZ:∀(k:Nat)(s:Bytes),∀x∈iI k s,x<2^31
 |0,s,x,h=>by simp [iI]at h
 |k+1,[],x,h=>by simp [iI]at h
 |k+1,b::r,x,h=>by
  simp only [iI,List.mem_cons]at h;rcases h with rfl|h
  ·exact VK _
  ·exact LZ k _ x h
theorem VL(s:Bytes):∀x∈ew s,x<2^31:=LZ _ s
theorem VM{s:Bytes}(h:s≠[]):ew s≠[]:=by rw [Am h];simp
end Go.Keys
namespace Go.Proofs.YtddnafghiejcoaaGreatDoor
open Go.cH Go.Keys
set_option maxRecDepth 1000000
theorem VN(s:Bytes)(aq:s.length<2^40)(H:j):aI Tryz.prog aw 109 [.str s] H (.bool (valid s)) H:=by
 have b7:fX (ew s)=s→valid s=true:=fun h=>by unfold valid;rw [h];simp
 have a6:¬fX (ew s)=s→valid s=false:=fun h=>by unfold valid;rw [beq_eq_false_iff_ne];exact h
 refine aI.fk (VJ s (fun v _=>v=.bool (valid s)) ⟨fun bm=>⟨⟨?_⟩,fun h=>by rw [b7 h],fun h=>by rw [a6 h]⟩,fun bm=>⟨aq,⟨?_⟩,fun h=>by rw [b7 h],fun h=>by rw [a6 h]⟩⟩) rfl rfl H
 ·subst bm;exact VE _
 ·have aM:=Lx s.length s (Nat.le_refl _);exact VF (id:=11) (by omega) (VL s) (VM bm) (by show 11<12;decide) rfl
def ek(k:Int):UInt8:=UInt8.ofNat k.toNat
def nG(a0 ap a2 a3 n:Int):Bytes:=([a0,ap,a2,a3].take n.toNat).map ek
def b9(a0 ap a2 a3 n c:Int):List Nat×Bytes:=cg (nG a0 ap a2 a3 n) (ek c)
structure ir(a0 ap a2 a3 n c:Int):Prop where
 aM:0≤n∧n≤3
 ay:0<n→0≤a0∧a0≤255
 ba:1<n→0≤ap∧ap≤255
 bW:2<n→0≤a2∧a2≤255
 ar:0≤c∧c≤255
 op:n=0∨(first (nG a0 ap a2 a3 n)).2.2=true
noncomputable def wN:List o→j→Option ev:=fun args h =>
 match args with
 |[.ptr (some u),.slice (some b) Aw gA] =>
  match h.get u.id,h.get b.id with
  |some jU,some ka =>
   match jU.bi,ka.bi with
   |[.agg [.int .u8 a0,.int .u8 ap,.int .u8 a2,.int .u8 a3,.int .i64 n]],[.int .u8 c] =>
    cond (Nat.beq u.R 0&&Nat.beq u.idx 0&&Nat.beq u.bP 0&&Nat.beq u.es 5&&Nat.beq b.R 0&&Nat.beq b.idx 0&&Nat.beq b.bP 0&&Nat.beq b.es 1&&Nat.beq Aw 1&&Nat.beq gA 1
     && Nat.beq jU.es 5&&jU.exact&&!jU.ro&&Nat.beq jU.R 0&&Nat.beq jU.fQ 0&&Nat.beq jU.gF 0&&Nat.beq ka.es 1&&ka.exact&&!ka.ro&&Nat.beq ka.R 0&&Nat.beq ka.fQ 0&&Nat.beq ka.gF 0&&ka.an.isNone&&Nat.blt u.id h.next&&Nat.blt b.id h.next&&!(Nat.beq u.id b.id))
     (some (.or ((b9 a0 ap a2 a3 n c).1=[])
      (.one (.slice none 0 0) (h.hp [u.id,b.id] [ch (b9 a0 ap a2 a3 n c).2 a0 ap a2 a3 jU.an,gN c]) [ir a0 ap a2 a3 n c])
      (.or ((b9 a0 ap a2 a3 n c).1.length=1)
       (.one (.slice (some ⟨h.next,0,0,0,1⟩) 1 1) (h.hp [u.id,b.id] [ch (b9 a0 ap a2 a3 n c).2 a0 ap a2 a3 jU.an,gN c,wG ((b9 a0 ap a2 a3 n c).1.getD 0 0)]) [ir a0 ap a2 a3 n c])
       (.one (.slice (some ⟨h.next,1,0,0,1⟩) 2 2) (h.hp [u.id,b.id] [ch (b9 a0 ap a2 a3 n c).2 a0 ap a2 a3 jU.an,gN c,wH ((b9 a0 ap a2 a3 n c).1.getD 0 0) ((b9 a0 ap a2 a3 n c).1.getD 1 0)]) [ir a0 ap a2 a3 n c])))) none
   |_,_=>none
  |_,_=>none
 |_=>none
noncomputable def L0:List o→j→Option ev:=kw fun a=>match a with | [.str s]=>some (.bool (valid s),[s.length<2^40])|_=>none
noncomputable def L1:e9:=(pE.add 107 wN).add 109 L0
theorem q7{c:Int}(h:0≤c∧c≤255):((ek c).toNat:Int)=c:=by
 unfold ek;have:(UInt8.ofNat c.toNat).toNat=c.toNat%256:=by simp [UInt8.toNat_ofNat']
 rw [this];omega
abbrev Fq(v:o)(cX:J)(c:Int)(p:j):Prop:=aI Tryz.prog aw 107 [.ptr (some ⟨0,0,0,0,5⟩),.slice (some ⟨1,0,0,0,1⟩) 1 1] (j.of [cX,gN c]) v p
theorem VO{a0 ap a2 a3 n c:Int}(I:ir a0 ap a2 a3 n c)(an:Option (TypeId×Nat)):∃v p,Fq v (hb a0 ap a2 a3 n an) c p∧mK a0 ap a2 a3 c an (b9 a0 ap a2 a3 n c) v p:=by
 have ar:=q7 I.ar;obtain⟨aj,fi⟩:=I.aM;have aM:n=0∨n=1∨n=2∨n=3:=by omega
 unfold b9;generalize ek c=cb at ar;subst ar;rcases aM with rfl|rfl|rfl|rfl
 ·exact Uv cb a0 ap a2 a3 an
 ·have b':=q7 (I.ay (by decide));have op:=I.op.resolve_left (by decide);have bQ:nG a0 ap a2 a3 1=[ek a0]:=rfl;rw [bQ]at op⊢;generalize ek a0=hX at b' op;subst b';obtain⟨b,r,e,aB,a6⟩:=um op;simp only [List.cons.injEq]at e;obtain⟨rfl,rfl⟩:=e;rcases jR hX.toNat with h|h|h|h|h
  ·omega
  ·omega
  ·exact Ux hX cb ap a2 a3 an h
  ·exact Uy hX cb ap a2 a3 an h
  ·exact Uz hX cb ap a2 a3 an h
 ·have b':=q7 (I.ay (by decide));have bu:=q7 (I.ba (by decide));have op:=I.op.resolve_left (by decide);have bQ:nG a0 ap a2 a3 2=[ek a0,ek ap]:=rfl;rw [bQ]at op⊢;generalize ek a0=hX at b' op;generalize ek ap=kW at bu op;subst b' bu;obtain⟨b,r,e,aB,a6⟩:=um op;simp only [List.cons.injEq]at e;obtain⟨rfl,rfl⟩:=e;rw [a6]at op;rcases jR hX.toNat with h|h|h|h|h
  ·omega
  ·omega
  ·rw [h]at op;simp only [tail]at op;split at op<;>simp at op
  ·have p:¬(kW.toNat<(lead hX.toNat).2.1∨(lead hX.toNat).2.2<kW.toNat):=by intro q;rw [h]at op;simp only [tail]at op;rw [if_pos q]at op;simp at op
   exact UA hX kW cb a2 a3 an h p
  ·have p:¬(kW.toNat<(lead hX.toNat).2.1∨(lead hX.toNat).2.2<kW.toNat):=by intro q;rw [h]at op;simp only [tail]at op;rw [if_pos q]at op;simp at op
   exact UB hX kW cb a2 a3 an h p
 ·have b':=q7 (I.ay (by decide));have bu:=q7 (I.ba (by decide));have bC:=q7 (I.bW (by decide));have op:=I.op.resolve_left (by decide);have bQ:nG a0 ap a2 a3 3=[ek a0,ek ap,ek a2]:=rfl;rw [bQ]at op⊢;generalize ek a0=hX at b' op;generalize ek ap=kW at bu op;generalize ek a2=Fs at bC op;subst b' bu bC;obtain⟨b,r,e,aB,a6⟩:=um op;simp only [List.cons.injEq]at e;obtain⟨rfl,rfl⟩:=e;rw [a6]at op
  have p:¬(kW.toNat<(lead hX.toNat).2.1∨(lead hX.toNat).2.2<kW.toNat):=by
   intro q;obtain⟨m,hm⟩:∃m,(lead hX.toNat).1-1=m+1:=⟨(lead hX.toNat).1-2,by omega⟩
   rw [hm]at op;simp only [tail]at op;rw [if_pos q]at op;simp at op
  rcases jR hX.toNat with h|h|h|h|h
  ·omega
  ·omega
  ·rw [h]at op;simp only [tail]at op;rw [if_neg p]at op;simp at op
  ·rw [h]at op;simp only [tail]at op;rw [if_neg p]at op;split at op<;>simp at op
  ·have ae:¬(Fs.toNat<128∨191<Fs.toNat):=by intro q;rw [h]at op;simp only [tail]at op;rw [if_neg p,if_pos q]at op;simp at op
   exact UC hX kW Fs cb a3 an h p ae
theorem uw(bE aL aQ bq n:Int)(an:Option (TypeId×Nat)):dt (hb bE aL aQ bq n an):=by intro e he;rw [List.mem_singleton.1 he];exact cT.of rfl
theorem L2(c:Int):dt (gN c):=by intro e he;rw [List.mem_singleton.1 he];exact cT.int _ _
theorem VP{a b:J}(aS:dt a)(av:dt b):∀x∈ [a,b],dt x:=by
 intro x af;simp only [List.mem_cons,List.not_mem_nil,or_false]at af;rcases af with rfl|rfl
 ·exact aS
 ·exact av
theorem VQ(r:Nat):dt (wG r):=by intro e he;rw [List.mem_singleton.1 he];exact cT.int _ _
theorem VR(r s:Nat):dt (wH r s):=by intro e he;simp only [List.mem_cons,List.not_mem_nil,or_false]at he;rcases he with rfl|rfl<;>exact cT.int _ _
theorem Ft{cX q8:J}{c:Int}{v v2:o}{p:j}(k:Fq v cX c p)(d':dt cX)(VS:dt q8)(hr:List Nat)(l:List J)(aB:∀x∈l,dt x)(vW:l.length=hr.length)(eT:(List.range (l.length+2)).map (fun i=>p.get (gu 2 hr i))=(q8::gN c::l).map some)(a':v=v2.bc (gu 2 hr))(wv:cv (fun i=>i<l.length+2) v2)
 (En:hr.all (fun C=>Nat.ble 2 C)=true) (h1:hr.Nodup) {H:j} {u b:Nat} (wO:u≠b) (hu:u<H.next) (av:b<H.next) (VT:H.get u=some cX) (VU:H.get b=some (gN c)) :
 aI Tryz.prog aw 107 [.ptr (some ⟨u,0,0,0,5⟩),.slice (some ⟨b,0,0,0,1⟩) 1 1] H (v2.bc (dH [u,b] H.next)) (H.hp [u,b] (q8::gN c::l)):=by
 have fw:∀x∈q8::gN c::l,dt x:=by
  intro x af;rcases List.mem_cons.1 af with rfl|af
  ·exact VS
  ·rcases List.mem_cons.1 af with rfl|af
   ·exact L2 c
   ·exact aB x af
 have aL:=k.fin hr (q8::gN c::l) v2 fw (by simp [vW];omega) eT a' wv En h1;have aQ:=aL.TM (VP d' (L2 c)) fw (by simp) (by exact⟨by show 0<2;decide,by show 1<2;decide,trivial⟩) (H:=H) [u,b] (by simp [wO]) (by intro C aX;simp at aX;omega) (by simp [VT,VU]);simpa [o.bc,bH.bc,dH]using aQ
theorem L3:∀args h a,wN args h=some a→a.dr Tryz.prog aw 107 args h:=by
 intro args H a e;unfold wN at e;split at e<;>first|(cases e;done)|skip
 rename_i u b Aw gA;split at e<;>first|(cases e;done)|skip
 rename_i jU ka wO lU;split at e<;>first|(cases e;done)|skip
 rename_i a0 ap a2 a3 n c qC nt
 cases aC:(Nat.beq u.R 0&&Nat.beq u.idx 0&&Nat.beq u.bP 0&&Nat.beq u.es 5&&Nat.beq b.R 0&&Nat.beq b.idx 0&&Nat.beq b.bP 0&&Nat.beq b.es 1&&Nat.beq Aw 1&&Nat.beq gA 1
  && Nat.beq jU.es 5&&jU.exact&&!jU.ro&&Nat.beq jU.R 0&&Nat.beq jU.fQ 0&&Nat.beq jU.gF 0&&Nat.beq ka.es 1&&ka.exact&&!ka.ro&&Nat.beq ka.R 0&&Nat.beq ka.fQ 0&&Nat.beq ka.gF 0&&ka.an.isNone&&Nat.blt u.id H.next&&Nat.blt b.id H.next&&!(Nat.beq u.id b.id))with
 |false=>rw [aC]at e;cases e
 |true =>
  rw [aC,cond_true]at e;simp only [Bool.and_eq_true,Nat.beq_eq,Bool.not_eq_true',Nat.blt_eq,Option.isNone_iff_eq_none]at aC;simp only [Option.some.injEq]at e;subst e;obtain⟨⟨⟨⟨⟨⟨⟨⟨⟨⟨⟨⟨⟨⟨⟨⟨⟨⟨⟨⟨⟨⟨⟨⟨⟨dK,dL⟩,gd⟩,mB⟩,pM⟩,ux⟩,L4⟩,L5⟩,L6⟩,L7⟩,L8⟩,L9⟩,L'⟩,Ma⟩,Mb⟩,Mc⟩,Md⟩,Me⟩,Mf⟩,Mg⟩,Mh⟩,Mi⟩,Mj⟩,Ax⟩,Ay⟩,Fu⟩:=aC;obtain⟨Jt,ae2,ae3,ae4,ae5⟩:=u;obtain⟨Dy,bv,n',lJ,ae6⟩:=b;obtain⟨eC,ci,oI,wP,sG,Az,ae7,li⟩:=jU;obtain⟨m1,m2,m3,m4,m5,m6,m7,m8⟩:=ka;simp only at dK dL gd mB pM ux L4 L5 L6 L7 L8 L9 L' Ma Mb Mc Md Me Mf Mg Mh Mi Mj Ax Ay Fu qC nt;subst dK dL gd mB pM ux L4 L5 L6 L7 L8 L9 L' Ma Mb Mc Md Me Mf Mg Mh Mi Mj qC nt;have bZ:Jt≠Dy:=fun h=>by rw [h]at Fu;simp at Fu
  have ok:ir a0 ap a2 a3 n c→ ∃v p,Fq v (hb a0 ap a2 a3 n li) c p∧mK a0 ap a2 a3 c li (b9 a0 ap a2 a3 n c) v p:=fun I=>VO I li
  refine⟨fun bm ac=> ?_,fun bm=>⟨fun p ac=> ?_,fun p ac=> ?_⟩⟩
  ·obtain⟨v,p,aD,g0,g1,g2⟩:=ok ac.head;rw [bm]at g2;simp only at g2;have:=Ft (v2:= .slice none 0 0) aD (uw _ _ _ _ _ _) (uw _ _ _ _ _ _) [] [] (fun x af=>by cases af) rfl (q8:=ch (b9 a0 ap a2 a3 n c).2 a0 ap a2 a3 li) (by simp [gu,List.range_succ,g0,g1]) (by rw [g2];rfl) trivial rfl List.nodup_nil bZ Ax Ay wO lU;simpa [o.bc]using this
  ·obtain⟨v,ae,aD,g0,g1,g2⟩:=ok ac.head;cases aB:(b9 a0 ap a2 a3 n c).1 with
   |nil=>exact absurd aB bm
   |cons r t =>
    cases t with
    |cons x y=>rw [aB]at p;simp at p
    |nil =>
     rw [aB]at g2;obtain⟨C,aX,a',ah⟩:=g2;have:=Ft (v2:= .slice (some ⟨2,0,0,0,1⟩) 1 1) aD (uw _ _ _ _ _ _) (uw _ _ _ _ _ _) [C] [wG r] (fun x af=>by rw [List.mem_singleton.1 af];exact VQ r) rfl (q8:=ch (b9 a0 ap a2 a3 n c).2 a0 ap a2 a3 li) (by simp [gu,List.range_succ,g0,g1,ah]) (by rw [a'];simp [o.bc,bH.bc,gu]) (by show 2<3;decide) (by simp [aX]) (by simp) bZ Ax Ay wO lU;simpa [o.bc,bH.bc,dH,aB]using this
  ·obtain⟨v,ae,aD,g0,g1,g2⟩:=ok ac.head;cases aB:(b9 a0 ap a2 a3 n c).1 with
   |nil=>exact absurd aB bm
   |cons r t =>
    cases t with
    |nil=>rw [aB]at p;simp at p
    |cons x y =>
     cases y with
     |cons _ _=>rw [aB]at g2;exact g2.elim
     |nil =>
      rw [aB]at g2;obtain⟨C,aX,a',ah⟩:=g2;have:=Ft (v2:= .slice (some ⟨2,1,0,0,1⟩) 2 2) aD (uw _ _ _ _ _ _) (uw _ _ _ _ _ _) [C] [wH r x] (fun z eO=>by rw [List.mem_singleton.1 eO];exact VR r x) rfl (q8:=ch (b9 a0 ap a2 a3 n c).2 a0 ap a2 a3 li) (by simp [gu,List.range_succ,g0,g1,ah]) (by rw [a'];simp [o.bc,bH.bc,gu]) (by show 2<3;decide) (by simp [aX]) (by simp) bZ Ax Ay wO lU;simpa [o.bc,bH.bc,dH,aB]using this
theorem VV:∀args h a,L0 args h=some a→a.dr Tryz.prog aw 109 args h:=by
 refine ls ?_;intro args v eL e ac H;split at e<;>first|(cases e;done)|skip
 simp only [Option.some.injEq,Prod.mk.injEq]at e;obtain⟨rfl,rfl⟩:=e;exact VN _ ac.head H
theorem VW:eP Tryz.prog aw L1:=(c7.add L3).add VV
def cD:pC→Nat
 |.ground=>30
 |.dw=>59
 |.dc=>90
 |.sequence=>87
 |.single=>88
 |.cC=>129
theorem VX{a b:pC}(h:cD a=cD b):a=b:=by cases a<;>cases b<;>first|rfl|(exact absurd h (by decide))
structure cB where
 u:Nat
 k:Nat
 I:Nat
 U:Nat
def cB.map(r:Nat→Nat)(aF:cB):cB:=⟨r aF.u,r aF.k,r aF.I,r aF.U⟩
abbrev b1(d f u:Nat)(aV ag:o)(cl:Bool)(ad:o)(an:Option (TypeId×Nat)):J :=
 J.made [.agg [.func (.func f) [.ptr (some ⟨d,0,0,0,6⟩)] [],aV,ag,.bool cl,.ptr (some ⟨u,0,0,0,5⟩),ad]] 6 true an
abbrev ct(l:List o)(es v m f:Nat)(an:Option (TypeId×Nat)):J:= {bi:=l,es:=es,exact:=false,ro:=false,R:=v,fQ:=m,gF:=f,an:=an}
abbrev cF:Option (TypeId×Nat):=some (5,0)
abbrev ju:Option (TypeId×Nat):=some (42,0)
inductive fY where
 |nil|one|grown (dN:Bytes)
def Grown(H:j)(k:Nat)(v:o)(l:Bytes)(dN:Bytes):Prop :=
 ∃R m f,v=.slice (some ⟨k,R,dN.length,0,1⟩) l.length l.length∧H.get k=some (ct (aJ (dN++l)) 1 R m f cF)
def jb(H:j)(d k:Nat)(v:o):fY→Bytes→Prop
 |.nil,l=>v=.slice none 0 0∧l=[]∧k=d
 |.one,l=>k≠d∧v=.slice (some ⟨k,0,0,0,1⟩) 1 1∧H.get k=some (J.made [.int .u8 27] 1 true)∧l=[27]
 |.grown dN,l=>k≠d∧Grown H k v l dN
def jc(H:j)(d I:Nat)(v:o)(l:Bytes):Prop :=
 (v=.slice none 0 0∧l=[]∧I=d)∨(I≠d∧l≠[]∧Grown H I v l [])
def jd(H:j)(d U:Nat)(v:o)(es:List bw):Prop :=
 (v=.slice none 0 0∧es=[]∧U=d)∨(U≠d∧es≠[]∧∃R m f,v=.slice (some ⟨U,R,0,0,6⟩) es.length es.length∧H.get U=some (ct (es.map di) 6 R m f ju))
structure dP(H:j)(d:Nat)(aF:cB)(f:Nat)(cl:Bool)(bl:fY)(kept hold az:Bytes)(es:List bw):Prop where
 ex:∃aV ag ad an,H.get d=some (b1 d f aF.u aV ag cl ad an)∧jb H d aF.k aV bl kept∧jc H d aF.I ag az∧jd H d aF.U ad es
 ig:∃bx bt bk bz an,H.get aF.u=some (ch hold bx bt bk bz an)
 lt:d<H.next∧aF.u<H.next∧aF.k<H.next∧aF.I<H.next∧aF.U<H.next
 ne:aF.k=d∨aF.I=d∨aF.k≠aF.I
def pN:pC→fY→Bytes→Prop
 |.ground,.nil,_=>True
 |.dw,.one,_=>True
 |.cC,.nil,_=>True
 |.cC,.grown _,_=>True
 |.dc,.grown [],l=>l≠[]
 |.sequence,.grown [],l=>l≠[]
 |.single,.grown [],l=>l≠[]
 |_,_,_=>False
def cm(H:j)(d:Nat)(aF:cB)(s:bI)(es:List bw):Prop:= ∃bl,dP H d aF (cD s.b8) (decide (s.b8=.cC)) bl s.kept s.hold s.az es∧pN s.b8 bl s.kept
theorem VY{a b:Bytes}(h:aJ a=aJ b):a=b:=by
 have:=congrArg strOf h
 rwa [iZ,iZ]at this
theorem Mk{a b:bw}(h:di a=di b):a=b:=by unfold di at h;simp only [o.agg.injEq,List.cons.injEq,o.int.injEq,o.str.injEq,and_true,true_and]at h;cases a;cases b;simp_all
theorem Ml:∀{a b:List bw},a.map di=b.map di→a=b
 |[],[],_=>rfl
 |[],_::_,h=>by simp at h
 |_::_,[],h=>by simp at h
 |x::a,y::b,h=>by simp only [List.map_cons,List.cons.injEq]at h;rw [Mk h.1,Ml h.2]
theorem Fv{H:j}{k aQ:Nat}{v:o}{l ci C bk:Bytes}(h:Grown H k v l C)(ae:Grown H aQ v ci bk):k=aQ∧l=ci∧C=bk:=by obtain⟨R,m,f,e,g⟩:=h;obtain⟨VZ,m2,f2,bC,g2⟩:=ae;rw [e]at bC;simp only [o.slice.injEq,Option.some.injEq,bH.mk.injEq]at bC;obtain⟨⟨ao,_,aX,_⟩,_,_⟩:=bC;subst ao;rw [g]at g2;simp only [Option.some.injEq,J.mk.injEq]at g2;have:=VY g2.1;exact⟨rfl,(List.append_inj this aX).2,(List.append_inj this aX).1⟩
theorem V0{H:j}{d k aQ:Nat}{v:o}{bl q9:fY}{l ci:Bytes}(h:jb H d k v bl l)(ae:jb H d aQ v q9 ci):k=aQ∧l=ci∧bl=q9:=by
 cases bl<;>cases q9<;>simp only [jb]at h ae
 ·exact⟨by omega,by rw [h.2.1,ae.2.1],rfl⟩
 ·have:=h.1.symm.trans ae.2.1;simp at this
 ·obtain⟨_,_,_,_,e,_⟩:=ae;rw [h.1]at e;simp at e
 ·have:=ae.1.symm.trans h.2.1;simp at this
 ·have:=h.2.1.symm.trans ae.2.1;exact⟨by simpa using this,by rw [h.2.2.2,ae.2.2.2],rfl⟩
 ·obtain⟨_,_,_,_,e,g⟩:=ae;have:=h.2.1.symm.trans e;simp only [o.slice.injEq,Option.some.injEq,bH.mk.injEq]at this;obtain⟨⟨ao,_⟩,_⟩:=this;rw [ao,g]at h;simp [J.made]at h
 ·obtain⟨_,_,_,_,e,_⟩:=h;rw [ae.1]at e;simp at e
 ·obtain⟨_,_,_,_,e,g⟩:=h;have:=ae.2.1.symm.trans e;simp only [o.slice.injEq,Option.some.injEq,bH.mk.injEq]at this;obtain⟨⟨ao,_⟩,_⟩:=this;rw [ao,g]at ae;simp [J.made]at ae
 ·obtain⟨a,b,c⟩:=Fv h.2 ae.2;exact⟨a,b,by rw [c]⟩
theorem V1{H:j}{d k aQ:Nat}{v:o}{l ci:Bytes}(h:jc H d k v l)(ae:jc H d aQ v ci):k=aQ∧l=ci:=by
 rcases h with ⟨a,b,c⟩|⟨a,b,g⟩<;>rcases ae with ⟨a2,bW,ef⟩|⟨a2,bW,g2⟩
 ·exact⟨by omega,by rw [b,bW]⟩
 ·obtain⟨_,_,_,e,_⟩:=g2;rw [a]at e;simp at e
 ·obtain⟨_,_,_,e,_⟩:=g;rw [a2]at e;simp at e
 ·exact⟨(Fv g g2).1,(Fv g g2).2.1⟩
theorem V2{H:j}{d k aQ:Nat}{v:o}{l ci:List bw}(h:jd H d k v l)(ae:jd H d aQ v ci):k=aQ∧l=ci:=by
 rcases h with ⟨a,b,c⟩|⟨a,b,R,m,f,e,g⟩<;>rcases ae with ⟨a2,bW,ef⟩|⟨a2,bW,VZ,m2,f2,bC,g2⟩
 ·exact⟨by omega,by rw [b,bW]⟩
 ·rw [a]at bC;simp at bC
 ·rw [a2]at e;simp at e
 ·rw [e]at bC;simp only [o.slice.injEq,Option.some.injEq,bH.mk.injEq]at bC;obtain⟨⟨ao,_⟩,_⟩:=bC;subst ao;rw [g]at g2;simp only [Option.some.injEq,J.mk.injEq]at g2;exact⟨rfl,Ml g2.1⟩
theorem V3{h ae:Bytes}{bx bt bk bz i0 i1 i2 i3:Int}{an mN:Option (TypeId×Nat)}(aB:h.length≤4)(e:ch h bx bt bk bz an=ch ae i0 i1 i2 i3 mN):h=ae:=by
 simp only [J.made,J.mk.injEq,List.cons.injEq,o.agg.injEq,o.int.injEq,true_and,and_true]at e;obtain⟨⟨b',bu,bC,b2,fJ⟩,_⟩:=e;have fJ:h.length=ae.length:=by omega
 apply List.ext_getElem? fun i=> ?_
 by_cases al:i<h.length
 ·have uy:i<ae.length:=by omega
  have key:ca h i 0=ca ae i 0:=by
   have:i=0∨i=1∨i=2∨i=3:=by omega
   have g:∀(x:Bytes)(a b:Int),i<x.length→ca x i a=ca x i b:=fun x a b af=>by simp [ca,List.getElem?_eq_getElem af]
   rcases this with rfl|rfl|rfl|rfl
   ·rw [g h 0 bx al,g ae 0 i0 uy];exact b'
   ·rw [g h 0 bt al,g ae 0 i1 uy];exact bu
   ·rw [g h 0 bk al,g ae 0 i2 uy];exact bC
   ·rw [g h 0 bz al,g ae 0 i3 uy];exact b2
  simp only [ca,List.getElem?_eq_getElem al,List.getElem?_eq_getElem uy]at key;rw [List.getElem?_eq_getElem al,List.getElem?_eq_getElem uy]
  congr 1
  exact UInt8.toNat_inj.1 (by omega)
 ·rw [List.getElem?_eq_none (by omega),List.getElem?_eq_none (by omega)]
theorem dP.qM{H:j}{d:Nat}{aF c':cB}{f f2:Nat}{cl q':Bool}{bl q9:fY}{kept Fw hold AA az Fx:Bytes}{es ra:List bw}(h:dP H d aF f cl bl kept hold az es)(ae:dP H d c' f2 q' q9 Fw AA Fx ra)(aB:hold.length≤4) :
 aF=c'∧f=f2∧cl=q'∧bl=q9∧kept=Fw∧hold=AA∧az=Fx∧es=ra:=by
 obtain⟨aV,ag,ad,an,e,ao,ac,ai⟩:=h.ex;obtain⟨uz,uA,rb,mN,bC,cw,uB,gP⟩:=ae.ex;rw [e]at bC;simp only [J.made,Option.some.injEq,J.mk.injEq,List.cons.injEq,o.agg.injEq,o.func.injEq,Fn.func.injEq,o.ptr.injEq,bH.mk.injEq,o.bool.injEq,true_and,and_true]at bC;obtain⟨⟨a6,rfl,rfl,mO,hu,rfl⟩,_⟩:=bC;obtain⟨bx,bt,bk,bz,aE,V4⟩:=h.ig;obtain⟨i0,i1,i2,i3,ae8,Mm⟩:=ae.ig;rw [←hu,V4]at Mm;have bQ:=V3 aB (Option.some.inj Mm);obtain⟨aL,aQ,bq⟩:=V0 ao cw;obtain⟨eU,ik⟩:=V1 ac uB;obtain⟨Mn,Fy⟩:=V2 ai gP;cases aF;cases c'
 simp_all
theorem cm.qM{H:j}{d:Nat}{aF c':cB}{s s2:bI}{es ra:List bw}(h:cm H d aF s es)(ae:cm H d c' s2 ra)(aB:s.hold.length≤4):aF=c'∧s=s2∧es=ra:=by
 obtain⟨bl,g,_⟩:=h;obtain⟨q9,g2,_⟩:=ae;obtain⟨a,b,c,d,e,f,g,i⟩:=g.qM g2 aB;have:=VX b;cases s;cases s2
 simp_all
theorem ly(l:Bytes):∀e∈aJ l,cT e:=by intro e he;obtain⟨b,_,rfl⟩:=List.mem_map.1 he;exact cT.int _ _
theorem Mo(e:bw):cT (di e):=cT.of rfl
theorem Mp(l:List bw):∀e∈l.map di,cT e:=by intro e he;obtain⟨b,_,rfl⟩:=List.mem_map.1 he;exact Mo b
theorem rc(bE aL aQ bq n:Int)(an:Option (TypeId×Nat)):dt (hb bE aL aQ bq n an):=by intro e he;rw [List.mem_singleton.1 he];exact cT.of rfl
theorem pO{l:List o}(h:∀e∈l,cT e)(es v m f:Nat)(an:Option (TypeId×Nat)):dt (ct l es v m f an):=h
theorem Mq:dt (J.made [.int .u8 27] 1 true):=by intro e he;rw [List.mem_singleton.1 he];exact cT.of rfl
theorem Grown.oL{aa aR:j}{r:Nat→Nat}(be:∀i b,aa.get i=some b→aR.get (r i)=some (b.bc r)){k:Nat}{v:o}{l dN:Bytes}(g:Grown aa k v l dN):Grown aR (r k) (v.bc r) l dN:=by
 obtain⟨R,m,f,rfl,ah⟩:=g;refine⟨R,m,f,rfl,?_⟩;have:=be _ _ ah
 rwa [(pO (ly _) _ _ _ _ _).bc]at this
theorem dP.oL{aa aR:j}{r:Nat→Nat}(be:∀i b,aa.get i=some b→aR.get (r i)=some (b.bc r))(io:∀i C,r i=r C→i=C)(cM:∀i,i<aa.next→r i<aR.next){d:Nat}{aF:cB}{f:Nat}{cl:Bool}{bl:fY}{kept hold az:Bytes}{es:List bw}
 (g:dP aa d aF f cl bl kept hold az es):dP aR (r d) (aF.map r) f cl bl kept hold az es where
 ex := by
  obtain⟨aV,ag,ad,an,e,ao,ac,ai⟩:=g.ex;refine⟨aV.bc r,ag.bc r,ad.bc r,an,?_,?_,?_,?_⟩
  ·rw [be _ _ e];simp [J.bc,J.made,o.bc,o.gz,bH.bc,cB.map]
  ·cases bl with
   |nil =>
    obtain⟨rfl,rfl,ao⟩:=ao;exact⟨rfl,rfl,by show r aF.k=r d;rw [ao]⟩
   |one =>
    obtain⟨bZ,rfl,ao,rfl⟩:=ao;refine⟨fun e=>bZ (io _ _ e),rfl,?_,rfl⟩;have:=be _ _ ao
    rwa [Mq.bc]at this
   |grown dN=>exact⟨fun e=>ao.1 (io _ _ e),ao.2.oL be⟩
  ·rcases ac with ⟨rfl,rfl,ac⟩|⟨p,ae,bg⟩
   ·exact .inl ⟨rfl,rfl,by show r aF.I=r d;rw [ac]⟩
   ·exact .inr ⟨fun e=>p (io _ _ e),ae,bg.oL be⟩
  ·rcases ai with ⟨rfl,rfl,ai⟩|⟨p,ae,R,m,aG,rfl,ah⟩
   ·exact .inl ⟨rfl,rfl,by show r aF.U=r d;rw [ai]⟩
   ·refine .inr ⟨fun e=>p (io _ _ e),ae,R,m,aG,rfl,?_⟩;have:=be _ _ ah
    rwa [(pO (Mp _) _ _ _ _ _).bc]at this
 ig:=by
  obtain⟨bx,bt,bk,bz,an,hu⟩:=g.ig;refine⟨bx,bt,bk,bz,an,?_⟩;have:=be _ _ hu
  rwa [(rc _ _ _ _ _ _).bc]at this
 lt:=⟨cM _ g.lt.1,cM _ g.lt.2.1,cM _ g.lt.2.2.1,cM _ g.lt.2.2.2.1,cM _ g.lt.2.2.2.2⟩
 ne:=by
  rcases g.ne with h|h|h
  ·exact .inl (by show r aF.k=r d;rw [h])
  ·exact .inr (.inl (by show r aF.I=r d;rw [h]))
  ·exact .inr (.inr fun e=>h (io _ _ e))
structure Fr(h aa:j)(d:Nat)(aF aO:cB):Prop where
 next:h.next≤aa.next
 get:∀C,C<h.next→C≠d→C≠aF.u→C≠aF.k→C≠aF.I→C≠aF.U→aa.get C=h.get C
 ids:∀x,x=aO.u∨x=aO.k∨x=aO.I∨x=aO.U→x=d∨x=aF.u∨x=aF.k∨x=aF.I∨x=aF.U∨h.next≤x
theorem Fr.trans{h p ae:j}{d:Nat}{aF mP c':cB}(a:Fr h p d aF mP)(b:Fr p ae d mP c'):Fr h ae d aF c' where
 next:=Nat.le_trans a.next b.next
 get C aX bu bC b2 cp ia:=by
  have key:∀x,(x=mP.u∨x=mP.k∨x=mP.I∨x=mP.U)→C≠x:=by intro x af e;subst e;have:=a.ids _ af;omega
  rw [b.get C (Nat.lt_of_lt_of_le aX a.next) bu (key _ (.inl rfl)) (key _ (.inr (.inl rfl))) (key _ (.inr (.inr (.inl rfl)))) (key _ (.inr (.inr (.inr rfl)))),a.get C aX bu bC b2 cp ia]
 ids x af:=by
  rcases b.ids x af with h|h|h|h|h|h
  ·exact .inl h
  ·exact a.ids x (.inl h)
  ·exact a.ids x (.inr (.inl h))
  ·exact a.ids x (.inr (.inr (.inl h)))
  ·exact a.ids x (.inr (.inr (.inr h)))
  ·have:=a.next;omega
def kx:J:=J.made [] 1 true
theorem Fz:dt kx:=by intro e he;cases he
noncomputable def uC(H:j):j:=⟨H.next+3,(((H.set H.next kx).set (H.next+1) kx).set (H.next+2) kx).aT⟩
theorem AB(H:j)(C:Nat):(uC H).get C=if H.next+2=C then some kx else if H.next+1=C then some kx else if H.next=C then some kx else H.get C:=by show(((H.set H.next kx).set (H.next+1) kx).set (H.next+2) kx).get C=_;rw [j.kG,j.kG,j.kG]
theorem nH(H:j)(C:Nat)(h:C<H.next):(uC H).get C=H.get C:=by rw [AB,if_neg (by omega),if_neg (by omega),if_neg (by omega)]
structure Part(H:j)(d x i V5:Nat)(v v0:o)(B:J)(C jB:Nat)(es:Nat):Prop where
 bare:dt B
 bc:∀r:Nat→Nat,r i=C→v0.bc r=v
 e2:∀D:Nat→Prop,D i→cv D v0
 row:(uC H).get C=some B
 at':(jB=0∧x=d∧C=H.next+V5)∨(jB=i∧x=C∧C≠d∧C<H.next∧B.es=es)
theorem V6{H:j}{d k:Nat}{v:o}{bl:fY}{l:Bytes}(h:jb H d k v bl l)(ao:k<H.next):∃v0 B C jB,Part H d k 2 0 v v0 B C jB 1∧∀bm:j,bm.get 2=some B→jb bm 0 jB v0 bl l:=by
 cases bl with
 |nil =>
  obtain⟨rfl,rfl,rfl⟩:=h;exact⟨.slice none 0 0,kx,H.next,0,⟨Fz,fun _ _=>rfl,fun _ _=>trivial,by rw [AB,if_neg (by omega),if_neg (by omega),if_pos rfl],.inl ⟨rfl,rfl,rfl⟩⟩,fun bm _=>⟨rfl,rfl,rfl⟩⟩
 |one =>
  obtain⟨bZ,rfl,ah,rfl⟩:=h;exact⟨.slice (some ⟨2,0,0,0,1⟩) 1 1,J.made [.int .u8 27] 1 true,k,2,⟨Mq,fun r be=>by simp [o.bc,bH.bc,be],fun D b5=>b5,by rw [nH _ _ ao];exact ah,.inr ⟨rfl,rfl,bZ,ao,rfl⟩⟩,fun bm g0=>⟨by decide,rfl,g0,rfl⟩⟩
 |grown dN =>
  obtain⟨bZ,R,m,f,rfl,ah⟩:=h
  exact⟨.slice (some ⟨2,R,dN.length,0,1⟩) l.length l.length,ct (aJ (dN++l)) 1 R m f cF,k,2,⟨pO (ly _) _ _ _ _ _,fun r be=>by simp [o.bc,bH.bc,be],fun D b5=>b5,by rw [nH _ _ ao];exact ah,.inr ⟨rfl,rfl,bZ,ao,rfl⟩⟩,
   fun bm g0=>⟨by decide,R,m,f,rfl,g0⟩⟩
theorem V7{H:j}{d k:Nat}{v:o}{l:Bytes}(h:jc H d k v l)(ao:k<H.next):∃v0 B C jB,Part H d k 3 1 v v0 B C jB 1∧∀bm:j,bm.get 3=some B→jc bm 0 jB v0 l:=by
 rcases h with ⟨rfl,rfl,rfl⟩|⟨bZ,aB,R,m,f,rfl,ah⟩
 ·exact⟨.slice none 0 0,kx,H.next+1,0,⟨Fz,fun _ _=>rfl,fun _ _=>trivial,by rw [AB,if_neg (by omega),if_pos rfl],.inl ⟨rfl,rfl,rfl⟩⟩,fun bm _=> .inl ⟨rfl,rfl,rfl⟩⟩
 ·exact⟨.slice (some ⟨3,R,0,0,1⟩) l.length l.length,ct (aJ ([]++l)) 1 R m f cF,k,3,⟨pO (ly _) _ _ _ _ _,fun r be=>by simp [o.bc,bH.bc,be],fun D b5=>b5,by rw [nH _ _ ao];exact ah,.inr ⟨rfl,rfl,bZ,ao,rfl⟩⟩,
   fun bm g0=> .inr ⟨by decide,aB,R,m,f,rfl,g0⟩⟩
theorem V8{H:j}{d k:Nat}{v:o}{l:List bw}(h:jd H d k v l)(ao:k<H.next):∃v0 B C jB,Part H d k 4 2 v v0 B C jB 6∧(jB=4→B.exact=false)∧∀bm:j,bm.get 4=some B→jd bm 0 jB v0 l:=by
 rcases h with ⟨rfl,rfl,rfl⟩|⟨bZ,aB,R,m,f,rfl,ah⟩
 ·exact⟨.slice none 0 0,kx,H.next+2,0,⟨Fz,fun _ _=>rfl,fun _ _=>trivial,by rw [AB,if_pos rfl],.inl ⟨rfl,rfl,rfl⟩⟩,(fun e=>by cases e),fun bm _=> .inl ⟨rfl,rfl,rfl⟩⟩
 ·exact⟨.slice (some ⟨4,R,0,0,6⟩) l.length l.length,ct (l.map di) 6 R m f ju,k,4,⟨pO (Mp _) _ _ _ _ _,fun r be=>by simp [o.bc,bH.bc,be],fun D b5=>b5,by rw [nH _ _ ao];exact ah,.inr ⟨rfl,rfl,bZ,ao,rfl⟩⟩,fun _=>rfl,
   fun bm g0=> .inr ⟨by decide,aB,R,m,f,rfl,g0⟩⟩
theorem dP.Mr{H:j}{d:Nat}{aF:cB}{f:Nat}{cl:Bool}{bl:fY}{kept hold az:Bytes}{es:List bw}(g:dP H d aF f cl bl kept hold az es){fn:FuncId}{rest:List o}{v:o}(tW:∀a∈rest,cT a)(a':cT v)
 {Q:j→Nat→cB→Prop} (eF:∀(aa aR:j)(r:Nat→Nat)(d:Nat)(aF:cB),(∀i b,aa.get i=some b→aR.get (r i)=some (b.bc r))→(∀i C,r i=r C→i=C)→(∀i,i<aa.next→r i<aR.next)→Q aa d aF→Q aR (r d) (aF.map r))
 (small:∀aV ag ad an aE bx bt bk bz K P O aZ,dP (j.of [b1 0 f 1 aV ag cl ad an,ch hold bx bt bk bz aE,K,P,O]) 0 aZ f cl bl kept hold az es→(aZ.u=1∧(aZ.k=0∨aZ.k=2)∧(aZ.I=0∨aZ.I=3)∧(aZ.U=0∨aZ.U=4))→dt K→dt P→dt O →
  ∃aa,aI Tryz.prog aw fn (.ptr (some ⟨0,0,0,0,6⟩)::rest) (j.of [b1 0 f 1 aV ag cl ad an,ch hold bx bt bk bz aE,K,P,O]) v aa∧∃aO,Q aa 0 aO∧Fr (j.of [b1 0 f 1 aV ag cl ad an,ch hold bx bt bk bz aE,K,P,O]) aa 0 aZ aO) :
 ∃aR,aI Tryz.prog aw fn (.ptr (some ⟨d,0,0,0,6⟩)::rest) H v aR∧∃aO,Q aR d aO∧Fr H aR d aF aO:=by
 obtain⟨aV,ag,ad,an,e,ao,ac,ai⟩:=g.ex;obtain⟨bx,bt,bk,bz,aE,hu⟩:=g.ig;obtain⟨eC,ci,oI,wP,sG⟩:=g.lt;obtain⟨wQ,K,re,sH,lz,V9⟩:=V6 ao oI;obtain⟨lA,P,rf,sI,pp,V'⟩:=V7 ac wP;obtain⟨AC,O,oM,kk,hd,ae9,co⟩:=V8 ai sG;have Ms:re<H.next→H.get re=some K:=fun h=>by rw [←nH _ _ h];exact lz.row
 have Mt:rf<H.next→H.get rf=some P:=fun h=>by rw [←nH _ _ h];exact pp.row
 have FA:oM<H.next→H.get oM=some O:=fun h=>by rw [←nH _ _ h];exact hd.row
 have Wa:d≠aF.u:=by intro h;rw [←h,e]at hu;simp [J.made]at hu
 have Wb:re<H.next→K.es=1→aF.u≠re:=by intro p ae h;have:=Ms p;rw [←h,hu]at this;simp only [Option.some.injEq]at this;rw [←this]at ae;simp [J.made]at ae
 have Wc:rf<H.next→P.es=1→aF.u≠rf:=by intro p ae h;have:=Mt p;rw [←h,hu]at this;simp only [Option.some.injEq]at this;rw [←this]at ae;simp [J.made]at ae
 have Wd:oM<H.next→O.es=6→aF.u≠oM:=by intro p ae h;have:=FA p;rw [←h,hu]at this;simp only [Option.some.injEq]at this;rw [←this]at ae;simp [J.made]at ae
 have We:re<H.next→K.es=1→oM<H.next→O.es=6→re≠oM:=by intro p ae bg bO h;have:=Ms p;rw [h,FA bg]at this;simp only [Option.some.injEq]at this;rw [this]at bO;omega
 have Wf:rf<H.next→P.es=1→oM<H.next→O.es=6→rf≠oM:=by intro p ae bg bO h;have:=Mt p;rw [h,FA bg]at this;simp only [Option.some.injEq]at this;rw [this]at bO;omega
 let ids:=[d,aF.u,re,rf,oM]
 let aH:=uC H
 let r:=dH ids aH.next
 have ky:aH.next=H.next+3:=rfl
 have h1:ids.Nodup:=by
  have ap:=lz.at';have a2:=pp.at';have a3:=hd.at';have a4:=g.ne;simp only [ids,List.nodup_cons,List.mem_cons,List.not_mem_nil,or_false,not_or,List.nodup_nil,and_true,not_false_eq_true];refine⟨⟨Wa,?_,?_,?_⟩,⟨?_,?_,?_⟩,⟨?_,?_⟩,?_⟩
  ·omega
  ·omega
  ·omega
  ·rcases ap with ⟨_,_,h⟩|⟨_,_,_,h,aa⟩
   ·omega
   ·exact Wb h aa
  ·rcases a2 with ⟨_,_,h⟩|⟨_,_,_,h,aa⟩
   ·omega
   ·exact Wc h aa
  ·rcases a3 with ⟨_,_,h⟩|⟨_,_,_,h,aa⟩
   ·omega
   ·exact Wd h aa
  ·omega
  ·rcases ap with ⟨_,_,h⟩|⟨_,_,_,h,aa⟩<;>rcases a3 with ⟨_,_,q⟩|⟨_,_,_,q,jI⟩
   ·omega
   ·omega
   ·omega
   ·exact We h aa q jI
  ·rcases a2 with ⟨_,_,h⟩|⟨_,_,_,h,aa⟩<;>rcases a3 with ⟨_,_,q⟩|⟨_,_,_,q,jI⟩
   ·omega
   ·omega
   ·omega
   ·exact Wf h aa q jI
 have cM:∀C∈ids,C<aH.next:=by have ap:=lz.at';have a2:=pp.at';have a3:=hd.at';intro C aX;simp only [ids,List.mem_cons,List.not_mem_nil,or_false]at aX;rcases aX with rfl|rfl|rfl|rfl|rfl<;>omega
 have jZ:r 0=d:=rfl;have fM:r 1=aF.u:=rfl;have jE:r 2=re:=rfl;have pP:r 3=rf:=rfl;have wR:r 4=oM:=rfl
 let l:List J:=[b1 0 f 1 wQ lA cl AC an,ch hold bx bt bk bz aE,K,P,O]
 have Wg:∀b∈l,z1 (fun i=>i<l.length) b:=by
  intro b av;simp only [l,List.mem_cons,List.not_mem_nil,or_false]at av;rcases av with rfl|rfl|rfl|rfl|rfl
  ·intro x af;rw [List.mem_singleton.1 af];simp only [cv,fo,l,List.length_cons,List.length_nil];exact⟨⟨⟨by decide,trivial⟩,trivial⟩,lz.e2 _ (by decide),pp.e2 _ (by decide),trivial,by decide,hd.e2 _ (by decide),trivial⟩
  ·exact(rc _ _ _ _ _ _).e2 _
  ·exact lz.bare.e2 _
  ·exact pp.bare.e2 _
  ·exact hd.bare.e2 _
 have aB:∀i b,l[i]? =some b→aH.get (r i)=some (b.bc r):=by
  intro i b av;have al:=(List.getElem?_eq_some_iff.1 av).1;simp only [l,List.length_cons,List.length_nil]at al;have:i=0∨i=1∨i=2∨i=3∨i=4:=by omega
  rcases this with rfl|rfl|rfl|rfl|rfl
  ·simp only [l,List.getElem?_cons_zero,Option.some.injEq]at av;subst av;rw [jZ];show(uC H).get d=_;rw [nH _ _ eC,e];have bu:=lz.bc r jE;have bC:=pp.bc r pP;have b2:=hd.bc r wR;simp [J.bc,J.made,o.bc,o.gz,bH.bc,bu,bC,b2,jZ,fM]
  ·simp only [l,List.getElem?_cons_zero,List.getElem?_cons_succ,Option.some.injEq]at av;subst av;rw [fM,(rc _ _ _ _ _ _).bc];show(uC H).get aF.u=_;rw [nH _ _ ci];exact hu
  ·simp only [l,List.getElem?_cons_zero,List.getElem?_cons_succ,Option.some.injEq]at av;subst av;rw [jE,lz.bare.bc];exact lz.row
  ·simp only [l,List.getElem?_cons_zero,List.getElem?_cons_succ,Option.some.injEq]at av;subst av;rw [pP,pp.bare.bc];exact pp.row
  ·simp only [l,List.getElem?_cons_zero,List.getElem?_cons_succ,Option.some.injEq]at av;subst av;rw [wR,hd.bare.bc];exact hd.row
 have gs:dP (j.of l) 0 ⟨1,sH,sI,kk⟩ f cl bl kept hold az es:=by
  refine⟨⟨wQ,lA,AC,an,by rw [j.eX];rfl,V9 _ (by rw [j.eX];rfl),V' _ (by rw [j.eX];rfl),co _ (by rw [j.eX];rfl)⟩,⟨bx,bt,bk,bz,aE,by rw [j.eX];rfl⟩,?_,?_⟩
  ·have ap:=lz.at';have a2:=pp.at';have a3:=hd.at';show 0<5∧1<5∧sH<5∧sI<5∧kk<5;omega
  ·have ap:=lz.at';have a2:=pp.at';show sH=0∨sI=0∨sH≠sI;omega
 obtain⟨aa,aD,aO,aC,cL⟩:=small wQ lA AC an aE bx bt bk bz K P O _ gs (by have ap:=lz.at';have a2:=pp.at';have a3:=hd.at';show 1=1∧(sH=0∨sH=2)∧(sI=0∨sI=3)∧(kk=0∨kk=4);omega) lz.bare pp.bare hd.bare;have Wh:5≤aa.next:=cL.next
 obtain⟨aR,hH,qL,eT,jr⟩:=aD.place (qR:=Wh) Wg (by
  refine qK.2 fun a aS=> ?_
  rcases List.mem_cons.1 aS with rfl|aS
  ·show 0<5;decide
  ·exact(tW a aS).e2 _) (H:=aH) ids h1 cM rfl aB
 have gx:(o.ptr (some ⟨0,0,0,0,6⟩)::rest).map (o.bc (dH ids aH.next))=o.ptr (some ⟨d,0,0,0,6⟩)::rest:=by
  rw [List.map_cons]
  congr 1
  conv=>rhs;rw [←List.map_id rest]
  exact List.map_congr_left fun a aS=>(tW a aS).1 _
 rw [gx,a'.1]at hH;have io:∀i C,r i=r C→i=C:=fun i C h=>K2 h1 cM h
 have Wi:∀i,i<aa.next→r i<aR.next:=by
  intro i al;have qL:aR.next=H.next+3+(aa.next-5):=qL
  by_cases c:i<5
  ·have bJ:i<ids.length:=c;have:=cM _ (List.getElem_mem bJ);show dH ids aH.next i<_
   rw [sC bJ];omega
  ·show dH ids aH.next i<_
   rw [mF (show ids.length≤i by show 5≤i;omega)];show H.next+3+(i-5)<_
   omega
 refine⟨aR,hH.less (by show H.next≤H.next+3;omega) (fun i al=>nH H i al),aO.map r,eF aa aR r 0 aO eT io Wi aC,?_,?_,?_⟩
 ·have qL:aR.next=H.next+3+(aa.next-5):=qL
  omega
 ·intro C aX bu bC b2 cp ia
  have vM:C ∉ ids:=by have ap:=lz.at';have a2:=pp.at';have a3:=hd.at';simp only [ids,List.mem_cons,List.not_mem_nil,or_false,not_or];refine⟨bu,bC,?_,?_,?_⟩<;>omega
  rw [jr C (by show C<H.next+3;omega) vM];exact nH H C aX
 ·intro x af
  have key:∀y,(y=aO.u∨y=aO.k∨y=aO.I∨y=aO.U)→r y=d∨r y=aF.u∨r y=aF.k∨r y=aF.I∨r y=aF.U∨H.next≤r y:=by
   intro y bY;have ap:=lz.at';have a2:=pp.at';have a3:=hd.at';rcases cL.ids y bY with h|h|h|h|h|h
   ·left;rw [h];exact jZ
   ·right;left;rw [h];exact fM
   ·have h:y=sH:=h;rcases ap with ⟨ba,_,_⟩|⟨ba,bW,_⟩
    ·left;rw [h,ba];exact jZ
    ·right;right;left;rw [h,ba,jE,bW]
   ·have h:y=sI:=h;rcases a2 with ⟨ba,_,_⟩|⟨ba,bW,_⟩
    ·left;rw [h,ba];exact jZ
    ·right;right;right;left;rw [h,ba,pP,bW]
   ·have h:y=kk:=h;rcases a3 with ⟨ba,_,_⟩|⟨ba,bW,_⟩
    ·left;rw [h,ba];exact jZ
    ·right;right;right;right;left;rw [h,ba,wR,bW]
   ·right;right;right;right;right;have h:5≤y:=h;show H.next≤dH ids aH.next y
    rw [mF (show ids.length≤y from h)];show H.next≤H.next+3+_
    omega
  rcases af with h|h|h|h<;>(rw [h];exact key _ (by simp))
theorem dP.lift{H:j}{d:Nat}{aF:cB}{f:Nat}{cl:Bool}{bl:fY}{kept hold az:Bytes}{es:List bw}(g:dP H d aF f cl bl kept hold az es){fn:FuncId}{rest:List o}{v:o}(tW:∀a∈rest,cT a)(a':cT v)
 {Q:j→Nat→cB→Prop} (eF:∀(aa aR:j)(r:Nat→Nat)(d:Nat)(aF:cB),(∀i b,aa.get i=some b→aR.get (r i)=some (b.bc r))→(∀i C,r i=r C→i=C)→(∀i,i<aa.next→r i<aR.next)→Q aa d aF→Q aR (r d) (aF.map r))
 (small:∀aV ag ad an aE bx bt bk bz K P O aZ,dP (j.of [b1 0 f 1 aV ag cl ad an,ch hold bx bt bk bz aE,K,P,O]) 0 aZ f cl bl kept hold az es→(aZ.u=1∧(aZ.k=0∨aZ.k=2)∧(aZ.I=0∨aZ.I=3)∧(aZ.U=0∨aZ.U=4)) →
  ∃aa,aI Tryz.prog aw fn (.ptr (some ⟨0,0,0,0,6⟩)::rest) (j.of [b1 0 f 1 aV ag cl ad an,ch hold bx bt bk bz aE,K,P,O]) v aa∧∃aO,Q aa 0 aO∧Fr (j.of [b1 0 f 1 aV ag cl ad an,ch hold bx bt bk bz aE,K,P,O]) aa 0 aZ aO) :
 ∃aR,aI Tryz.prog aw fn (.ptr (some ⟨d,0,0,0,6⟩)::rest) H v aR∧∃aO,Q aR d aO∧Fr H aR d aF aO :=
 g.Mr tW a' eF fun aV ag ad an aE bx bt bk bz K P O aZ gs cQ _ _ _=>small aV ag ad an aE bx bt bk bz K P O aZ gs cQ
theorem jb.cN{H aR:j}{d k:Nat}{v:o}{bl:fY}{l:Bytes}(h:jb H d k v bl l)(ah:k≠d→aR.get k=H.get k):jb aR d k v bl l:=by
 cases bl with
 |nil=>exact h
 |one=>exact⟨h.1,h.2.1,by rw [ah h.1];exact h.2.2.1,h.2.2.2⟩
 |grown dN =>
  obtain⟨p,R,m,f,e,g⟩:=h;exact⟨p,R,m,f,e,by rw [ah p];exact g⟩
theorem jc.cN{H aR:j}{d k:Nat}{v:o}{l:Bytes}(h:jc H d k v l)(ah:k≠d→aR.get k=H.get k):jc aR d k v l:=by
 rcases h with h|⟨p,ae,R,m,f,e,g⟩
 ·exact .inl h
 ·exact .inr ⟨p,ae,R,m,f,e,by rw [ah p];exact g⟩
theorem jd.cN{H aR:j}{d k:Nat}{v:o}{l:List bw}(h:jd H d k v l)(ah:k≠d→aR.get k=H.get k):jd aR d k v l:=by
 rcases h with h|⟨p,ae,R,m,f,e,g⟩
 ·exact .inl h
 ·exact .inr ⟨p,ae,R,m,f,e,by rw [ah p];exact g⟩
abbrev rh(kL:Int)(nI:Int)(em:Int)(ex:Int)(j2:Int)(j4:Bytes):o:=o.agg [.int .i8 kL,.int .i32 nI,.int .u8 em,.int .i64 ex,.int .i64 j2,.str j4]
theorem Wj(f:Nat)(aV ag:o)(cl:Bool)(ax:Option (TypeId×Nat))(bj K P O:J)(kL nI em ex j2:Int)(j4:Bytes)(ab:o→j→Prop)(aY:ab (.tuple []) (j.au 27 [(0,⟨[.agg [.func (.func 30) [.ptr (some ⟨0,0,0,0,6⟩)] [],.slice none 0 0,ag,.bool cl,.ptr (some ⟨1,0,0,0,5⟩),.slice (some ⟨13,0,0,0,6⟩) 1 1]],6,true,false,0,0,0,ax⟩),(1,bj),(2,K),(3,P),(4,O),(5,J.made [(rh kL nI em ex j2 j4)] 6 true (some (42,6))),(12,J.made [(rh kL nI em ex j2 j4)] 6 true),(13,J.made [(rh kL nI em ex j2 j4)] 6 false (some (42,0)))])) :
 ∃v p,aI Tryz.prog aw 58 [.ptr (some ⟨0,0,0,0,6⟩),di ⟨kL,nI,em,ex,j2,j4⟩] (j.of [b1 0 f 1 aV ag cl (.slice none 0 0) ax,bj,K,P,O]) v p∧ab v p :=
 cf bU mixed gL (aq:= .nil) (by kernel_rfl) aY
theorem Wk(f:Nat)(aV ag:o)(cl:Bool)(ax:Option (TypeId×Nat))(bj K P:J)(kL nI em ex j2:Int)(j4:Bytes)(es:List o)(R m aG n:Nat)(ab:o→j→Prop)(aY:(R=R∧0+n=List.length es∧n<n+1∧(n+1+(n+1)/4+512)*48≤281474976710656∧n+1<4611686018427387904)∧ab (.tuple []) (j.au 27 [(0,{bi:=[.agg [.func (.func 30) [.ptr (some ⟨0,0,0,0,6⟩)] [],.slice none 0 0,ag,.bool cl,.ptr (some ⟨1,0,0,0,5⟩),.slice (some {id:=4,R:=R+1,idx:=0,bP:=0,es:=6}) (n+1) (n+1)]],es:=6,exact:=true,ro:=false,R:=0,fQ:=0,gF:=0,an:=ax}),(1,bj),(2,K),(3,P),(4,⟨es++[(rh kL nI em ex j2 j4)],6,false,false,R+1,m,if m=R then List.length es else min aG (List.length es),some (42,0)⟩),(5,J.made [(rh kL nI em ex j2 j4)] 6 true (some (42,6))),(12,J.made [(rh kL nI em ex j2 j4)] 6 true)])) :
 ∃v p,aI Tryz.prog aw 58 [.ptr (some ⟨0,0,0,0,6⟩),di ⟨kL,nI,em,ex,j2,j4⟩] (j.of [b1 0 f 1 aV ag cl (.slice (some ⟨4,R,0,0,6⟩) n n) ax,bj,K,P,ct es 6 R m aG ju]) v p∧ab v p :=
 cf bU mixed gL (aq:=ah 1007 .nil) (by kernel_rfl) aY
theorem Mu{H:j}{d:Nat}{aF:cB}{f:Nat}{cl:Bool}{bl:fY}{kept hold az:Bytes}{es:List bw}(g:dP H d aF f cl bl kept hold az es)(e:bw)(cs:es.length<2^30) :
 ∃aR,aI Tryz.prog aw 58 [.ptr (some ⟨d,0,0,0,6⟩),di e] H (.tuple []) aR∧∃aO,dP aR d aO (cD .ground) cl .nil [] hold az (es++[e])∧Fr H aR d aF aO:=by
 refine g.lift (Q:=fun h d aF=>dP h d aF (cD .ground) cl .nil [] hold az (es++[e])) (fun a aS=>by rw [List.mem_singleton.1 aS];exact Mo e) (cT.of rfl) (fun aa aR r d aF be io cM q=>q.oL be io cM) ?_;intro aV ag ad an aE bx bt bk bz K P O aZ gs cQ;obtain⟨FB,ib,FC,FD,b',ao,ac,ai⟩:=gs.ex;rw [j.eX]at b';simp only [List.getElem?_cons_zero,Option.some.injEq,J.made,J.mk.injEq,List.cons.injEq,o.agg.injEq,o.func.injEq,o.ptr.injEq,bH.mk.injEq,true_and,and_true]at b';obtain⟨⟨rfl,rfl,hu,rfl⟩,rfl⟩:=b';obtain⟨i0,wS,ip,oN⟩:=cQ
 have fin:∀(v:o)(aa:j)(x:Nat),v=.tuple []∧(∃aO,dP aa 0 aO (cD .ground) cl .nil [] hold az (es++[e])∧Fr (j.of [b1 0 f 1 aV ag cl ad an,ch hold bx bt bk bz aE,K,P,O]) aa 0 aZ aO) →
  aI Tryz.prog aw 58 [.ptr (some ⟨0,0,0,0,6⟩),di e] (j.of [b1 0 f 1 aV ag cl ad an,ch hold bx bt bk bz aE,K,P,O]) v aa →
  ∃aa,aI Tryz.prog aw 58 [.ptr (some ⟨0,0,0,0,6⟩),di e] (j.of [b1 0 f 1 aV ag cl ad an,ch hold bx bt bk bz aE,K,P,O]) (.tuple []) aa∧∃aO,dP aa 0 aO (cD .ground) cl .nil [] hold az (es++[e])∧Fr (j.of [b1 0 f 1 aV ag cl ad an,ch hold bx bt bk bz aE,K,P,O]) aa 0 aZ aO:=by
  rintro v aa x ⟨rfl,q⟩ aD;exact⟨aa,aD,q⟩
 rcases ai with ⟨rfl,rfl,ai⟩|⟨iL,gP,R,m,aG,rfl,hv⟩
 ·obtain⟨v,aa,aD,q⟩:=Wj f aV ag cl an (ch hold bx bt bk bz aE) K P O e.kind e.code e.dX e.x e.y e.text (fun v aa=>v=.tuple []∧∃aO,dP aa 0 aO (cD .ground) cl .nil [] hold az [e]∧Fr (j.of [b1 0 f 1 aV ag cl (.slice none 0 0) an,ch hold bx bt bk bz aE,K,P,O]) aa 0 aZ aO) (by
   delta rh
   refine⟨rfl,⟨1,0,aZ.I,13⟩,⟨⟨.slice none 0 0,ag,.slice (some ⟨13,0,0,0,6⟩) 1 1,an,by kernel_rfl,⟨rfl,rfl,rfl⟩,ac.cN ?_,.inr ⟨by show 13≠0;decide,by simp,0,0,0,rfl,?_⟩⟩,⟨bx,bt,bk,bz,aE,by kernel_rfl⟩,?_,.inl rfl⟩,⟨?_,?_,?_⟩⟩
   rotate_left
   ·kernel_rfl
   rotate_right
   ·intro bZ;rw [j.eX];rcases ip with ip|ip
    ·exact absurd ip bZ
    ·rw [ip];kernel_rfl
   ·show 0<27∧1<27∧0<27∧aZ.I<27∧13<27;omega
   ·show 5≤27;decide
   ·intro C aX bu bC _ _ _;have aX:C<5:=aX;have:C=2∨C=3∨C=4:=by omega
    rw [j.eX];rcases this with rfl|rfl|rfl<;>(show _=_;kernel_rfl)
   ·intro x af;show x=0∨x=aZ.u∨x=aZ.k∨x=aZ.I∨x=aZ.U∨5≤x;have af:x=1∨x=0∨x=aZ.I∨x=13:=af
    omega)
  exact fin v aa 0 q aD
 ·have oN:aZ.U=4:=by omega
  rw [oN,j.eX]at hv;simp only [List.getElem?_cons_zero,List.getElem?_cons_succ,Option.some.injEq]at hv;subst hv
  obtain⟨v,aa,aD,q⟩:=Wk f aV ag cl an (ch hold bx bt bk bz aE) K P e.kind e.code e.dX e.x e.y e.text (es.map di) R m aG es.length (fun v aa=>v=.tuple []∧∃aO,dP aa 0 aO (cD .ground) cl .nil [] hold az (es++[e])∧Fr (j.of [b1 0 f 1 aV ag cl (.slice (some ⟨4,R,0,0,6⟩) es.length es.length) an,ch hold bx bt bk bz aE,K,P,ct (es.map di) 6 R m aG ju]) aa 0 aZ aO) (by
   delta rh
   refine⟨⟨rfl,by simp,by omega,by omega,by omega⟩,rfl,⟨1,0,aZ.I,4⟩,⟨⟨.slice none 0 0,ag,.slice (some ⟨4,R+1,0,0,6⟩) (es.length+1) (es.length+1),an,by kernel_rfl,⟨rfl,rfl,rfl⟩,ac.cN ?_,.inr ⟨by show 4≠0;decide,by simp,R+1,m,if m=R then(es.map di).length else min aG (es.map di).length,by simp,?_⟩⟩,⟨bx,bt,bk,bz,aE,by kernel_rfl⟩,?_,.inl rfl⟩,⟨?_,?_,?_⟩⟩
   rotate_left
   ·rw [List.map_append];kernel_rfl
   rotate_right
   ·intro bZ;rw [j.eX];rcases ip with ip|ip
    ·exact absurd ip bZ
    ·rw [ip];kernel_rfl
   ·show 0<27∧1<27∧0<27∧aZ.I<27∧4<27;omega
   ·show 5≤27;decide
   ·intro C aX bu bC _ _ ia;have aX:C<5:=aX;have:C=2∨C=3:=by omega
    rw [j.eX];rcases this with rfl|rfl<;>(show _=_;kernel_rfl)
   ·intro x af;show x=0∨x=aZ.u∨x=aZ.k∨x=aZ.I∨x=aZ.U∨5≤x;have af:x=1∨x=0∨x=aZ.I∨x=4:=af
    omega)
  rw [oN]at fin⊢;exact fin v aa 0 q aD
structure cx(h:j)(a:bH)(cJ:o):Prop where
 at':a=⟨a.id,0,0,0,6⟩
 ex:∃aF f cl bl kept hold az es e,cJ=di e∧dP h a.id aF f cl bl kept hold az es∧es.length<2^30∧hold.length≤4
structure cy(h:j)(a:bH)(cJ:o)(aa:j):Prop where
 all:∀aF f cl bl kept hold az es e,cJ=di e→dP h a.id aF f cl bl kept hold az es→hold.length≤4→ ∃aO,dP aa a.id aO (cD .ground) cl .nil [] hold az (es++[e])∧Fr h aa a.id aF aO
 next:h.next≤aa.next
def FE:List o→j→Option ev:=fun args h =>
 match args with
 |[.ptr (some a),.agg bn]=>some (.some (.tuple []) [cx h a (.agg bn)] (cy h a (.agg bn)))
 |_=>none
theorem Wl:∀args h a,FE args h=some a→a.dr Tryz.prog aw 58 args h:=by
 intro args h a e;unfold FE at e;split at e<;>first|(cases e;done)|skip
 rename_i a bn;simp only [Option.some.injEq]at e;subst e;intro ac;have aS:=ac.head.at';obtain⟨aF,f,cl,bl,kept,hold,az,es,e,he,g,cs,aB⟩:=ac.head.ex;obtain⟨aa,aD,aO,dA,cL⟩:=Mu g e cs;rw [←aS,←he]at aD;refine⟨aa,aD,⟨?_,cL.next⟩⟩;intro c' f2 q' q9 Fw AA Fx ra bC nt g2 pr;obtain⟨rfl,rfl,rfl,rfl,rfl,rfl,rfl,rfl⟩:=g.qM g2 aB;have:=Mk (he.symm.trans nt);subst this;exact⟨aO,dA,cL⟩
structure dy(N:Nat)(cX:bI→UInt8→Prop)(h:j)(a:bH)(c:Int):Prop where
 at':a=⟨a.id,0,0,0,6⟩
 ex:∃aF s es,cm h a.id aF s es∧es.length<N∧s.hold.length≤4∧cX s (ek c)
 c:0≤c∧c≤255
structure dz(F:bI→UInt8→bI×List bw)(h:j)(a:bH)(c:Int)(aa:j):Prop where
 all:∀aF s es,cm h a.id aF s es→s.hold.length≤4→ ∃aO,cm aa a.id aO (F s (ek c)).1 (es++(F s (ek c)).2)∧Fr h aa a.id aF aO
 next:h.next≤aa.next
def jV(N:Nat)(cX:bI→UInt8→Prop)(F:bI→UInt8→bI×List bw):List o→j→Option ev:=fun args h =>
 match args with
 |[.ptr (some a),.int .u8 c]=>some (.some (.tuple []) [dy N cX h a c] (dz F h a c))
 |_=>none
theorem uD(c:UInt8):ek (c.toNat:Int)=c:=by unfold ek;simp
theorem Mv{c:Int}(h:0≤c∧c≤255):((ek c).toNat:Int)=c:=by
 unfold ek;have:(UInt8.ofNat c.toNat).toNat=c.toNat%256:=by simp [UInt8.toNat_ofNat']
 rw [this];omega
theorem ri{N:Nat}{f:FuncId}{cX:bI→UInt8→Prop}{F:bI→UInt8→bI×List bw}(k:∀H d aF s es c,cm H d aF s es→es.length<N→s.hold.length≤4→cX s c→ ∃aR,aI Tryz.prog aw f [.ptr (some ⟨d,0,0,0,6⟩),.int .u8 (c:UInt8).toNat] H (.tuple []) aR∧∃aO,cm aR d aO (F s c).1 (es++(F s c).2)∧Fr H aR d aF aO) :
 ∀args h a,jV N cX F args h=some a→a.dr Tryz.prog aw f args h:=by
 intro args h a e;unfold jV at e;split at e<;>first|(cases e;done)|skip
 rename_i a c;simp only [Option.some.injEq]at e;subst e;intro ac;have aS:=ac.head.at';obtain⟨_,⟨aF,s,es,g,cs,aB,d'⟩,ar⟩:=ac.head;obtain⟨aa,aD,aO,dA,cL⟩:=k h a.id aF s es (ek c) g cs aB d';rw [←aS,Mv ar]at aD;refine⟨aa,aD,⟨?_,cL.next⟩⟩;intro c' s2 ra g2 pr;obtain⟨rfl,rfl,rfl⟩:=g.qM g2 aB;exact⟨aO,dA,cL⟩
noncomputable def AD:e9:=L1.add 58 FE
theorem wT:eP Tryz.prog aw AD:=VW.add Wl
theorem Wm{h:j}{f:Nat}{aV ag ad:o}{cl:Bool}{an aE:Option (TypeId×Nat)}{hold kept az:Bytes}{bx bt bk bz:Int}{D bj K P O:J}{bl:fY}{es:List bw}{k I U:Nat}
 (b':h.get 0=some (b1 0 f 1 aV ag cl ad an)) (bu:h.get 1=some (ch hold bx bt bk bz aE)) (b2:h.get 3=some P) (cp:h.get 4=some O) (ao:jb h 0 k aV bl kept) (kO:k<h.next) (bJ:5≤h.next)
 (ac:jc (j.of [D,bj,K,P,O]) 0 I ag az) (ai:jd (j.of [D,bj,K,P,O]) 0 U ad es) (ip:I=0∨I=3) (oN:U=0∨U=4) (bZ:k=0∨k=2∨5≤k):dP h 0 ⟨1,k,I,U⟩ f cl bl kept hold az es where
 ex :=by
  refine⟨aV,ag,ad,an,b',ao,ac.cN fun aM=> ?_,ai.cN fun aM=> ?_⟩
  ·rcases ip with rfl|rfl
   ·exact absurd rfl aM
   ·rw [b2,j.eX];rfl
  ·rcases oN with rfl|rfl
   ·exact absurd rfl aM
   ·rw [cp,j.eX];rfl
 ig:=⟨bx,bt,bk,bz,aE,bu⟩
 lt:=by show 0<h.next∧1<h.next∧k<h.next∧I<h.next∧U<h.next;omega
 ne:=by show k=0∨I=0∨k≠I;omega
theorem Wn{h:j}{D bj K P O:J}{aZ:cB}{k:Nat}(cQ:aZ.u=1∧(aZ.k=0∨aZ.k=2)∧(aZ.I=0∨aZ.I=3)∧(aZ.U=0∨aZ.U=4))(bC:h.get 2=some K∨aZ.k=2)(b2:h.get 3=some P)(cp:h.get 4=some O)(bJ:5≤h.next)(ao:k=0∨5≤k∨(k=2∧aZ.k=2)) :
 Fr (j.of [D,bj,K,P,O]) h 0 aZ ⟨1,k,aZ.I,aZ.U⟩ where
 next:=bJ
 get C aX a1 aP fi iD hn:=by
  have aX:C<5:=aX;have:(C=2∧aZ.k≠2)∨C=3∨C=4:=by omega
  rw [j.eX];rcases this with ⟨rfl,ao⟩|rfl|rfl
  ·rcases bC with e|e
   ·exact e
   ·exact absurd e ao
  ·exact b2
  ·exact cp
 ids x af:=by show x=0∨x=aZ.u∨x=aZ.k∨x=aZ.I∨x=aZ.U∨5≤x;have af:x=1∨x=k∨x=aZ.I∨x=aZ.U:=af;omega
theorem iu{h:j}{f:Nat}{aV ag ad:o}{cl:Bool}{an aE:Option (TypeId×Nat)}{hold kept az:Bytes}{bx bt bk bz:Int}{D bj K P O:J}{bl:fY}{es:List bw}{aZ:cB}{k n:Nat}(aM:h.next=n)(bJ:5≤n)
 (b':h.get 0=some (b1 0 f 1 aV ag cl ad an)) (bu:h.get 1=some (ch hold bx bt bk bz aE)) (bC:h.get 2=some K∨aZ.k=2) (b2:h.get 3=some P) (cp:h.get 4=some O) (ao:jb h 0 k aV bl kept) (kO:k<n)
 (ac:jc (j.of [D,bj,K,P,O]) 0 aZ.I ag az) (ai:jd (j.of [D,bj,K,P,O]) 0 aZ.U ad es) (cQ:aZ.u=1∧(aZ.k=0∨aZ.k=2)∧(aZ.I=0∨aZ.I=3)∧(aZ.U=0∨aZ.U=4)) (bZ:k=0∨5≤k∨(k=2∧aZ.k=2)) :
 dP h 0 ⟨1,k,aZ.I,aZ.U⟩ f cl bl kept hold az es∧Fr (j.of [D,bj,K,P,O]) h 0 aZ ⟨1,k,aZ.I,aZ.U⟩ :=
 ⟨Wm b' bu b2 cp ao (by omega) (by omega) ac ai cQ.2.2.1 cQ.2.2.2 (by omega),Wn cQ bC b2 cp (by omega) bZ⟩
theorem AE(h:j):jb h 0 0 (.slice none 0 0) .nil []:=⟨rfl,rfl,rfl⟩
theorem nJ{h:j}{k R m f n:Nat}{l:Bytes}{es:List o}(ao:k≠0)(aM:n=l.length)(he:es=aJ l)(e:h.get k=some (ct es 1 R m f cF)):jb h 0 k (.slice (some ⟨k,R,0,0,1⟩) n n) (.grown []) l:=by subst aM;subst he;exact⟨ao,R,m,f,rfl,e⟩
theorem FF{l:j}{h aa:j}{cJ:o}{e:bw}{aZ aF:cB}{f:Nat}{cl:Bool}{bl:fY}{kept hold az:Bytes}{es:List bw}(t:cy h ⟨0,0,0,0,6⟩ cJ aa)(g:dP h 0 aF f cl bl kept hold az es)(cL:Fr l h 0 aZ aF)(he:cJ=di e)(aB:hold.length≤4) :
 ∃aO,dP aa 0 aO (cD .ground) cl .nil [] hold az (es++[e])∧Fr l aa 0 aZ aO:=by
 obtain⟨aO,dA,fZ⟩:=t.all aF f cl bl kept hold az es e he g aB;exact⟨aO,dA,cL.trans fZ⟩
theorem FG{h:j}{cJ:o}{e:bw}{aF:cB}{f:Nat}{cl:Bool}{bl:fY}{kept hold az:Bytes}{es:List bw}(g:dP h 0 aF f cl bl kept hold az es)(he:cJ=di e)(cs:es.length<2^30)(aB:hold.length≤4):cx h ⟨0,0,0,0,6⟩ cJ :=
 ⟨rfl,aF,f,cl,bl,kept,hold,az,es,e,he,g,cs,aB⟩
theorem rj{a b:Nat}{I:Prop}(h:a≤b)(k:I):_root_.cond (Nat.ble a b) I False:=by rw [Nat.ble_eq.mpr h];exact k
abbrev Mw(c:Int):o:=o.str [UInt8.ofNat (Int.toNat c)]
abbrev Mx:o:=o.slice (some ⟨98,0,0,0,1⟩) 1 1
abbrev eG(f:Nat):o:= .func (.func f) [.ptr (some ⟨0,0,0,0,6⟩)] []
abbrev rk:o:= .func (.func 90) [.ptr (some ⟨0,0,0,0,6⟩)] []
abbrev uE:dh:=(.aN 6024 (.aN 9001 .nil .nil) (he 12004 (.aN 1007 .nil .nil)))
abbrev jv(a0:Int)(ap:Int)(a2:Int)(a3:Int)(n:Int)(c:Int):J:=(J.made ([.int .i32 (↑(List.getD (Prod.fst (b9 a0 ap a2 a3 n c)) 0 0):Int)]) 1 false (some (21,0)))
abbrev FH(a0:Int)(ap:Int)(a2:Int)(a3:Int)(n:Int):o:=o.agg [.int .u8 a0,.int .u8 ap,.int .u8 a2,.int .u8 a3,.int .i64 n]
abbrev fO(a0:Int)(ap:Int)(a2:Int)(a3:Int)(n:Int)(c:Int):o:=o.agg [.int .i8 1,.int .i32 (↑(List.getD (Prod.fst (b9 a0 ap a2 a3 n c)) 0 0):Int),.int .u8 0,.int .i64 0,.int .i64 0,.str []]
abbrev uF(a0:Int)(ap:Int)(a2:Int)(a3:Int)(n:Int)(c:Int):J:=⟨[.int .i32 (↑(List.getD (Prod.fst (b9 a0 ap a2 a3 n c)) 0 0):Int),.int .i32 (↑(List.getD (Prod.fst (b9 a0 ap a2 a3 n c)) 1 0):Int)],1,false,false,1,0,1,some (21,0)⟩
abbrev uG(c:Int):o:=o.agg [.int .i8 (bw.kind (Keys.control (Int.toNat c))),.int .i32 (bw.code (Keys.control (Int.toNat c))),.int .u8 (bw.dX (Keys.control (Int.toNat c))),.int .i64 (bw.x (Keys.control (Int.toNat c))),.int .i64 (bw.y (Keys.control (Int.toNat c))),.str (Keys.control (Int.toNat c)).6]
abbrev sJ(a0:Int)(ap:Int)(a2:Int)(a3:Int)(n:Int)(c:Int):o:=o.agg [.int .u8 (ca (Prod.snd (b9 a0 ap a2 a3 n c)) 0 a0),.int .u8 (ca (Prod.snd (b9 a0 ap a2 a3 n c)) 1 ap),.int .u8 (ca (Prod.snd (b9 a0 ap a2 a3 n c)) 2 a2),.int .u8 (ca (Prod.snd (b9 a0 ap a2 a3 n c)) 3 a3),.int .i64 (↑(List.length (Prod.snd (b9 a0 ap a2 a3 n c))):Int)]
abbrev wU(c:Int):J:=(J.made ([(uG c)]) 6 true (some (42,6)))
abbrev My(ag:o)(ad:o):o:=o.agg [rk,Mx,ag,.bool false,.ptr (some ⟨1,0,0,0,5⟩),ad]
abbrev FI(f:Nat)(ag:o)(ad:o):o:=o.agg [(eG f),.slice none 0 0,ag,.bool false,.ptr (some ⟨1,0,0,0,5⟩),ad]
abbrev sK(aE:Option (TypeId×Nat))(a0:Int)(ap:Int)(a2:Int)(a3:Int)(n:Int):J:=⟨[(FH a0 ap a2 a3 n)],5,true,false,0,0,0,aE⟩
abbrev kX(aE:Option (TypeId×Nat))(a0:Int)(ap:Int)(a2:Int)(a3:Int)(n:Int)(c:Int):J:=⟨[(sJ a0 ap a2 a3 n c)],5,true,false,0,0,0,aE⟩
abbrev nK(c:Int):o:=o.agg [.int .i8 7,.int .i32 0,.int .u8 0,.int .i64 0,.int .i64 0,(Mw c)]
abbrev FJ(ag:o)(ad:o)(ax:Option (TypeId×Nat)):J:=⟨[.agg [rk,.slice (some ⟨97,0,0,0,1⟩) 1 1,ag,.bool false,.ptr (some ⟨1,0,0,0,5⟩),ad]],6,true,false,0,0,0,ax⟩
abbrev wV(ag:o)(ad:o)(ax:Option (TypeId×Nat)):J:=⟨[(My ag ad)],6,true,false,0,0,0,ax⟩
abbrev rl(f:Nat)(ag:o)(ad:o)(ax:Option (TypeId×Nat)):J:=⟨[(FI f ag ad)],6,true,false,0,0,0,ax⟩
abbrev wW(ag:o)(ad:o)(ax:Option (TypeId×Nat))(aE:Option (TypeId×Nat))(K:J)(P:J)(O:J)(a0:Int)(ap:Int)(a2:Int)(a3:Int)(n:Int)(c:Int):j:=(j.au 119 [(0,(wV ag ad ax)),(1,(kX aE a0 ap a2 a3 n c)),(2,K),(3,P),(4,O),(42,(c8 c)),(45,(jv a0 ap a2 a3 n c)),(97,J.made [.int .u8 c] 1 true),(98,J.made [.int .u8 c] 1 false (some (5,0)))])
abbrev wX(ag:o)(ad:o)(ax:Option (TypeId×Nat))(aE:Option (TypeId×Nat))(K:J)(P:J)(O:J)(a0:Int)(ap:Int)(a2:Int)(a3:Int)(n:Int)(c:Int):j:=(j.au 120 [(0,(wV ag ad ax)),(1,(kX aE a0 ap a2 a3 n c)),(2,K),(3,P),(4,O),(42,(c8 c)),(45,(jv a0 ap a2 a3 n c)),(97,J.made [.int .u8 c] 1 true),(98,J.made [.int .u8 c] 1 false (some (5,0)))])
abbrev wY(ag:o)(ad:o)(ax:Option (TypeId×Nat))(aE:Option (TypeId×Nat))(K:J)(P:J)(O:J)(a0:Int)(ap:Int)(a2:Int)(a3:Int)(n:Int)(c:Int):j:=(j.au 119 [(0,(wV ag ad ax)),(1,(kX aE a0 ap a2 a3 n c)),(2,K),(3,P),(4,O),(42,(c8 c)),(45,(uF a0 ap a2 a3 n c)),(86,J.made [.int .u8 c] 1 true),(97,J.made [.int .u8 c] 1 true),(98,J.made [.int .u8 c] 1 false (some (5,0)))])
abbrev wZ(ag:o)(ad:o)(ax:Option (TypeId×Nat))(aE:Option (TypeId×Nat))(K:J)(P:J)(O:J)(a0:Int)(ap:Int)(a2:Int)(a3:Int)(n:Int)(c:Int):j:=(j.au 120 [(0,(wV ag ad ax)),(1,(kX aE a0 ap a2 a3 n c)),(2,K),(3,P),(4,O),(42,(c8 c)),(45,(uF a0 ap a2 a3 n c)),(86,J.made [.int .u8 c] 1 true),(97,J.made [.int .u8 c] 1 true),(98,J.made [.int .u8 c] 1 false (some (5,0)))])
theorem Wo(f:Nat)(ag ad:o)(ax aE:Option (TypeId×Nat))(K P O:J)(a0 ap a2 a3 n c:Int)(ab:o→j→Prop)(aY:(c<32→(0≤c∧(c<32∨c=127))∧(c=27→False)∧cx (j.au 24 [(0,(rl f ag ad ax)),(1,(sK aE a0 ap a2 a3 n)),(2,K),(3,P),(4,O),(13,(wU c))]) ⟨0,0,0,0,6⟩ ((uG c))∧∀(jw:j),cy (j.au 24 [(0,(rl f ag ad ax)),(1,(sK aE a0 ap a2 a3 n)),(2,K),(3,P),(4,O),(13,(wU c))]) ⟨0,0,0,0,6⟩ ((uG c)) jw→bN 5 (jw.next) (ab (.tuple []) jw))∧(¬c<32→(c=127→(0≤c∧(c<32∨c=127))∧(c=27→False)∧cx (j.au 24 [(0,(rl f ag ad ax)),(1,(sK aE a0 ap a2 a3 n)),(2,K),(3,P),(4,O),(13,(wU c))]) ⟨0,0,0,0,6⟩ ((uG c))∧∀(jw:j),cy (j.au 24 [(0,(rl f ag ad ax)),(1,(sK aE a0 ap a2 a3 n)),(2,K),(3,P),(4,O),(13,(wU c))]) ⟨0,0,0,0,6⟩ ((uG c)) jw→bN 5 (jw.next) (ab (.tuple []) jw))∧(¬c=127→((b9 a0 ap a2 a3 n c).1=[]→ir a0 ap a2 a3 n c∧(0<(↑(List.length (Prod.snd (b9 a0 ap a2 a3 n c))):Int)→ab (.tuple []) (j.au 75 [(0,⟨[.agg [rk,.slice (some ⟨71,0,0,0,1⟩) 1 1,ag,.bool false,.ptr (some ⟨1,0,0,0,5⟩),ad]],6,true,false,0,0,0,ax⟩),(1,(kX aE a0 ap a2 a3 n c)),(2,K),(3,P),(4,O),(42,(c8 c)),(70,J.made [.int .u8 c] 1 true),(71,J.made [.int .u8 c] 1 false (some (5,0)))]))∧(¬0<(↑(List.length (Prod.snd (b9 a0 ap a2 a3 n c))):Int)→1<1099511627776∧(valid [UInt8.ofNat (Int.toNat c)]=true→1<1099511627776∧(valid [UInt8.ofNat (Int.toNat c)]=true→False)∧(valid [UInt8.ofNat (Int.toNat c)]=false→cx (j.au 119 [(0,(FJ ag ad ax)),(1,(kX aE a0 ap a2 a3 n c)),(2,K),(3,P),(4,O),(42,(c8 c)),(85,J.made [.int .u8 c] 1 true),(96,J.made [.int .u8 c] 1 true),(97,J.made [.int .u8 c] 1 false (some (5,0)))]) ⟨0,0,0,0,6⟩ ((nK c))∧∀(b6:j),cy (j.au 119 [(0,(FJ ag ad ax)),(1,(kX aE a0 ap a2 a3 n c)),(2,K),(3,P),(4,O),(42,(c8 c)),(85,J.made [.int .u8 c] 1 true),(96,J.made [.int .u8 c] 1 true),(97,J.made [.int .u8 c] 1 false (some (5,0)))]) ⟨0,0,0,0,6⟩ ((nK c)) b6→bN 20 (b6.next) (bN 5 (b6.next) (ab (.tuple []) b6))))∧(valid [UInt8.ofNat (Int.toNat c)]=false→((↑(List.length (Prod.snd (b9 a0 ap a2 a3 n c))):Int)=0→False)∧(¬(↑(List.length (Prod.snd (b9 a0 ap a2 a3 n c))):Int)=0→False))))∧(¬(b9 a0 ap a2 a3 n c).1=[]→(List.length (Prod.fst (b9 a0 ap a2 a3 n c))=1→ir a0 ap a2 a3 n c∧(0<(↑(List.length (Prod.snd (b9 a0 ap a2 a3 n c))):Int)→1<1099511627776∧(valid [UInt8.ofNat (Int.toNat c)]=true→cx (wW ag ad ax aE K P O a0 ap a2 a3 n c) ⟨0,0,0,0,6⟩ ((fO a0 ap a2 a3 n c))∧∀(cu:j),cy (wW ag ad ax aE K P O a0 ap a2 a3 n c) ⟨0,0,0,0,6⟩ ((fO a0 ap a2 a3 n c)) cu→bN 20 (cu.next) (bN 5 (cu.next) (ab (.tuple []) cu)))∧(valid [UInt8.ofNat (Int.toNat c)]=false→cx (wX ag ad ax aE K P O a0 ap a2 a3 n c) ⟨0,0,0,0,6⟩ ((nK c))∧∀(b6:j),cy (wX ag ad ax aE K P O a0 ap a2 a3 n c) ⟨0,0,0,0,6⟩ ((nK c)) b6→bN 20 (b6.next) (bN 5 (b6.next) (ab (.tuple []) b6))))∧(¬0<(↑(List.length (Prod.snd (b9 a0 ap a2 a3 n c))):Int)→1<1099511627776∧(valid [UInt8.ofNat (Int.toNat c)]=true→cx (wW ag ad ax aE K P O a0 ap a2 a3 n c) ⟨0,0,0,0,6⟩ ((fO a0 ap a2 a3 n c))∧∀(cu:j),cy (wW ag ad ax aE K P O a0 ap a2 a3 n c) ⟨0,0,0,0,6⟩ ((fO a0 ap a2 a3 n c)) cu→bN 20 (cu.next) (bN 5 (cu.next) (ab (.tuple []) cu)))∧(valid [UInt8.ofNat (Int.toNat c)]=false→cx (wX ag ad ax aE K P O a0 ap a2 a3 n c) ⟨0,0,0,0,6⟩ ((nK c))∧∀(b6:j),cy (wX ag ad ax aE K P O a0 ap a2 a3 n c) ⟨0,0,0,0,6⟩ ((nK c)) b6→bN 20 (b6.next) (bN 5 (b6.next) (ab (.tuple []) b6)))))∧(¬List.length (Prod.fst (b9 a0 ap a2 a3 n c))=1→ir a0 ap a2 a3 n c∧(0<(↑(List.length (Prod.snd (b9 a0 ap a2 a3 n c))):Int)→1<1099511627776∧(valid [UInt8.ofNat (Int.toNat c)]=true→1<1099511627776∧(valid [UInt8.ofNat (Int.toNat c)]=true→cx (wY ag ad ax aE K P O a0 ap a2 a3 n c) ⟨0,0,0,0,6⟩ ((fO a0 ap a2 a3 n c))∧∀(cu:j),cy (wY ag ad ax aE K P O a0 ap a2 a3 n c) ⟨0,0,0,0,6⟩ ((fO a0 ap a2 a3 n c)) cu→bN 20 (cu.next) (bN 5 (cu.next) (ab (.tuple []) cu)))∧(valid [UInt8.ofNat (Int.toNat c)]=false→cx (wZ ag ad ax aE K P O a0 ap a2 a3 n c) ⟨0,0,0,0,6⟩ ((nK c))∧∀(b6:j),cy (wZ ag ad ax aE K P O a0 ap a2 a3 n c) ⟨0,0,0,0,6⟩ ((nK c)) b6→bN 20 (b6.next) (bN 5 (b6.next) (ab (.tuple []) b6))))∧(valid [UInt8.ofNat (Int.toNat c)]=false→((↑(List.length (Prod.snd (b9 a0 ap a2 a3 n c))):Int)=0→False)∧(¬(↑(List.length (Prod.snd (b9 a0 ap a2 a3 n c))):Int)=0→False)))∧(¬0<(↑(List.length (Prod.snd (b9 a0 ap a2 a3 n c))):Int)→1<1099511627776∧(valid [UInt8.ofNat (Int.toNat c)]=true→1<1099511627776∧(valid [UInt8.ofNat (Int.toNat c)]=true→cx (wY ag ad ax aE K P O a0 ap a2 a3 n c) ⟨0,0,0,0,6⟩ ((fO a0 ap a2 a3 n c))∧∀(cu:j),cy (wY ag ad ax aE K P O a0 ap a2 a3 n c) ⟨0,0,0,0,6⟩ ((fO a0 ap a2 a3 n c)) cu→bN 20 (cu.next) (bN 5 (cu.next) (ab (.tuple []) cu)))∧(valid [UInt8.ofNat (Int.toNat c)]=false→cx (wZ ag ad ax aE K P O a0 ap a2 a3 n c) ⟨0,0,0,0,6⟩ ((nK c))∧∀(b6:j),cy (wZ ag ad ax aE K P O a0 ap a2 a3 n c) ⟨0,0,0,0,6⟩ ((nK c)) b6→bN 20 (b6.next) (bN 5 (b6.next) (ab (.tuple []) b6))))∧(valid [UInt8.ofNat (Int.toNat c)]=false→((↑(List.length (Prod.snd (b9 a0 ap a2 a3 n c))):Int)=0→False)∧(¬(↑(List.length (Prod.snd (b9 a0 ap a2 a3 n c))):Int)=0→False)))))))) :
 ∃v p,aI Tryz.prog aw 60 [.ptr (some ⟨0,0,0,0,6⟩),.int .u8 c] (j.of [b1 0 f 1 (.slice none 0 0) ag false ad ax,hb a0 ap a2 a3 n aE,K,P,O]) v p∧ab v p :=
 cf bU mixed wT (aq:= .aN 1 .nil (.aN 4 .nil (he 6002 (.aN 3006 (he 4004 (.aN 4005 .nil uE)) (.aN 3006 (he 4004 (.aN 4005 (.aN 9001 .nil .nil) (.aN 9001 .nil .nil))) (he 4004 (.aN 4005 uE uE))))))) (by kernel_rfl) aY
abbrev FK:o:=o.slice (some ⟨2,0,0,0,1⟩) 1 1
abbrev Mz:o:=o.slice (some ⟨100,0,0,0,1⟩) 2 2
abbrev MA(c:Int):o:=o.str [{toBitVec:= {toFin:=⟨27,Nat.mod_lt (Int.toNat (27)) (BitVec.ofNat._proof_1 8)⟩}},UInt8.ofNat (Int.toNat c)]
abbrev ic(a0:Int)(ap:Int)(a2:Int)(a3:Int)(n:Int)(c:Int):o:=o.agg [.int .i8 1,.int .i32 (↑(List.getD (Prod.fst (b9 a0 ap a2 a3 n c)) 0 0):Int),.int .u8 2,.int .i64 0,.int .i64 0,.str []]
abbrev uH(c:Int):o:=o.agg [.int .i8 (bw.kind (Keys.control (Int.toNat c))),.int .i32 (bw.code (Keys.control (Int.toNat c))),.int .u8 (cc .u8 (bw.dX (Keys.control (Int.toNat c))) (2)),.int .i64 (bw.x (Keys.control (Int.toNat c))),.int .i64 (bw.y (Keys.control (Int.toNat c))),.str (Keys.control (Int.toNat c)).6]
abbrev MB(c:Int):J:=(J.made ([(uH c)]) 6 true (some (42,6)))
abbrev MC(ag:o)(ad:o):o:=o.agg [rk,Mz,ag,.bool false,.ptr (some ⟨1,0,0,0,5⟩),ad]
abbrev FL(f:Nat)(ag:o)(ad:o):o:=o.agg [(eG f),FK,ag,.bool false,.ptr (some ⟨1,0,0,0,5⟩),ad]
abbrev nL(c:Int):o:=o.agg [.int .i8 7,.int .i32 0,.int .u8 0,.int .i64 0,.int .i64 0,(MA c)]
abbrev MD(ag:o)(ad:o)(ax:Option (TypeId×Nat)):J:=⟨[.agg [rk,.slice (some ⟨99,0,0,0,1⟩) 2 2,ag,.bool false,.ptr (some ⟨1,0,0,0,5⟩),ad]],6,true,false,0,0,0,ax⟩
abbrev w0(ag:o)(ad:o)(ax:Option (TypeId×Nat)):J:=⟨[(MC ag ad)],6,true,false,0,0,0,ax⟩
abbrev sL(f:Nat)(ag:o)(ad:o)(ax:Option (TypeId×Nat)):J:=⟨[(FL f ag ad)],6,true,false,0,0,0,ax⟩
abbrev FM(ag:o)(ad:o)(ax:Option (TypeId×Nat))(aE:Option (TypeId×Nat))(P:J)(O:J)(a0:Int)(ap:Int)(a2:Int)(a3:Int)(n:Int)(c:Int):j:=(j.au 121 [(0,(MD ag ad ax)),(1,(kX aE a0 ap a2 a3 n c)),(2,J.made [.int .u8 27] 1 true),(3,P),(4,O),(44,(c8 c)),(87,J.made [.int .u8 c] 1 true),(98,J.made [.int .u8 c] 1 true),(99,J.made [.int .u8 27,.int .u8 c] 1 false (some (5,0)))])
abbrev w1(f:Nat)(ag:o)(ad:o)(ax:Option (TypeId×Nat))(aE:Option (TypeId×Nat))(P:J)(O:J)(a0:Int)(ap:Int)(a2:Int)(a3:Int)(n:Int)(c:Int):j:=(j.au 29 [(0,(sL f ag ad ax)),(1,(sK aE a0 ap a2 a3 n)),(2,J.made [.int .u8 27] 1 true),(3,P),(4,O),(13,(MB c))])
abbrev w2(ag:o)(ad:o)(ax:Option (TypeId×Nat))(aE:Option (TypeId×Nat))(P:J)(O:J)(a0:Int)(ap:Int)(a2:Int)(a3:Int)(n:Int)(c:Int):j:=(j.au 121 [(0,(w0 ag ad ax)),(1,(kX aE a0 ap a2 a3 n c)),(2,J.made [.int .u8 27] 1 true),(3,P),(4,O),(44,(c8 c)),(47,(jv a0 ap a2 a3 n c)),(99,J.made [.int .u8 c] 1 true),(100,J.made [.int .u8 27,.int .u8 c] 1 false (some (5,0)))])
abbrev w3(ag:o)(ad:o)(ax:Option (TypeId×Nat))(aE:Option (TypeId×Nat))(P:J)(O:J)(a0:Int)(ap:Int)(a2:Int)(a3:Int)(n:Int)(c:Int):j:=(j.au 122 [(0,(w0 ag ad ax)),(1,(kX aE a0 ap a2 a3 n c)),(2,J.made [.int .u8 27] 1 true),(3,P),(4,O),(44,(c8 c)),(47,(jv a0 ap a2 a3 n c)),(99,J.made [.int .u8 c] 1 true),(100,J.made [.int .u8 27,.int .u8 c] 1 false (some (5,0)))])
abbrev w4(ag:o)(ad:o)(ax:Option (TypeId×Nat))(aE:Option (TypeId×Nat))(P:J)(O:J)(a0:Int)(ap:Int)(a2:Int)(a3:Int)(n:Int)(c:Int):j:=(j.au 121 [(0,(w0 ag ad ax)),(1,(kX aE a0 ap a2 a3 n c)),(2,J.made [.int .u8 27] 1 true),(3,P),(4,O),(44,(c8 c)),(47,(uF a0 ap a2 a3 n c)),(88,J.made [.int .u8 c] 1 true),(99,J.made [.int .u8 c] 1 true),(100,J.made [.int .u8 27,.int .u8 c] 1 false (some (5,0)))])
abbrev w5(ag:o)(ad:o)(ax:Option (TypeId×Nat))(aE:Option (TypeId×Nat))(P:J)(O:J)(a0:Int)(ap:Int)(a2:Int)(a3:Int)(n:Int)(c:Int):j:=(j.au 122 [(0,(w0 ag ad ax)),(1,(kX aE a0 ap a2 a3 n c)),(2,J.made [.int .u8 27] 1 true),(3,P),(4,O),(44,(c8 c)),(47,(uF a0 ap a2 a3 n c)),(88,J.made [.int .u8 c] 1 true),(99,J.made [.int .u8 c] 1 true),(100,J.made [.int .u8 27,.int .u8 c] 1 false (some (5,0)))])
theorem Wp(f:Nat)(ag ad:o)(ax aE:Option (TypeId×Nat))(P O:J)(a0 ap a2 a3 n c:Int)(ab:o→j→Prop)(aY:(c<32→(0≤c∧(c<32∨c=127))∧(c=27→False)∧True∧cx (w1 f ag ad ax aE P O a0 ap a2 a3 n c) ⟨0,0,0,0,6⟩ ((uH c))∧∀(jw:j),cy (w1 f ag ad ax aE P O a0 ap a2 a3 n c) ⟨0,0,0,0,6⟩ ((uH c)) jw→bN 5 (jw.next) (ab (.tuple []) jw))∧(¬c<32→(c=127→(0≤c∧(c<32∨c=127))∧(c=27→False)∧True∧cx (w1 f ag ad ax aE P O a0 ap a2 a3 n c) ⟨0,0,0,0,6⟩ ((uH c))∧∀(jw:j),cy (w1 f ag ad ax aE P O a0 ap a2 a3 n c) ⟨0,0,0,0,6⟩ ((uH c)) jw→bN 5 (jw.next) (ab (.tuple []) jw))∧(¬c=127→((b9 a0 ap a2 a3 n c).1=[]→ir a0 ap a2 a3 n c∧(0<(↑(List.length (Prod.snd (b9 a0 ap a2 a3 n c))):Int)→ab (.tuple []) (j.au 77 [(0,⟨[.agg [rk,.slice (some ⟨73,0,0,0,1⟩) 2 2,ag,.bool false,.ptr (some ⟨1,0,0,0,5⟩),ad]],6,true,false,0,0,0,ax⟩),(1,(kX aE a0 ap a2 a3 n c)),(2,J.made [.int .u8 27] 1 true),(3,P),(4,O),(44,(c8 c)),(72,J.made [.int .u8 c] 1 true),(73,J.made [.int .u8 27,.int .u8 c] 1 false (some (5,0)))]))∧(¬0<(↑(List.length (Prod.snd (b9 a0 ap a2 a3 n c))):Int)→1<1099511627776∧(valid [UInt8.ofNat (Int.toNat c)]=true→1<1099511627776∧(valid [UInt8.ofNat (Int.toNat c)]=true→False)∧(valid [UInt8.ofNat (Int.toNat c)]=false→cx (FM ag ad ax aE P O a0 ap a2 a3 n c) ⟨0,0,0,0,6⟩ ((nL c))∧∀(b6:j),cy (FM ag ad ax aE P O a0 ap a2 a3 n c) ⟨0,0,0,0,6⟩ ((nL c)) b6→bN 20 (b6.next) (bN 5 (b6.next) (ab (.tuple []) b6))))∧(valid [UInt8.ofNat (Int.toNat c)]=false→((↑(List.length (Prod.snd (b9 a0 ap a2 a3 n c))):Int)=0→False)∧(¬(↑(List.length (Prod.snd (b9 a0 ap a2 a3 n c))):Int)=0→False))))∧(¬(b9 a0 ap a2 a3 n c).1=[]→(List.length (Prod.fst (b9 a0 ap a2 a3 n c))=1→ir a0 ap a2 a3 n c∧(0<(↑(List.length (Prod.snd (b9 a0 ap a2 a3 n c))):Int)→1<1099511627776∧(valid [UInt8.ofNat (Int.toNat c)]=true→cx (w2 ag ad ax aE P O a0 ap a2 a3 n c) ⟨0,0,0,0,6⟩ ((ic a0 ap a2 a3 n c))∧∀(cu:j),cy (w2 ag ad ax aE P O a0 ap a2 a3 n c) ⟨0,0,0,0,6⟩ ((ic a0 ap a2 a3 n c)) cu→bN 20 (cu.next) (bN 5 (cu.next) (ab (.tuple []) cu)))∧(valid [UInt8.ofNat (Int.toNat c)]=false→cx (w3 ag ad ax aE P O a0 ap a2 a3 n c) ⟨0,0,0,0,6⟩ ((nL c))∧∀(b6:j),cy (w3 ag ad ax aE P O a0 ap a2 a3 n c) ⟨0,0,0,0,6⟩ ((nL c)) b6→bN 20 (b6.next) (bN 5 (b6.next) (ab (.tuple []) b6))))∧(¬0<(↑(List.length (Prod.snd (b9 a0 ap a2 a3 n c))):Int)→1<1099511627776∧(valid [UInt8.ofNat (Int.toNat c)]=true→cx (w2 ag ad ax aE P O a0 ap a2 a3 n c) ⟨0,0,0,0,6⟩ ((ic a0 ap a2 a3 n c))∧∀(cu:j),cy (w2 ag ad ax aE P O a0 ap a2 a3 n c) ⟨0,0,0,0,6⟩ ((ic a0 ap a2 a3 n c)) cu→bN 20 (cu.next) (bN 5 (cu.next) (ab (.tuple []) cu)))∧(valid [UInt8.ofNat (Int.toNat c)]=false→cx (w3 ag ad ax aE P O a0 ap a2 a3 n c) ⟨0,0,0,0,6⟩ ((nL c))∧∀(b6:j),cy (w3 ag ad ax aE P O a0 ap a2 a3 n c) ⟨0,0,0,0,6⟩ ((nL c)) b6→bN 20 (b6.next) (bN 5 (b6.next) (ab (.tuple []) b6)))))∧(¬List.length (Prod.fst (b9 a0 ap a2 a3 n c))=1→ir a0 ap a2 a3 n c∧(0<(↑(List.length (Prod.snd (b9 a0 ap a2 a3 n c))):Int)→1<1099511627776∧(valid [UInt8.ofNat (Int.toNat c)]=true→1<1099511627776∧(valid [UInt8.ofNat (Int.toNat c)]=true→cx (w4 ag ad ax aE P O a0 ap a2 a3 n c) ⟨0,0,0,0,6⟩ ((ic a0 ap a2 a3 n c))∧∀(cu:j),cy (w4 ag ad ax aE P O a0 ap a2 a3 n c) ⟨0,0,0,0,6⟩ ((ic a0 ap a2 a3 n c)) cu→bN 20 (cu.next) (bN 5 (cu.next) (ab (.tuple []) cu)))∧(valid [UInt8.ofNat (Int.toNat c)]=false→cx (w5 ag ad ax aE P O a0 ap a2 a3 n c) ⟨0,0,0,0,6⟩ ((nL c))∧∀(b6:j),cy (w5 ag ad ax aE P O a0 ap a2 a3 n c) ⟨0,0,0,0,6⟩ ((nL c)) b6→bN 20 (b6.next) (bN 5 (b6.next) (ab (.tuple []) b6))))∧(valid [UInt8.ofNat (Int.toNat c)]=false→((↑(List.length (Prod.snd (b9 a0 ap a2 a3 n c))):Int)=0→False)∧(¬(↑(List.length (Prod.snd (b9 a0 ap a2 a3 n c))):Int)=0→False)))∧(¬0<(↑(List.length (Prod.snd (b9 a0 ap a2 a3 n c))):Int)→1<1099511627776∧(valid [UInt8.ofNat (Int.toNat c)]=true→1<1099511627776∧(valid [UInt8.ofNat (Int.toNat c)]=true→cx (w4 ag ad ax aE P O a0 ap a2 a3 n c) ⟨0,0,0,0,6⟩ ((ic a0 ap a2 a3 n c))∧∀(cu:j),cy (w4 ag ad ax aE P O a0 ap a2 a3 n c) ⟨0,0,0,0,6⟩ ((ic a0 ap a2 a3 n c)) cu→bN 20 (cu.next) (bN 5 (cu.next) (ab (.tuple []) cu)))∧(valid [UInt8.ofNat (Int.toNat c)]=false→cx (w5 ag ad ax aE P O a0 ap a2 a3 n c) ⟨0,0,0,0,6⟩ ((nL c))∧∀(b6:j),cy (w5 ag ad ax aE P O a0 ap a2 a3 n c) ⟨0,0,0,0,6⟩ ((nL c)) b6→bN 20 (b6.next) (bN 5 (b6.next) (ab (.tuple []) b6))))∧(valid [UInt8.ofNat (Int.toNat c)]=false→((↑(List.length (Prod.snd (b9 a0 ap a2 a3 n c))):Int)=0→False)∧(¬(↑(List.length (Prod.snd (b9 a0 ap a2 a3 n c))):Int)=0→False)))))))) :
 ∃v p,aI Tryz.prog aw 60 [.ptr (some ⟨0,0,0,0,6⟩),.int .u8 c] (j.of [b1 0 f 1 (.slice (some ⟨2,0,0,0,1⟩) 1 1) ag false ad ax,hb a0 ap a2 a3 n aE,J.made [.int .u8 27] 1 true,P,O]) v p∧ab v p :=
 cf bU mixed wT (aq:= .aN 1 (ah 3002 .nil) (.aN 4 (ah 3002 .nil) (he 6002 (.aN 3006 (he 4004 (.aN 4005 .nil uE)) (.aN 3006 (he 4004 (.aN 4005 (.aN 9001 .nil .nil) (.aN 9001 .nil .nil))) (he 4004 (.aN 4005 uE uE))))))) (by kernel_rfl) aY
theorem mQ{f gb:Nat}{aV ag ad:o}{cl Wq:Bool}{an:Option (TypeId×Nat)}{bj K P O:J}{aZ:cB}{bl:fY}{kept hold az:Bytes}{es:List bw}(gs:dP (j.of [b1 0 f 1 aV ag cl ad an,bj,K,P,O]) 0 aZ gb Wq bl kept hold az es) :
 jb (j.of [b1 0 f 1 aV ag cl ad an,bj,K,P,O]) 0 aZ.k aV bl kept∧jc (j.of [b1 0 f 1 aV ag cl ad an,bj,K,P,O]) 0 aZ.I ag az∧jd (j.of [b1 0 f 1 aV ag cl ad an,bj,K,P,O]) 0 aZ.U ad es:=by
 obtain⟨FB,ib,FC,FD,b',ao,ac,ai⟩:=gs.ex;rw [j.eX]at b';simp only [List.getElem?_cons_zero,Option.some.injEq,J.made,J.mk.injEq,List.cons.injEq,o.agg.injEq,o.func.injEq,o.ptr.injEq,bH.mk.injEq,true_and,and_true]at b';obtain⟨⟨_,rfl,rfl,_,_,rfl⟩,rfl⟩:=b';exact⟨ao,ac,ai⟩
theorem ME{l h:j}{cJ:o}{e:bw}{aZ aF:cB}{f:Nat}{cl:Bool}{bl:fY}{kept hold az:Bytes}{es:List bw}{n ba bW:Nat}(aM:h.next=n)(hE:ba≤n)(jJ:bW≤n)(f':dP h 0 aF f cl bl kept hold az es∧Fr l h 0 aZ aF)(he:cJ=di e)(cs:es.length<2^30)(aB:hold.length≤4)
 {cX:j→Prop} (d':∀aa aO,dP aa 0 aO (cD .ground) cl .nil [] hold az (es++[e])→Fr l aa 0 aZ aO→cX aa):cx h ⟨0,0,0,0,6⟩ cJ∧∀aa,cy h ⟨0,0,0,0,6⟩ cJ aa→_root_.cond (Nat.ble ba aa.next) (_root_.cond (Nat.ble bW aa.next) (cX aa) False) False:=by
 refine⟨FG f'.1 he cs aB,fun aa t=> ?_⟩;have:=t.next
 obtain⟨aO,dA,fZ⟩:=FF t f'.1 f'.2 he aB;exact rj (by omega) (rj (by omega) (d' aa aO dA fZ))
theorem sM{l h:j}{cJ:o}{e:bw}{aZ aF:cB}{f:Nat}{cl:Bool}{bl:fY}{kept hold az:Bytes}{es:List bw}{n ba:Nat}(aM:h.next=n)(hE:ba≤n)(f':dP h 0 aF f cl bl kept hold az es∧Fr l h 0 aZ aF)(he:cJ=di e)(cs:es.length<2^30)(aB:hold.length≤4)
 {cX:j→Prop} (d':∀aa aO,dP aa 0 aO (cD .ground) cl .nil [] hold az (es++[e])→Fr l aa 0 aZ aO→cX aa):cx h ⟨0,0,0,0,6⟩ cJ∧∀aa,cy h ⟨0,0,0,0,6⟩ cJ aa→_root_.cond (Nat.ble ba aa.next) (cX aa) False:=by
 refine⟨FG f'.1 he cs aB,fun aa t=> ?_⟩;have:=t.next
 obtain⟨aO,dA,fZ⟩:=FF t f'.1 f'.2 he aB;exact rj (by omega) (d' aa aO dA fZ)
theorem oO{l h:j}{aZ aF:cB}{s:bI}{bl:fY}{es:List bw}(f':dP h 0 aF (cD s.b8) (decide (s.b8=.cC)) bl s.kept s.hold s.az es∧Fr l h 0 aZ aF)(hT:pN s.b8 bl s.kept):∃aO,cm h 0 aO s es∧Fr l h 0 aZ aO:=⟨aF,⟨bl,f'.1,hT⟩,f'.2⟩
theorem w6{h:j}{aF:cB}{hold az:Bytes}{es:List bw}(g:dP h 0 aF (cD .ground) false .nil [] hold az es):cm h 0 aF ⟨.ground,[],hold,az⟩ es:=⟨.nil,g,trivial⟩
theorem MF{c:UInt8}(h:c≠27):c.toNat≠27:=fun e=>h (UInt8.toNat_inj.1 e)
theorem Wr(az:Bytes){c:UInt8}(js:c≠27)(h:c.toNat<32∨c.toNat=127):Keys.ground ⟨.ground,[],[],az⟩ c=(⟨.ground,[],[],az⟩,[control c.toNat]):=by simp [Keys.ground,js,iq,h,tell]
theorem Ws(az:Bytes){c:UInt8}(js:c≠27)(h:¬(c.toNat<32∨c.toNat=127))(aC:cg [] c=([],[c])):Keys.ground ⟨.ground,[],[],az⟩ c=(⟨.dc,[c],[c],az⟩,[]):=by simp [Keys.ground,js,iq,h,hJ,aC]
theorem Wt(az:Bytes){c:UInt8}(js:c≠27)(h:¬(c.toNat<32∨c.toNat=127)){r:Nat}(aC:cg [] c=([r],[])):Keys.ground ⟨.ground,[],[],az⟩ c=(⟨.ground,[],[],az⟩,[if valid [c]=true then gk r else gM [c]]):=by by_cases a':valid [c]=true<;>simp [Keys.ground,js,iq,h,hJ,aC,at',a',tell]
theorem MG(c:UInt8):cg [] c=([],[c])∨ ∃r,cg [] c=([r],[]):=by
 rcases jR c.toNat with h|h|h|h|h
 ·exact .inr ⟨_,lv c h⟩
 ·exact .inr ⟨_,lx c h⟩
 ·exact .inl (ff c 0 h)
 ·exact .inl (ff c 1 h)
 ·exact .inl (ff c 2 h)
theorem MH(bx bt bk bz:Int)(c:UInt8):b9 bx bt bk bz 0 c.toNat=cg [] c:=by unfold b9 nG;rw [uD];rfl
theorem MI(bx bt bk bz:Int)(c:UInt8):ir bx bt bk bz 0 c.toNat :=
 ⟨by omega,by omega,by omega,by omega,by have:=c.toNat_lt;omega,.inl rfl⟩
theorem MJ:1<1099511627776:=by decide
theorem oP(c:UInt8):UInt8.ofNat (Int.toNat (c.toNat:Int))=c:=by simp
theorem Wu{f:Nat}{ag ad:o}{an aE:Option (TypeId×Nat)}{K P O:J}{aZ:cB}{az:Bytes}{es:List bw}{bx bt bk bz:Int}(gs:dP (j.of [b1 0 f 1 (.slice none 0 0) ag false ad an,ch [] bx bt bk bz aE,K,P,O]) 0 aZ f false .nil [] [] az es)
 (cQ:aZ.u=1∧(aZ.k=0∨aZ.k=2)∧(aZ.I=0∨aZ.I=3)∧(aZ.U=0∨aZ.U=4)) (c:UInt8) (js:c≠27) (cs:es.length<2^30) :
 ∃aa,aI Tryz.prog aw 60 [.ptr (some ⟨0,0,0,0,6⟩),.int .u8 c.toNat] (j.of [b1 0 f 1 (.slice none 0 0) ag false ad an,ch [] bx bt bk bz aE,K,P,O]) (.tuple []) aa ∧
  ∃aO,cm aa 0 aO (Keys.ground ⟨.ground,[],[],az⟩ c).1 (es++(Keys.ground ⟨.ground,[],[],az⟩ c).2)∧Fr (j.of [b1 0 f 1 (.slice none 0 0) ag false ad an,ch [] bx bt bk bz aE,K,P,O]) aa 0 aZ aO:=by
 obtain⟨ao,ac,ai⟩:=mQ gs;have ar:=c.toNat_lt;have aM:=MF js
 obtain ⟨v,aa,aD,rfl,q⟩:=Wo f ag ad an aE K P O bx bt bk bz 0 c.toNat (fun v aa=>v=.tuple []∧∃aO,cm aa 0 aO (Keys.ground ⟨.ground,[],[],az⟩ c).1 (es++(Keys.ground ⟨.ground,[],[],az⟩ c).2)∧Fr (j.of [b1 0 f 1 (.slice none 0 0) ag false ad an,ch [] bx bt bk bz aE,K,P,O]) aa 0 aZ aO) (by
  delta nK Mw wZ uF c8 kX sJ wV My Mx rk fO wY wX jv wW FJ uG wU sK FH rl FI eG
  have w7:(c.toNat<32∨c.toNat=127)→ ∀aa aO,dP aa 0 aO (cD .ground) false .nil [] [] az (es++[control c.toNat])→Fr (j.of [b1 0 f 1 (.slice none 0 0) ag false ad an,ch [] bx bt bk bz aE,K,P,O]) aa 0 aZ aO→o.tuple []=.tuple []∧∃aO,cm aa 0 aO (Keys.ground ⟨.ground,[],[],az⟩ c).1 (es++(Keys.ground ⟨.ground,[],[],az⟩ c).2)∧Fr (j.of [b1 0 f 1 (.slice none 0 0) ag false ad an,ch [] bx bt bk bz aE,K,P,O]) aa 0 aZ aO :=
   fun kN aa aO dA fZ=>⟨rfl,aO,by rw [Wr az js kN];exact w6 dA,fZ⟩
  refine⟨fun p=>⟨by omega,by omega,?_⟩,fun p=>⟨fun ae=>⟨by omega,by omega,?_⟩,fun ae=> ?_⟩⟩
  ·exact sM (n:=24) (e:=control c.toNat) (aF:=⟨1,0,aZ.I,aZ.U⟩) (f:=f) (cl:=false) (bl:= .nil) (kept:=[]) (hold:=[]) rfl (by decide) (iu (n:=24) (bx:=bx) (bt:=bt) (bk:=bk) (bz:=bz) (aV:= .slice none 0 0) (ag:=ag) (ad:=ad) (an:=an) (aE:=aE) rfl (by decide) (by kernel_rfl) (by kernel_rfl) (.inl (by kernel_rfl)) (by kernel_rfl) (by kernel_rfl) (AE _) (by decide) ac ai cQ (.inl rfl)) (by rw [Int.toNat_natCast];rfl) cs (by decide) (w7 (by omega))
  ·exact sM (n:=24) (e:=control c.toNat) (aF:=⟨1,0,aZ.I,aZ.U⟩) (f:=f) (cl:=false) (bl:= .nil) (kept:=[]) (hold:=[]) rfl (by decide) (iu (n:=24) (bx:=bx) (bt:=bt) (bk:=bk) (bz:=bz) (aV:= .slice none 0 0) (ag:=ag) (ad:=ad) (an:=an) (aE:=aE) rfl (by decide) (by kernel_rfl) (by kernel_rfl) (.inl (by kernel_rfl)) (by kernel_rfl) (by kernel_rfl) (AE _) (by decide) ac ai cQ (.inl rfl)) (by rw [Int.toNat_natCast];rfl) cs (by decide) (w7 (by omega))
  ·have w8:¬(c.toNat<32∨c.toNat=127):=by omega
   rw [MH,oP];have pre:=MI bx bt bk bz c;rcases MG c with aC|⟨r,aC⟩
   ·rw [aC];refine⟨fun _=>⟨pre,fun _=>⟨rfl,?_⟩,fun e=>absurd (by simp) e⟩,fun e=>absurd rfl e⟩;rw [Ws az js w8 aC,List.append_nil]
    exact oO (s:=⟨.dc,[c],[c],az⟩) (iu (n:=75) (k:=71) (bx:=bx) (bt:=bt) (bk:=bk) (bz:=bz) (aV:= .slice (some ⟨71,0,0,0,1⟩) 1 1) (ag:=ag) (ad:=ad) (an:=an) (aE:=aE) rfl (by decide) (by kernel_rfl) (by kernel_rfl) (.inl (by kernel_rfl)) (by kernel_rfl) (by kernel_rfl)
     (nJ (es:=[.int .u8 c.toNat]) (R:=0) (m:=0) (f:=0) (by decide) rfl rfl (by kernel_rfl)) (by decide) ac ai cQ (.inr (.inl (by decide)))) (by simp [pN])
   ·rw [aC]
    have one:∀(n:Nat)(h:j)(cJ:o)(e:bw),h.next=n→75≤n→h.get 0=some (b1 0 90 1 (.slice (some ⟨98,0,0,0,1⟩) 1 1) ag false ad an)→h.get 1=some (ch [] bx bt bk bz aE)→h.get 2=some K→h.get 3=some P→h.get 4=some O→h.get 98=some (J.made [.int .u8 c.toNat] 1 false cF)→98<n→cJ=di e →
     (if valid [c]=true then gk r else gM [c])=e →
     cx h ⟨0,0,0,0,6⟩ cJ∧∀aa,cy h ⟨0,0,0,0,6⟩ cJ aa→_root_.cond (Nat.ble 20 aa.next) (_root_.cond (Nat.ble 5 aa.next) (o.tuple []=.tuple []∧∃aO,cm aa 0 aO (Keys.ground ⟨.ground,[],[],az⟩ c).1 (es++(Keys.ground ⟨.ground,[],[],az⟩ c).2)∧Fr (j.of [b1 0 f 1 (.slice none 0 0) ag false ad an,ch [] bx bt bk bz aE,K,P,O]) aa 0 aZ aO) False) False:=by
     intro n h cJ e aM ae' b' bu bC b2 cp ia Wv he FN;rw [Wt az js w8 aC,FN];exact ME aM (by omega) (by omega) (iu (k:=98) aM (by omega) b' bu (.inl bC) b2 cp (nJ (l:=[c]) (by decide) rfl rfl ia) Wv ac ai cQ (.inr (.inl (by decide)))) he cs (by decide) fun aa aO dA fZ=>⟨rfl,oO (s:=⟨.ground,[],[],az⟩) ⟨dA,fZ⟩ trivial⟩
    refine⟨fun e=>absurd e (by simp),fun _=>⟨fun _=>⟨pre,fun e=>absurd e (by simp),fun _=>⟨MJ,fun a'=> ?_,fun a'=> ?_⟩⟩,fun e=>absurd rfl e⟩⟩
    ·exact one 119 _ _ (gk r) rfl (by decide) (by kernel_rfl) (by kernel_rfl) (by kernel_rfl) (by kernel_rfl) (by kernel_rfl) (by kernel_rfl) (by decide) rfl (by rw [if_pos a'])
    ·exact one 120 _ _ (gM [c]) rfl (by decide) (by kernel_rfl) (by kernel_rfl) (by kernel_rfl) (by kernel_rfl) (by kernel_rfl) (by kernel_rfl) (by decide) rfl (by rw [if_neg (by rw [a'];decide)]))
 exact⟨aa,aD,q⟩
def sN(e:bw):bw:= {e with dX:=e.dX+2}
theorem Ww(n:Nat):(control n).dX=0∨(control n).dX=4:=by
 unfold Keys.control
 repeat' split
 all_goals simp [e4,gk]
theorem MK(n:Nat):o.agg [.int .i8 (control n).kind,.int .i32 (control n).code,.int .u8 (cc .u8 (control n).dX 2),.int .i64 (control n).x,.int .i64 (control n).y,.str (control n).text]=di (sN (control n)):=by unfold di sN;rcases Ww n with h|h<;>rw [h]<;>rfl
theorem Wx(az:Bytes){c:UInt8}(h:c.toNat<32∨c.toNat=127):Keys.plain ⟨.dw,[27],[],az⟩ c=(⟨.ground,[],[],az⟩,[sN (control c.toNat)]):=by simp [Keys.plain,iq,h,tell,sN]
theorem Wy(az:Bytes){c:UInt8}(h:¬(c.toNat<32∨c.toNat=127))(aC:cg [] c=([],[c])):Keys.plain ⟨.dw,[27],[],az⟩ c=(⟨.dc,[27,c],[c],az⟩,[]):=by simp [Keys.plain,iq,h,hJ,aC]
theorem Wz(az:Bytes){c:UInt8}(h:¬(c.toNat<32∨c.toNat=127)){r:Nat}(aC:cg [] c=([r],[])):Keys.plain ⟨.dw,[27],[],az⟩ c=(⟨.ground,[],[],az⟩,[if valid [c]=true then gk r 2 else gM [27,c]]):=by by_cases a':valid [c]=true<;>simp [Keys.plain,iq,h,hJ,aC,at',a',tell]
theorem WA{f:Nat}{ag ad:o}{an aE:Option (TypeId×Nat)}{P O:J}{aZ:cB}{az:Bytes}{es:List bw}{bx bt bk bz:Int}(gs:dP (j.of [b1 0 f 1 (.slice (some ⟨2,0,0,0,1⟩) 1 1) ag false ad an,ch [] bx bt bk bz aE,J.made [.int .u8 27] 1 true,P,O]) 0 aZ f false .one [27] [] az es)
 (cQ:aZ.u=1∧(aZ.k=0∨aZ.k=2)∧(aZ.I=0∨aZ.I=3)∧(aZ.U=0∨aZ.U=4)) (c:UInt8) (js:c≠27) (cs:es.length<2^30) :
 ∃aa,aI Tryz.prog aw 60 [.ptr (some ⟨0,0,0,0,6⟩),.int .u8 c.toNat] (j.of [b1 0 f 1 (.slice (some ⟨2,0,0,0,1⟩) 1 1) ag false ad an,ch [] bx bt bk bz aE,J.made [.int .u8 27] 1 true,P,O]) (.tuple []) aa ∧
  ∃aO,cm aa 0 aO (Keys.plain ⟨.dw,[27],[],az⟩ c).1 (es++(Keys.plain ⟨.dw,[27],[],az⟩ c).2)∧Fr (j.of [b1 0 f 1 (.slice (some ⟨2,0,0,0,1⟩) 1 1) ag false ad an,ch [] bx bt bk bz aE,J.made [.int .u8 27] 1 true,P,O]) aa 0 aZ aO:=by
 obtain⟨ao,ac,ai⟩:=mQ gs;have cw:aZ.k=2:=by have:=ao.1;omega
 have ar:=c.toNat_lt;have aM:=MF js
 obtain ⟨v,aa,aD,rfl,q⟩:=Wp f ag ad an aE P O bx bt bk bz 0 c.toNat (fun v aa=>v=.tuple []∧∃aO,cm aa 0 aO (Keys.plain ⟨.dw,[27],[],az⟩ c).1 (es++(Keys.plain ⟨.dw,[27],[],az⟩ c).2)∧Fr (j.of [b1 0 f 1 (.slice (some ⟨2,0,0,0,1⟩) 1 1) ag false ad an,ch [] bx bt bk bz aE,J.made [.int .u8 27] 1 true,P,O]) aa 0 aZ aO) (by
  delta nL MA w5 uF c8 kX sJ w0 MC Mz rk ic w4 w3 jv w2 FM MD uH w1 MB sK FH sL FL FK eG
  have w7:(c.toNat<32∨c.toNat=127)→ ∀aa aO,dP aa 0 aO (cD .ground) false .nil [] [] az (es++[sN (control c.toNat)])→Fr (j.of [b1 0 f 1 (.slice (some ⟨2,0,0,0,1⟩) 1 1) ag false ad an,ch [] bx bt bk bz aE,J.made [.int .u8 27] 1 true,P,O]) aa 0 aZ aO→o.tuple []=.tuple []∧∃aO,cm aa 0 aO (Keys.plain ⟨.dw,[27],[],az⟩ c).1 (es++(Keys.plain ⟨.dw,[27],[],az⟩ c).2)∧Fr (j.of [b1 0 f 1 (.slice (some ⟨2,0,0,0,1⟩) 1 1) ag false ad an,ch [] bx bt bk bz aE,J.made [.int .u8 27] 1 true,P,O]) aa 0 aZ aO :=
   fun kN aa aO dA fZ=>⟨rfl,aO,by rw [Wx az kN];exact w6 dA,fZ⟩
  refine⟨fun p=>⟨by omega,by omega,trivial,?_⟩,fun p=>⟨fun ae=>⟨by omega,by omega,trivial,?_⟩,fun ae=> ?_⟩⟩
  ·exact sM (n:=29) (e:=sN (control c.toNat)) (aF:=⟨1,2,aZ.I,aZ.U⟩) (f:=f) (cl:=false) (bl:= .one) (kept:=[27]) (hold:=[]) rfl (by decide) (iu (n:=29) (bx:=bx) (bt:=bt) (bk:=bk) (bz:=bz) (aV:= .slice (some ⟨2,0,0,0,1⟩) 1 1) (ag:=ag) (ad:=ad) (an:=an) (aE:=aE) rfl (by decide) (by kernel_rfl) (by kernel_rfl) (.inl (by kernel_rfl)) (by kernel_rfl) (by kernel_rfl) ⟨by decide,rfl,by kernel_rfl,rfl⟩ (by decide) ac ai cQ (.inr (.inr ⟨rfl,cw⟩))) (by rw [Int.toNat_natCast];exact MK _) cs (by decide) (w7 (by omega))
  ·exact sM (n:=29) (e:=sN (control c.toNat)) (aF:=⟨1,2,aZ.I,aZ.U⟩) (f:=f) (cl:=false) (bl:= .one) (kept:=[27]) (hold:=[]) rfl (by decide) (iu (n:=29) (bx:=bx) (bt:=bt) (bk:=bk) (bz:=bz) (aV:= .slice (some ⟨2,0,0,0,1⟩) 1 1) (ag:=ag) (ad:=ad) (an:=an) (aE:=aE) rfl (by decide) (by kernel_rfl) (by kernel_rfl) (.inl (by kernel_rfl)) (by kernel_rfl) (by kernel_rfl) ⟨by decide,rfl,by kernel_rfl,rfl⟩ (by decide) ac ai cQ (.inr (.inr ⟨rfl,cw⟩))) (by rw [Int.toNat_natCast];exact MK _) cs (by decide) (w7 (by omega))
  ·have w8:¬(c.toNat<32∨c.toNat=127):=by omega
   rw [MH,oP];have pre:=MI bx bt bk bz c;rcases MG c with aC|⟨r,aC⟩
   ·rw [aC];refine⟨fun _=>⟨pre,fun _=>⟨rfl,?_⟩,fun e=>absurd (by simp) e⟩,fun e=>absurd rfl e⟩;rw [Wy az w8 aC,List.append_nil]
    exact oO (s:=⟨.dc,[27,c],[c],az⟩) (iu (n:=77) (k:=73) (bx:=bx) (bt:=bt) (bk:=bk) (bz:=bz) (aV:= .slice (some ⟨73,0,0,0,1⟩) 2 2) (ag:=ag) (ad:=ad) (an:=an) (aE:=aE) rfl (by decide) (by kernel_rfl) (by kernel_rfl) (.inl (by kernel_rfl)) (by kernel_rfl) (by kernel_rfl)
     (nJ (es:=[.int .u8 27,.int .u8 c.toNat]) (R:=0) (m:=0) (f:=0) (by decide) rfl rfl (by kernel_rfl)) (by decide) ac ai cQ (.inr (.inl (by decide)))) (by simp [pN])
   ·rw [aC]
    have one:∀(n:Nat)(h:j)(cJ:o)(e:bw),h.next=n→77≤n→h.get 0=some (b1 0 90 1 (.slice (some ⟨100,0,0,0,1⟩) 2 2) ag false ad an)→h.get 1=some (ch [] bx bt bk bz aE)→h.get 2=some (J.made [.int .u8 27] 1 true)→h.get 3=some P→h.get 4=some O→h.get 100=some (J.made [.int .u8 27,.int .u8 c.toNat] 1 false cF)→100<n→cJ=di e →
     (if valid [c]=true then gk r 2 else gM [27,c])=e →
     cx h ⟨0,0,0,0,6⟩ cJ∧∀aa,cy h ⟨0,0,0,0,6⟩ cJ aa→_root_.cond (Nat.ble 20 aa.next) (_root_.cond (Nat.ble 5 aa.next) (o.tuple []=.tuple []∧∃aO,cm aa 0 aO (Keys.plain ⟨.dw,[27],[],az⟩ c).1 (es++(Keys.plain ⟨.dw,[27],[],az⟩ c).2)∧Fr (j.of [b1 0 f 1 (.slice (some ⟨2,0,0,0,1⟩) 1 1) ag false ad an,ch [] bx bt bk bz aE,J.made [.int .u8 27] 1 true,P,O]) aa 0 aZ aO) False) False:=by
     intro n h cJ e aM afa b' bu bC b2 cp ia WB he FN;rw [Wz az w8 aC,FN];exact ME aM (by omega) (by omega) (iu (k:=100) aM (by omega) b' bu (.inl bC) b2 cp (nJ (l:=[27,c]) (by decide) rfl rfl ia) WB ac ai cQ (.inr (.inl (by decide)))) he cs (by decide) fun aa aO dA fZ=>⟨rfl,oO (s:=⟨.ground,[],[],az⟩) ⟨dA,fZ⟩ trivial⟩
    refine⟨fun e=>absurd e (by simp),fun _=>⟨fun _=>⟨pre,fun e=>absurd e (by simp),fun _=>⟨MJ,fun a'=> ?_,fun a'=> ?_⟩⟩,fun e=>absurd rfl e⟩⟩
    ·exact one 121 _ _ (gk r 2) rfl (by decide) (by kernel_rfl) (by kernel_rfl) (by kernel_rfl) (by kernel_rfl) (by kernel_rfl) (by kernel_rfl) (by decide) rfl (by rw [if_pos a'])
    ·exact one 122 _ _ (gM [27,c]) rfl (by decide) (by kernel_rfl) (by kernel_rfl) (by kernel_rfl) (by kernel_rfl) (by kernel_rfl) (by kernel_rfl) (by decide) rfl (by rw [if_neg (by rw [a'];decide)]))
 exact⟨aa,aD,q⟩
theorem cm.oL{aa aR:j}{r:Nat→Nat}(be:∀i b,aa.get i=some b→aR.get (r i)=some (b.bc r))(io:∀i C,r i=r C→i=C)(cM:∀i,i<aa.next→r i<aR.next){d:Nat}{aF:cB}{s:bI}{es:List bw}(g:cm aa d aF s es):cm aR (r d) (aF.map r) s es:=by obtain⟨bl,g,aq⟩:=g;exact⟨bl,g.oL be io cM,aq⟩
theorem sO{fn:FuncId}{s bK:bI}{es FO:List bw}{c:UInt8}
 (small:∀bl aV ag ad an aE bx bt bk bz K P O aZ,pN s.b8 bl s.kept→dP (j.of [b1 0 (cD s.b8) 1 aV ag (decide (s.b8=.cC)) ad an,ch s.hold bx bt bk bz aE,K,P,O]) 0 aZ (cD s.b8) (decide (s.b8=.cC)) bl s.kept s.hold s.az es→(aZ.u=1∧(aZ.k=0∨aZ.k=2)∧(aZ.I=0∨aZ.I=3)∧(aZ.U=0∨aZ.U=4)) →
  ∃aa,aI Tryz.prog aw fn [.ptr (some ⟨0,0,0,0,6⟩),.int .u8 c.toNat] (j.of [b1 0 (cD s.b8) 1 aV ag (decide (s.b8=.cC)) ad an,ch s.hold bx bt bk bz aE,K,P,O]) (.tuple []) aa∧∃aO,cm aa 0 aO bK FO∧Fr (j.of [b1 0 (cD s.b8) 1 aV ag (decide (s.b8=.cC)) ad an,ch s.hold bx bt bk bz aE,K,P,O]) aa 0 aZ aO)
 {H:j} {d:Nat} {aF:cB} (g:cm H d aF s es):∃aR,aI Tryz.prog aw fn [.ptr (some ⟨d,0,0,0,6⟩),.int .u8 c.toNat] H (.tuple []) aR∧∃aO,cm aR d aO bK FO∧Fr H aR d aF aO:=by
 obtain⟨bl,g,aq⟩:=g;exact g.lift (Q:=fun h d aF=>cm h d aF bK FO) (fun a aS=>by rw [List.mem_singleton.1 aS];exact cT.int _ _) (cT.of rfl) (fun aa aR r d aF be io cM q=>q.oL be io cM) fun aV ag ad an aE bx bt bk bz K P O aZ gs cQ=>small bl aV ag ad an aE bx bt bk bz K P O aZ aq gs cQ
def rm(s:bI)(c:UInt8):bI×List bw:=match s.b8 with|.ground=>Keys.ground s c|_=>Keys.plain s c
def w9(s:bI)(c:UInt8):Prop:=s.hold=[]∧c≠27∧(s.b8=.ground∨s.b8=.dw)
theorem WC{H:j}{d:Nat}{aF:cB}{s:bI}{es:List bw}{c:UInt8}(g:cm H d aF s es)(cs:es.length<2^30)(d':w9 s c):∃aR,aI Tryz.prog aw 60 [.ptr (some ⟨d,0,0,0,6⟩),.int .u8 c.toNat] H (.tuple []) aR ∧
 ∃aO,cm aR d aO (rm s c).1 (es++(rm s c).2)∧Fr H aR d aF aO:=by
 refine sO ?_ g;intro bl aV ag ad an aE bx bt bk bz K P O aZ aq gs cQ;obtain⟨ao,ac,ai⟩:=mQ gs;obtain⟨b8,kept,hold,az⟩:=s;obtain⟨p,js,ae⟩:=d';simp only at p ae aq gs ao ac ai⊢;subst p;rcases ae with rfl|rfl
 ·cases bl with
  |nil =>
   obtain⟨rfl,rfl,_⟩:=ao;exact Wu gs cQ c js cs
  |one=>exact aq.elim
  |grown C=>exact aq.elim
 ·cases bl with
  |one =>
   obtain⟨kz,rfl,df,rfl⟩:=ao;have:aZ.k=2:=by omega
   rw [this,j.eX]at df;simp only [List.getElem?_cons_zero,List.getElem?_cons_succ,Option.some.injEq]at df;subst df;rw [this]at gs⊢;exact WA gs cQ c js cs
  |nil=>exact aq.elim
  |grown C=>exact aq.elim
theorem WD:∀args h a,jV (2^30-4) w9 rm args h=some a→a.dr Tryz.prog aw 60 args h:=ri fun H d aF s es c g cs aB d'=>WC g (by omega) d'
noncomputable def ML:e9:=AD.add 60 (jV (2^30-4) w9 rm)
theorem MM:eP Tryz.prog aw ML:=wT.add WD
theorem WE(f:Nat)(ag ad:o)(ax:Option (TypeId×Nat))(bj K P O:J)(c:Int)(ab:o→j→Prop)(aY:(c=27→ab (.tuple []) (j.au 19 [(0,⟨[.agg [.func (.func 59) [.ptr (some ⟨0,0,0,0,6⟩)] [],.slice (some ⟨9,0,0,0,1⟩) 1 1,ag,.bool false,.ptr (some ⟨1,0,0,0,5⟩),ad]],6,true,false,0,0,0,ax⟩),(1,bj),(2,K),(3,P),(4,O),(9,J.made [.int .u8 c] 1 true)]))∧(¬c=27→dy (2^30-4) w9 (j.au 10 [(0,(rl f ag ad ax)),(1,bj),(2,K),(3,P),(4,O)]) ⟨0,0,0,0,6⟩ c∧∀(oQ:j),dz rm (j.au 10 [(0,(rl f ag ad ax)),(1,bj),(2,K),(3,P),(4,O)]) ⟨0,0,0,0,6⟩ c oQ→bN 5 (oQ.next) (ab (.tuple []) oQ))) :
 ∃v p,aI Tryz.prog aw 30 [.ptr (some ⟨0,0,0,0,6⟩),.int .u8 c] (j.of [b1 0 f 1 (.slice none 0 0) ag false ad ax,bj,K,P,O]) v p∧ab v p :=
 cf bU mixed MM (aq:= .aN 1 .nil .nil) (by kernel_rfl) aY
theorem w'{l h:j}{cX:bI→UInt8→Prop}{F:bI→UInt8→bI×List bw}{aZ aF:cB}{s:bI}{es:List bw}{c:UInt8}{n ba N:Nat}(aM:h.next=n)(hE:ba≤n)(f':cm h 0 aF s es∧Fr l h 0 aZ aF)(cs:es.length<N)(aB:s.hold.length≤4)(be:cX s c)
 {Q:j→Prop} (eF:∀aa aO,cm aa 0 aO (F s c).1 (es++(F s c).2)→Fr l aa 0 aZ aO→Q aa):dy N cX h ⟨0,0,0,0,6⟩ c.toNat∧∀aa,dz F h ⟨0,0,0,0,6⟩ c.toNat aa→_root_.cond (Nat.ble ba aa.next) (Q aa) False:=by
 have ar:=c.toNat_lt;refine⟨⟨rfl,⟨aF,s,es,f'.1,cs,aB,by rw [uD];exact be⟩,by omega⟩,fun aa t=> ?_⟩;have:=t.next
 obtain⟨aO,dA,fZ⟩:=t.all aF s es f'.1 aB;rw [uD]at dA;exact rj (by omega) (eF aa aO dA (f'.2.trans fZ))
theorem AF{l h:j}{aZ aF:cB}{s:bI}{bl:fY}{es:List bw}(f':dP h 0 aF (cD s.b8) (decide (s.b8=.cC)) bl s.kept s.hold s.az es∧Fr l h 0 aZ aF)(hT:pN s.b8 bl s.kept):cm h 0 aF s es∧Fr l h 0 aZ aF:=⟨⟨bl,f'.1,hT⟩,f'.2⟩
def l3(s:bI)(c:UInt8):Prop:=s.hold=[]∧s.b8=.ground
theorem WG{H:j}{d:Nat}{aF:cB}{s:bI}{es:List bw}{c:UInt8}(g:cm H d aF s es)(cs:es.length<2^30-4)(d':l3 s c):∃aR,aI Tryz.prog aw 30 [.ptr (some ⟨d,0,0,0,6⟩),.int .u8 c.toNat] H (.tuple []) aR ∧
 ∃aO,cm aR d aO (Keys.ground s c).1 (es++(Keys.ground s c).2)∧Fr H aR d aF aO:=by
 refine sO ?_ g;intro bl aV ag ad an aE bx bt bk bz K P O aZ aq gs cQ;obtain⟨ao,ac,ai⟩:=mQ gs;obtain⟨b8,kept,hold,az⟩:=s;obtain⟨p,ae⟩:=d';simp only at p ae aq gs ao ac ai⊢;subst p ae;cases bl with
 |one=>exact aq.elim
 |grown C=>exact aq.elim
 |nil =>
  obtain⟨rfl,rfl,_⟩:=ao
  obtain⟨v,aa,aD,rfl,q⟩:=WE (cD .ground) ag ad an (ch [] bx bt bk bz aE) K P O c.toNat (fun v aa=>v=.tuple []∧∃aO,cm aa 0 aO (Keys.ground ⟨.ground,[],[],az⟩ c).1 (es++(Keys.ground ⟨.ground,[],[],az⟩ c).2)∧Fr (j.of [b1 0 (cD .ground) 1 (.slice none 0 0) ag false ad an,ch [] bx bt bk bz aE,K,P,O]) aa 0 aZ aO) (by
   delta rl FI eG
   refine⟨fun e=>⟨rfl,?_⟩,fun e=> ?_⟩
   ·have ar:c=27:=UInt8.toNat_inj.1 (by show c.toNat=27;omega);rw [show Keys.ground ⟨.ground,[],[],az⟩ c=(⟨.dw,[27],[],az⟩,[])by simp [Keys.ground,ar],List.append_nil]
    exact oO (s:=⟨.dw,[27],[],az⟩) (iu (n:=19) (k:=9) (bl:= .one) (bx:=bx) (bt:=bt) (bk:=bk) (bz:=bz) (aV:= .slice (some ⟨9,0,0,0,1⟩) 1 1) (ag:=ag) (ad:=ad) (an:=an) (aE:=aE) rfl (by decide) (by kernel_rfl) (by kernel_rfl) (.inl (by kernel_rfl)) (by kernel_rfl) (by kernel_rfl)
     ⟨by decide,rfl,by rw [←e];kernel_rfl,rfl⟩ (by decide) ac ai cQ (.inr (.inl (by decide)))) trivial
   ·have ar:c≠27:=by rintro rfl;exact e rfl
    refine w' (s:=⟨.ground,[],[],az⟩) (aF:=⟨1,0,aZ.I,aZ.U⟩) (n:=10) rfl (by decide) (AF (bl:= .nil) (iu (n:=10) (k:=0) (bx:=bx) (bt:=bt) (bk:=bk) (bz:=bz) (aV:= .slice none 0 0) (ag:=ag) (ad:=ad) (an:=an) (aE:=aE) rfl (by decide) (by kernel_rfl) (by kernel_rfl) (.inl (by kernel_rfl)) (by kernel_rfl) (by kernel_rfl) (AE _) (by decide) ac ai cQ (.inl rfl)) trivial) cs (by simp) ⟨rfl,ar,.inl rfl⟩ fun aa aO dA fZ=>⟨rfl,aO,dA,fZ⟩)
  exact⟨aa,aD,q⟩
theorem WH:∀args h a,jV (2^30-4) l3 Keys.ground args h=some a→a.dr Tryz.prog aw 30 args h:=ri fun H d aF s es c g cs aB d'=>WG g cs d'
noncomputable def MN:e9:=ML.add 30 (jV (2^30-4) l3 Keys.ground)
theorem AG:eP Tryz.prog aw MN:=MM.add WH
abbrev ed(l:List o)(R:Nat)(m:Nat)(aG:Nat):J:=⟨l,1,false,false,R,m,aG,some (5,0)⟩
abbrev FP(l:List o)(n:Nat):o:=o.agg [.int .i8 7,.int .i32 0,.int .u8 0,.int .i64 0,.int .i64 0,.str (strOf (List.take n l))]
abbrev FQ(f:Nat)(ag:o)(ad:o)(ax:Option (TypeId×Nat))(R:Nat)(n:Nat):J:=⟨[.agg [(eG f),.slice (some ⟨2,R,0,0,1⟩) n n,ag,.bool false,.ptr (some ⟨1,0,0,0,5⟩),ad]],6,true,false,0,0,0,ax⟩
theorem WI(f:Nat)(ag ad:o)(ax:Option (TypeId×Nat))(bj P O:J)(l:List o)(R m aG n:Nat)(c:Int)(ab:o→j→Prop)(aY:R=R∧0+n≤List.length l∧(∃b3,List.take n (List.drop (bH.idx ⟨2,R,0,0,1⟩) (J.bi (ed l R m aG)))=aJ b3)∧cx (j.au 13 [(0,(FQ f ag ad ax R n)),(1,bj),(2,(ed l R m aG)),(3,P),(4,O)]) ⟨0,0,0,0,6⟩ ((FP l n))∧∀(cI:j),cy (j.au 13 [(0,(FQ f ag ad ax R n)),(1,bj),(2,(ed l R m aG)),(3,P),(4,O)]) ⟨0,0,0,0,6⟩ ((FP l n)) cI→bF 5 (cI.next) (cj env.D 66 ⟨0,0,0,0,6⟩ (j.mk (cI.next+6) (cI.2))=some (.func (.func 30) [.ptr (some ⟨0,0,0,0,6⟩)] [])∧dy (2^30-4) l3 (j.mk (cI.next+6) (j.aT cI)) ⟨0,0,0,0,6⟩ c∧∀(FR:j),dz ground (j.mk (cI.next+6) (j.aT cI)) ⟨0,0,0,0,6⟩ c FR→bN 5 (FR.next) (ab (.tuple []) FR))) :
 ∃v p,aI Tryz.prog aw 106 [.ptr (some ⟨0,0,0,0,6⟩),.int .u8 c] (j.of [b1 0 f 1 (.slice (some ⟨2,R,0,0,1⟩) n n) ag false ad ax,bj,ct l 1 R m aG cF,P,O]) v p∧ab v p :=
 cf bU mixed AG (aq:=ah 5 (.aA (.val 1003 (.func (.func 30) [.ptr (some ⟨0,0,0,0,6⟩)] [])) .nil)) (by kernel_rfl) aY
abbrev rn:o:=o.agg [.int .i8 2,.int .i32 4,.int .u8 0,.int .i64 0,.int .i64 0,.str []]
theorem WJ(f:Nat)(ag ad:o)(ax:Option (TypeId×Nat))(bj P O:J)(c:Int)(ab:o→j→Prop)(aY:(c=27→cx (j.au 11 [(0,(sL f ag ad ax)),(1,bj),(2,J.made [.int .u8 27] 1 true),(3,P),(4,O)]) ⟨0,0,0,0,6⟩ (rn)∧∀(oQ:j),cy (j.au 11 [(0,(sL f ag ad ax)),(1,bj),(2,J.made [.int .u8 27] 1 true),(3,P),(4,O)]) ⟨0,0,0,0,6⟩ (rn) oQ→bF 5 (oQ.next) (dy (2^30-4) l3 (j.mk (oQ.next+3) (j.aT oQ)) ⟨0,0,0,0,6⟩ c∧∀(jw:j),dz ground (j.mk (oQ.next+3) (j.aT oQ)) ⟨0,0,0,0,6⟩ c jw→bN 5 (jw.next) (ab (.tuple []) jw)))∧(¬c=27→(c=91→ab (.tuple []) (j.au 27 [(0,⟨[.agg [.func (.func 87) [.ptr (some ⟨0,0,0,0,6⟩)] [],.slice (some ⟨17,0,0,0,1⟩) 2 2,ag,.bool false,.ptr (some ⟨1,0,0,0,5⟩),ad]],6,true,false,0,0,0,ax⟩),(1,bj),(2,J.made [.int .u8 27] 1 true),(3,P),(4,O),(16,J.made [.int .u8 c] 1 true),(17,J.made [.int .u8 27,.int .u8 c] 1 false (some (5,0)))]))∧(¬c=91→(c=79→ab (.tuple []) (j.au 29 [(0,⟨[.agg [.func (.func 88) [.ptr (some ⟨0,0,0,0,6⟩)] [],.slice (some ⟨19,0,0,0,1⟩) 2 2,ag,.bool false,.ptr (some ⟨1,0,0,0,5⟩),ad]],6,true,false,0,0,0,ax⟩),(1,bj),(2,J.made [.int .u8 27] 1 true),(3,P),(4,O),(18,J.made [.int .u8 c] 1 true),(19,J.made [.int .u8 27,.int .u8 c] 1 false (some (5,0)))]))∧(¬c=79→dy (2^30-4) w9 (j.au 15 [(0,(sL f ag ad ax)),(1,bj),(2,J.made [.int .u8 27] 1 true),(3,P),(4,O)]) ⟨0,0,0,0,6⟩ c∧∀(FT:j),dz rm (j.au 15 [(0,(sL f ag ad ax)),(1,bj),(2,J.made [.int .u8 27] 1 true),(3,P),(4,O)]) ⟨0,0,0,0,6⟩ c FT→bN 5 (FT.next) (ab (.tuple []) FT))))) :
 ∃v p,aI Tryz.prog aw 59 [.ptr (some ⟨0,0,0,0,6⟩),.int .u8 c] (j.of [b1 0 f 1 (.slice (some ⟨2,0,0,0,1⟩) 1 1) ag false ad ax,bj,J.made [.int .u8 27] 1 true,P,O]) v p∧ab v p :=
 cf bU mixed AG (aq:= .aN 2000 .nil (.aN 5000 .nil (.aN 8000 .nil .nil))) (by kernel_rfl) aY
abbrev xa:o:= .func (.func 30) [.ptr (some ⟨0,0,0,0,6⟩)] []
abbrev xb:o:=o.agg [.int .i8 2,.int .i32 1,.int .u8 0,.int .i64 0,.int .i64 0,.str []]
abbrev xc:o:=o.agg [.int .i8 1,.int .i32 79,.int .u8 2,.int .i64 0,.int .i64 0,.str []]
abbrev nM(c:Int):o:=o.agg [.int .i8 2,.int .i32 (ha c),.int .u8 0,.int .i64 0,.int .i64 0,.str []]
abbrev FU(c:Int):o:=o.agg [.int .i8 2,.int .i32 (21+(c-80)),.int .u8 0,.int .i64 0,.int .i64 0,.str []]
abbrev MO(f:Nat)(aV:o)(ag:o)(ad:o):o:=o.agg [(eG f),aV,ag,.bool false,.ptr (some ⟨1,0,0,0,5⟩),ad]
abbrev uI(f:Nat)(aV:o)(ag:o)(ad:o)(ax:Option (TypeId×Nat)):J:=⟨[(MO f aV ag ad)],6,true,false,0,0,0,ax⟩
abbrev pQ(f:Nat)(aV:o)(ag:o)(ad:o)(ax:Option (TypeId×Nat))(bj:J)(K:J)(P:J)(O:J):j:=(j.au 21 [(0,(uI f aV ag ad ax)),(1,bj),(2,K),(3,P),(4,O)])
theorem WK(f:Nat)(aV ag ad:o)(ax:Option (TypeId×Nat))(bj K P O:J)(c:Int)(ab:o→j→Prop)(aY:(0<ha c→cx (j.au 14 [(0,(uI f aV ag ad ax)),(1,bj),(2,K),(3,P),(4,O)]) ⟨0,0,0,0,6⟩ ((nM c))∧∀(FV:j),cy (j.au 14 [(0,(uI f aV ag ad ax)),(1,bj),(2,K),(3,P),(4,O)]) ⟨0,0,0,0,6⟩ ((nM c)) FV→bN 5 (FV.next) (ab (.tuple []) FV))∧(¬0<ha c→(80≤c→(c≤83→(0≤c-80∧c-80≤255)∧(-2147483648≤c-80∧c-80≤2147483647)∧(-2147483648≤21+(c-80)∧21+(c-80)≤2147483647)∧cx (j.au 23 [(0,(uI f aV ag ad ax)),(1,bj),(2,K),(3,P),(4,O)]) ⟨0,0,0,0,6⟩ ((FU c))∧∀(FW:j),cy (j.au 23 [(0,(uI f aV ag ad ax)),(1,bj),(2,K),(3,P),(4,O)]) ⟨0,0,0,0,6⟩ ((FU c)) FW→bN 5 (FW.next) (ab (.tuple []) FW))∧(¬c≤83→(c=77→cx (pQ f aV ag ad ax bj K P O) ⟨0,0,0,0,6⟩ (xb)∧∀(gm:j),cy (pQ f aV ag ad ax bj K P O) ⟨0,0,0,0,6⟩ (xb) gm→bN 5 (gm.next) (ab (.tuple []) gm))∧(¬c=77→cx (pQ f aV ag ad ax bj K P O) ⟨0,0,0,0,6⟩ (xc)∧∀(dF:j),cy (pQ f aV ag ad ax bj K P O) ⟨0,0,0,0,6⟩ (xc) dF→bF 5 (dF.next) (cj env.D 66 ⟨0,0,0,0,6⟩ (j.mk (dF.next+6) (dF.2))=some (xa)∧dy (2^30-4) l3 (j.mk (dF.next+6) (j.aT dF)) ⟨0,0,0,0,6⟩ c∧∀(sP:j),dz ground (j.mk (dF.next+6) (j.aT dF)) ⟨0,0,0,0,6⟩ c sP→bN 5 (sP.next) (ab (.tuple []) sP)))))∧(¬80≤c→(c=77→cx (pQ f aV ag ad ax bj K P O) ⟨0,0,0,0,6⟩ (xb)∧∀(gm:j),cy (pQ f aV ag ad ax bj K P O) ⟨0,0,0,0,6⟩ (xb) gm→bN 5 (gm.next) (ab (.tuple []) gm))∧(¬c=77→cx (pQ f aV ag ad ax bj K P O) ⟨0,0,0,0,6⟩ (xc)∧∀(dF:j),cy (pQ f aV ag ad ax bj K P O) ⟨0,0,0,0,6⟩ (xc) dF→bF 5 (dF.next) (cj env.D 66 ⟨0,0,0,0,6⟩ (j.mk (dF.next+6) (dF.2))=some (xa)∧dy (2^30-4) l3 (j.mk (dF.next+6) (j.aT dF)) ⟨0,0,0,0,6⟩ c∧∀(sP:j),dz ground (j.mk (dF.next+6) (j.aT dF)) ⟨0,0,0,0,6⟩ c sP→bN 5 (sP.next) (ab (.tuple []) sP)))))) :
 ∃v p,aI Tryz.prog aw 88 [.ptr (some ⟨0,0,0,0,6⟩),.int .u8 c] (j.of [b1 0 f 1 aV ag false ad ax,bj,K,P,O]) v p∧ab v p :=
 cf bU mixed AG (aq:= .aN 1001 .nil (.aN 3001 (.aN 3004 (ah 4002 (ah 4003 (ah 4004 .nil))) (.aN 5001 .nil (.aA (.val 8003 (xa)) .nil))) (.aN 5001 .nil (.aA (.val 8003 (xa)) .nil)))) (by kernel_rfl) aY
theorem MP{h:j}{d k:Nat}{aF:cB}{f:Nat}{cl:Bool}{bl:fY}{kept hold az:Bytes}{es:List bw}(g:dP h d aF f cl bl kept hold az es):dP ⟨h.next+k,h.aT⟩ d aF f cl bl kept hold az es where
 ex:=g.ex
 ig:=g.ig
 lt:=by have:=g.lt;show d<h.next+k∧aF.u<h.next+k∧aF.k<h.next+k∧aF.I<h.next+k∧aF.U<h.next+k;omega
 ne:=g.ne
theorem WL{l h:j}{d k:Nat}{aF aO:cB}(cL:Fr l h d aF aO):Fr l ⟨h.next+k,h.aT⟩ d aF aO where
 next:=by have:=cL.next;show l.next≤h.next+k;omega
 get:=cL.get
 ids:=cL.ids
theorem xd(x:Bytes):List.take x.length (aJ x)=aJ x:=by
 have e:x.length=(aJ x).length:=by simp [aJ]
 rw [e,List.take_length]
theorem WM{h:j}{aF:cB}{cl:Bool}{bl:fY}{kept hold az:Bytes}{es:List bw}(g:dP h 0 aF (cD .ground) cl bl kept hold az es):cj (b4.D env) 66 ⟨0,0,0,0,6⟩ h=some (.func (.func 30) [.ptr (some ⟨0,0,0,0,6⟩)] []):=by
 obtain⟨aV,ag,ad,an,e,_⟩:=g.ex;unfold cj;rw [e]
 kernel_rfl
theorem MQ{l h:j}{cJ:o}{e:bw}{aZ aF:cB}{f:Nat}{bl:fY}{kept az:Bytes}{es:List bw}{c:UInt8}{k:Nat}(bJ:5≤h.next)(f':dP h 0 aF f false bl kept [] az es∧Fr l h 0 aZ aF)(he:cJ=di e)(cs:es.length<2^30-8)
 {Q:j→Prop} (eF:∀aa aO,cm aa 0 aO (Keys.ground ⟨.ground,[],[],az⟩ c).1 (es++(e::(Keys.ground ⟨.ground,[],[],az⟩ c).2))→Fr l aa 0 aZ aO→Q aa) :
 cx h ⟨0,0,0,0,6⟩ cJ∧∀cI,cy h ⟨0,0,0,0,6⟩ cJ cI→(_root_.cond (Nat.ble 5 cI.next&&true) (dy (2^30-4) l3 ⟨cI.next+k,cI.aT⟩ ⟨0,0,0,0,6⟩ c.toNat ∧
  ∀aa,dz Keys.ground ⟨cI.next+k,cI.aT⟩ ⟨0,0,0,0,6⟩ c.toNat aa→_root_.cond (Nat.ble 5 aa.next) (Q aa) False) False)∧cj (b4.D env) 66 ⟨0,0,0,0,6⟩ ⟨cI.next+k,cI.aT⟩=some (.func (.func 30) [.ptr (some ⟨0,0,0,0,6⟩)] []):=by
 refine⟨FG f'.1 he (by omega) (by simp),fun cI t=> ?_⟩;have aM:=t.next
 obtain⟨aO,dA,fZ⟩:=FF t f'.1 f'.2 he (by simp);have WN:cm ⟨cI.next+k,cI.aT⟩ 0 aO ⟨.ground,[],[],az⟩ (es++[e]):=⟨.nil,MP dA,trivial⟩
 refine⟨?_,WM (MP dA)⟩;rw [Nat.ble_eq.mpr (by omega)];refine w' (n:=cI.next+k) rfl (by omega) ⟨WN,WL fZ⟩ (by simp;omega) (by simp) ⟨rfl,rfl⟩ fun aa WO MR WQ=>eF aa WO (by rw [List.append_assoc]at MR;exact MR) WQ
theorem MS{l h:j}{cJ:o}{e:bw}{aZ aF:cB}{f:Nat}{bl:fY}{kept az:Bytes}{es:List bw}{c:UInt8}{k:Nat}(bJ:5≤h.next)(f':dP h 0 aF f false bl kept [] az es∧Fr l h 0 aZ aF)(he:cJ=di e)(cs:es.length<2^30-8)
 {Q:j→Prop} (eF:∀aa aO,cm aa 0 aO (Keys.ground ⟨.ground,[],[],az⟩ c).1 (es++(e::(Keys.ground ⟨.ground,[],[],az⟩ c).2))→Fr l aa 0 aZ aO→Q aa) :
 cx h ⟨0,0,0,0,6⟩ cJ∧∀cI,cy h ⟨0,0,0,0,6⟩ cJ cI→_root_.cond (Nat.ble 5 cI.next&&true) (cj (b4.D env) 66 ⟨0,0,0,0,6⟩ ⟨cI.next+k,cI.aT⟩=some (.func (.func 30) [.ptr (some ⟨0,0,0,0,6⟩)] [])∧dy (2^30-4) l3 ⟨cI.next+k,cI.aT⟩ ⟨0,0,0,0,6⟩ c.toNat ∧
  ∀aa,dz Keys.ground ⟨cI.next+k,cI.aT⟩ ⟨0,0,0,0,6⟩ c.toNat aa→_root_.cond (Nat.ble 5 aa.next) (Q aa) False) False:=by
 obtain⟨a,b⟩:=MQ (k:=k) bJ f' he cs eF;refine⟨a,fun cI t=> ?_⟩;obtain⟨ba,bW⟩:=b cI t;have aM:=t.next
 rw [Nat.ble_eq.mpr (by omega)]at ba⊢;exact⟨bW,ba⟩
def ey(s:bI)(c:UInt8):Prop:=s.hold=[]∧(s.b8=.dc∨s.b8=.sequence)
theorem WR{H:j}{d:Nat}{aF:cB}{s:bI}{es:List bw}{c:UInt8}(g:cm H d aF s es)(cs:es.length<2^30-8)(d':ey s c):∃aR,aI Tryz.prog aw 106 [.ptr (some ⟨d,0,0,0,6⟩),.int .u8 c.toNat] H (.tuple []) aR ∧
 ∃aO,cm aR d aO (Keys.bad s c).1 (es++(Keys.bad s c).2)∧Fr H aR d aF aO:=by
 refine sO ?_ g;intro bl aV ag ad an aE bx bt bk bz K P O aZ aq gs cQ;obtain⟨ao,ac,ai⟩:=mQ gs;obtain⟨b8,kept,hold,az⟩:=s;obtain⟨p,ae⟩:=d';simp only at p ae aq gs ao ac ai⊢;subst p
 have my:bl=.grown []∧decide (b8=pC.cC)=false:=by
  rcases ae with rfl|rfl
  ·cases bl with
   |grown C=>cases C with
    |nil=>exact⟨rfl,rfl⟩
    |cons a b=>exact aq.elim
   |_=>exact aq.elim
  ·cases bl with
   |grown C=>cases C with
    |nil=>exact⟨rfl,rfl⟩
    |cons a b=>exact aq.elim
   |_=>exact aq.elim
 obtain⟨rfl,mO⟩:=my;rw [mO]at gs⊢;obtain⟨kz,R,m,aG,rfl,df⟩:=ao;have cw:aZ.k=2:=by omega
 rw [cw,j.eX]at df;simp only [List.getElem?_cons_zero,List.getElem?_cons_succ,Option.some.injEq,List.nil_append]at df;simp only [List.length_nil]at ac ai⊢;subst df;rw [cw,mO]at ac ai;rw [cw];have wz:∀x:List UInt8,List.take x.length (List.drop 0 (aJ x))=aJ x:=fun x=>xd x
 obtain⟨v,aa,aD,rfl,q⟩:=WI (cD b8) ag ad an (ch [] bx bt bk bz aE) P O (aJ kept) R m aG kept.length c.toNat (fun v aa=>v=.tuple []∧∃aO,cm aa 0 aO (Keys.bad ⟨b8,kept,[],az⟩ c).1 (es++(Keys.bad ⟨b8,kept,[],az⟩ c).2)∧Fr (j.of [b1 0 (cD b8) 1 (.slice (some ⟨2,R,0,0,1⟩) kept.length kept.length) ag false ad an,ch [] bx bt bk bz aE,ct (aJ kept) 1 R m aG cF,P,O]) aa 0 aZ aO) (by
  delta FP ed FQ eG
  refine⟨rfl,by simp [aJ];try omega,⟨kept,wz kept⟩,?_⟩
  exact MS (k:=6) (e:=gM kept) (by show 5≤13;decide) (iu (n:=13) (f:=cD b8) (cl:=false) (bl:= .grown []) (kept:=kept) (hold:=[]) (k:=2) (bx:=bx) (bt:=bt) (bk:=bk) (bz:=bz) (aV:= .slice (some ⟨2,R,0,0,1⟩) kept.length kept.length) (ag:=ag) (ad:=ad) (an:=an) (aE:=aE) rfl (by decide) (by kernel_rfl) (by kernel_rfl) (.inr cw) (by kernel_rfl) (by kernel_rfl)
   (nJ (es:=aJ kept) (R:=R) (m:=m) (f:=aG) (by decide) rfl rfl (by kernel_rfl)) (by decide) ac ai cQ (.inr (.inr ⟨rfl,cw⟩))) (by rw [xd,iZ];rfl) cs fun aa aO dA fZ=>⟨rfl,aO,dA,fZ⟩)
 exact⟨aa,aD,q⟩
theorem WS:∀args h a,jV (2^30-8) ey Keys.bad args h=some a→a.dr Tryz.prog aw 106 args h:=ri fun H d aF s es c g cs aB d'=>WR g (by omega) d'
noncomputable def MT:e9:=MN.add 106 (jV (2^30-8) ey Keys.bad)
theorem WT:eP Tryz.prog aw MT:=AG.add WS
theorem WU{l h:j}{cJ:o}{e:bw}{aZ aF:cB}{f:Nat}{bl:fY}{kept az:Bytes}{es:List bw}{c:UInt8}{k:Nat}(bJ:5≤h.next)(f':dP h 0 aF f false bl kept [] az es∧Fr l h 0 aZ aF)(he:cJ=di e)(cs:es.length<2^30-8)
 {Q:j→Prop} (eF:∀aa aO,cm aa 0 aO (Keys.ground ⟨.ground,[],[],az⟩ c).1 (es++(e::(Keys.ground ⟨.ground,[],[],az⟩ c).2))→Fr l aa 0 aZ aO→Q aa) :
 cx h ⟨0,0,0,0,6⟩ cJ∧∀cI,cy h ⟨0,0,0,0,6⟩ cJ cI→_root_.cond (Nat.ble 5 cI.next&&true) (dy (2^30-4) l3 ⟨cI.next+k,cI.aT⟩ ⟨0,0,0,0,6⟩ c.toNat ∧
  ∀aa,dz Keys.ground ⟨cI.next+k,cI.aT⟩ ⟨0,0,0,0,6⟩ c.toNat aa→_root_.cond (Nat.ble 5 aa.next) (Q aa) False) False:=by
 obtain⟨a,b⟩:=MQ (k:=k) bJ f' he cs eF;exact⟨a,fun cI t=>(b cI t).1⟩
theorem MU{h:j}{k n:Nat}{l:Bytes}{es:List o}(ao:k≠0)(aM:n=l.length)(he:es=aJ l)(e:h.get k=some (J.made es 1 false cF)):jb h 0 k (.slice (some ⟨k,0,0,0,1⟩) n n) (.grown []) l:=nJ (R:=0) (m:=0) (f:=0) ao aM he e
def xe(s:bI)(c:UInt8):Prop:=s.hold=[]∧s.b8=.dw
theorem WV{H:j}{d:Nat}{aF:cB}{s:bI}{es:List bw}{c:UInt8}(g:cm H d aF s es)(cs:es.length<2^30-8)(d':xe s c):∃aR,aI Tryz.prog aw 59 [.ptr (some ⟨d,0,0,0,6⟩),.int .u8 c.toNat] H (.tuple []) aR ∧
 ∃aO,cm aR d aO (Keys.dw s c).1 (es++(Keys.dw s c).2)∧Fr H aR d aF aO:=by
 refine sO ?_ g;intro bl aV ag ad an aE bx bt bk bz K P O aZ aq gs cQ;obtain⟨ao,ac,ai⟩:=mQ gs;obtain⟨b8,kept,hold,az⟩:=s;obtain⟨p,ae⟩:=d';simp only at p ae aq gs ao ac ai⊢;subst p ae;cases bl with
 |nil=>exact aq.elim
 |grown C=>exact aq.elim
 |one =>
  obtain⟨kz,rfl,df,rfl⟩:=ao;have cw:aZ.k=2:=by omega
  rw [cw,j.eX]at df;simp only [List.getElem?_cons_zero,List.getElem?_cons_succ,Option.some.injEq]at df;subst df;rw [cw]at gs ac ai⊢
  obtain⟨v,aa,aD,rfl,q⟩:=WJ (cD .dw) ag ad an (ch [] bx bt bk bz aE) P O c.toNat (fun v aa=>v=.tuple []∧∃aO,cm aa 0 aO (Keys.dw ⟨.dw,[27],[],az⟩ c).1 (es++(Keys.dw ⟨.dw,[27],[],az⟩ c).2)∧Fr (j.of [b1 0 (cD .dw) 1 (.slice (some ⟨2,0,0,0,1⟩) 1 1) ag false ad an,ch [] bx bt bk bz aE,J.made [.int .u8 27] 1 true,P,O]) aa 0 aZ aO) (by
   delta sL FL FK eG rn
   refine⟨fun e=> ?_,fun e=>⟨fun bC=>⟨rfl,?_⟩,fun bC=>⟨fun b2=>⟨rfl,?_⟩,fun b2=> ?_⟩⟩⟩
   ·have ar:c=27:=UInt8.toNat_inj.1 (by show c.toNat=27;omega);rw [show Keys.dw ⟨.dw,[27],[],az⟩ c=((Keys.ground ⟨.ground,[],[],az⟩ c).1,e4 4::(Keys.ground ⟨.ground,[],[],az⟩ c).2)by simp [Keys.dw,ar,tell]]
    exact WU (k:=3) (e:=e4 4) (by show 5≤11;decide) (iu (n:=11) (f:=cD .dw) (cl:=false) (bl:= .one) (kept:=[27]) (hold:=[]) (k:=2) (bx:=bx) (bt:=bt) (bk:=bk) (bz:=bz) (aV:= .slice (some ⟨2,0,0,0,1⟩) 1 1) (ag:=ag) (ad:=ad) (an:=an) (aE:=aE) rfl (by decide) (by kernel_rfl) (by kernel_rfl) (.inr cw) (by kernel_rfl) (by kernel_rfl)
     ⟨by decide,rfl,by kernel_rfl,rfl⟩ (by decide) ac ai cQ (.inr (.inr ⟨rfl,cw⟩))) rfl cs fun aa aO dA fZ=>⟨rfl,aO,dA,fZ⟩
   ·have ar:c=91:=UInt8.toNat_inj.1 (by show c.toNat=91;omega);rw [show Keys.dw ⟨.dw,[27],[],az⟩ c=(⟨.sequence,[27,c],[],az⟩,[])by simp [Keys.dw,ar],List.append_nil]
    exact oO (s:=⟨.sequence,[27,c],[],az⟩) (iu (n:=27) (k:=17) (bl:= .grown []) (bx:=bx) (bt:=bt) (bk:=bk) (bz:=bz) (aV:= .slice (some ⟨17,0,0,0,1⟩) 2 2) (ag:=ag) (ad:=ad) (an:=an) (aE:=aE) rfl (by decide) (by kernel_rfl) (by kernel_rfl) (.inr cw) (by kernel_rfl) (by kernel_rfl)
     (MU (es:=[.int .u8 27,.int .u8 c.toNat]) (by decide) rfl rfl (by kernel_rfl)) (by decide) ac ai cQ (.inr (.inl (by decide)))) (by simp [pN])
   ·have ar:c=79:=UInt8.toNat_inj.1 (by show c.toNat=79;omega);rw [show Keys.dw ⟨.dw,[27],[],az⟩ c=(⟨.single,[27,c],[],az⟩,[])by simp [Keys.dw,ar],List.append_nil]
    exact oO (s:=⟨.single,[27,c],[],az⟩) (iu (n:=29) (k:=19) (bl:= .grown []) (bx:=bx) (bt:=bt) (bk:=bk) (bz:=bz) (aV:= .slice (some ⟨19,0,0,0,1⟩) 2 2) (ag:=ag) (ad:=ad) (an:=an) (aE:=aE) rfl (by decide) (by kernel_rfl) (by kernel_rfl) (.inr cw) (by kernel_rfl) (by kernel_rfl)
     (MU (es:=[.int .u8 27,.int .u8 c.toNat]) (by decide) rfl rfl (by kernel_rfl)) (by decide) ac ai cQ (.inr (.inl (by decide)))) (by simp [pN])
   ·have ar:c≠27:=by rintro rfl;exact e rfl
    have kN:c≠91:=by rintro rfl;exact bC rfl
    have r3:c≠79:=by rintro rfl;exact b2 rfl
    rw [show Keys.dw ⟨.dw,[27],[],az⟩ c=rm ⟨.dw,[27],[],az⟩ c by simp [Keys.dw,ar,kN,r3,rm]]
    exact w' (s:=⟨.dw,[27],[],az⟩) (n:=15) rfl (by decide) (AF (iu (n:=15) (f:=cD .dw) (cl:=false) (bl:= .one) (kept:=[27]) (hold:=[]) (k:=2) (bx:=bx) (bt:=bt) (bk:=bk) (bz:=bz) (aV:= .slice (some ⟨2,0,0,0,1⟩) 1 1) (ag:=ag) (ad:=ad) (an:=an) (aE:=aE) rfl (by decide) (by kernel_rfl) (by kernel_rfl) (.inr cw) (by kernel_rfl) (by kernel_rfl)
     ⟨by decide,rfl,by kernel_rfl,rfl⟩ (by decide) ac ai cQ (.inr (.inr ⟨rfl,cw⟩))) trivial) (by omega) (by simp) ⟨rfl,ar,.inr rfl⟩ fun aa aO dA fZ=>⟨rfl,aO,dA,fZ⟩)
  exact⟨aa,aD,q⟩
theorem WW:∀args h a,jV (2^30-8) xe Keys.dw args h=some a→a.dr Tryz.prog aw 59 args h:=ri fun H d aF s es c g cs aB d'=>WV g cs d'
theorem xf(c:Nat):ha (c:Int)=hK c:=by
 unfold ha hK;by_cases p:65≤c∧c≤68
 ·have ae:(65:Int)≤c∧(c:Int)≤68:=by omega
  rw [if_pos p,if_pos ae]
 ·have ae:¬((65:Int)≤c∧(c:Int)≤68):=by omega
  rw [if_neg p,if_neg ae];by_cases bg:c=72
  ·have bO:(c:Int)=72:=by omega
   rw [if_pos bg,if_pos bO]
  ·have bO:¬(c:Int)=72:=by omega
   rw [if_neg bg,if_neg bO];by_cases bJ:c=70
   ·have du:(c:Int)=70:=by omega
    rw [if_pos bJ,if_pos du]
   ·have du:¬(c:Int)=70:=by omega
    rw [if_neg bJ,if_neg du]
def singleR(s:bI)(c:UInt8):Prop:=s.hold=[]∧s.b8=.single
theorem WX{H:j}{d:Nat}{aF:cB}{s:bI}{es:List bw}{c:UInt8}(g:cm H d aF s es)(cs:es.length<2^30-8)(d':singleR s c):∃aR,aI Tryz.prog aw 88 [.ptr (some ⟨d,0,0,0,6⟩),.int .u8 c.toNat] H (.tuple []) aR ∧
 ∃aO,cm aR d aO (Keys.single s c).1 (es++(Keys.single s c).2)∧Fr H aR d aF aO:=by
 refine sO ?_ g;intro bl aV ag ad an aE bx bt bk bz K P O aZ aq gs cQ;obtain⟨ao,ac,ai⟩:=mQ gs;obtain⟨b8,kept,hold,az⟩:=s;obtain⟨p,ae⟩:=d';simp only at p ae aq gs ao ac ai⊢;subst p ae
 have my:bl=.grown []:=by
  cases bl with
  |grown C=>cases C with
   |nil=>rfl
   |cons a b=>exact aq.elim
  |_=>exact aq.elim
 subst my;have ar:=c.toNat_lt;have cw:aZ.k=2:=by have:=ao.1;omega
 have WY:∀h:j,h.get 2=some K→jb h 0 2 aV (.grown []) kept:=fun h e=>by obtain⟨kz,R,m,aG,a',df⟩:=ao;rw [cw]at a' df;refine⟨by decide,R,m,aG,a',?_⟩;rw [e,←df,j.eX];rfl
 have mk:∀{h:j}{n:Nat},h.next=n→5≤n→h.get 0=some (b1 0 (cD .single) 1 aV ag false ad an)→h.get 1=some (ch [] bx bt bk bz aE)→h.get 2=some K→h.get 3=some P→h.get 4=some O →
  dP h 0 ⟨1,2,aZ.I,aZ.U⟩ (cD .single) false (.grown []) kept [] az es∧Fr (j.of [b1 0 (cD .single) 1 aV ag false ad an,ch [] bx bt bk bz aE,K,P,O]) h 0 aZ ⟨1,2,aZ.I,aZ.U⟩:=fun aM bJ b' bu bC b2 cp =>
  iu aM bJ b' bu (.inr cw) b2 cp (WY _ bC) (by omega) ac ai cQ (.inr (.inr ⟨rfl,cw⟩))
 have t1:∀{h:j}{n:Nat}{cJ:o}(e:bw),h.next=n→5≤n→h.get 0=some (b1 0 (cD .single) 1 aV ag false ad an)→h.get 1=some (ch [] bx bt bk bz aE)→h.get 2=some K→h.get 3=some P→h.get 4=some O→cJ=di e→Keys.single ⟨.single,kept,[],az⟩ c=tell ⟨.single,kept,[],az⟩ e →
  cx h ⟨0,0,0,0,6⟩ cJ∧∀aa,cy h ⟨0,0,0,0,6⟩ cJ aa→_root_.cond (Nat.ble 5 aa.next) (o.tuple []=o.tuple []∧∃aO,cm aa 0 aO (Keys.single ⟨.single,kept,[],az⟩ c).1 (es++(Keys.single ⟨.single,kept,[],az⟩ c).2)∧Fr (j.of [b1 0 (cD .single) 1 aV ag false ad an,ch [] bx bt bk bz aE,K,P,O]) aa 0 aZ aO) False:=fun {h n cJ} e aM bJ b' bu bC b2 cp he hm=>by
  rw [hm];exact sM (n:=n) aM bJ (mk aM bJ b' bu bC b2 cp) he (by omega) (by simp) fun aa aO dA fZ=>⟨rfl,aO,w6 dA,fZ⟩
 have t2:∀{h:j}{n:Nat}{cJ:o}(e:bw),h.next=n→5≤n→h.get 0=some (b1 0 (cD .single) 1 aV ag false ad an)→h.get 1=some (ch [] bx bt bk bz aE)→h.get 2=some K→h.get 3=some P→h.get 4=some O→cJ=di e→Keys.single ⟨.single,kept,[],az⟩ c=((Keys.ground ⟨.ground,[],[],az⟩ c).1,e::(Keys.ground ⟨.ground,[],[],az⟩ c).2) →
  cx h ⟨0,0,0,0,6⟩ cJ∧∀cI,cy h ⟨0,0,0,0,6⟩ cJ cI→_root_.cond (Nat.ble 5 cI.next&&true) (cj (b4.D env) 66 ⟨0,0,0,0,6⟩ ⟨cI.next+6,cI.aT⟩=some (.func (.func 30) [.ptr (some ⟨0,0,0,0,6⟩)] [])∧dy (2^30-4) l3 ⟨cI.next+6,cI.aT⟩ ⟨0,0,0,0,6⟩ c.toNat ∧
  ∀aa,dz Keys.ground ⟨cI.next+6,cI.aT⟩ ⟨0,0,0,0,6⟩ c.toNat aa→_root_.cond (Nat.ble 5 aa.next) (o.tuple []=o.tuple []∧∃aO,cm aa 0 aO (Keys.single ⟨.single,kept,[],az⟩ c).1 (es++(Keys.single ⟨.single,kept,[],az⟩ c).2)∧Fr (j.of [b1 0 (cD .single) 1 aV ag false ad an,ch [] bx bt bk bz aE,K,P,O]) aa 0 aZ aO) False) False:=fun {h n cJ} e aM bJ b' bu bC b2 cp he hm=>by
  rw [hm];exact MS (k:=6) (by omega) (mk aM bJ b' bu bC b2 cp) he cs fun aa aO dA fZ=>⟨rfl,aO,dA,fZ⟩
 obtain⟨v,aa,aD,rfl,q⟩:=WK (cD .single) aV ag ad an (ch [] bx bt bk bz aE) K P O c.toNat (fun v aa=>v=.tuple []∧∃aO,cm aa 0 aO (Keys.single ⟨.single,kept,[],az⟩ c).1 (es++(Keys.single ⟨.single,kept,[],az⟩ c).2)∧Fr (j.of [b1 0 (cD .single) 1 aV ag false ad an,ch [] bx bt bk bz aE,K,P,O]) aa 0 aZ aO) (by
  delta xa xc pQ uI MO eG xb FU nM
  rw [xf];have fE:0<hK c.toNat∨ ¬0<hK c.toNat:=by omega
  refine⟨fun e=> ?_,fun e=>⟨fun bC=>⟨fun b2=>⟨by omega,by omega,by omega,?_⟩,fun b2=>⟨fun cp=> ?_,fun cp=> ?_⟩⟩,fun bC=>⟨fun cp=> ?_,fun cp=> ?_⟩⟩⟩
  ·exact t1 (n:=14) (e4 (hK c.toNat)) rfl (by decide) (by kernel_rfl) (by kernel_rfl) (by kernel_rfl) (by kernel_rfl) (by kernel_rfl) rfl (by simp only [Keys.single];rw [if_pos e])
  ·exact t1 (n:=23) (e4 (21+(c.toNat-80))) rfl (by decide) (by kernel_rfl) (by kernel_rfl) (by kernel_rfl) (by kernel_rfl) (by kernel_rfl) rfl (by simp only [Keys.single];rw [if_neg e,if_pos (by omega)])
  ·omega
  ·exact t2 (n:=21) (gk 79 2) rfl (by decide) (by kernel_rfl) (by kernel_rfl) (by kernel_rfl) (by kernel_rfl) (by kernel_rfl) rfl (by simp only [Keys.single];rw [if_neg e,if_neg (by omega),if_neg (by omega)];rfl)
  ·exact t1 (n:=21) (e4 1) rfl (by decide) (by kernel_rfl) (by kernel_rfl) (by kernel_rfl) (by kernel_rfl) (by kernel_rfl) rfl (by simp only [Keys.single];rw [if_neg e,if_neg (by omega),if_pos (by omega)])
  ·exact t2 (n:=21) (gk 79 2) rfl (by decide) (by kernel_rfl) (by kernel_rfl) (by kernel_rfl) (by kernel_rfl) (by kernel_rfl) rfl (by simp only [Keys.single];rw [if_neg e,if_neg (by omega),if_neg (by omega)];rfl))
 exact⟨aa,aD,q⟩
theorem WZ:∀args h a,jV (2^30-8) singleR Keys.single args h=some a→a.dr Tryz.prog aw 88 args h:=ri fun H d aF s es c g cs aB d'=>WX g cs d'
noncomputable def xg:e9:=(MT.add 59 (jV (2^30-8) xe Keys.dw)).add 88 (jV (2^30-8) singleR Keys.single)
theorem AH:eP Tryz.prog aw xg:=(WT.add WW).add WZ
def ev.pick(k:Nat):ev→Option ev
 |.or I (.one v1 p W0) (.or ik (.one v2 ae W1) (.one v3 bg W2)) =>
  match k with
  |0=>some (.one v1 p (I::W0))
  |1=>some (.one v2 ae ((¬I)::ik::W1))
  |_=>some (.one v3 bg ((¬I)::(¬ik)::W2))
 |_=>none
noncomputable def xh(k:Nat):List o→j→Option ev:=fun args h=>(wN args h).bind (ev.pick k)
theorem W3{f:FuncId}{args:List o}{h:j}{k:Nat} :∀{a b:ev},a.dr Tryz.prog aw f args h→ev.pick k a=some b→b.dr Tryz.prog aw f args h:=by
 intro a b aS av;unfold ev.pick at av;split at av<;>first|(cases av;done)|skip
 split at av<;>simp only [Option.some.injEq]at av<;>subst av<;>intro ac
 ·exact aS.1 (ac _ List.mem_cons_self) (fun x af=>ac x (List.mem_cons_of_mem _ af))
 ·exact(aS.2 (ac _ List.mem_cons_self)).1 (ac _ (List.mem_cons_of_mem _ List.mem_cons_self)) (fun x af=>ac x (List.mem_cons_of_mem _ (List.mem_cons_of_mem _ af)))
 ·exact(aS.2 (ac _ List.mem_cons_self)).2 (ac _ (List.mem_cons_of_mem _ List.mem_cons_self)) (fun x af=>ac x (List.mem_cons_of_mem _ (List.mem_cons_of_mem _ af)))
theorem FX(k:Nat):∀args h a,xh k args h=some a→a.dr Tryz.prog aw 107 args h:=by
 intro args h a e;unfold xh at e;cases aq:wN args h with
 |none=>rw [aq]at e;cases e
 |some b=>rw [aq]at e;exact W3 (L3 args h b aq) e
noncomputable def W4:e9:=xg.add 107 (xh 0)
theorem W5:eP Tryz.prog aw W4:=AH.add (FX 0)
noncomputable def W6:e9:=xg.add 107 (xh 1)
theorem W7:eP Tryz.prog aw W6:=AH.add (FX 1)
noncomputable def W8:e9:=xg.add 107 (xh 2)
theorem W9:eP Tryz.prog aw W8:=AH.add (FX 2)
abbrev uJ(R:Nat)(len:Nat):o:=o.slice (some ⟨2,R,0,0,1⟩) len len
abbrev xi(R:Nat)(len:Nat):o:=o.slice (some {id:=2,R:=R+1,idx:=0,bP:=0,es:=1}) (len+1) (len+1)
abbrev W':dh:=(.aN 6024 (ah 7007 (ah 8006 (.aN 9001 .nil (ah 11005 .nil)))) (he 12004 (.aN 1007 .nil .nil)))
abbrev dp(l:List o)(R:Nat)(m:Nat)(aG:Nat)(c:Int):J:=⟨l++[.int .u8 c],1,false,false,R+1,m,if m=R then List.length l else min aG (List.length l),some (5,0)⟩
abbrev ee(l:List o)(len:Nat)(c:Int):o:=o.agg [.int .i8 7,.int .i32 0,.int .u8 0,.int .i64 0,.int .i64 0,.str (strOf (List.take (len+1) (List.drop 0 (List.append l [.int .u8 c]))))]
abbrev AI(a0:Int)(ap:Int)(a2:Int)(a3:Int)(n:Int)(c:Int):o:=o.agg [.int .u8 (ca (Prod.snd (b9 a0 ap a2 a3 n c)) 0 a0),.int .u8 (ca (Prod.snd (b9 a0 ap a2 a3 n c)) 1 ap),.int .u8 (ca (Prod.snd (b9 a0 ap a2 a3 n c)) 2 a2),.int .u8 (ca (Prod.snd (b9 a0 ap a2 a3 n c)) 3 a3),.int .i64 0]
abbrev uK(f:Nat)(ag:o)(ad:o)(R:Nat)(len:Nat):o:=o.agg [(eG f),(uJ R len),ag,.bool false,.ptr (some ⟨1,0,0,0,5⟩),ad]
abbrev xj(f:Nat)(ag:o)(ad:o)(R:Nat)(len:Nat):o:=o.agg [(eG f),(xi R len),ag,.bool false,.ptr (some ⟨1,0,0,0,5⟩),ad]
abbrev MV:dh:=(he 4004 (.aN 4005 (ah 5007 .nil) (ah 6019 (ah 6023 W'))))
abbrev oR(aE:Option (TypeId×Nat))(R:Nat)(a0:Int)(ap:Int)(a2:Int)(a3:Int)(n:Int)(c:Int):J:=⟨[(AI a0 ap a2 a3 n c)],5,true,false,0,0,0,aE⟩
abbrev gQ(aE:Option (TypeId×Nat))(R:Nat)(a0:Int)(ap:Int)(a2:Int)(a3:Int)(n:Int)(c:Int):J:=⟨[(sJ a0 ap a2 a3 n c)],5,true,false,0,0,0,aE⟩
abbrev hx(f:Nat)(ag:o)(ad:o)(ax:Option (TypeId×Nat))(R:Nat)(len:Nat):J:=⟨[(uK f ag ad R len)],6,true,false,0,0,0,ax⟩
abbrev hy(f:Nat)(ag:o)(ad:o)(ax:Option (TypeId×Nat))(R:Nat)(len:Nat):J:=⟨[(xj f ag ad R len)],6,true,false,0,0,0,ax⟩
abbrev xk(f:Nat)(ag:o)(ad:o)(ax:Option (TypeId×Nat))(aE:Option (TypeId×Nat))(P:J)(O:J)(l:List o)(R:Nat)(m:Nat)(aG:Nat)(len:Nat)(a0:Int)(ap:Int)(a2:Int)(a3:Int)(n:Int)(c:Int):j:=(j.au 94 [(0,(hx f ag ad ax R len)),(1,(gQ aE R a0 ap a2 a3 n c)),(2,(ed l R m aG)),(3,P),(4,O),(27,(c8 c)),(70,J.made [.int .u8 c] 1 true)])
abbrev xl(f:Nat)(ag:o)(ad:o)(ax:Option (TypeId×Nat))(aE:Option (TypeId×Nat))(P:J)(O:J)(l:List o)(R:Nat)(m:Nat)(aG:Nat)(len:Nat)(a0:Int)(ap:Int)(a2:Int)(a3:Int)(n:Int)(c:Int):j:=(j.au 104 [(0,(hy f ag ad ax R len)),(1,(gQ aE R a0 ap a2 a3 n c)),(2,(dp l R m aG c)),(3,P),(4,O),(27,(c8 c)),(70,J.made [.int .u8 c] 1 true),(81,J.made [.int .u8 c] 1 true)])
abbrev xm(f:Nat)(ag:o)(ad:o)(ax:Option (TypeId×Nat))(aE:Option (TypeId×Nat))(P:J)(O:J)(l:List o)(R:Nat)(m:Nat)(aG:Nat)(len:Nat)(a0:Int)(ap:Int)(a2:Int)(a3:Int)(n:Int)(c:Int):j:=(j.au 99 [(0,(hx f ag ad ax R len)),(1,(oR aE R a0 ap a2 a3 n c)),(2,(ed l R m aG)),(3,P),(4,O),(27,(c8 c)),(70,J.made [.int .u8 c] 1 true),(94,J.made [.int .i32 65533] 1 true)])
theorem Xa(f:Nat)(ag ad:o)(ax aE:Option (TypeId×Nat))(P O:J)(l:List o)(R m aG len:Nat)(a0 ap a2 a3 n c:Int)(ab:o→j→Prop)(aY:(0<(len:Int)→((0:Int)≤0∧0<(len:Int))∧R=R∧l[0]? =some (.int .u8 (a8 l 0))∧(a8 l 0=27→(b9 a0 ap a2 a3 n c).1=[]∧ir a0 ap a2 a3 n c∧(0<(↑(List.length (Prod.snd (b9 a0 ap a2 a3 n c))):Int)→(R=R∧0+len=List.length l∧len<len+1∧(len+1+(len+1)/4+512)*1≤281474976710656∧len+1<4611686018427387904)∧ab (.tuple []) (j.au 62 [(0,(hy f ag ad ax R len)),(1,(gQ aE R a0 ap a2 a3 n c)),(2,(dp l R m aG c)),(3,P),(4,O),(29,(c8 c)),(57,J.made [.int .u8 c] 1 true)]))∧(¬0<(↑(List.length (Prod.snd (b9 a0 ap a2 a3 n c))):Int)→((0:Int)≤1∧1≤(len:Int)∧len≤len)∧R=R∧1+(len-1)≤List.length l∧(∃b3,List.take (len-1) (List.drop (bH.idx ⟨2,R,1,0,1⟩) (J.bi (ed l R m aG)))=aJ b3)∧Nat.le (Nat.succ (List.length (strOf (List.take (len-1) (List.drop 1 l)))+List.length [UInt8.ofNat (Int.toNat c)])) (2^62)∧List.length (strOf (List.take (len-1) (List.drop 1 l))++[UInt8.ofNat (Int.toNat c)])<1099511627776∧(valid (strOf (List.take (len-1) (List.drop 1 l))++[UInt8.ofNat (Int.toNat c)])=true→(R=R∧0+len=List.length l∧len<len+1∧(len+1+(len+1)/4+512)*1≤281474976710656∧len+1<4611686018427387904)∧((0:Int)≤1∧1≤(↑(len+1):Int)∧len+1≤len+1)∧R+1=R+1∧1+(len+1-1)≤List.length (l++[.int .u8 c])∧(∃b3,List.take (len+1-1) (List.drop (bH.idx {id:=2,R:=R+1,idx:=1,bP:=0,es:=1}) (J.bi (dp l R m aG c)))=aJ b3)∧List.length (strOf (List.take (len+1-1) (List.drop 1 (List.append l [.int .u8 c]))))<1099511627776∧(valid (strOf (List.take (len+1-1) (List.drop 1 (List.append l [.int .u8 c]))))=true→False)∧(valid (strOf (List.take (len+1-1) (List.drop 1 (List.append l [.int .u8 c]))))=false→R+1=R+1∧0+(len+1)≤List.length (l++[.int .u8 c])∧(∃b3,List.take (len+1) (List.drop (bH.idx {id:=2,R:=R+1,idx:=0,bP:=0,es:=1}) (J.bi (dp l R m aG c)))=aJ b3)∧cx (j.au 106 [(0,(hy f ag ad ax R len)),(1,(gQ aE R a0 ap a2 a3 n c)),(2,(dp l R m aG c)),(3,P),(4,O),(29,(c8 c)),(72,J.made [.int .u8 c] 1 true),(83,J.made [.int .u8 c] 1 true)]) ⟨0,0,0,0,6⟩ ((ee l len c))∧∀(b6:j),cy (j.au 106 [(0,(hy f ag ad ax R len)),(1,(gQ aE R a0 ap a2 a3 n c)),(2,(dp l R m aG c)),(3,P),(4,O),(29,(c8 c)),(72,J.made [.int .u8 c] 1 true),(83,J.made [.int .u8 c] 1 true)]) ⟨0,0,0,0,6⟩ ((ee l len c)) b6→bN 5 (b6.next) (ab (.tuple []) b6)))∧(valid (strOf (List.take (len-1) (List.drop 1 l))++[UInt8.ofNat (Int.toNat c)])=false→((↑(List.length (Prod.snd (b9 a0 ap a2 a3 n c))):Int)=0→dy (2^30-8) ey (j.au 96 [(0,(hx f ag ad ax R len)),(1,(gQ aE R a0 ap a2 a3 n c)),(2,(ed l R m aG)),(3,P),(4,O),(29,(c8 c)),(72,J.made [.int .u8 c] 1 true)]) ⟨0,0,0,0,6⟩ c∧∀(cn:j),dz bad (j.au 96 [(0,(hx f ag ad ax R len)),(1,(gQ aE R a0 ap a2 a3 n c)),(2,(ed l R m aG)),(3,P),(4,O),(29,(c8 c)),(72,J.made [.int .u8 c] 1 true)]) ⟨0,0,0,0,6⟩ c cn→bN 5 (cn.next) (ab (.tuple []) cn))∧(¬(↑(List.length (Prod.snd (b9 a0 ap a2 a3 n c))):Int)=0→dy (2^30-8) ey (j.au 101 [(0,(hx f ag ad ax R len)),(1,(oR aE R a0 ap a2 a3 n c)),(2,(ed l R m aG)),(3,P),(4,O),(29,(c8 c)),(72,J.made [.int .u8 c] 1 true),(96,J.made [.int .i32 65533] 1 true)]) ⟨0,0,0,0,6⟩ c∧∀(cn:j),dz bad (j.au 101 [(0,(hx f ag ad ax R len)),(1,(oR aE R a0 ap a2 a3 n c)),(2,(ed l R m aG)),(3,P),(4,O),(29,(c8 c)),(72,J.made [.int .u8 c] 1 true),(96,J.made [.int .i32 65533] 1 true)]) ⟨0,0,0,0,6⟩ c cn→bN 5 (cn.next) (ab (.tuple []) cn)))))∧(¬a8 l 0=27→(b9 a0 ap a2 a3 n c).1=[]∧ir a0 ap a2 a3 n c∧(0<(↑(List.length (Prod.snd (b9 a0 ap a2 a3 n c))):Int)→(R=R∧0+len=List.length l∧len<len+1∧(len+1+(len+1)/4+512)*1≤281474976710656∧len+1<4611686018427387904)∧ab (.tuple []) (j.au 60 [(0,(hy f ag ad ax R len)),(1,(gQ aE R a0 ap a2 a3 n c)),(2,(dp l R m aG c)),(3,P),(4,O),(27,(c8 c)),(55,J.made [.int .u8 c] 1 true)]))∧(¬0<(↑(List.length (Prod.snd (b9 a0 ap a2 a3 n c))):Int)→R=R∧0+(len-0)≤List.length l∧(∃b3,List.take (len-0) (List.drop (bH.idx ⟨2,R,0,0,1⟩) (J.bi (ed l R m aG)))=aJ b3)∧Nat.le (Nat.succ (List.length (strOf (List.take (len-0) l))+List.length [UInt8.ofNat (Int.toNat c)])) (2^62)∧List.length (strOf (List.take (len-0) l)++[UInt8.ofNat (Int.toNat c)])<1099511627776∧(valid (strOf (List.take (len-0) l)++[UInt8.ofNat (Int.toNat c)])=true→(R=R∧0+len=List.length l∧len<len+1∧(len+1+(len+1)/4+512)*1≤281474976710656∧len+1<4611686018427387904)∧R+1=R+1∧0+(len+1-0)≤List.length (l++[.int .u8 c])∧(∃b3,List.take (len+1-0) (List.drop (bH.idx {id:=2,R:=R+1,idx:=0,bP:=0,es:=1}) (J.bi (dp l R m aG c)))=aJ b3)∧List.length (strOf (List.take (len+1-0) (List.drop 0 (List.append l [.int .u8 c]))))<1099511627776∧(valid (strOf (List.take (len+1-0) (List.drop 0 (List.append l [.int .u8 c]))))=true→False)∧(valid (strOf (List.take (len+1-0) (List.drop 0 (List.append l [.int .u8 c]))))=false→R+1=R+1∧0+(len+1)≤List.length (l++[.int .u8 c])∧(∃b3,List.take (len+1) (List.drop (bH.idx {id:=2,R:=R+1,idx:=0,bP:=0,es:=1}) (J.bi (dp l R m aG c)))=aJ b3)∧cx (xl f ag ad ax aE P O l R m aG len a0 ap a2 a3 n c) ⟨0,0,0,0,6⟩ ((ee l len c))∧∀(b6:j),cy (xl f ag ad ax aE P O l R m aG len a0 ap a2 a3 n c) ⟨0,0,0,0,6⟩ ((ee l len c)) b6→bN 5 (b6.next) (ab (.tuple []) b6)))∧(valid (strOf (List.take (len-0) l)++[UInt8.ofNat (Int.toNat c)])=false→((↑(List.length (Prod.snd (b9 a0 ap a2 a3 n c))):Int)=0→dy (2^30-8) ey (xk f ag ad ax aE P O l R m aG len a0 ap a2 a3 n c) ⟨0,0,0,0,6⟩ c∧∀(cn:j),dz bad (xk f ag ad ax aE P O l R m aG len a0 ap a2 a3 n c) ⟨0,0,0,0,6⟩ c cn→bN 5 (cn.next) (ab (.tuple []) cn))∧(¬(↑(List.length (Prod.snd (b9 a0 ap a2 a3 n c))):Int)=0→dy (2^30-8) ey (xm f ag ad ax aE P O l R m aG len a0 ap a2 a3 n c) ⟨0,0,0,0,6⟩ c∧∀(cn:j),dz bad (xm f ag ad ax aE P O l R m aG len a0 ap a2 a3 n c) ⟨0,0,0,0,6⟩ c cn→bN 5 (cn.next) (ab (.tuple []) cn))))))∧(¬0<(len:Int)→(b9 a0 ap a2 a3 n c).1=[]∧ir a0 ap a2 a3 n c∧(0<(↑(List.length (Prod.snd (b9 a0 ap a2 a3 n c))):Int)→(R=R∧0+len=List.length l∧len<len+1∧(len+1+(len+1)/4+512)*1≤281474976710656∧len+1<4611686018427387904)∧ab (.tuple []) (j.au 60 [(0,(hy f ag ad ax R len)),(1,(gQ aE R a0 ap a2 a3 n c)),(2,(dp l R m aG c)),(3,P),(4,O),(27,(c8 c)),(55,J.made [.int .u8 c] 1 true)]))∧(¬0<(↑(List.length (Prod.snd (b9 a0 ap a2 a3 n c))):Int)→R=R∧0+(len-0)≤List.length l∧(∃b3,List.take (len-0) (List.drop (bH.idx ⟨2,R,0,0,1⟩) (J.bi (ed l R m aG)))=aJ b3)∧Nat.le (Nat.succ (List.length (strOf (List.take (len-0) l))+List.length [UInt8.ofNat (Int.toNat c)])) (2^62)∧List.length (strOf (List.take (len-0) l)++[UInt8.ofNat (Int.toNat c)])<1099511627776∧(valid (strOf (List.take (len-0) l)++[UInt8.ofNat (Int.toNat c)])=true→(R=R∧0+len=List.length l∧len<len+1∧(len+1+(len+1)/4+512)*1≤281474976710656∧len+1<4611686018427387904)∧R+1=R+1∧0+(len+1-0)≤List.length (l++[.int .u8 c])∧(∃b3,List.take (len+1-0) (List.drop (bH.idx {id:=2,R:=R+1,idx:=0,bP:=0,es:=1}) (J.bi (dp l R m aG c)))=aJ b3)∧List.length (strOf (List.take (len+1-0) (List.drop 0 (List.append l [.int .u8 c]))))<1099511627776∧(valid (strOf (List.take (len+1-0) (List.drop 0 (List.append l [.int .u8 c]))))=true→False)∧(valid (strOf (List.take (len+1-0) (List.drop 0 (List.append l [.int .u8 c]))))=false→R+1=R+1∧0+(len+1)≤List.length (l++[.int .u8 c])∧(∃b3,List.take (len+1) (List.drop (bH.idx {id:=2,R:=R+1,idx:=0,bP:=0,es:=1}) (J.bi (dp l R m aG c)))=aJ b3)∧cx (xl f ag ad ax aE P O l R m aG len a0 ap a2 a3 n c) ⟨0,0,0,0,6⟩ ((ee l len c))∧∀(b6:j),cy (xl f ag ad ax aE P O l R m aG len a0 ap a2 a3 n c) ⟨0,0,0,0,6⟩ ((ee l len c)) b6→bN 5 (b6.next) (ab (.tuple []) b6)))∧(valid (strOf (List.take (len-0) l)++[UInt8.ofNat (Int.toNat c)])=false→((↑(List.length (Prod.snd (b9 a0 ap a2 a3 n c))):Int)=0→dy (2^30-8) ey (xk f ag ad ax aE P O l R m aG len a0 ap a2 a3 n c) ⟨0,0,0,0,6⟩ c∧∀(cn:j),dz bad (xk f ag ad ax aE P O l R m aG len a0 ap a2 a3 n c) ⟨0,0,0,0,6⟩ c cn→bN 5 (cn.next) (ab (.tuple []) cn))∧(¬(↑(List.length (Prod.snd (b9 a0 ap a2 a3 n c))):Int)=0→dy (2^30-8) ey (xm f ag ad ax aE P O l R m aG len a0 ap a2 a3 n c) ⟨0,0,0,0,6⟩ c∧∀(cn:j),dz bad (xm f ag ad ax aE P O l R m aG len a0 ap a2 a3 n c) ⟨0,0,0,0,6⟩ c cn→bN 5 (cn.next) (ab (.tuple []) cn)))))) :
 ∃v p,aI Tryz.prog aw 90 [.ptr (some ⟨0,0,0,0,6⟩),.int .u8 c] (j.of [b1 0 f 1 (.slice (some ⟨2,R,0,0,1⟩) len len) ag false ad ax,hb a0 ap a2 a3 n aE,ct l 1 R m aG cF,P,O]) v p∧ab v p :=
 cf bU mixed W5 (aq:= .aN 1005 (ah 1011 (ah 1012 (.aN 1013 (he 4004 (.aN 4005 (ah 5007 .nil) (ah 6018 (ah 6019 (ah 6023 (.aN 6024 (ah 7007 (ah 8005 (ah 8006 (.aN 9001 .nil (ah 11005 .nil))))) (he 12004 (.aN 1007 .nil .nil)))))))) MV))) MV) (by kernel_rfl) aY
abbrev MW:dh:=(ah 7007 (ah 8006 (.aN 9001 .nil (ah 11005 .nil))))
abbrev FY:dh:=(ah 8005 (ah 8006 (.aN 9001 .nil (ah 11005 .nil))))
abbrev FZ:dh:=(.aN 6024 MW (he 12004 (.aN 1007 .nil .nil)))
abbrev AJ:dh:=(ah 6023 (.aN 6024 (ah 7007 FY) (he 12004 (.aN 1007 .nil .nil))))
abbrev AK:dh:=(.aN 6010 MW (ah 6019 (ah 6023 FZ)))
abbrev pR(f:Nat)(ag:o)(ad:o)(ax:Option (TypeId×Nat))(aE:Option (TypeId×Nat))(P:J)(O:J)(l:List o)(R:Nat)(m:Nat)(aG:Nat)(len:Nat)(a0:Int)(ap:Int)(a2:Int)(a3:Int)(n:Int)(c:Int):j:=(j.au 95 [(0,(hx f ag ad ax R len)),(1,(gQ aE R a0 ap a2 a3 n c)),(2,(ed l R m aG)),(3,P),(4,O),(27,(c8 c)),(30,(jv a0 ap a2 a3 n c)),(71,J.made [.int .u8 c] 1 true)])
abbrev xn(f:Nat)(ag:o)(ad:o)(ax:Option (TypeId×Nat))(aE:Option (TypeId×Nat))(P:J)(O:J)(l:List o)(R:Nat)(m:Nat)(aG:Nat)(len:Nat)(a0:Int)(ap:Int)(a2:Int)(a3:Int)(n:Int)(c:Int):j:=(j.au 97 [(0,(hx f ag ad ax R len)),(1,(gQ aE R a0 ap a2 a3 n c)),(2,(ed l R m aG)),(3,P),(4,O),(29,(c8 c)),(32,(jv a0 ap a2 a3 n c)),(73,J.made [.int .u8 c] 1 true)])
abbrev pS(f:Nat)(ag:o)(ad:o)(ax:Option (TypeId×Nat))(aE:Option (TypeId×Nat))(P:J)(O:J)(l:List o)(R:Nat)(m:Nat)(aG:Nat)(len:Nat)(a0:Int)(ap:Int)(a2:Int)(a3:Int)(n:Int)(c:Int):j:=(j.au 104 [(0,(hy f ag ad ax R len)),(1,(gQ aE R a0 ap a2 a3 n c)),(2,(dp l R m aG c)),(3,P),(4,O),(27,(c8 c)),(30,(jv a0 ap a2 a3 n c)),(82,J.made [.int .u8 c] 1 true)])
abbrev pT(f:Nat)(ag:o)(ad:o)(ax:Option (TypeId×Nat))(aE:Option (TypeId×Nat))(P:J)(O:J)(l:List o)(R:Nat)(m:Nat)(aG:Nat)(len:Nat)(a0:Int)(ap:Int)(a2:Int)(a3:Int)(n:Int)(c:Int):j:=(j.au 105 [(0,(hy f ag ad ax R len)),(1,(gQ aE R a0 ap a2 a3 n c)),(2,(dp l R m aG c)),(3,P),(4,O),(27,(c8 c)),(30,(jv a0 ap a2 a3 n c)),(82,J.made [.int .u8 c] 1 true)])
abbrev xo(f:Nat)(ag:o)(ad:o)(ax:Option (TypeId×Nat))(aE:Option (TypeId×Nat))(P:J)(O:J)(l:List o)(R:Nat)(m:Nat)(aG:Nat)(len:Nat)(a0:Int)(ap:Int)(a2:Int)(a3:Int)(n:Int)(c:Int):j:=(j.au 106 [(0,(hy f ag ad ax R len)),(1,(gQ aE R a0 ap a2 a3 n c)),(2,(dp l R m aG c)),(3,P),(4,O),(29,(c8 c)),(32,(jv a0 ap a2 a3 n c)),(84,J.made [.int .u8 c] 1 true)])
abbrev xp(f:Nat)(ag:o)(ad:o)(ax:Option (TypeId×Nat))(aE:Option (TypeId×Nat))(P:J)(O:J)(l:List o)(R:Nat)(m:Nat)(aG:Nat)(len:Nat)(a0:Int)(ap:Int)(a2:Int)(a3:Int)(n:Int)(c:Int):j:=(j.au 107 [(0,(hy f ag ad ax R len)),(1,(gQ aE R a0 ap a2 a3 n c)),(2,(dp l R m aG c)),(3,P),(4,O),(29,(c8 c)),(32,(jv a0 ap a2 a3 n c)),(84,J.made [.int .u8 c] 1 true)])
abbrev pU(f:Nat)(ag:o)(ad:o)(ax:Option (TypeId×Nat))(aE:Option (TypeId×Nat))(P:J)(O:J)(l:List o)(R:Nat)(m:Nat)(aG:Nat)(len:Nat)(a0:Int)(ap:Int)(a2:Int)(a3:Int)(n:Int)(c:Int):j:=(j.au 104 [(0,(hy f ag ad ax R len)),(1,(gQ aE R a0 ap a2 a3 n c)),(2,(dp l R m aG c)),(3,P),(4,O),(27,(c8 c)),(30,(jv a0 ap a2 a3 n c)),(71,J.made [.int .u8 c] 1 true),(82,J.made [.int .u8 c] 1 true)])
abbrev pV(f:Nat)(ag:o)(ad:o)(ax:Option (TypeId×Nat))(aE:Option (TypeId×Nat))(P:J)(O:J)(l:List o)(R:Nat)(m:Nat)(aG:Nat)(len:Nat)(a0:Int)(ap:Int)(a2:Int)(a3:Int)(n:Int)(c:Int):j:=(j.au 105 [(0,(hy f ag ad ax R len)),(1,(gQ aE R a0 ap a2 a3 n c)),(2,(dp l R m aG c)),(3,P),(4,O),(27,(c8 c)),(30,(jv a0 ap a2 a3 n c)),(71,J.made [.int .u8 c] 1 true),(82,J.made [.int .u8 c] 1 true)])
abbrev xq(f:Nat)(ag:o)(ad:o)(ax:Option (TypeId×Nat))(aE:Option (TypeId×Nat))(P:J)(O:J)(l:List o)(R:Nat)(m:Nat)(aG:Nat)(len:Nat)(a0:Int)(ap:Int)(a2:Int)(a3:Int)(n:Int)(c:Int):j:=(j.au 106 [(0,(hy f ag ad ax R len)),(1,(gQ aE R a0 ap a2 a3 n c)),(2,(dp l R m aG c)),(3,P),(4,O),(29,(c8 c)),(32,(jv a0 ap a2 a3 n c)),(73,J.made [.int .u8 c] 1 true),(84,J.made [.int .u8 c] 1 true)])
abbrev xr(f:Nat)(ag:o)(ad:o)(ax:Option (TypeId×Nat))(aE:Option (TypeId×Nat))(P:J)(O:J)(l:List o)(R:Nat)(m:Nat)(aG:Nat)(len:Nat)(a0:Int)(ap:Int)(a2:Int)(a3:Int)(n:Int)(c:Int):j:=(j.au 107 [(0,(hy f ag ad ax R len)),(1,(gQ aE R a0 ap a2 a3 n c)),(2,(dp l R m aG c)),(3,P),(4,O),(29,(c8 c)),(32,(jv a0 ap a2 a3 n c)),(73,J.made [.int .u8 c] 1 true),(84,J.made [.int .u8 c] 1 true)])
abbrev pW(f:Nat)(ag:o)(ad:o)(ax:Option (TypeId×Nat))(aE:Option (TypeId×Nat))(P:J)(O:J)(l:List o)(R:Nat)(m:Nat)(aG:Nat)(len:Nat)(a0:Int)(ap:Int)(a2:Int)(a3:Int)(n:Int)(c:Int):j:=(j.au 100 [(0,(hx f ag ad ax R len)),(1,(oR aE R a0 ap a2 a3 n c)),(2,(ed l R m aG)),(3,P),(4,O),(27,(c8 c)),(30,(jv a0 ap a2 a3 n c)),(71,J.made [.int .u8 c] 1 true),(95,J.made [.int .i32 65533] 1 true)])
abbrev xt(f:Nat)(ag:o)(ad:o)(ax:Option (TypeId×Nat))(aE:Option (TypeId×Nat))(P:J)(O:J)(l:List o)(R:Nat)(m:Nat)(aG:Nat)(len:Nat)(a0:Int)(ap:Int)(a2:Int)(a3:Int)(n:Int)(c:Int):j:=(j.au 102 [(0,(hx f ag ad ax R len)),(1,(oR aE R a0 ap a2 a3 n c)),(2,(ed l R m aG)),(3,P),(4,O),(29,(c8 c)),(32,(jv a0 ap a2 a3 n c)),(73,J.made [.int .u8 c] 1 true),(97,J.made [.int .i32 65533] 1 true)])
theorem Xb(f:Nat)(ag ad:o)(ax aE:Option (TypeId×Nat))(P O:J)(l:List o)(R m aG len:Nat)(a0 ap a2 a3 n c:Int)(ab:o→j→Prop)(aY:(0<(len:Int)→((0:Int)≤0∧0<(len:Int))∧R=R∧l[0]? =some (.int .u8 (a8 l 0))∧(a8 l 0=27→ ¬(b9 a0 ap a2 a3 n c).1=[]∧List.length (Prod.fst (b9 a0 ap a2 a3 n c))=1∧ir a0 ap a2 a3 n c∧(0<(↑(List.length (Prod.snd (b9 a0 ap a2 a3 n c))):Int)→((len:Int)=1→(R=R∧0+len=List.length l∧len<len+1∧(len+1+(len+1)/4+512)*1≤281474976710656∧len+1<4611686018427387904)∧((0:Int)≤1∧1≤(↑(len+1):Int)∧len+1≤len+1)∧R+1=R+1∧1+(len+1-1)≤List.length (l++[.int .u8 c])∧(∃b3,List.take (len+1-1) (List.drop (bH.idx {id:=2,R:=R+1,idx:=1,bP:=0,es:=1}) (J.bi (dp l R m aG c)))=aJ b3)∧List.length (strOf (List.take (len+1-1) (List.drop 1 (List.append l [.int .u8 c]))))<1099511627776∧(valid (strOf (List.take (len+1-1) (List.drop 1 (List.append l [.int .u8 c]))))=true→cx (xo f ag ad ax aE P O l R m aG len a0 ap a2 a3 n c) ⟨0,0,0,0,6⟩ ((ic a0 ap a2 a3 n c))∧∀(cu:j),cy (xo f ag ad ax aE P O l R m aG len a0 ap a2 a3 n c) ⟨0,0,0,0,6⟩ ((ic a0 ap a2 a3 n c)) cu→bN 5 (cu.next) (ab (.tuple []) cu))∧(valid (strOf (List.take (len+1-1) (List.drop 1 (List.append l [.int .u8 c]))))=false→R+1=R+1∧0+(len+1)≤List.length (l++[.int .u8 c])∧(∃b3,List.take (len+1) (List.drop (bH.idx {id:=2,R:=R+1,idx:=0,bP:=0,es:=1}) (J.bi (dp l R m aG c)))=aJ b3)∧cx (xp f ag ad ax aE P O l R m aG len a0 ap a2 a3 n c) ⟨0,0,0,0,6⟩ ((ee l len c))∧∀(b6:j),cy (xp f ag ad ax aE P O l R m aG len a0 ap a2 a3 n c) ⟨0,0,0,0,6⟩ ((ee l len c)) b6→bN 5 (b6.next) (ab (.tuple []) b6)))∧(¬(len:Int)=1→((0:Int)≤1∧1≤(len:Int)∧len≤len)∧R=R∧1+(len-1)≤List.length l∧(∃b3,List.take (len-1) (List.drop (bH.idx ⟨2,R,1,0,1⟩) (J.bi (ed l R m aG)))=aJ b3)∧Nat.le (Nat.succ (List.length (strOf (List.take (len-1) (List.drop 1 l)))+List.length [UInt8.ofNat (Int.toNat c)])) (2^62)∧List.length (strOf (List.take (len-1) (List.drop 1 l))++[UInt8.ofNat (Int.toNat c)])<1099511627776∧(valid (strOf (List.take (len-1) (List.drop 1 l))++[UInt8.ofNat (Int.toNat c)])=true→(R=R∧0+len=List.length l∧len<len+1∧(len+1+(len+1)/4+512)*1≤281474976710656∧len+1<4611686018427387904)∧((0:Int)≤1∧1≤(↑(len+1):Int)∧len+1≤len+1)∧R+1=R+1∧1+(len+1-1)≤List.length (l++[.int .u8 c])∧(∃b3,List.take (len+1-1) (List.drop (bH.idx {id:=2,R:=R+1,idx:=1,bP:=0,es:=1}) (J.bi (dp l R m aG c)))=aJ b3)∧List.length (strOf (List.take (len+1-1) (List.drop 1 (List.append l [.int .u8 c]))))<1099511627776∧(valid (strOf (List.take (len+1-1) (List.drop 1 (List.append l [.int .u8 c]))))=true→cx (xq f ag ad ax aE P O l R m aG len a0 ap a2 a3 n c) ⟨0,0,0,0,6⟩ ((ic a0 ap a2 a3 n c))∧∀(cu:j),cy (xq f ag ad ax aE P O l R m aG len a0 ap a2 a3 n c) ⟨0,0,0,0,6⟩ ((ic a0 ap a2 a3 n c)) cu→bN 5 (cu.next) (ab (.tuple []) cu))∧(valid (strOf (List.take (len+1-1) (List.drop 1 (List.append l [.int .u8 c]))))=false→R+1=R+1∧0+(len+1)≤List.length (l++[.int .u8 c])∧(∃b3,List.take (len+1) (List.drop (bH.idx {id:=2,R:=R+1,idx:=0,bP:=0,es:=1}) (J.bi (dp l R m aG c)))=aJ b3)∧cx (xr f ag ad ax aE P O l R m aG len a0 ap a2 a3 n c) ⟨0,0,0,0,6⟩ ((ee l len c))∧∀(b6:j),cy (xr f ag ad ax aE P O l R m aG len a0 ap a2 a3 n c) ⟨0,0,0,0,6⟩ ((ee l len c)) b6→bN 5 (b6.next) (ab (.tuple []) b6)))∧(valid (strOf (List.take (len-1) (List.drop 1 l))++[UInt8.ofNat (Int.toNat c)])=false→((↑(List.length (Prod.snd (b9 a0 ap a2 a3 n c))):Int)=0→dy (2^30-8) ey (xn f ag ad ax aE P O l R m aG len a0 ap a2 a3 n c) ⟨0,0,0,0,6⟩ c∧∀(cn:j),dz bad (xn f ag ad ax aE P O l R m aG len a0 ap a2 a3 n c) ⟨0,0,0,0,6⟩ c cn→bN 5 (cn.next) (ab (.tuple []) cn))∧(¬(↑(List.length (Prod.snd (b9 a0 ap a2 a3 n c))):Int)=0→dy (2^30-8) ey (xt f ag ad ax aE P O l R m aG len a0 ap a2 a3 n c) ⟨0,0,0,0,6⟩ c∧∀(cn:j),dz bad (xt f ag ad ax aE P O l R m aG len a0 ap a2 a3 n c) ⟨0,0,0,0,6⟩ c cn→bN 5 (cn.next) (ab (.tuple []) cn)))))∧(¬0<(↑(List.length (Prod.snd (b9 a0 ap a2 a3 n c))):Int)→((len:Int)=1→(R=R∧0+len=List.length l∧len<len+1∧(len+1+(len+1)/4+512)*1≤281474976710656∧len+1<4611686018427387904)∧((0:Int)≤1∧1≤(↑(len+1):Int)∧len+1≤len+1)∧R+1=R+1∧1+(len+1-1)≤List.length (l++[.int .u8 c])∧(∃b3,List.take (len+1-1) (List.drop (bH.idx {id:=2,R:=R+1,idx:=1,bP:=0,es:=1}) (J.bi (dp l R m aG c)))=aJ b3)∧List.length (strOf (List.take (len+1-1) (List.drop 1 (List.append l [.int .u8 c]))))<1099511627776∧(valid (strOf (List.take (len+1-1) (List.drop 1 (List.append l [.int .u8 c]))))=true→cx (xo f ag ad ax aE P O l R m aG len a0 ap a2 a3 n c) ⟨0,0,0,0,6⟩ ((ic a0 ap a2 a3 n c))∧∀(cu:j),cy (xo f ag ad ax aE P O l R m aG len a0 ap a2 a3 n c) ⟨0,0,0,0,6⟩ ((ic a0 ap a2 a3 n c)) cu→bN 5 (cu.next) (ab (.tuple []) cu))∧(valid (strOf (List.take (len+1-1) (List.drop 1 (List.append l [.int .u8 c]))))=false→R+1=R+1∧0+(len+1)≤List.length (l++[.int .u8 c])∧(∃b3,List.take (len+1) (List.drop (bH.idx {id:=2,R:=R+1,idx:=0,bP:=0,es:=1}) (J.bi (dp l R m aG c)))=aJ b3)∧cx (xp f ag ad ax aE P O l R m aG len a0 ap a2 a3 n c) ⟨0,0,0,0,6⟩ ((ee l len c))∧∀(b6:j),cy (xp f ag ad ax aE P O l R m aG len a0 ap a2 a3 n c) ⟨0,0,0,0,6⟩ ((ee l len c)) b6→bN 5 (b6.next) (ab (.tuple []) b6)))∧(¬(len:Int)=1→((0:Int)≤1∧1≤(len:Int)∧len≤len)∧R=R∧1+(len-1)≤List.length l∧(∃b3,List.take (len-1) (List.drop (bH.idx ⟨2,R,1,0,1⟩) (J.bi (ed l R m aG)))=aJ b3)∧Nat.le (Nat.succ (List.length (strOf (List.take (len-1) (List.drop 1 l)))+List.length [UInt8.ofNat (Int.toNat c)])) (2^62)∧List.length (strOf (List.take (len-1) (List.drop 1 l))++[UInt8.ofNat (Int.toNat c)])<1099511627776∧(valid (strOf (List.take (len-1) (List.drop 1 l))++[UInt8.ofNat (Int.toNat c)])=true→(R=R∧0+len=List.length l∧len<len+1∧(len+1+(len+1)/4+512)*1≤281474976710656∧len+1<4611686018427387904)∧((0:Int)≤1∧1≤(↑(len+1):Int)∧len+1≤len+1)∧R+1=R+1∧1+(len+1-1)≤List.length (l++[.int .u8 c])∧(∃b3,List.take (len+1-1) (List.drop (bH.idx {id:=2,R:=R+1,idx:=1,bP:=0,es:=1}) (J.bi (dp l R m aG c)))=aJ b3)∧List.length (strOf (List.take (len+1-1) (List.drop 1 (List.append l [.int .u8 c]))))<1099511627776∧(valid (strOf (List.take (len+1-1) (List.drop 1 (List.append l [.int .u8 c]))))=true→cx (xq f ag ad ax aE P O l R m aG len a0 ap a2 a3 n c) ⟨0,0,0,0,6⟩ ((ic a0 ap a2 a3 n c))∧∀(cu:j),cy (xq f ag ad ax aE P O l R m aG len a0 ap a2 a3 n c) ⟨0,0,0,0,6⟩ ((ic a0 ap a2 a3 n c)) cu→bN 5 (cu.next) (ab (.tuple []) cu))∧(valid (strOf (List.take (len+1-1) (List.drop 1 (List.append l [.int .u8 c]))))=false→R+1=R+1∧0+(len+1)≤List.length (l++[.int .u8 c])∧(∃b3,List.take (len+1) (List.drop (bH.idx {id:=2,R:=R+1,idx:=0,bP:=0,es:=1}) (J.bi (dp l R m aG c)))=aJ b3)∧cx (xr f ag ad ax aE P O l R m aG len a0 ap a2 a3 n c) ⟨0,0,0,0,6⟩ ((ee l len c))∧∀(b6:j),cy (xr f ag ad ax aE P O l R m aG len a0 ap a2 a3 n c) ⟨0,0,0,0,6⟩ ((ee l len c)) b6→bN 5 (b6.next) (ab (.tuple []) b6)))∧(valid (strOf (List.take (len-1) (List.drop 1 l))++[UInt8.ofNat (Int.toNat c)])=false→((↑(List.length (Prod.snd (b9 a0 ap a2 a3 n c))):Int)=0→dy (2^30-8) ey (xn f ag ad ax aE P O l R m aG len a0 ap a2 a3 n c) ⟨0,0,0,0,6⟩ c∧∀(cn:j),dz bad (xn f ag ad ax aE P O l R m aG len a0 ap a2 a3 n c) ⟨0,0,0,0,6⟩ c cn→bN 5 (cn.next) (ab (.tuple []) cn))∧(¬(↑(List.length (Prod.snd (b9 a0 ap a2 a3 n c))):Int)=0→dy (2^30-8) ey (xt f ag ad ax aE P O l R m aG len a0 ap a2 a3 n c) ⟨0,0,0,0,6⟩ c∧∀(cn:j),dz bad (xt f ag ad ax aE P O l R m aG len a0 ap a2 a3 n c) ⟨0,0,0,0,6⟩ c cn→bN 5 (cn.next) (ab (.tuple []) cn))))))∧(¬a8 l 0=27→ ¬(b9 a0 ap a2 a3 n c).1=[]∧List.length (Prod.fst (b9 a0 ap a2 a3 n c))=1∧ir a0 ap a2 a3 n c∧(0<(↑(List.length (Prod.snd (b9 a0 ap a2 a3 n c))):Int)→((len:Int)=0→(R=R∧0+len=List.length l∧len<len+1∧(len+1+(len+1)/4+512)*1≤281474976710656∧len+1<4611686018427387904)∧R+1=R+1∧0+(len+1-0)≤List.length (l++[.int .u8 c])∧(∃b3,List.take (len+1-0) (List.drop (bH.idx {id:=2,R:=R+1,idx:=0,bP:=0,es:=1}) (J.bi (dp l R m aG c)))=aJ b3)∧List.length (strOf (List.take (len+1-0) (List.drop 0 (List.append l [.int .u8 c]))))<1099511627776∧(valid (strOf (List.take (len+1-0) (List.drop 0 (List.append l [.int .u8 c]))))=true→cx (pS f ag ad ax aE P O l R m aG len a0 ap a2 a3 n c) ⟨0,0,0,0,6⟩ ((fO a0 ap a2 a3 n c))∧∀(cu:j),cy (pS f ag ad ax aE P O l R m aG len a0 ap a2 a3 n c) ⟨0,0,0,0,6⟩ ((fO a0 ap a2 a3 n c)) cu→bN 5 (cu.next) (ab (.tuple []) cu))∧(valid (strOf (List.take (len+1-0) (List.drop 0 (List.append l [.int .u8 c]))))=false→R+1=R+1∧0+(len+1)≤List.length (l++[.int .u8 c])∧(∃b3,List.take (len+1) (List.drop (bH.idx {id:=2,R:=R+1,idx:=0,bP:=0,es:=1}) (J.bi (dp l R m aG c)))=aJ b3)∧cx (pT f ag ad ax aE P O l R m aG len a0 ap a2 a3 n c) ⟨0,0,0,0,6⟩ ((ee l len c))∧∀(b6:j),cy (pT f ag ad ax aE P O l R m aG len a0 ap a2 a3 n c) ⟨0,0,0,0,6⟩ ((ee l len c)) b6→bN 5 (b6.next) (ab (.tuple []) b6)))∧(¬(len:Int)=0→R=R∧0+(len-0)≤List.length l∧(∃b3,List.take (len-0) (List.drop (bH.idx ⟨2,R,0,0,1⟩) (J.bi (ed l R m aG)))=aJ b3)∧Nat.le (Nat.succ (List.length (strOf (List.take (len-0) l))+List.length [UInt8.ofNat (Int.toNat c)])) (2^62)∧List.length (strOf (List.take (len-0) l)++[UInt8.ofNat (Int.toNat c)])<1099511627776∧(valid (strOf (List.take (len-0) l)++[UInt8.ofNat (Int.toNat c)])=true→(R=R∧0+len=List.length l∧len<len+1∧(len+1+(len+1)/4+512)*1≤281474976710656∧len+1<4611686018427387904)∧R+1=R+1∧0+(len+1-0)≤List.length (l++[.int .u8 c])∧(∃b3,List.take (len+1-0) (List.drop (bH.idx {id:=2,R:=R+1,idx:=0,bP:=0,es:=1}) (J.bi (dp l R m aG c)))=aJ b3)∧List.length (strOf (List.take (len+1-0) (List.drop 0 (List.append l [.int .u8 c]))))<1099511627776∧(valid (strOf (List.take (len+1-0) (List.drop 0 (List.append l [.int .u8 c]))))=true→cx (pU f ag ad ax aE P O l R m aG len a0 ap a2 a3 n c) ⟨0,0,0,0,6⟩ ((fO a0 ap a2 a3 n c))∧∀(cu:j),cy (pU f ag ad ax aE P O l R m aG len a0 ap a2 a3 n c) ⟨0,0,0,0,6⟩ ((fO a0 ap a2 a3 n c)) cu→bN 5 (cu.next) (ab (.tuple []) cu))∧(valid (strOf (List.take (len+1-0) (List.drop 0 (List.append l [.int .u8 c]))))=false→R+1=R+1∧0+(len+1)≤List.length (l++[.int .u8 c])∧(∃b3,List.take (len+1) (List.drop (bH.idx {id:=2,R:=R+1,idx:=0,bP:=0,es:=1}) (J.bi (dp l R m aG c)))=aJ b3)∧cx (pV f ag ad ax aE P O l R m aG len a0 ap a2 a3 n c) ⟨0,0,0,0,6⟩ ((ee l len c))∧∀(b6:j),cy (pV f ag ad ax aE P O l R m aG len a0 ap a2 a3 n c) ⟨0,0,0,0,6⟩ ((ee l len c)) b6→bN 5 (b6.next) (ab (.tuple []) b6)))∧(valid (strOf (List.take (len-0) l)++[UInt8.ofNat (Int.toNat c)])=false→((↑(List.length (Prod.snd (b9 a0 ap a2 a3 n c))):Int)=0→dy (2^30-8) ey (pR f ag ad ax aE P O l R m aG len a0 ap a2 a3 n c) ⟨0,0,0,0,6⟩ c∧∀(cn:j),dz bad (pR f ag ad ax aE P O l R m aG len a0 ap a2 a3 n c) ⟨0,0,0,0,6⟩ c cn→bN 5 (cn.next) (ab (.tuple []) cn))∧(¬(↑(List.length (Prod.snd (b9 a0 ap a2 a3 n c))):Int)=0→dy (2^30-8) ey (pW f ag ad ax aE P O l R m aG len a0 ap a2 a3 n c) ⟨0,0,0,0,6⟩ c∧∀(cn:j),dz bad (pW f ag ad ax aE P O l R m aG len a0 ap a2 a3 n c) ⟨0,0,0,0,6⟩ c cn→bN 5 (cn.next) (ab (.tuple []) cn)))))∧(¬0<(↑(List.length (Prod.snd (b9 a0 ap a2 a3 n c))):Int)→((len:Int)=0→(R=R∧0+len=List.length l∧len<len+1∧(len+1+(len+1)/4+512)*1≤281474976710656∧len+1<4611686018427387904)∧R+1=R+1∧0+(len+1-0)≤List.length (l++[.int .u8 c])∧(∃b3,List.take (len+1-0) (List.drop (bH.idx {id:=2,R:=R+1,idx:=0,bP:=0,es:=1}) (J.bi (dp l R m aG c)))=aJ b3)∧List.length (strOf (List.take (len+1-0) (List.drop 0 (List.append l [.int .u8 c]))))<1099511627776∧(valid (strOf (List.take (len+1-0) (List.drop 0 (List.append l [.int .u8 c]))))=true→cx (pS f ag ad ax aE P O l R m aG len a0 ap a2 a3 n c) ⟨0,0,0,0,6⟩ ((fO a0 ap a2 a3 n c))∧∀(cu:j),cy (pS f ag ad ax aE P O l R m aG len a0 ap a2 a3 n c) ⟨0,0,0,0,6⟩ ((fO a0 ap a2 a3 n c)) cu→bN 5 (cu.next) (ab (.tuple []) cu))∧(valid (strOf (List.take (len+1-0) (List.drop 0 (List.append l [.int .u8 c]))))=false→R+1=R+1∧0+(len+1)≤List.length (l++[.int .u8 c])∧(∃b3,List.take (len+1) (List.drop (bH.idx {id:=2,R:=R+1,idx:=0,bP:=0,es:=1}) (J.bi (dp l R m aG c)))=aJ b3)∧cx (pT f ag ad ax aE P O l R m aG len a0 ap a2 a3 n c) ⟨0,0,0,0,6⟩ ((ee l len c))∧∀(b6:j),cy (pT f ag ad ax aE P O l R m aG len a0 ap a2 a3 n c) ⟨0,0,0,0,6⟩ ((ee l len c)) b6→bN 5 (b6.next) (ab (.tuple []) b6)))∧(¬(len:Int)=0→R=R∧0+(len-0)≤List.length l∧(∃b3,List.take (len-0) (List.drop (bH.idx ⟨2,R,0,0,1⟩) (J.bi (ed l R m aG)))=aJ b3)∧Nat.le (Nat.succ (List.length (strOf (List.take (len-0) l))+List.length [UInt8.ofNat (Int.toNat c)])) (2^62)∧List.length (strOf (List.take (len-0) l)++[UInt8.ofNat (Int.toNat c)])<1099511627776∧(valid (strOf (List.take (len-0) l)++[UInt8.ofNat (Int.toNat c)])=true→(R=R∧0+len=List.length l∧len<len+1∧(len+1+(len+1)/4+512)*1≤281474976710656∧len+1<4611686018427387904)∧R+1=R+1∧0+(len+1-0)≤List.length (l++[.int .u8 c])∧(∃b3,List.take (len+1-0) (List.drop (bH.idx {id:=2,R:=R+1,idx:=0,bP:=0,es:=1}) (J.bi (dp l R m aG c)))=aJ b3)∧List.length (strOf (List.take (len+1-0) (List.drop 0 (List.append l [.int .u8 c]))))<1099511627776∧(valid (strOf (List.take (len+1-0) (List.drop 0 (List.append l [.int .u8 c]))))=true→cx (pU f ag ad ax aE P O l R m aG len a0 ap a2 a3 n c) ⟨0,0,0,0,6⟩ ((fO a0 ap a2 a3 n c))∧∀(cu:j),cy (pU f ag ad ax aE P O l R m aG len a0 ap a2 a3 n c) ⟨0,0,0,0,6⟩ ((fO a0 ap a2 a3 n c)) cu→bN 5 (cu.next) (ab (.tuple []) cu))∧(valid (strOf (List.take (len+1-0) (List.drop 0 (List.append l [.int .u8 c]))))=false→R+1=R+1∧0+(len+1)≤List.length (l++[.int .u8 c])∧(∃b3,List.take (len+1) (List.drop (bH.idx {id:=2,R:=R+1,idx:=0,bP:=0,es:=1}) (J.bi (dp l R m aG c)))=aJ b3)∧cx (pV f ag ad ax aE P O l R m aG len a0 ap a2 a3 n c) ⟨0,0,0,0,6⟩ ((ee l len c))∧∀(b6:j),cy (pV f ag ad ax aE P O l R m aG len a0 ap a2 a3 n c) ⟨0,0,0,0,6⟩ ((ee l len c)) b6→bN 5 (b6.next) (ab (.tuple []) b6)))∧(valid (strOf (List.take (len-0) l)++[UInt8.ofNat (Int.toNat c)])=false→((↑(List.length (Prod.snd (b9 a0 ap a2 a3 n c))):Int)=0→dy (2^30-8) ey (pR f ag ad ax aE P O l R m aG len a0 ap a2 a3 n c) ⟨0,0,0,0,6⟩ c∧∀(cn:j),dz bad (pR f ag ad ax aE P O l R m aG len a0 ap a2 a3 n c) ⟨0,0,0,0,6⟩ c cn→bN 5 (cn.next) (ab (.tuple []) cn))∧(¬(↑(List.length (Prod.snd (b9 a0 ap a2 a3 n c))):Int)=0→dy (2^30-8) ey (pW f ag ad ax aE P O l R m aG len a0 ap a2 a3 n c) ⟨0,0,0,0,6⟩ c∧∀(cn:j),dz bad (pW f ag ad ax aE P O l R m aG len a0 ap a2 a3 n c) ⟨0,0,0,0,6⟩ c cn→bN 5 (cn.next) (ab (.tuple []) cn)))))))∧(¬0<(len:Int)→ ¬(b9 a0 ap a2 a3 n c).1=[]∧List.length (Prod.fst (b9 a0 ap a2 a3 n c))=1∧ir a0 ap a2 a3 n c∧(0<(↑(List.length (Prod.snd (b9 a0 ap a2 a3 n c))):Int)→((len:Int)=0→(R=R∧0+len=List.length l∧len<len+1∧(len+1+(len+1)/4+512)*1≤281474976710656∧len+1<4611686018427387904)∧R+1=R+1∧0+(len+1-0)≤List.length (l++[.int .u8 c])∧(∃b3,List.take (len+1-0) (List.drop (bH.idx {id:=2,R:=R+1,idx:=0,bP:=0,es:=1}) (J.bi (dp l R m aG c)))=aJ b3)∧List.length (strOf (List.take (len+1-0) (List.drop 0 (List.append l [.int .u8 c]))))<1099511627776∧(valid (strOf (List.take (len+1-0) (List.drop 0 (List.append l [.int .u8 c]))))=true→cx (pS f ag ad ax aE P O l R m aG len a0 ap a2 a3 n c) ⟨0,0,0,0,6⟩ ((fO a0 ap a2 a3 n c))∧∀(cu:j),cy (pS f ag ad ax aE P O l R m aG len a0 ap a2 a3 n c) ⟨0,0,0,0,6⟩ ((fO a0 ap a2 a3 n c)) cu→bN 5 (cu.next) (ab (.tuple []) cu))∧(valid (strOf (List.take (len+1-0) (List.drop 0 (List.append l [.int .u8 c]))))=false→R+1=R+1∧0+(len+1)≤List.length (l++[.int .u8 c])∧(∃b3,List.take (len+1) (List.drop (bH.idx {id:=2,R:=R+1,idx:=0,bP:=0,es:=1}) (J.bi (dp l R m aG c)))=aJ b3)∧cx (pT f ag ad ax aE P O l R m aG len a0 ap a2 a3 n c) ⟨0,0,0,0,6⟩ ((ee l len c))∧∀(b6:j),cy (pT f ag ad ax aE P O l R m aG len a0 ap a2 a3 n c) ⟨0,0,0,0,6⟩ ((ee l len c)) b6→bN 5 (b6.next) (ab (.tuple []) b6)))∧(¬(len:Int)=0→R=R∧0+(len-0)≤List.length l∧(∃b3,List.take (len-0) (List.drop (bH.idx ⟨2,R,0,0,1⟩) (J.bi (ed l R m aG)))=aJ b3)∧Nat.le (Nat.succ (List.length (strOf (List.take (len-0) l))+List.length [UInt8.ofNat (Int.toNat c)])) (2^62)∧List.length (strOf (List.take (len-0) l)++[UInt8.ofNat (Int.toNat c)])<1099511627776∧(valid (strOf (List.take (len-0) l)++[UInt8.ofNat (Int.toNat c)])=true→(R=R∧0+len=List.length l∧len<len+1∧(len+1+(len+1)/4+512)*1≤281474976710656∧len+1<4611686018427387904)∧R+1=R+1∧0+(len+1-0)≤List.length (l++[.int .u8 c])∧(∃b3,List.take (len+1-0) (List.drop (bH.idx {id:=2,R:=R+1,idx:=0,bP:=0,es:=1}) (J.bi (dp l R m aG c)))=aJ b3)∧List.length (strOf (List.take (len+1-0) (List.drop 0 (List.append l [.int .u8 c]))))<1099511627776∧(valid (strOf (List.take (len+1-0) (List.drop 0 (List.append l [.int .u8 c]))))=true→cx (pU f ag ad ax aE P O l R m aG len a0 ap a2 a3 n c) ⟨0,0,0,0,6⟩ ((fO a0 ap a2 a3 n c))∧∀(cu:j),cy (pU f ag ad ax aE P O l R m aG len a0 ap a2 a3 n c) ⟨0,0,0,0,6⟩ ((fO a0 ap a2 a3 n c)) cu→bN 5 (cu.next) (ab (.tuple []) cu))∧(valid (strOf (List.take (len+1-0) (List.drop 0 (List.append l [.int .u8 c]))))=false→R+1=R+1∧0+(len+1)≤List.length (l++[.int .u8 c])∧(∃b3,List.take (len+1) (List.drop (bH.idx {id:=2,R:=R+1,idx:=0,bP:=0,es:=1}) (J.bi (dp l R m aG c)))=aJ b3)∧cx (pV f ag ad ax aE P O l R m aG len a0 ap a2 a3 n c) ⟨0,0,0,0,6⟩ ((ee l len c))∧∀(b6:j),cy (pV f ag ad ax aE P O l R m aG len a0 ap a2 a3 n c) ⟨0,0,0,0,6⟩ ((ee l len c)) b6→bN 5 (b6.next) (ab (.tuple []) b6)))∧(valid (strOf (List.take (len-0) l)++[UInt8.ofNat (Int.toNat c)])=false→((↑(List.length (Prod.snd (b9 a0 ap a2 a3 n c))):Int)=0→dy (2^30-8) ey (pR f ag ad ax aE P O l R m aG len a0 ap a2 a3 n c) ⟨0,0,0,0,6⟩ c∧∀(cn:j),dz bad (pR f ag ad ax aE P O l R m aG len a0 ap a2 a3 n c) ⟨0,0,0,0,6⟩ c cn→bN 5 (cn.next) (ab (.tuple []) cn))∧(¬(↑(List.length (Prod.snd (b9 a0 ap a2 a3 n c))):Int)=0→dy (2^30-8) ey (pW f ag ad ax aE P O l R m aG len a0 ap a2 a3 n c) ⟨0,0,0,0,6⟩ c∧∀(cn:j),dz bad (pW f ag ad ax aE P O l R m aG len a0 ap a2 a3 n c) ⟨0,0,0,0,6⟩ c cn→bN 5 (cn.next) (ab (.tuple []) cn)))))∧(¬0<(↑(List.length (Prod.snd (b9 a0 ap a2 a3 n c))):Int)→((len:Int)=0→(R=R∧0+len=List.length l∧len<len+1∧(len+1+(len+1)/4+512)*1≤281474976710656∧len+1<4611686018427387904)∧R+1=R+1∧0+(len+1-0)≤List.length (l++[.int .u8 c])∧(∃b3,List.take (len+1-0) (List.drop (bH.idx {id:=2,R:=R+1,idx:=0,bP:=0,es:=1}) (J.bi (dp l R m aG c)))=aJ b3)∧List.length (strOf (List.take (len+1-0) (List.drop 0 (List.append l [.int .u8 c]))))<1099511627776∧(valid (strOf (List.take (len+1-0) (List.drop 0 (List.append l [.int .u8 c]))))=true→cx (pS f ag ad ax aE P O l R m aG len a0 ap a2 a3 n c) ⟨0,0,0,0,6⟩ ((fO a0 ap a2 a3 n c))∧∀(cu:j),cy (pS f ag ad ax aE P O l R m aG len a0 ap a2 a3 n c) ⟨0,0,0,0,6⟩ ((fO a0 ap a2 a3 n c)) cu→bN 5 (cu.next) (ab (.tuple []) cu))∧(valid (strOf (List.take (len+1-0) (List.drop 0 (List.append l [.int .u8 c]))))=false→R+1=R+1∧0+(len+1)≤List.length (l++[.int .u8 c])∧(∃b3,List.take (len+1) (List.drop (bH.idx {id:=2,R:=R+1,idx:=0,bP:=0,es:=1}) (J.bi (dp l R m aG c)))=aJ b3)∧cx (pT f ag ad ax aE P O l R m aG len a0 ap a2 a3 n c) ⟨0,0,0,0,6⟩ ((ee l len c))∧∀(b6:j),cy (pT f ag ad ax aE P O l R m aG len a0 ap a2 a3 n c) ⟨0,0,0,0,6⟩ ((ee l len c)) b6→bN 5 (b6.next) (ab (.tuple []) b6)))∧(¬(len:Int)=0→R=R∧0+(len-0)≤List.length l∧(∃b3,List.take (len-0) (List.drop (bH.idx ⟨2,R,0,0,1⟩) (J.bi (ed l R m aG)))=aJ b3)∧Nat.le (Nat.succ (List.length (strOf (List.take (len-0) l))+List.length [UInt8.ofNat (Int.toNat c)])) (2^62)∧List.length (strOf (List.take (len-0) l)++[UInt8.ofNat (Int.toNat c)])<1099511627776∧(valid (strOf (List.take (len-0) l)++[UInt8.ofNat (Int.toNat c)])=true→(R=R∧0+len=List.length l∧len<len+1∧(len+1+(len+1)/4+512)*1≤281474976710656∧len+1<4611686018427387904)∧R+1=R+1∧0+(len+1-0)≤List.length (l++[.int .u8 c])∧(∃b3,List.take (len+1-0) (List.drop (bH.idx {id:=2,R:=R+1,idx:=0,bP:=0,es:=1}) (J.bi (dp l R m aG c)))=aJ b3)∧List.length (strOf (List.take (len+1-0) (List.drop 0 (List.append l [.int .u8 c]))))<1099511627776∧(valid (strOf (List.take (len+1-0) (List.drop 0 (List.append l [.int .u8 c]))))=true→cx (pU f ag ad ax aE P O l R m aG len a0 ap a2 a3 n c) ⟨0,0,0,0,6⟩ ((fO a0 ap a2 a3 n c))∧∀(cu:j),cy (pU f ag ad ax aE P O l R m aG len a0 ap a2 a3 n c) ⟨0,0,0,0,6⟩ ((fO a0 ap a2 a3 n c)) cu→bN 5 (cu.next) (ab (.tuple []) cu))∧(valid (strOf (List.take (len+1-0) (List.drop 0 (List.append l [.int .u8 c]))))=false→R+1=R+1∧0+(len+1)≤List.length (l++[.int .u8 c])∧(∃b3,List.take (len+1) (List.drop (bH.idx {id:=2,R:=R+1,idx:=0,bP:=0,es:=1}) (J.bi (dp l R m aG c)))=aJ b3)∧cx (pV f ag ad ax aE P O l R m aG len a0 ap a2 a3 n c) ⟨0,0,0,0,6⟩ ((ee l len c))∧∀(b6:j),cy (pV f ag ad ax aE P O l R m aG len a0 ap a2 a3 n c) ⟨0,0,0,0,6⟩ ((ee l len c)) b6→bN 5 (b6.next) (ab (.tuple []) b6)))∧(valid (strOf (List.take (len-0) l)++[UInt8.ofNat (Int.toNat c)])=false→((↑(List.length (Prod.snd (b9 a0 ap a2 a3 n c))):Int)=0→dy (2^30-8) ey (pR f ag ad ax aE P O l R m aG len a0 ap a2 a3 n c) ⟨0,0,0,0,6⟩ c∧∀(cn:j),dz bad (pR f ag ad ax aE P O l R m aG len a0 ap a2 a3 n c) ⟨0,0,0,0,6⟩ c cn→bN 5 (cn.next) (ab (.tuple []) cn))∧(¬(↑(List.length (Prod.snd (b9 a0 ap a2 a3 n c))):Int)=0→dy (2^30-8) ey (pW f ag ad ax aE P O l R m aG len a0 ap a2 a3 n c) ⟨0,0,0,0,6⟩ c∧∀(cn:j),dz bad (pW f ag ad ax aE P O l R m aG len a0 ap a2 a3 n c) ⟨0,0,0,0,6⟩ c cn→bN 5 (cn.next) (ab (.tuple []) cn))))))) :
 ∃v p,aI Tryz.prog aw 90 [.ptr (some ⟨0,0,0,0,6⟩),.int .u8 c] (j.of [b1 0 f 1 (.slice (some ⟨2,R,0,0,1⟩) len len) ag false ad ax,hb a0 ap a2 a3 n aE,ct l 1 R m aG cF,P,O]) v p∧ab v p :=
 cf bU mixed W7 (aq:= .aN 1005 (ah 1011 (ah 1012 (.aN 1013 (he 4004 (.aN 4005 (.aN 6010 (ah 7007 FY) (ah 6018 (ah 6019 AJ))) (.aN 6010 (ah 7007 FY) (ah 6018 (ah 6019 AJ))))) (he 4004 (.aN 4005 AK AK))))) (he 4004 (.aN 4005 AK AK))) (by kernel_rfl) aY
end Go.Proofs.YtddnafghiejcoaaGreatDoor
