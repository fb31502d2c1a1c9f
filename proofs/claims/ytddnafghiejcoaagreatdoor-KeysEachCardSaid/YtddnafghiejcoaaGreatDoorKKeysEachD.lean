/-
  Parts of the proof of KeysEach.
-/
import Derived.Test.YtddnafghiejcoaaGreatDoorKKeysEachC
set_option linter.unusedVariables false
set_option linter.unusedSimpArgs false
namespace Go.Proofs.YtddnafghiejcoaaGreatDoor
open Go.cM Go.Keys
set_option maxRecDepth 1000000
abbrev nf(l:List o)(v f:Nat):R:= {bi:=l,es:=1,exact:=false,ro:=false,J:=v,fX:=0,gQ:=f,aq:=some (5,0)}
abbrev iZ(v:Nat)(n:Nat):o:=o.slice (some ⟨0,v,0,0,1⟩) n n
abbrev AO:o:=o.slice (some ⟨68,0,0,0,1⟩) 3 3
abbrev V6:dk:=(ag 21001 (ag 21005 (ag 6000 .nil)))
abbrev jV(v:Nat)(f:Nat)(l:List o):R:=⟨l,1,false,false,v,0,f,some (21,0)⟩
abbrev Fy:o:=o.agg [.int .u8 239,.int .u8 191,.int .u8 189,.int .u8 0]
abbrev AP(i:Nat)(l:List o):o:=o.agg [.int .u8 (cg .u8 (bD .i32 (a' l (0+Int.toNat (i:Int))) (6)) (192)),.int .u8 (cg .u8 (128) (bx .i32 (a' l (0+Int.toNat (i:Int))) (63))),.int .u8 0,.int .u8 0]
abbrev AQ(i:Nat)(l:List o):o:=o.agg [.int .u8 (cg .u8 (bD .i32 (bD .i32 (a' l (0+Int.toNat (i:Int))) (6)) (6)) (224)),.int .u8 (cg .u8 (128) (bx .i32 (bD .i32 (a' l (0+Int.toNat (i:Int))) (6)) (63))),.int .u8 (cg .u8 (128) (bx .i32 (a' l (0+Int.toNat (i:Int))) (63))),.int .u8 0]
abbrev uQ(i:Nat)(l:List o):o:=o.agg [.int .u8 (cg .u8 (bD .i32 (bD .i32 (bD .i32 (a' l (0+Int.toNat (i:Int))) (6)) (6)) (6)) (240)),.int .u8 (cg .u8 (128) (bx .i32 (bD .i32 (bD .i32 (a' l (0+Int.toNat (i:Int))) (6)) (6)) (63))),.int .u8 (cg .u8 (128) (bx .i32 (bD .i32 (a' l (0+Int.toNat (i:Int))) (6)) (63))),.int .u8 (cg .u8 (128) (bx .i32 (a' l (0+Int.toNat (i:Int))) (63)))]
abbrev uR:R:=(R.made ([Fy]) 4 true (some (95,4)))
abbrev Md:dk:=(ag 19002 (ag 19003 (ag 20001 V6)))
abbrev Me(i:Nat)(v:Nat)(f:Nat)(l:List o):j:=(j.ar 34 [(0,(jV v f l)),(29,R.made [.int .u8 (a' l (0+Int.toNat (i:Int)))] 1 true),(30,R.made [.int .u8 (a' l (0+Int.toNat (i:Int)))] 1 false (some (5,0)))])
abbrev Mf(i:Nat)(v:Nat)(f:Nat)(l:List o):j:=(j.ar 63 [(0,(jV v f l)),(31,(R.made ([(AP i l)]) 4 true (some (95,4)))),(59,R.made [.int .u8 (cg .u8 (bD .i32 (a' l (0+Int.toNat (i:Int))) (6)) (192)),.int .u8 (cg .u8 (128) (bx .i32 (a' l (0+Int.toNat (i:Int))) (63)))] 1 false (some (5,0)))])
abbrev Mg(i:Nat)(v:Nat)(f:Nat)(l:List o):j:=(j.ar 71 [(0,(jV v f l)),(32,(R.made ([(AQ i l)]) 4 true (some (95,4)))),(67,R.made [.int .u8 (cg .u8 (bD .i32 (bD .i32 (a' l (0+Int.toNat (i:Int))) (6)) (6)) (224)),.int .u8 (cg .u8 (128) (bx .i32 (bD .i32 (a' l (0+Int.toNat (i:Int))) (6)) (63))),.int .u8 (cg .u8 (128) (bx .i32 (a' l (0+Int.toNat (i:Int))) (63)))] 1 false (some (5,0)))])
abbrev Mh(i:Nat)(v:Nat)(f:Nat)(l:List o):j:=(j.ar 78 [(0,(jV v f l)),(32,(R.made ([(uQ i l)]) 4 true (some (95,4)))),(74,R.made [.int .u8 (cg .u8 (bD .i32 (bD .i32 (bD .i32 (a' l (0+Int.toNat (i:Int))) (6)) (6)) (6)) (240)),.int .u8 (cg .u8 (128) (bx .i32 (bD .i32 (bD .i32 (a' l (0+Int.toNat (i:Int))) (6)) (6)) (63))),.int .u8 (cg .u8 (128) (bx .i32 (bD .i32 (a' l (0+Int.toNat (i:Int))) (6)) (63))),.int .u8 (cg .u8 (128) (bx .i32 (a' l (0+Int.toNat (i:Int))) (63)))] 1 false (some (5,0)))])
abbrev Mi(i:Nat)(v:Nat)(f:Nat)(l:List o):j:=(j.ar 79 [(0,(jV v f l)),(33,(R.made ([(uQ i l)]) 4 true (some (95,4)))),(75,R.made [.int .u8 (cg .u8 (bD .i32 (bD .i32 (bD .i32 (a' l (0+Int.toNat (i:Int))) (6)) (6)) (6)) (240)),.int .u8 (cg .u8 (128) (bx .i32 (bD .i32 (bD .i32 (a' l (0+Int.toNat (i:Int))) (6)) (6)) (63))),.int .u8 (cg .u8 (128) (bx .i32 (bD .i32 (a' l (0+Int.toNat (i:Int))) (6)) (63))),.int .u8 (cg .u8 (128) (bx .i32 (a' l (0+Int.toNat (i:Int))) (63)))] 1 false (some (5,0)))])
abbrev Mj:dk:=(ag 17003 (ag 18001 (ag 19001 Md)))
abbrev AR(v:Nat)(f:Nat)(l:List o):j:=(j.ar 72 [(0,(jV v f l)),(33,uR),(68,R.made [.int .u8 239,.int .u8 191,.int .u8 189] 1 false (some (5,0)))])
abbrev Fz(i:Nat)(v:Nat)(f:Nat)(n:Nat)(l:List o)(U:dc→bP→j→Prop):Prop:=(a' l (0+Int.toNat (i:Int))<128→(0≤a' l (0+Int.toNat (i:Int))∧a' l (0+Int.toNat (i:Int))≤255)∧(-9223372036854775808≤(i:Int)+1∧(i:Int)+1≤9223372036854775807)∧U .normal [(3,.slice (some ⟨30,0,0,0,1⟩) 1 1),(6,(iZ v n)),(7,.int .i64 (n:Int)),(8,.int .i64 ((i:Int)+1))] (Me i v f l))
abbrev FA(i:Nat)(v:Nat)(f:Nat)(n:Nat)(l:List o)(U:dc→bP→j→Prop):Prop:=(¬65536≤a' l (0+Int.toNat (i:Int))→True∧(0≤bx .i32 (a' l (0+Int.toNat (i:Int))) (63)∧bx .i32 (a' l (0+Int.toNat (i:Int))) (63)≤255)∧True∧Int.NonNeg (6-0)∧(0≤bD .i32 (a' l (0+Int.toNat (i:Int))) (6)∧bD .i32 (a' l (0+Int.toNat (i:Int))) (6)≤255)∧True∧(-9223372036854775808≤(i:Int)+1∧(i:Int)+1≤9223372036854775807)∧U .normal [(3,.slice (some ⟨59,0,0,0,1⟩) 2 2),(6,(iZ v n)),(7,.int .i64 (n:Int)),(8,.int .i64 ((i:Int)+1))] (Mf i v f l))
abbrev FB(i:Nat)(v:Nat)(f:Nat)(n:Nat)(l:List o)(U:dc→bP→j→Prop):Prop:=(¬65536≤a' l (0+Int.toNat (i:Int))→True∧(0≤bx .i32 (a' l (0+Int.toNat (i:Int))) (63)∧bx .i32 (a' l (0+Int.toNat (i:Int))) (63)≤255)∧True∧Int.NonNeg (6-0)∧True∧(0≤bx .i32 (bD .i32 (a' l (0+Int.toNat (i:Int))) (6)) (63)∧bx .i32 (bD .i32 (a' l (0+Int.toNat (i:Int))) (6)) (63)≤255)∧True∧Int.NonNeg (6-0)∧(0≤bD .i32 (bD .i32 (a' l (0+Int.toNat (i:Int))) (6)) (6)∧bD .i32 (bD .i32 (a' l (0+Int.toNat (i:Int))) (6)) (6)≤255)∧True∧(-9223372036854775808≤(i:Int)+1∧(i:Int)+1≤9223372036854775807)∧U .normal [(3,.slice (some ⟨67,0,0,0,1⟩) 3 3),(6,(iZ v n)),(7,.int .i64 (n:Int)),(8,.int .i64 ((i:Int)+1))] (Mg i v f l))
abbrev FC(i:Nat)(v:Nat)(f:Nat)(n:Nat)(l:List o)(U:dc→bP→j→Prop):Prop:=(65536≤a' l (0+Int.toNat (i:Int))→True∧(0≤bx .i32 (a' l (0+Int.toNat (i:Int))) (63)∧bx .i32 (a' l (0+Int.toNat (i:Int))) (63)≤255)∧True∧Int.NonNeg (6-0)∧True∧(0≤bx .i32 (bD .i32 (a' l (0+Int.toNat (i:Int))) (6)) (63)∧bx .i32 (bD .i32 (a' l (0+Int.toNat (i:Int))) (6)) (63)≤255)∧True∧Int.NonNeg (6-0)∧True∧(0≤bx .i32 (bD .i32 (bD .i32 (a' l (0+Int.toNat (i:Int))) (6)) (6)) (63)∧bx .i32 (bD .i32 (bD .i32 (a' l (0+Int.toNat (i:Int))) (6)) (6)) (63)≤255)∧True∧Int.NonNeg (6-0)∧(0≤bD .i32 (bD .i32 (bD .i32 (a' l (0+Int.toNat (i:Int))) (6)) (6)) (6)∧bD .i32 (bD .i32 (bD .i32 (a' l (0+Int.toNat (i:Int))) (6)) (6)) (6)≤255)∧True∧(-9223372036854775808≤(i:Int)+1∧(i:Int)+1≤9223372036854775807)∧U .normal [(3,.slice (some ⟨74,0,0,0,1⟩) 4 4),(6,(iZ v n)),(7,.int .i64 (n:Int)),(8,.int .i64 ((i:Int)+1))] (Mh i v f l))
abbrev FD(i:Nat)(v:Nat)(f:Nat)(n:Nat)(l:List o)(U:dc→bP→j→Prop):Prop:=(65536≤a' l (0+Int.toNat (i:Int))→True∧(0≤bx .i32 (a' l (0+Int.toNat (i:Int))) (63)∧bx .i32 (a' l (0+Int.toNat (i:Int))) (63)≤255)∧True∧Int.NonNeg (6-0)∧True∧(0≤bx .i32 (bD .i32 (a' l (0+Int.toNat (i:Int))) (6)) (63)∧bx .i32 (bD .i32 (a' l (0+Int.toNat (i:Int))) (6)) (63)≤255)∧True∧Int.NonNeg (6-0)∧True∧(0≤bx .i32 (bD .i32 (bD .i32 (a' l (0+Int.toNat (i:Int))) (6)) (6)) (63)∧bx .i32 (bD .i32 (bD .i32 (a' l (0+Int.toNat (i:Int))) (6)) (6)) (63)≤255)∧True∧Int.NonNeg (6-0)∧(0≤bD .i32 (bD .i32 (bD .i32 (a' l (0+Int.toNat (i:Int))) (6)) (6)) (6)∧bD .i32 (bD .i32 (bD .i32 (a' l (0+Int.toNat (i:Int))) (6)) (6)) (6)≤255)∧True∧(-9223372036854775808≤(i:Int)+1∧(i:Int)+1≤9223372036854775807)∧U .normal [(3,.slice (some ⟨75,0,0,0,1⟩) 4 4),(6,(iZ v n)),(7,.int .i64 (n:Int)),(8,.int .i64 ((i:Int)+1))] (Mi i v f l))
abbrev V7:dk:=(ag 16001 (ag 17001 (ag 17002 Mj)))
abbrev FE(i:Nat)(v:Nat)(f:Nat)(n:Nat)(l:List o)(U:dc→bP→j→Prop):Prop:=(1114111<a' l (0+Int.toNat (i:Int))→(-9223372036854775808≤(i:Int)+1∧(i:Int)+1≤9223372036854775807)∧U .normal [(3,AO),(6,(iZ v n)),(7,.int .i64 (n:Int)),(8,.int .i64 ((i:Int)+1))] (AR v f l))
abbrev Mk:dk:=(ag 15001 (ag 15002 (ag 15003 V7)))
abbrev Ml:dk:=(.aK 6001 (.aK 8001 Mk (ag 17001 (ag 17002 Mj))) (.aK 8001 Mk (ag 19001 Md)))
theorem V8(i v f n:Nat)(l:List o)(U:dc→bP→j→Prop)(aY:((i:Int)<(n:Int)→(0≤(i:Int)∧(i:Int)<(n:Int))∧v=v∧l[0+Int.toNat (i:Int)]? =some (.int .i32 (a' l (0+Int.toNat (i:Int))))∧(a' l (0+Int.toNat (i:Int))<0→(-9223372036854775808≤(i:Int)+1∧(i:Int)+1≤9223372036854775807)∧U .normal [(3,AO),(6,(iZ v n)),(7,.int .i64 (n:Int)),(8,.int .i64 ((i:Int)+1))] (AR v f l))∧(¬a' l (0+Int.toNat (i:Int))<0→(55296≤a' l (0+Int.toNat (i:Int))→(a' l (0+Int.toNat (i:Int))≤57343→(-9223372036854775808≤(i:Int)+1∧(i:Int)+1≤9223372036854775807)∧U .normal [(3,AO),(6,(iZ v n)),(7,.int .i64 (n:Int)),(8,.int .i64 ((i:Int)+1))] (AR v f l))∧(¬a' l (0+Int.toNat (i:Int))≤57343→(FE i v f n l U)∧(¬1114111<a' l (0+Int.toNat (i:Int))→(Fz i v f n l U)∧(¬a' l (0+Int.toNat (i:Int))<128→(2048≤a' l (0+Int.toNat (i:Int))→(FD i v f n l U)∧(FB i v f n l U))∧(¬2048≤a' l (0+Int.toNat (i:Int))→(FC i v f n l U)∧(FA i v f n l U))))))∧(¬55296≤a' l (0+Int.toNat (i:Int))→(FE i v f n l U)∧(¬1114111<a' l (0+Int.toNat (i:Int))→(Fz i v f n l U)∧(¬a' l (0+Int.toNat (i:Int))<128→(2048≤a' l (0+Int.toNat (i:Int))→(FD i v f n l U)∧(FB i v f n l U))∧(¬2048≤a' l (0+Int.toNat (i:Int))→(FC i v f n l U)∧(FA i v f n l U)))))))∧(¬(i:Int)<(n:Int)→U (.exit 0) [(3,.slice none 0 0),(6,(iZ v n)),(7,.int .i64 (n:Int)),(8,.int .i64 (i:Int))] (j.ar 2 [(0,(jV v f l))]))) :
 ∃e aW p,cx Tryz.prog aw 1 18 (cF Tryz.prog 51 0) [(3,.slice none 0 0),(6,.slice (some ⟨0,v,0,0,1⟩) n n),(7,.int .i64 n),(8,.int .i64 i)] (j.rows 1 [(0,hk l v f)]) e aW p∧U e aW p :=
 gm bQ mixed c8 (an:= .aK 3000 (ag 4000 (ag 4001 (he 5002 (.aK 1001 (.skip 6000 (ag 6000 .nil)) (.aK 1004 (.aK 1007 (.skip 6000 (ag 6000 .nil)) (.aK 1012 (.skip 6000 (ag 6000 .nil)) (.aK 3001 (ag 4002 (ag 6000 .nil)) Ml))) (.aK 1012 (.skip 6000 (ag 6000 .nil)) (.aK 3001 (ag 4002 (ag 6000 .nil)) Ml))))))) .nil) (cs:=[3,6,7,8]) (by kernel_rfl) aY
abbrev V9:dk:=(ag 21005 (ag 22003 (ag 6000 .nil)))
abbrev xg(v2:Nat)(aO:Nat):o:=o.slice (some {id:=50,J:=v2+1,idx:=0,bR:=0,es:=1}) (aO+3) (aO+3)
abbrev FF(v2:Nat)(aO:Nat):o:=o.slice (some {id:=50,J:=v2+1,idx:=0,bR:=0,es:=1}) (aO+4) (aO+4)
abbrev Mm(i:Nat)(v2:Nat)(f2:Nat)(l:List o)(ck:List o):R:=⟨ck++[.int .u8 (a' l (0+Int.toNat (i:Int)))],1,false,false,v2+1,0,if 0=v2 then List.length ck else min f2 (List.length ck),some (5,0)⟩
abbrev AS(v2:Nat)(f2:Nat)(ck:List o):R:=⟨ck++[.int .u8 239,.int .u8 191,.int .u8 189],1,false,false,v2+1,0,if 0=v2 then List.length ck else min f2 (List.length ck),some (5,0)⟩
abbrev Mn(i:Nat)(v2:Nat)(f2:Nat)(l:List o)(ck:List o):R:=⟨ck++[.int .u8 (cg .u8 (bD .i32 (a' l (0+Int.toNat (i:Int))) (6)) (192)),.int .u8 (cg .u8 (128) (bx .i32 (a' l (0+Int.toNat (i:Int))) (63)))],1,false,false,v2+1,0,if 0=v2 then List.length ck else min f2 (List.length ck),some (5,0)⟩
abbrev Mo(i:Nat)(v2:Nat)(f2:Nat)(l:List o)(ck:List o):R:=⟨ck++[.int .u8 (cg .u8 (bD .i32 (bD .i32 (a' l (0+Int.toNat (i:Int))) (6)) (6)) (224)),.int .u8 (cg .u8 (128) (bx .i32 (bD .i32 (a' l (0+Int.toNat (i:Int))) (6)) (63))),.int .u8 (cg .u8 (128) (bx .i32 (a' l (0+Int.toNat (i:Int))) (63)))],1,false,false,v2+1,0,if 0=v2 then List.length ck else min f2 (List.length ck),some (5,0)⟩
abbrev FG(i:Nat)(v2:Nat)(f2:Nat)(l:List o)(ck:List o):R:=⟨ck++[.int .u8 (cg .u8 (bD .i32 (bD .i32 (bD .i32 (a' l (0+Int.toNat (i:Int))) (6)) (6)) (6)) (240)),.int .u8 (cg .u8 (128) (bx .i32 (bD .i32 (bD .i32 (a' l (0+Int.toNat (i:Int))) (6)) (6)) (63))),.int .u8 (cg .u8 (128) (bx .i32 (bD .i32 (a' l (0+Int.toNat (i:Int))) (6)) (63))),.int .u8 (cg .u8 (128) (bx .i32 (a' l (0+Int.toNat (i:Int))) (63)))],1,false,false,v2+1,0,if 0=v2 then List.length ck else min f2 (List.length ck),some (5,0)⟩
abbrev Mp:dk:=(ag 19003 (ag 20001 (ag 21001 V9)))
abbrev FH(i:Nat)(v:Nat)(f:Nat)(n:Nat)(v2:Nat)(f2:Nat)(aO:Nat)(l:List o)(ck:List o)(U:dc→bP→j→Prop):Prop:=(a' l (0+Int.toNat (i:Int))<128→(0≤a' l (0+Int.toNat (i:Int))∧a' l (0+Int.toNat (i:Int))≤255)∧(v2=v2∧0+aO=List.length ck∧aO<aO+1∧(aO+1+(aO+1)/4+512)*1≤281474976710656∧aO+1<4611686018427387904)∧(-9223372036854775808≤(i:Int)+1∧(i:Int)+1≤9223372036854775807)∧U .normal [(3,.slice (some {id:=50,J:=v2+1,idx:=0,bR:=0,es:=1}) (aO+1) (aO+1)),(6,(iZ v n)),(7,.int .i64 (n:Int)),(8,.int .i64 ((i:Int)+1))] (j.ar 93 [(0,(jV v f l)),(50,(Mm i v2 f2 l ck)),(88,R.made [.int .u8 (a' l (0+Int.toNat (i:Int)))] 1 true)]))
abbrev FI(i:Nat)(v:Nat)(f:Nat)(n:Nat)(v2:Nat)(f2:Nat)(aO:Nat)(l:List o)(ck:List o)(U:dc→bP→j→Prop):Prop:=(¬65536≤a' l (0+Int.toNat (i:Int))→True∧(0≤bx .i32 (a' l (0+Int.toNat (i:Int))) (63)∧bx .i32 (a' l (0+Int.toNat (i:Int))) (63)≤255)∧True∧Int.NonNeg (6-0)∧(0≤bD .i32 (a' l (0+Int.toNat (i:Int))) (6)∧bD .i32 (a' l (0+Int.toNat (i:Int))) (6)≤255)∧True∧(v2=v2∧0+aO=List.length ck∧aO<aO+2∧(aO+2+(aO+2)/4+512)*1≤281474976710656∧aO+2<4611686018427387904)∧(-9223372036854775808≤(i:Int)+1∧(i:Int)+1≤9223372036854775807)∧U .normal [(3,.slice (some {id:=50,J:=v2+1,idx:=0,bR:=0,es:=1}) (aO+2) (aO+2)),(6,(iZ v n)),(7,.int .i64 (n:Int)),(8,.int .i64 ((i:Int)+1))] (j.ar 122 [(0,(jV v f l)),(50,(Mn i v2 f2 l ck)),(90,(R.made ([(AP i l)]) 4 true (some (95,4))))]))
abbrev FJ(i:Nat)(v:Nat)(f:Nat)(n:Nat)(v2:Nat)(f2:Nat)(aO:Nat)(l:List o)(ck:List o)(U:dc→bP→j→Prop):Prop:=(¬65536≤a' l (0+Int.toNat (i:Int))→True∧(0≤bx .i32 (a' l (0+Int.toNat (i:Int))) (63)∧bx .i32 (a' l (0+Int.toNat (i:Int))) (63)≤255)∧True∧Int.NonNeg (6-0)∧True∧(0≤bx .i32 (bD .i32 (a' l (0+Int.toNat (i:Int))) (6)) (63)∧bx .i32 (bD .i32 (a' l (0+Int.toNat (i:Int))) (6)) (63)≤255)∧True∧Int.NonNeg (6-0)∧(0≤bD .i32 (bD .i32 (a' l (0+Int.toNat (i:Int))) (6)) (6)∧bD .i32 (bD .i32 (a' l (0+Int.toNat (i:Int))) (6)) (6)≤255)∧True∧(v2=v2∧0+aO=List.length ck∧aO<aO+3∧(aO+3+(aO+3)/4+512)*1≤281474976710656∧aO+3<4611686018427387904)∧(-9223372036854775808≤(i:Int)+1∧(i:Int)+1≤9223372036854775807)∧U .normal [(3,(xg v2 aO)),(6,(iZ v n)),(7,.int .i64 (n:Int)),(8,.int .i64 ((i:Int)+1))] (j.ar 130 [(0,(jV v f l)),(50,(Mo i v2 f2 l ck)),(91,(R.made ([(AQ i l)]) 4 true (some (95,4))))]))
abbrev FK(i:Nat)(v:Nat)(f:Nat)(n:Nat)(v2:Nat)(f2:Nat)(aO:Nat)(l:List o)(ck:List o)(U:dc→bP→j→Prop):Prop:=(65536≤a' l (0+Int.toNat (i:Int))→True∧(0≤bx .i32 (a' l (0+Int.toNat (i:Int))) (63)∧bx .i32 (a' l (0+Int.toNat (i:Int))) (63)≤255)∧True∧Int.NonNeg (6-0)∧True∧(0≤bx .i32 (bD .i32 (a' l (0+Int.toNat (i:Int))) (6)) (63)∧bx .i32 (bD .i32 (a' l (0+Int.toNat (i:Int))) (6)) (63)≤255)∧True∧Int.NonNeg (6-0)∧True∧(0≤bx .i32 (bD .i32 (bD .i32 (a' l (0+Int.toNat (i:Int))) (6)) (6)) (63)∧bx .i32 (bD .i32 (bD .i32 (a' l (0+Int.toNat (i:Int))) (6)) (6)) (63)≤255)∧True∧Int.NonNeg (6-0)∧(0≤bD .i32 (bD .i32 (bD .i32 (a' l (0+Int.toNat (i:Int))) (6)) (6)) (6)∧bD .i32 (bD .i32 (bD .i32 (a' l (0+Int.toNat (i:Int))) (6)) (6)) (6)≤255)∧True∧(v2=v2∧0+aO=List.length ck∧aO<aO+4∧(aO+4+(aO+4)/4+512)*1≤281474976710656∧aO+4<4611686018427387904)∧(-9223372036854775808≤(i:Int)+1∧(i:Int)+1≤9223372036854775807)∧U .normal [(3,(FF v2 aO)),(6,(iZ v n)),(7,.int .i64 (n:Int)),(8,.int .i64 ((i:Int)+1))] (j.ar 137 [(0,(jV v f l)),(50,(FG i v2 f2 l ck)),(91,(R.made ([(uQ i l)]) 4 true (some (95,4))))]))
abbrev FL(i:Nat)(v:Nat)(f:Nat)(n:Nat)(v2:Nat)(f2:Nat)(aO:Nat)(l:List o)(ck:List o)(U:dc→bP→j→Prop):Prop:=(65536≤a' l (0+Int.toNat (i:Int))→True∧(0≤bx .i32 (a' l (0+Int.toNat (i:Int))) (63)∧bx .i32 (a' l (0+Int.toNat (i:Int))) (63)≤255)∧True∧Int.NonNeg (6-0)∧True∧(0≤bx .i32 (bD .i32 (a' l (0+Int.toNat (i:Int))) (6)) (63)∧bx .i32 (bD .i32 (a' l (0+Int.toNat (i:Int))) (6)) (63)≤255)∧True∧Int.NonNeg (6-0)∧True∧(0≤bx .i32 (bD .i32 (bD .i32 (a' l (0+Int.toNat (i:Int))) (6)) (6)) (63)∧bx .i32 (bD .i32 (bD .i32 (a' l (0+Int.toNat (i:Int))) (6)) (6)) (63)≤255)∧True∧Int.NonNeg (6-0)∧(0≤bD .i32 (bD .i32 (bD .i32 (a' l (0+Int.toNat (i:Int))) (6)) (6)) (6)∧bD .i32 (bD .i32 (bD .i32 (a' l (0+Int.toNat (i:Int))) (6)) (6)) (6)≤255)∧True∧(v2=v2∧0+aO=List.length ck∧aO<aO+4∧(aO+4+(aO+4)/4+512)*1≤281474976710656∧aO+4<4611686018427387904)∧(-9223372036854775808≤(i:Int)+1∧(i:Int)+1≤9223372036854775807)∧U .normal [(3,(FF v2 aO)),(6,(iZ v n)),(7,.int .i64 (n:Int)),(8,.int .i64 ((i:Int)+1))] (j.ar 138 [(0,(jV v f l)),(50,(FG i v2 f2 l ck)),(92,(R.made ([(uQ i l)]) 4 true (some (95,4))))]))
abbrev V':dk:=(ag 18001 (ag 19001 (ag 19002 Mp)))
abbrev FM(i:Nat)(v:Nat)(f:Nat)(n:Nat)(v2:Nat)(f2:Nat)(aO:Nat)(l:List o)(ck:List o)(U:dc→bP→j→Prop):Prop:=(1114111<a' l (0+Int.toNat (i:Int))→(v2=v2∧0+aO=List.length ck∧aO<aO+3∧(aO+3+(aO+3)/4+512)*1≤281474976710656∧aO+3<4611686018427387904)∧(-9223372036854775808≤(i:Int)+1∧(i:Int)+1≤9223372036854775807)∧U .normal [(3,(xg v2 aO)),(6,(iZ v n)),(7,.int .i64 (n:Int)),(8,.int .i64 ((i:Int)+1))] (j.ar 131 [(0,(jV v f l)),(50,(AS v2 f2 ck)),(92,uR)]))
abbrev Mq:dk:=(ag 17001 (ag 17002 (ag 17003 V')))
abbrev Mr:dk:=(ag 15002 (ag 15003 (ag 16001 Mq)))
abbrev Ms:dk:=(.aK 6001 (.aK 8001 (ag 15001 Mr) Mq) (.aK 8001 (ag 15001 Mr) (ag 19001 (ag 19002 Mp))))
theorem Mt(i v f n v2 f2 aO:Nat)(l ck:List o)(U:dc→bP→j→Prop)(aY:((i:Int)<(n:Int)→(0≤(i:Int)∧(i:Int)<(n:Int))∧v=v∧l[0+Int.toNat (i:Int)]? =some (.int .i32 (a' l (0+Int.toNat (i:Int))))∧(a' l (0+Int.toNat (i:Int))<0→(v2=v2∧0+aO=List.length ck∧aO<aO+3∧(aO+3+(aO+3)/4+512)*1≤281474976710656∧aO+3<4611686018427387904)∧(-9223372036854775808≤(i:Int)+1∧(i:Int)+1≤9223372036854775807)∧U .normal [(3,(xg v2 aO)),(6,(iZ v n)),(7,.int .i64 (n:Int)),(8,.int .i64 ((i:Int)+1))] (j.ar 131 [(0,(jV v f l)),(50,(AS v2 f2 ck)),(92,uR)]))∧(¬a' l (0+Int.toNat (i:Int))<0→(55296≤a' l (0+Int.toNat (i:Int))→(a' l (0+Int.toNat (i:Int))≤57343→(v2=v2∧0+aO=List.length ck∧aO<aO+3∧(aO+3+(aO+3)/4+512)*1≤281474976710656∧aO+3<4611686018427387904)∧(-9223372036854775808≤(i:Int)+1∧(i:Int)+1≤9223372036854775807)∧U .normal [(3,(xg v2 aO)),(6,(iZ v n)),(7,.int .i64 (n:Int)),(8,.int .i64 ((i:Int)+1))] (j.ar 131 [(0,(jV v f l)),(50,(AS v2 f2 ck)),(92,uR)]))∧(¬a' l (0+Int.toNat (i:Int))≤57343→(FM i v f n v2 f2 aO l ck U)∧(¬1114111<a' l (0+Int.toNat (i:Int))→(FH i v f n v2 f2 aO l ck U)∧(¬a' l (0+Int.toNat (i:Int))<128→(2048≤a' l (0+Int.toNat (i:Int))→(FL i v f n v2 f2 aO l ck U)∧(FJ i v f n v2 f2 aO l ck U))∧(¬2048≤a' l (0+Int.toNat (i:Int))→(FK i v f n v2 f2 aO l ck U)∧(FI i v f n v2 f2 aO l ck U))))))∧(¬55296≤a' l (0+Int.toNat (i:Int))→(FM i v f n v2 f2 aO l ck U)∧(¬1114111<a' l (0+Int.toNat (i:Int))→(FH i v f n v2 f2 aO l ck U)∧(¬a' l (0+Int.toNat (i:Int))<128→(2048≤a' l (0+Int.toNat (i:Int))→(FL i v f n v2 f2 aO l ck U)∧(FJ i v f n v2 f2 aO l ck U))∧(¬2048≤a' l (0+Int.toNat (i:Int))→(FK i v f n v2 f2 aO l ck U)∧(FI i v f n v2 f2 aO l ck U)))))))∧(¬(i:Int)<(n:Int)→U (.exit 0) [(3,.slice (some ⟨50,v2,0,0,1⟩) aO aO),(6,(iZ v n)),(7,.int .i64 (n:Int)),(8,.int .i64 (i:Int))] (j.ar 61 [(0,(jV v f l)),(50,⟨ck,1,false,false,v2,0,f2,some (5,0)⟩)]))) :
 ∃e aW p,cx Tryz.prog aw 1 18 (cF Tryz.prog 51 0) [(3,.slice (some ⟨50,v2,0,0,1⟩) aO aO),(6,.slice (some ⟨0,v,0,0,1⟩) n n),(7,.int .i64 n),(8,.int .i64 i)] (j.rows 60 [(0,hk l v f),(50,nf ck v2 f2)]) e aW p∧U e aW p :=
 gm bQ mixed c8 (an:= .aK 3000 (ag 4000 (ag 4001 (he 5002 (.aK 1001 (ag 22003 (ag 6000 .nil)) (.aK 1004 (.aK 1007 (ag 22003 (ag 6000 .nil)) (.aK 1012 (ag 22003 (ag 6000 .nil)) (.aK 3001 (ag 4002 (ag 4004 (ag 6000 .nil))) Ms))) (.aK 1012 (ag 22003 (ag 6000 .nil)) (.aK 3001 (ag 4002 (ag 4004 (ag 6000 .nil))) Ms))))))) .nil) (cs:=[3,6,7,8]) (by kernel_rfl) aY
end Go.Proofs.YtddnafghiejcoaaGreatDoor
namespace Go.cM
theorem p'(x:Nat)(h:x<2^31):bx .i32 (x:Int) 63=((x%64:Nat):Int):=by
 unfold bx;rw [BitVec.toNat_and]
 have a:(BitVec.ofInt IntKind.i32.bits (x:Int)).toNat=x:=by show(BitVec.ofInt 32 (x:Int)).toNat=x;rw [BitVec.toNat_ofInt];omega
 have b:(BitVec.ofInt IntKind.i32.bits 63).toNat=63:=by decide
 rw [a,b,show x &&& 63=x%64 from Nat.and_two_pow_sub_one_eq_mod x 6];exact p1 (k:= .i32) (by simp only [ik];omega)
theorem k2(x:Nat):bD .i32 (x:Int) 6=((x/64:Nat):Int):=by unfold bD;show Int.fdiv (x:Int) 64=_;rw [Int.fdiv_eq_ediv_of_nonneg _ (by decide)];rfl
theorem uS:∀m:Fin 64,cg .u8 128 (m.val:Int)=((128+m.val:Nat):Int):=by decide+kernel
theorem Wa:∀m:Fin 32,cg .u8 (m.val:Int) 192=((192+m.val:Nat):Int):=by decide+kernel
theorem Wb:∀m:Fin 16,cg .u8 (m.val:Int) 224=((224+m.val:Nat):Int):=by decide+kernel
theorem Wc:∀m:Fin 8,cg .u8 (m.val:Int) 240=((240+m.val:Nat):Int):=by decide+kernel
end Go.cM
namespace Go.Proofs.YtddnafghiejcoaaGreatDoor
open Go.cM Go.Keys
set_option maxRecDepth 1000000
theorem o'{n:Nat}(h:n<256):((u8 n).toNat:Int)=n:=by
 have:(u8 n).toNat=n%256:=by unfold u8;simp [UInt8.toNat_ofNat']
 rw [this];omega
theorem AT{x:Nat}(h:¬(55296≤x∧x≤57343∨1114111<x)):put x=if x<128 then [u8 x]else if x<2048 then [u8 (192+x/64),u8 (128+x%64)]else if x<65536 then [u8 (224+x/4096),u8 (128+x/64%64),u8 (128+x%64)]else [u8 (240+x/262144),u8 (128+x/4096%64),u8 (128+x/64%64),u8 (128+x%64)]:=by unfold put;simp only [if_neg h]
theorem rs{x:Nat}(h:x<128): [o.int .u8 (x:Int)]=aL (put x):=by rw [AT (by omega),if_pos h];simp only [aL,List.map_cons,List.map_nil,o' (show x<256 by omega)]
theorem uT{x:Nat}(h:128≤x)(ad:x<2048): [o.int .u8 (cg .u8 (bD .i32 (x:Int) 6) 192),o.int .u8 (cg .u8 128 (bx .i32 (x:Int) 63))]=aL (put x):=by rw [AT (by omega),if_neg (by omega),if_pos ad];simp only [aL,List.map_cons,List.map_nil,o' (show 192+x/64<256 by omega),o' (show 128+x%64<256 by omega)];rw [p' x (by omega),k2,Wa ⟨x/64,by omega⟩,uS ⟨x%64,by omega⟩]
theorem s4{x:Nat}(h:2048≤x)(ad:x<65536)(bd:¬(55296≤x∧x≤57343)): [o.int .u8 (cg .u8 (bD .i32 (bD .i32 (x:Int) 6) 6) 224),o.int .u8 (cg .u8 128 (bx .i32 (bD .i32 (x:Int) 6) 63)),o.int .u8 (cg .u8 128 (bx .i32 (x:Int) 63))]=aL (put x):=by rw [AT (by omega),if_neg (by omega),if_neg (by omega),if_pos ad];simp only [aL,List.map_cons,List.map_nil,o' (show 224+x/4096<256 by omega),o' (show 128+x/64%64<256 by omega),o' (show 128+x%64<256 by omega)];rw [p' x (by omega),k2,k2,p' (x/64) (by omega),Wb ⟨x/64/64,by omega⟩,uS ⟨x%64,by omega⟩,uS ⟨x/64%64,by omega⟩];simp only [show x/64/64=x/4096 by omega]
theorem uU{x:Nat}(h:65536≤x)(ad:x≤1114111): [o.int .u8 (cg .u8 (bD .i32 (bD .i32 (bD .i32 (x:Int) 6) 6) 6) 240),o.int .u8 (cg .u8 128 (bx .i32 (bD .i32 (bD .i32 (x:Int) 6) 6) 63)),o.int .u8 (cg .u8 128 (bx .i32 (bD .i32 (x:Int) 6) 63)),o.int .u8 (cg .u8 128 (bx .i32 (x:Int) 63))]=aL (put x):=by rw [AT (by omega),if_neg (by omega),if_neg (by omega),if_neg (by omega)];simp only [aL,List.map_cons,List.map_nil,o' (show 240+x/262144<256 by omega),o' (show 128+x/4096%64<256 by omega),o' (show 128+x/64%64<256 by omega),o' (show 128+x%64<256 by omega)];rw [p' x (by omega),k2,k2,k2,p' (x/64) (by omega),p' (x/64/64) (by omega),Wc ⟨x/64/64/64,by omega⟩,uS ⟨x%64,by omega⟩,uS ⟨x/64%64,by omega⟩,uS ⟨x/64/64%64,by omega⟩];simp only [show x/64/64=x/4096 by omega,show x/4096/64=x/262144 by omega]
theorem Mu{x:Nat}(h:(55296≤x∧x≤57343)∨1114111<x): [o.int .u8 239,o.int .u8 191,o.int .u8 189]=aL (put x):=by unfold put;simp only;rw [if_pos h];rfl
theorem ru{x:Nat}(h:x<2^31):0≤bx .i32 (x:Int) 63∧bx .i32 (x:Int) 63≤255:=by rw [p' x h];omega
theorem rv{x:Nat}(h:x<2^31):0≤bx .i32 (bD .i32 (x:Int) 6) 63∧bx .i32 (bD .i32 (x:Int) 6) 63≤255:=by rw [k2,p' _ (by omega)];omega
theorem uV{x:Nat}(h:x<2^31):0≤bx .i32 (bD .i32 (bD .i32 (x:Int) 6) 6) 63∧bx .i32 (bD .i32 (bD .i32 (x:Int) 6) 6) 63≤255:=by rw [k2,k2,p' _ (by omega)];omega
theorem uW{x:Nat}(h:x<2048):0≤bD .i32 (x:Int) 6∧bD .i32 (x:Int) 6≤255:=by rw [k2];omega
theorem ry{x:Nat}(h:x<65536):0≤bD .i32 (bD .i32 (x:Int) 6) 6∧bD .i32 (bD .i32 (x:Int) 6) 6≤255:=by rw [k2,k2];omega
theorem uX{x:Nat}(h:x≤1114111):0≤bD .i32 (bD .i32 (bD .i32 (x:Int) 6) 6) 6∧bD .i32 (bD .i32 (bD .i32 (x:Int) 6) 6) 6≤255:=by rw [k2,k2,k2];omega
theorem FN{L:List Nat}{i:Nat}(h:i<L.length):(dR L)[i]? =some (.int .i32 (L[i]:Nat)):=by simp [dR,h]
theorem Mv{L:List Nat}{i:Nat}(h:i<L.length):a' (dR L) i=(L[i]:Nat):=by unfold a';rw [FN h]
theorem h1(l:Bytes):(aL l).length=l.length:=by simp [aL]
theorem Mw(a b:Bytes):aL (a++b)=aL a++aL b:=by simp [aL]
abbrev n0(v n i v2 aO C:Nat):bP:=[(3,.slice (some ⟨C,v2,0,0,1⟩) aO aO),(6,.slice (some ⟨0,v,0,0,1⟩) n n),(7,.int .i64 (n:Nat)),(8,.int .i64 (i:Nat))]
def xh(v f n i v2:Nat)(cY:R)(acc:Bytes)(x AU:Nat)(e:dc)(aW:bP)(p:j):Prop :=
 ∃C,1≤C∧e=.normal∧aW=n0 v n (i+1) v2 (acc.length+(put x).length) C∧p.get 0=some cY∧p.get C=some (nf (aL (acc++put x)) v2 AU)
theorem pa{v f n i v2 x AU C aO:Nat}{cY:R}{acc:Bytes}{bw:List o}{p:j}{i1:Int}(au:bw=aL (put x))(aV:1≤C)(ap:aO=acc.length+bw.length)(ak:i1=((i+1:Nat):Int))(bm:p.get 0=some cY)(ag:p.get C=some (nf (aL acc++bw) v2 AU)) :
 xh v f n i v2 cY acc x AU .normal [(3,.slice (some ⟨C,v2,0,0,1⟩) aO aO),(6,.slice (some ⟨0,v,0,0,1⟩) n n),(7,.int .i64 (n:Nat)),(8,.int .i64 i1)] p:=by
 subst au ak ap;rw [h1];exact⟨C,aV,rfl,rfl,bm,by rw [Mw];exact ag⟩
theorem Wd(L:List Nat)(v f i:Nat)(ak:i<L.length)(az:L.length<2^41)(ae:L[i]<2^31):∃e aW p,cx Tryz.prog aw 1 18 (cF Tryz.prog 51 0) [(3,.slice none 0 0),(6,.slice (some ⟨0,v,0,0,1⟩) L.length L.length),(7,.int .i64 L.length),(8,.int .i64 i)] (j.rows 1 [(0,hk (dR L) v f)]) e aW p∧xh v f L.length i 0 (hk (dR L) v f) [] L[i] 0 e aW p:=by
 refine V8 i v f L.length (dR L) (xh v f L.length i 0 (hk (dR L) v f) [] L[i] 0) ?_
 delta jV iZ FA Mf AP FC Mh uQ FB Mg AQ FD Mi Fz Me FE AR uR Fy AO
 rw [show 0+Int.toNat (i:Int)=i by simp,Mv ak,FN ak];generalize L[i]=x at ae;have gR:((i:Int)+1)=((i+1:Nat):Int):=by omega
 refine⟨fun _=>⟨⟨by omega,by omega⟩,rfl,rfl,?_⟩,fun h=>by omega⟩
 repeat' (first|exact True.intro|apply And.intro|intro _)
 all_goals first
  |omega
  |(exfalso;omega)
  |exact h0
  |exact(ru ae).1|exact(ru ae).2|exact(rv ae).1|exact(rv ae).2|exact(uV ae).1|exact(uV ae).2
  |exact(uW (by omega)).1|exact(uW (by omega)).2|exact(ry (by omega)).1|exact(ry (by omega)).2|exact(uX (by omega)).1|exact(uX (by omega)).2
  |exact pa (acc:=[]) (rs (by omega)) (by decide) rfl gR rfl rfl
  |exact pa (acc:=[]) (uT (by omega) (by omega)) (by decide) rfl gR rfl rfl
  |exact pa (acc:=[]) (Mu (by omega)) (by decide) rfl gR rfl rfl
  |exact pa (acc:=[]) (s4 (by omega) (by omega) (by omega)) (by decide) rfl gR rfl rfl
  |exact pa (acc:=[]) (uU (by omega) (by omega)) (by decide) rfl gR rfl rfl
theorem We(L:List Nat)(acc:Bytes)(v f i v2 f2:Nat)(ak:i<L.length)(az:L.length<2^41)(aT:acc.length<2^44)(ae:L[i]<2^31):∃e aW p,cx Tryz.prog aw 1 18 (cF Tryz.prog 51 0) (n0 v L.length i v2 acc.length 50) (j.rows 60 [(0,hk (dR L) v f),(50,nf (aL acc) v2 f2)]) e aW p ∧
 xh v f L.length i (v2+1) (hk (dR L) v f) acc L[i] (if 0=v2 then(aL acc).length else min f2 (aL acc).length) e aW p:=by
 refine Mt i v f L.length v2 f2 acc.length (dR L) (aL acc) (xh v f L.length i (v2+1) (hk (dR L) v f) acc L[i] (if 0=v2 then(aL acc).length else min f2 (aL acc).length)) ?_
 delta jV iZ FI AP Mn FK uQ FG FF FJ AQ Mo xg FL FH Mm FM uR Fy AS
 rw [show 0+Int.toNat (i:Int)=i by simp,Mv ak,FN ak];generalize L[i]=x at ae;have gR:((i:Int)+1)=((i+1:Nat):Int):=by omega
 have afU:=h1 acc;refine⟨fun _=>⟨⟨by omega,by omega⟩,rfl,rfl,?_⟩,fun h=>by omega⟩
 repeat' (first|exact True.intro|apply And.intro|intro _)
 all_goals first
  |omega
  |(exfalso;omega)
  |exact h0
  |exact(ru ae).1|exact(ru ae).2|exact(rv ae).1|exact(rv ae).2|exact(uV ae).1|exact(uV ae).2
  |exact(uW (by omega)).1|exact(uW (by omega)).2|exact(ry (by omega)).1|exact(ry (by omega)).2|exact(uX (by omega)).1|exact(uX (by omega)).2
  |exact pa (rs (by omega)) (by decide) rfl gR rfl rfl
  |exact pa (uT (by omega) (by omega)) (by decide) rfl gR rfl rfl
  |exact pa (Mu (by omega)) (by decide) rfl gR rfl rfl
  |exact pa (s4 (by omega) (by omega) (by omega)) (by decide) rfl gR rfl rfl
  |exact pa (uU (by omega) (by omega)) (by decide) rfl gR rfl rfl
theorem Wf(U:o→j→Prop)(aY:U (.str []) (j.ar 9 [])) :
 ∃v p,aI Tryz.prog aw 51 [.slice none 0 0] (⟨0,.nil⟩) v p∧U v p :=
 cb bQ mixed c8 (an:= .aA (.rounds 300) .nil) (by kernel_rfl) aY
theorem Wg(qa f n v2 f2 aO:Nat)(l ck:List o)(U:o→j→Prop)(aY:cx Tryz.prog aw 1 18 (Code.loop (cF Tryz.prog 51 0)) [(3,.slice none 0 0),(6,.slice (some ⟨0,qa,0,0,1⟩) n n),(7,.int .i64 (n:Int)),(8,.int .i64 0)] (j.ar 6 [(0,⟨l,1,false,false,qa,0,f,some (21,0)⟩)]) (.exit 0) (n0 qa n n v2 aO 50) (j.ar 60 [(0,hk l qa f),(50,nf ck v2 f2)])∧v2=v2∧0+aO≤List.length ck∧(∃l,List.take aO (List.drop (bG.idx ⟨50,v2,0,0,1⟩) (R.bi ⟨ck,1,false,false,v2,0,f2,some (5,0)⟩))=aL l)∧U (.str (strOf (List.take aO ck))) (j.ar 63 [(0,⟨l,1,false,false,qa,0,f,some (21,0)⟩),(50,⟨ck,1,false,false,v2,0,f2,some (5,0)⟩)])) :
 ∃v p,aI Tryz.prog aw 51 [.slice (some ⟨0,qa,0,0,1⟩) n n] (j.of [hk l qa f]) v p∧U v p :=
 cb bQ mixed c8 (an:= .aA (.cs [3,6,7,8]) (.aA (.loop (n0 qa n n v2 aO 50) (j.ar 60 [(0,hk l qa f),(50,nf ck v2 f2)]) (.exit 0)) (ag 7001 .nil))) (by kernel_rfl) aY
end Go.Proofs.YtddnafghiejcoaaGreatDoor
namespace Go.cM
noncomputable section
open Go.RowKit
theorem Wh{F:bP}{t:Nat}{v:o}(bg:hh F t=some v):(t,v)∈F:=by
 induction F with
 |nil=>cases bg
 |cons I r ih =>
  obtain⟨k,u⟩:=I;rw [kY]at bg;split at bg
  ·rename_i e;simp only [Option.some.injEq]at bg;subst e;subst bg;simp
  ·exact List.mem_cons_of_mem _ (ih bg)
theorem Wi{F:bP}{g:o→o}{t:Nat}{v:o}(bg:hh F t=some v):hh (F.map fun I=>(I.1,g I.2)) t=some (g v):=by
 induction F with
 |nil=>cases bg
 |cons I r ih =>
  obtain⟨k,u⟩:=I;rw [List.map_cons,kY];rw [kY]at bg;split at bg
  ·rename_i e;simp only [Option.some.injEq]at bg;subst bg;rw [if_pos e]
  ·rename_i e;rw [if_neg e];exact ih bg
theorem eV.move{base n:Nat}{F aW:bP}{h:j}{K:Nat}{l:List (Nat×R)}(r:Nat→Nat)(az:l.map (fun I=>h.get (r I.1))=l.map (fun I=>some (I.2.bc r)))(dj:l.all (fun I=>Nat.blt I.1 K)=true)
 (bb:((l.map (·.1)).map r).Nodup) (au:(List.range base).all (fun i=>(l.map (·.1)).contains i&&Nat.beq (r i) i)=true) (ff:l.all (fun I=>Nat.blt I.1 base || Nat.ble base (r I.1))=true)
 (Wj:F=aW.map fun I=>(I.1,I.2.bc r)) (aS:aW.all (fun I=>Nat.blt I.1 n)=true) (fI:bZ (aW.map fun I=>cA (cL (l.map (·.1))) I.2))
 (av:bZ (l.map fun I=> ∀e∈I.2.bi,cA (cL (l.map (·.1))) e)):eV base n F h aW (j.rows K l):=by
 have e0:∀i b,(j.rows K l).get i=some b→i<K∧h.get (r i)=some (b.bc r):=by intro i b k;have hm:=j.sR k;refine⟨Nat.blt_eq.mp (List.all_eq_true.1 dj _ hm),?_⟩;obtain⟨C,aV,e⟩:=List.mem_iff_getElem.1 hm;have p:=congrArg (fun(x:List (Option R))=>x[C]?) az;simp only [List.getElem?_map,List.getElem?_eq_getElem aV,Option.map_some,e,Option.some.injEq]at p;exact p
 have re:∀{v:o},cA (cL (l.map (·.1))) v→cA (In (j.rows K l)) v:=cA.mono fun i ak=>j.uz ak
 subst Wj;refine eV.bc (r:=r) ⟨fun i b k=>⟨by rw [j.Ak];exact(e0 i b k).1,(e0 i b k).2⟩,?_,?_⟩ ?_ ?_ ?_ ?_
 ·intro i C ak aV e;have ak:=j.uA ak;have aV:=j.uA aV;obtain⟨a,aT,rfl⟩:=List.mem_iff_getElem.1 ak;obtain⟨b,fs,rfl⟩:=List.mem_iff_getElem.1 aV;have p:((l.map (·.1)).map r)[a]'(by simpa using aT)=((l.map (·.1)).map r)[b]'(by simpa using fs):=by simpa using e
  have:=(List.getElem_inj bb).1 p;subst this;rfl
 ·intro i b k e he;have hm:=j.sR k;exact re (av _ (List.mem_map.2 ⟨_,hm,rfl⟩) e he)
 ·intro t v bg;have hm:=Wh bg;exact⟨Nat.blt_eq.mp (List.all_eq_true.1 aS _ hm),Wi bg,re (fI _ (List.mem_map.2 ⟨_,hm,rfl⟩))⟩
 ·intro i ak _;have:=List.all_eq_true.1 au i (List.mem_range.2 ak);simp only [Bool.and_eq_true]at this;exact j.uz (by simpa using this.1)
 ·intro i ak _;have:=List.all_eq_true.1 au i (List.mem_range.2 ak);simp only [Bool.and_eq_true]at this;exact Nat.eq_of_beq_eq_true this.2
 ·intro i ak cQ;have ak:=j.uA ak;obtain⟨I,hm,rfl⟩:=List.mem_map.1 ak;have:=List.all_eq_true.1 ff I hm;simp only [Bool.or_eq_true]at this;rcases this with p|p
  ·exact Nat.blt_eq.mp p
  ·have:=Nat.le_of_ble_eq_true p;omega
end
end Go.cM
namespace Go.Keys
theorem Mx(x:Nat)(l:List Nat):gn (x::l)=put x++gn l:=rfl
theorem Wk:gn []=[]:=rfl
theorem FO(r:Nat):(put r).length≤4:=by
 unfold put;simp only
 repeat' split
 all_goals simp
end Go.Keys
namespace Go.Proofs.YtddnafghiejcoaaGreatDoor
open Go.cM Go.Keys
set_option maxRecDepth 1000000
theorem Wl(l:Bytes):∀e∈aL l,cR e:=by intro e he;obtain⟨b,_,rfl⟩:=List.mem_map.1 he;exact cR.int _ _
theorem FP(acc:Bytes)(v f:Nat):dl (nf (aL acc) v f):=Wl acc
theorem Wm(a b:R):j.rows 60 [(0,a),(50,b)]=j.ar 60 [(0,a),(50,b)]:=by kernel_rfl
theorem Wn{n l c v:Nat} :cA (Go.cM.cL [0,50]) (.slice (some ⟨0,v,0,0,1⟩) l c):=(by show(0:Nat)∈ [0,50];simp)
theorem Wo{n l c v:Nat} :cA (Go.cM.cL [0,50]) (.slice (some ⟨50,v,0,0,1⟩) l c):=(by show(50:Nat)∈ [0,50];simp)
theorem FQ{v n i v2 aO C:Nat}{p:j}{cY B:R}(aV:1≤C)(dZ:dl cY)(cE:dl B)(bm:p.get 0=some cY)(ag:p.get C=some B):eV 1 18 (n0 v n i v2 aO C) p (n0 v n i v2 aO 50) (j.rows 60 [(0,cY),(50,B)]):=by
 refine eV.move (K:=60) (l:=[(0,cY),(50,B)]) (fun k=>if k=0 then 0 else C) ?_ rfl ?_ rfl ?_ ?_ rfl ?_ ?_
 ·simp [bm,ag,dZ.bc,cE.bc]
 ·simp;omega
 ·simp;exact aV
 ·simp [o.bc,bG.bc]
 ·exact bZ.cons (Wo (n:=0)) (bZ.cons (Wn (n:=0)) (bZ.cons trivial (bZ.cons trivial bZ.nil)))
 ·exact bZ.cons (fun e he=>(dZ e he).e1 _) (bZ.cons (fun e he=>(cE e he).e1 _) bZ.nil)
theorem Wp(L:List Nat)(v f:Nat)(az:L.length<2^41)(ae:∀x∈L,x<2^31):∀(k i:Nat)(acc:Bytes)(v2 f2:Nat),L.length-i≤k→i≤L.length→acc.length≤4*i→ ∃v3 f3,
 cN Tryz.prog aw 1 18 (cF Tryz.prog 51 0) (n0 v L.length i v2 acc.length 50) (j.rows 60 [(0,hk (dR L) v f),(50,nf (aL acc) v2 f2)]) (.exit 0) (n0 v L.length L.length v3 (acc++gn (L.drop i)).length 50)
  (j.rows 60 [(0,hk (dR L) v f),(50,nf (aL (acc++gn (L.drop i))) v3 f3)]):=by
 intro k
 have fin:∀(acc:Bytes)(v2 f2:Nat),∃v3 f3,cN Tryz.prog aw 1 18 (cF Tryz.prog 51 0) (n0 v L.length L.length v2 acc.length 50) (j.rows 60 [(0,hk (dR L) v f),(50,nf (aL acc) v2 f2)]) (.exit 0) (n0 v L.length L.length v3 (acc++gn (L.drop L.length)).length 50)
  (j.rows 60 [(0,hk (dR L) v f),(50,nf (aL (acc++gn (L.drop L.length))) v3 f3)]):=by
  intro acc v2 f2;obtain⟨e,aW,p,bb,rfl,rfl,bm,ag⟩:=Mt L.length v f L.length v2 f2 acc.length (dR L) (aL acc) (fun e aW p=>e=.exit 0∧aW=n0 v L.length L.length v2 acc.length 50∧p.get 0=some (hk (dR L) v f)∧p.get 50=some (nf (aL acc) v2 f2)) ⟨fun h=>by omega,fun _=>⟨rfl,rfl,rfl,rfl⟩⟩;refine⟨v2,f2,?_⟩;rw [List.drop_length,Wk,List.append_nil];exact(cN.last (by simp) bb).post (FQ (cY:=hk (dR L) v f) (by decide) (rr L) (FP _ _ _) bm ag)
 induction k with
 |zero =>
  intro i acc v2 f2 ap ak aT;obtain rfl:i=L.length:=by omega
  exact fin acc v2 f2
 |succ k ih =>
  intro i acc v2 f2 ap ak aT;by_cases av:i<L.length
  ·obtain⟨e,aW,p,bb,C,aV,rfl,rfl,bm,ag⟩:=We L acc v f i v2 f2 av az (by omega) (ae _ (List.getElem_mem av));have ac:=FO L[i];obtain⟨v3,f3,ds⟩:=ih (i+1) (acc++put L[i]) (v2+1) _ (by omega) (by omega) (by rw [List.length_append];omega)
   have bn:(acc++put L[i])++gn (L.drop (i+1))=acc++gn (L.drop i):=by rw [List.drop_eq_getElem_cons av,Mx,List.append_assoc]
   rw [bn]at ds;refine⟨v3,f3,cN.step (bb.post ?_) ds⟩;rw [List.length_append];exact FQ (cY:=hk (dR L) v f) aV (rr L) (FP _ _ _) bm ag
  ·obtain rfl:i=L.length:=by omega
   exact fin acc v2 f2
theorem Wq(H:j):aI Tryz.prog aw 51 [.slice none 0 0] H (.str []) H:=aI.fm (Wf (fun v _=>v=.str []) rfl) rfl rfl H
theorem Wr{L:List Nat}{v f:Nat}(az:L.length<2^41)(ae:∀x∈L,x<2^31)(bm:L≠[]){H:j}{id:Nat}(hid:id<H.next)(ag:H.get id=some (hk (dR L) v f)) :
 aI Tryz.prog aw 51 [.slice (some ⟨id,v,0,0,1⟩) L.length L.length] H (.str (gn L)) H:=by
 have ir:0<L.length:=List.length_pos_iff.2 bm;obtain⟨e,aW,p,bb,C,aV,rfl,rfl,bE,mj⟩:=Wd L v f 0 ir az (ae _ (List.getElem_mem ir));obtain⟨v3,f3,ds⟩:=Wp L v f az ae L.length 1 ([]++put L[0]) 0 0 (by omega) (by omega) (by have:=FO L[0];simp only [List.nil_append];omega)
 have bn:([]++put L[0])++gn (L.drop 1)=gn L:=by
  have:L=L[0]::L.drop 1:=by rw [←List.drop_eq_getElem_cons ir,List.drop_zero]
  conv=>rhs;rw [this,Mx]
  rfl
 rw [bn]at ds;have My:=FQ (cY:=hk (dR L) v f) (v:=v) (n:=L.length) (i:=0+1) (v2:=0) (aO:=([]:Bytes).length+(put L[0]).length) aV (rr L) (FP _ _ _) bE mj;have bs:([]:Bytes).length+(put L[0]).length=([]++put L[0]:Bytes).length:=by simp
 rw [bs]at My bb;have Mz:=(cN.step (bb.post My) ds).pre (eV.drop (h:=j.ar 6 [(0,hk (dR L) v f)]) (F:=[(3,o.slice none 0 0),(6,o.slice (some ⟨0,v,0,0,1⟩) L.length L.length),(7,o.int .i64 L.length),(8,o.int .i64 (0:Nat))]) (K:=1) (l:=[(0,hk (dR L) v f)]) rfl rfl rfl rfl (bZ.cons trivial (bZ.cons (show(0:Nat)∈ [0]by simp) (bZ.cons trivial (bZ.cons trivial bZ.nil)))) (bZ.cons (fun e he=>((rr L) e he).e1 _) bZ.nil));rw [Wm]at Mz;have el:List.take (gn L).length (aL (gn L))=aL (gn L):=by rw [←h1,List.take_length]
 have k:=Wg v f L.length v3 f3 (gn L).length (dR L) (aL (gn L)) (fun v1 ad=>v1=.str (gn L)∧ad.get 0=some (hk (dR L) v f)) ⟨cx.gL Mz,rfl,by rw [h1];omega,⟨gn L,by simpa using el⟩,by rw [el,iX],rfl⟩;obtain⟨v1,ad,aC,rfl,kc⟩:=k;have:=aI.pure (l:=[hk (dR L) v f]) aC (fun b au=>by rw [List.mem_singleton.1 au];exact rr L) (by show [ad.get 0]=_;rw [kc];rfl) (cR.str _) (by exact⟨by show 0<1;decide,trivial⟩) (H:=H) [id] (by simp) (by intro C aV;rw [List.mem_singleton.1 aV];exact hid) (by simp [ag]);simpa [o.bc,bG.bc,dJ]using this
noncomputable def FR:List o→j→Option eC:=fun args h=>match args with
 |[.str s]=>some (.or (s=[]) (.one (.slice none 0 0) h []) (.one (.slice (some ⟨h.next,(eJ s).length-1,0,0,1⟩) (eJ s).length (eJ s).length) (h.hx [] [nd (eJ s)]) [s.length<2^40]))
 |_=>none
theorem Ws:∀args h a,FR args h=some a→a.dw Tryz.prog aw 150 args h:=by
 intro args h a e;unfold FR at e;split at e<;>first|(cases e;done)|skip
 simp only [Option.some.injEq]at e;subst e;refine⟨fun bm _=> ?_,fun bm ac=> ?_⟩
 ·subst bm;exact V4 h
 ·exact V5 _ ac.head bm h
noncomputable def Wt:fc:=p4.add 150 FR
theorem Wu:eW Tryz.prog aw Wt:=c8.add Ws
abbrev AV(s:Bytes):R:=⟨dR (eJ s),1,false,false,List.length (eJ s)-1,0,jU (List.length (eJ s)),some (21,0)⟩
theorem Wv(s:Bytes)(U:o→j→Prop)(aY:(s=[]→c7 Tryz.prog aw 51 [.slice none 0 0] (j.ar 11 []) (.str (gn (eJ s))) (j.ar 11 [])∧(gn (eJ s)=s→U (.bool true) (j.ar 11 []))∧(¬gn (eJ s)=s→U (.bool false) (j.ar 11 [])))∧(¬s=[]→List.length s<1099511627776∧c7 Tryz.prog aw 51 [.slice (some {id:=11,J:=List.length (eJ s)-1,idx:=0,bR:=0,es:=1}) (List.length (eJ s)) (List.length (eJ s))] (j.hx (j.ar 11 []) [] [(AV s)]) (.str (gn (eJ s))) (j.hx (j.ar 11 []) [] [(AV s)])∧(gn (eJ s)=s→U (.bool true) (j.hx (j.ar 11 []) [] [(AV s)]))∧(¬gn (eJ s)=s→U (.bool false) (j.hx (j.ar 11 []) [] [(AV s)])))) :
 ∃v p,aI Tryz.prog aw 109 [.str s] (⟨0,.nil⟩) v p∧U v p :=
 cb bQ mixed Wu (an:=he 1001 (.aK 1001 (.aA (.val 1002 (.str (gn (eJ s)))) (.skip 1003 (.aK 1003 .nil .nil))) (.aA (.val 1002 (.str (gn (eJ s)))) (.skip 1003 (.aK 1003 .nil .nil))))) (by kernel_rfl) aY
end Go.Proofs.YtddnafghiejcoaaGreatDoor
namespace Go.Keys
theorem MA:∀(k i a1 ak v:Nat)(l:Bytes),(tail k i a1 ak v l).1<(v+1)*64^k∨(tail k i a1 ak v l).1=65533
 |0,i,a1,ak,v,l=>by simp [tail]
 |k+1,i,a1,ak,v,[]=>by simp [tail]
 |k + 1,i,a1,ak,v,c::r=>by
  simp only [tail];split
  ·exact .inr rfl
  ·rcases MA k (i+1) 128 191 (v*64+c.toNat%64) r with h|h
   ·refine .inl (Nat.lt_of_lt_of_le h ?_);rw [Nat.pow_succ,←Nat.mul_assoc,Nat.mul_right_comm];exact Nat.mul_le_mul_right _ (by omega)
   ·exact .inr h
theorem Ww(s:Bytes):(first s).1<2^31:=by
 cases s with
 |nil=>simp [first]
 |cons b r =>
  simp only [first];have au:=b.toNat_lt;split
  ·simp
  ·split
   ·simp only;omega
   ·have aS:(lead b.toNat).1≤4:=LN _;rcases MA ((lead b.toNat).1-1) 1 (lead b.toNat).2.1 (lead b.toNat).2.2 (b.toNat%2^(7- (lead b.toNat).1)) r with h|h
    ·have p:b.toNat%2^(7- (lead b.toNat).1)+1≤256:=by have:=Nat.mod_le b.toNat (2^(7- (lead b.toNat).1));omega
     have ad:64^((lead b.toNat).1-1)≤64^3:=Nat.pow_le_pow_right (by decide) (by omega);have bd:=Nat.mul_le_mul p ad;have bS:(256:Nat)*64^3<2^31:=by decide
     omega
    ·rw [h];decide
theorem MB:∀(k:Nat)(s:Bytes),∀x∈js k s,x<2^31
 |0,s,x,h=>by simp [js]at h
 |k+1,[],x,h=>by simp [js]at h
 |k+1,b::r,x,h=>by
  simp only [js,List.mem_cons]at h;rcases h with rfl|h
  ·exact Ww _
  ·exact MB k _ x h
theorem Wx(s:Bytes):∀x∈eJ s,x<2^31:=MB _ s
theorem Wy{s:Bytes}(h:s≠[]):eJ s≠[]:=by rw [AN h];simp
end Go.Keys
namespace Go.Proofs.YtddnafghiejcoaaGreatDoor
open Go.cM Go.Keys
set_option maxRecDepth 1000000
theorem Wz(s:Bytes)(an:s.length<2^40)(H:j):aI Tryz.prog aw 109 [.str s] H (.bool (valid s)) H:=by
 have bX:gn (eJ s)=s→valid s=true:=fun h=>by unfold valid;rw [h];simp
 have a8:¬gn (eJ s)=s→valid s=false:=fun h=>by unfold valid;rw [beq_eq_false_iff_ne];exact h
 refine aI.fm (Wv s (fun v _=>v=.bool (valid s)) ⟨fun bm=>⟨⟨?_⟩,fun h=>by rw [bX h],fun h=>by rw [a8 h]⟩,fun bm=>⟨an,⟨?_⟩,fun h=>by rw [bX h],fun h=>by rw [a8 h]⟩⟩) rfl rfl H
 ·subst bm;exact Wq _
 ·have aS:=L' s.length s (Nat.le_refl _);exact Wr (id:=11) (by omega) (Wx s) (Wy bm) (by show 11<12;decide) rfl
def er(k:Int):UInt8:=UInt8.ofNat k.toNat
def n1(a0 ao a2 a3 n:Int):Bytes:=([a0,ao,a2,a3].take n.toNat).map er
def cc(a0 ao a2 a3 n c:Int):List Nat×Bytes:=cl (n1 a0 ao a2 a3 n) (er c)
structure iy(a0 ao a2 a3 n c:Int):Prop where
 aS:0≤n∧n≤3
 ay:0<n→0≤a0∧a0≤255
 ba:1<n→0≤ao∧ao≤255
 bT:2<n→0≤a2∧a2≤255
 av:0≤c∧c≤255
 op:n=0∨(first (n1 a0 ao a2 a3 n)).2.2=true
noncomputable def xi:List o→j→Option eC:=fun args h =>
 match args with
 |[.ptr (some u),.slice (some b) AW gM] =>
  match h.get u.id,h.get b.id with
  |some jW,some kd =>
   match jW.bi,kd.bi with
   |[.agg [.int .u8 a0,.int .u8 ao,.int .u8 a2,.int .u8 a3,.int .i64 n]],[.int .u8 c] =>
    cond (Nat.beq u.J 0&&Nat.beq u.idx 0&&Nat.beq u.bR 0&&Nat.beq u.es 5&&Nat.beq b.J 0&&Nat.beq b.idx 0&&Nat.beq b.bR 0&&Nat.beq b.es 1&&Nat.beq AW 1&&Nat.beq gM 1
     && Nat.beq jW.es 5&&jW.exact&&!jW.ro&&Nat.beq jW.J 0&&Nat.beq jW.fX 0&&Nat.beq jW.gQ 0&&Nat.beq kd.es 1&&kd.exact&&!kd.ro&&Nat.beq kd.J 0&&Nat.beq kd.fX 0&&Nat.beq kd.gQ 0&&kd.aq.isNone&&Nat.blt u.id h.next&&Nat.blt b.id h.next&&!(Nat.beq u.id b.id))
     (some (.or ((cc a0 ao a2 a3 n c).1=[])
      (.one (.slice none 0 0) (h.hx [u.id,b.id] [cn (cc a0 ao a2 a3 n c).2 a0 ao a2 a3 jW.aq,gW c]) [iy a0 ao a2 a3 n c])
      (.or ((cc a0 ao a2 a3 n c).1.length=1)
       (.one (.slice (some ⟨h.next,0,0,0,1⟩) 1 1) (h.hx [u.id,b.id] [cn (cc a0 ao a2 a3 n c).2 a0 ao a2 a3 jW.aq,gW c,xa ((cc a0 ao a2 a3 n c).1.getD 0 0)]) [iy a0 ao a2 a3 n c])
       (.one (.slice (some ⟨h.next,1,0,0,1⟩) 2 2) (h.hx [u.id,b.id] [cn (cc a0 ao a2 a3 n c).2 a0 ao a2 a3 jW.aq,gW c,xb ((cc a0 ao a2 a3 n c).1.getD 0 0) ((cc a0 ao a2 a3 n c).1.getD 1 0)]) [iy a0 ao a2 a3 n c])))) none
   |_,_=>none
  |_,_=>none
 |_=>none
noncomputable def MC:List o→j→Option eC:=kA fun a=>match a with | [.str s]=>some (.bool (valid s),[s.length<2^40])|_=>none
noncomputable def MD:fc:=(p4.add 107 xi).add 109 MC
theorem rz{c:Int}(h:0≤c∧c≤255):((er c).toNat:Int)=c:=by
 unfold er;have:(UInt8.ofNat c.toNat).toNat=c.toNat%256:=by simp [UInt8.toNat_ofNat']
 rw [this];omega
abbrev FT(v:o)(cY:R)(c:Int)(p:j):Prop:=aI Tryz.prog aw 107 [.ptr (some ⟨0,0,0,0,5⟩),.slice (some ⟨1,0,0,0,1⟩) 1 1] (j.of [cY,gW c]) v p
theorem WA{a0 ao a2 a3 n c:Int}(I:iy a0 ao a2 a3 n c)(aq:Option (TypeId×Nat)):∃v p,FT v (hj a0 ao a2 a3 n aq) c p∧nc a0 ao a2 a3 c aq (cc a0 ao a2 a3 n c) v p:=by
 have av:=rz I.av;obtain⟨aj,ft⟩:=I.aS;have aS:n=0∨n=1∨n=2∨n=3:=by omega
 unfold cc;generalize er c=cf at av;subst av;rcases aS with rfl|rfl|rfl|rfl
 ·exact Vd cf a0 ao a2 a3 aq
 ·have ca:=rz (I.ay (by decide));have op:=I.op.resolve_left (by decide);have bW:n1 a0 ao a2 a3 1=[er a0]:=rfl;rw [bW]at op⊢;generalize er a0=h2 at ca op;subst ca;obtain⟨b,r,e,az,a8⟩:=uP op;simp only [List.cons.injEq]at e;obtain⟨rfl,rfl⟩:=e;rcases jS h2.toNat with h|h|h|h|h
  ·omega
  ·omega
  ·exact Vf h2 cf ao a2 a3 aq h
  ·exact Vg h2 cf ao a2 a3 aq h
  ·exact Vh h2 cf ao a2 a3 aq h
 ·have ca:=rz (I.ay (by decide));have bn:=rz (I.ba (by decide));have op:=I.op.resolve_left (by decide);have bW:n1 a0 ao a2 a3 2=[er a0,er ao]:=rfl;rw [bW]at op⊢;generalize er a0=h2 at ca op;generalize er ao=k3 at bn op;subst ca bn;obtain⟨b,r,e,az,a8⟩:=uP op;simp only [List.cons.injEq]at e;obtain⟨rfl,rfl⟩:=e;rw [a8]at op;rcases jS h2.toNat with h|h|h|h|h
  ·omega
  ·omega
  ·rw [h]at op;simp only [tail]at op;split at op<;>simp at op
  ·have p:¬(k3.toNat<(lead h2.toNat).2.1∨(lead h2.toNat).2.2<k3.toNat):=by intro q;rw [h]at op;simp only [tail]at op;rw [if_pos q]at op;simp at op
   exact Vi h2 k3 cf a2 a3 aq h p
  ·have p:¬(k3.toNat<(lead h2.toNat).2.1∨(lead h2.toNat).2.2<k3.toNat):=by intro q;rw [h]at op;simp only [tail]at op;rw [if_pos q]at op;simp at op
   exact Vj h2 k3 cf a2 a3 aq h p
 ·have ca:=rz (I.ay (by decide));have bn:=rz (I.ba (by decide));have bs:=rz (I.bT (by decide));have op:=I.op.resolve_left (by decide);have bW:n1 a0 ao a2 a3 3=[er a0,er ao,er a2]:=rfl;rw [bW]at op⊢;generalize er a0=h2 at ca op;generalize er ao=k3 at bn op;generalize er a2=FU at bs op;subst ca bn bs;obtain⟨b,r,e,az,a8⟩:=uP op;simp only [List.cons.injEq]at e;obtain⟨rfl,rfl⟩:=e;rw [a8]at op
  have p:¬(k3.toNat<(lead h2.toNat).2.1∨(lead h2.toNat).2.2<k3.toNat):=by
   intro q;obtain⟨m,hm⟩:∃m,(lead h2.toNat).1-1=m+1:=⟨(lead h2.toNat).1-2,by omega⟩
   rw [hm]at op;simp only [tail]at op;rw [if_pos q]at op;simp at op
  rcases jS h2.toNat with h|h|h|h|h
  ·omega
  ·omega
  ·rw [h]at op;simp only [tail]at op;rw [if_neg p]at op;simp at op
  ·rw [h]at op;simp only [tail]at op;rw [if_neg p]at op;split at op<;>simp at op
  ·have ad:¬(FU.toNat<128∨191<FU.toNat):=by intro q;rw [h]at op;simp only [tail]at op;rw [if_neg p,if_pos q]at op;simp at op
   exact Vk h2 k3 FU cf a3 aq h p ad
theorem uY(bE aM aR bu n:Int)(aq:Option (TypeId×Nat)):dl (hj bE aM aR bu n aq):=by intro e he;rw [List.mem_singleton.1 he];exact cR.of rfl
theorem ME(c:Int):dl (gW c):=by intro e he;rw [List.mem_singleton.1 he];exact cR.int _ _
theorem WB{a b:R}(aT:dl a)(au:dl b):∀x∈ [a,b],dl x:=by
 intro x ae;simp only [List.mem_cons,List.not_mem_nil,or_false]at ae;rcases ae with rfl|rfl
 ·exact aT
 ·exact au
theorem WC(r:Nat):dl (xa r):=by intro e he;rw [List.mem_singleton.1 he];exact cR.int _ _
theorem WD(r s:Nat):dl (xb r s):=by intro e he;simp only [List.mem_cons,List.not_mem_nil,or_false]at he;rcases he with rfl|rfl<;>exact cR.int _ _
theorem FV{cY rA:R}{c:Int}{v v2:o}{p:j}(k:FT v cY c p)(dZ:dl cY)(WE:dl rA)(hz:List Nat)(l:List R)(az:∀x∈l,dl x)(sE:l.length=hz.length)(e0:(List.range (l.length+2)).map (fun i=>p.get (gC 2 hz i))=(rA::gW c::l).map some)(bg:v=v2.bc (gC 2 hz))(wW:cA (fun i=>i<l.length+2) v2)
 (EW:hz.all (fun C=>Nat.ble 2 C)=true) (h5:hz.Nodup) {H:j} {u b:Nat} (xj:u≠b) (hu:u<H.next) (au:b<H.next) (WG:H.get u=some cY) (qb:H.get b=some (gW c)) :
 aI Tryz.prog aw 107 [.ptr (some ⟨u,0,0,0,5⟩),.slice (some ⟨b,0,0,0,1⟩) 1 1] H (v2.bc (dJ [u,b] H.next)) (H.hx [u,b] (rA::gW c::l)):=by
 have fs:∀x∈rA::gW c::l,dl x:=by
  intro x ae;rcases List.mem_cons.1 ae with rfl|ae
  ·exact WE
  ·rcases List.mem_cons.1 ae with rfl|ae
   ·exact ME c
   ·exact az x ae
 have aM:=k.fin hz (rA::gW c::l) v2 fs (by simp [sE];omega) e0 bg wW EW h5;have aR:=aM.Uu (WB dZ (ME c)) fs (by simp) (by exact⟨by show 0<2;decide,by show 1<2;decide,trivial⟩) (H:=H) [u,b] (by simp [xj]) (by intro C aV;simp at aV;omega) (by simp [WG,qb]);simpa [o.bc,bG.bc,dJ]using aR
theorem MF:∀args h a,xi args h=some a→a.dw Tryz.prog aw 107 args h:=by
 intro args H a e;unfold xi at e;split at e<;>first|(cases e;done)|skip
 rename_i u b AW gM;split at e<;>first|(cases e;done)|skip
 rename_i jW kd xj l';split at e<;>first|(cases e;done)|skip
 rename_i a0 ao a2 a3 n c q0 oW
 cases aD:(Nat.beq u.J 0&&Nat.beq u.idx 0&&Nat.beq u.bR 0&&Nat.beq u.es 5&&Nat.beq b.J 0&&Nat.beq b.idx 0&&Nat.beq b.bR 0&&Nat.beq b.es 1&&Nat.beq AW 1&&Nat.beq gM 1
  && Nat.beq jW.es 5&&jW.exact&&!jW.ro&&Nat.beq jW.J 0&&Nat.beq jW.fX 0&&Nat.beq jW.gQ 0&&Nat.beq kd.es 1&&kd.exact&&!kd.ro&&Nat.beq kd.J 0&&Nat.beq kd.fX 0&&Nat.beq kd.gQ 0&&kd.aq.isNone&&Nat.blt u.id H.next&&Nat.blt b.id H.next&&!(Nat.beq u.id b.id))with
 |false=>rw [aD]at e;cases e
 |true =>
  rw [aD,cond_true]at e;simp only [Bool.and_eq_true,Nat.beq_eq,Bool.not_eq_true',Nat.blt_eq,Option.isNone_iff_eq_none]at aD;simp only [Option.some.injEq]at e;subst e;obtain⟨⟨⟨⟨⟨⟨⟨⟨⟨⟨⟨⟨⟨⟨⟨⟨⟨⟨⟨⟨⟨⟨⟨⟨⟨dH,dy⟩,gy⟩,mT⟩,n2⟩,uZ⟩,MG⟩,MH⟩,MI⟩,MJ⟩,MK⟩,ML⟩,MM⟩,MN⟩,MO⟩,MP⟩,MQ⟩,MR⟩,MS⟩,MT⟩,MU⟩,MV⟩,MW⟩,AX⟩,AY⟩,FW⟩:=aD;obtain⟨Ka,afV,afW,afX,afY⟩:=u;obtain⟨D6,bv,oF,lZ,afZ⟩:=b;obtain⟨ek,ck,rn,s5,MX,MY,af0,oU⟩:=jW;obtain⟨m1,m2,m3,m4,m5,m6,m7,m8⟩:=kd;simp only at dH dy gy mT n2 uZ MG MH MI MJ MK ML MM MN MO MP MQ MR MS MT MU MV MW AX AY FW q0 oW;subst dH dy gy mT n2 uZ MG MH MI MJ MK ML MM MN MO MP MQ MR MS MT MU MV MW q0 oW;have b1:Ka≠D6:=fun h=>by rw [h]at FW;simp at FW
  have ok:iy a0 ao a2 a3 n c→ ∃v p,FT v (hj a0 ao a2 a3 n oU) c p∧nc a0 ao a2 a3 c oU (cc a0 ao a2 a3 n c) v p:=fun I=>WA I oU
  refine⟨fun bm ac=> ?_,fun bm=>⟨fun p ac=> ?_,fun p ac=> ?_⟩⟩
  ·obtain⟨v,p,aC,g0,g1,g2⟩:=ok ac.head;rw [bm]at g2;simp only at g2;have:=FV (v2:= .slice none 0 0) aC (uY _ _ _ _ _ _) (uY _ _ _ _ _ _) [] [] (fun x ae=>by cases ae) rfl (rA:=cn (cc a0 ao a2 a3 n c).2 a0 ao a2 a3 oU) (by simp [gC,List.range_succ,g0,g1]) (by rw [g2];rfl) trivial rfl List.nodup_nil b1 AX AY xj l';simpa [o.bc]using this
  ·obtain⟨v,ad,aC,g0,g1,g2⟩:=ok ac.head;cases az:(cc a0 ao a2 a3 n c).1 with
   |nil=>exact absurd az bm
   |cons r t =>
    cases t with
    |cons x y=>rw [az]at p;simp at p
    |nil =>
     rw [az]at g2;obtain⟨C,aV,bg,ag⟩:=g2;have:=FV (v2:= .slice (some ⟨2,0,0,0,1⟩) 1 1) aC (uY _ _ _ _ _ _) (uY _ _ _ _ _ _) [C] [xa r] (fun x ae=>by rw [List.mem_singleton.1 ae];exact WC r) rfl (rA:=cn (cc a0 ao a2 a3 n c).2 a0 ao a2 a3 oU) (by simp [gC,List.range_succ,g0,g1,ag]) (by rw [bg];simp [o.bc,bG.bc,gC]) (by show 2<3;decide) (by simp [aV]) (by simp) b1 AX AY xj l';simpa [o.bc,bG.bc,dJ,az]using this
  ·obtain⟨v,ad,aC,g0,g1,g2⟩:=ok ac.head;cases az:(cc a0 ao a2 a3 n c).1 with
   |nil=>exact absurd az bm
   |cons r t =>
    cases t with
    |nil=>rw [az]at p;simp at p
    |cons x y =>
     cases y with
     |cons _ _=>rw [az]at g2;exact g2.elim
     |nil =>
      rw [az]at g2;obtain⟨C,aV,bg,ag⟩:=g2;have:=FV (v2:= .slice (some ⟨2,1,0,0,1⟩) 2 2) aC (uY _ _ _ _ _ _) (uY _ _ _ _ _ _) [C] [xb r x] (fun z eT=>by rw [List.mem_singleton.1 eT];exact WD r x) rfl (rA:=cn (cc a0 ao a2 a3 n c).2 a0 ao a2 a3 oU) (by simp [gC,List.range_succ,g0,g1,ag]) (by rw [bg];simp [o.bc,bG.bc,gC]) (by show 2<3;decide) (by simp [aV]) (by simp) b1 AX AY xj l';simpa [o.bc,bG.bc,dJ,az]using this
theorem WH:∀args h a,MC args h=some a→a.dw Tryz.prog aw 109 args h:=by
 refine lE ?_;intro args v e5 e ac H;split at e<;>first|(cases e;done)|skip
 simp only [Option.some.injEq,Prod.mk.injEq]at e;obtain⟨rfl,rfl⟩:=e;exact Wz _ ac.head H
theorem WI:eW Tryz.prog aw MD:=(c8.add MF).add WH
def cK:mZ→Nat
 |.ground=>30
 |.du=>59
 |.dd=>90
 |.sequence=>87
 |.single=>88
 |.cW=>129
theorem WJ{a b:mZ}(h:cK a=cK b):a=b:=by cases a<;>cases b<;>first|rfl|(exact absurd h (by decide))
structure cL where
 u:Nat
 k:Nat
 I:Nat
 ab:Nat
def cL.map(r:Nat→Nat)(aF:cL):cL:=⟨r aF.u,r aF.k,r aF.I,r aF.ab⟩
abbrev b2(d f u:Nat)(aX ah:o)(cr:Bool)(af:o)(aq:Option (TypeId×Nat)):R :=
 R.made [.agg [.func (.func f) [.ptr (some ⟨d,0,0,0,6⟩)] [],aX,ah,.bool cr,.ptr (some ⟨u,0,0,0,5⟩),af]] 6 true aq
abbrev b3(l:List o)(es v m f:Nat)(aq:Option (TypeId×Nat)):R:= {bi:=l,es:=es,exact:=false,ro:=false,J:=v,fX:=m,gQ:=f,aq:=aq}
abbrev cI:Option (TypeId×Nat):=some (5,0)
abbrev ew:Option (TypeId×Nat):=some (42,0)
inductive gg where
 |nil|one|grown (dO:Bytes)
def Grown(H:j)(k:Nat)(v:o)(l:Bytes)(dO:Bytes):Prop :=
 ∃J m f,v=.slice (some ⟨k,J,dO.length,0,1⟩) l.length l.length∧H.get k=some (b3 (aL (dO++l)) 1 J m f cI)
def i'(H:j)(d k:Nat)(v:o):gg→Bytes→Prop
 |.nil,l=>v=.slice none 0 0∧l=[]∧k=d
 |.one,l=>k≠d∧v=.slice (some ⟨k,0,0,0,1⟩) 1 1∧H.get k=some (R.made [.int .u8 27] 1 true)∧l=[27]
 |.grown dO,l=>k≠d∧Grown H k v l dO
def ja(H:j)(d I:Nat)(v:o)(l:Bytes):Prop :=
 (v=.slice none 0 0∧l=[]∧I=d)∨(I≠d∧l≠[]∧Grown H I v l [])
def jb(H:j)(d ab:Nat)(v:o)(es:List bj):Prop :=
 (v=.slice none 0 0∧es=[]∧ab=d)∨(ab≠d∧es≠[]∧∃J m f,v=.slice (some ⟨ab,J,0,0,6⟩) es.length es.length∧H.get ab=some (b3 (es.map cm) 6 J m f ew))
structure dQ(H:j)(d:Nat)(aF:cL)(f:Nat)(cr:Bool)(bo:gg)(kept hold aB:Bytes)(es:List bj):Prop where
 ex:∃aX ah af aq,H.get d=some (b2 d f aF.u aX ah cr af aq)∧i' H d aF.k aX bo kept∧ja H d aF.I ah aB∧jb H d aF.ab af es
 iq:∃bA bz bl bB aq,H.get aF.u=some (cn hold bA bz bl bB aq)
 lt:d<H.next∧aF.u<H.next∧aF.k<H.next∧aF.I<H.next∧aF.ab<H.next
 ne:aF.k=d∨aF.I=d∨aF.k≠aF.I
def qc:mZ→gg→Bytes→Prop
 |.ground,.nil,_=>True
 |.du,.one,_=>True
 |.cW,.nil,_=>True
 |.cW,.grown _,_=>True
 |.dd,.grown [],l=>l≠[]
 |.sequence,.grown [],l=>l≠[]
 |.single,.grown [],l=>l≠[]
 |_,_,_=>False
def cu(H:j)(d:Nat)(aF:cL)(s:bO)(es:List bj):Prop:= ∃bo,dQ H d aF (cK s.cp) (decide (s.cp=.cW)) bo s.kept s.hold s.aB es∧qc s.cp bo s.kept
theorem WK{a b:Bytes}(h:aL a=aL b):a=b:=by
 have:=congrArg strOf h
 rwa [iX,iX]at this
theorem MZ{a b:bj}(h:cm a=cm b):a=b:=by unfold cm at h;simp only [o.agg.injEq,List.cons.injEq,o.int.injEq,o.str.injEq,and_true,true_and]at h;cases a;cases b;simp_all
theorem M0:∀{a b:List bj},a.map cm=b.map cm→a=b
 |[],[],_=>rfl
 |[],_::_,h=>by simp at h
 |_::_,[],h=>by simp at h
 |x::a,y::b,h=>by simp only [List.map_cons,List.cons.injEq]at h;rw [MZ h.1,M0 h.2]
theorem FX{H:j}{k aR:Nat}{v:o}{l ck C bl:Bytes}(h:Grown H k v l C)(ad:Grown H aR v ck bl):k=aR∧l=ck∧C=bl:=by obtain⟨J,m,f,e,g⟩:=h;obtain⟨jX,m2,f2,bs,g2⟩:=ad;rw [e]at bs;simp only [o.slice.injEq,Option.some.injEq,bG.mk.injEq]at bs;obtain⟨⟨ap,_,aV,_⟩,_,_⟩:=bs;subst ap;rw [g]at g2;simp only [Option.some.injEq,R.mk.injEq]at g2;have:=WK g2.1;exact⟨rfl,(List.append_inj this aV).2,(List.append_inj this aV).1⟩
theorem WL{H:j}{d k aR:Nat}{v:o}{bo rB:gg}{l ck:Bytes}(h:i' H d k v bo l)(ad:i' H d aR v rB ck):k=aR∧l=ck∧bo=rB:=by
 cases bo<;>cases rB<;>simp only [i']at h ad
 ·exact⟨by omega,by rw [h.2.1,ad.2.1],rfl⟩
 ·have:=h.1.symm.trans ad.2.1;simp at this
 ·obtain⟨_,_,_,_,e,_⟩:=ad;rw [h.1]at e;simp at e
 ·have:=ad.1.symm.trans h.2.1;simp at this
 ·have:=h.2.1.symm.trans ad.2.1;exact⟨by simpa using this,by rw [h.2.2.2,ad.2.2.2],rfl⟩
 ·obtain⟨_,_,_,_,e,g⟩:=ad;have:=h.2.1.symm.trans e;simp only [o.slice.injEq,Option.some.injEq,bG.mk.injEq]at this;obtain⟨⟨ap,_⟩,_⟩:=this;rw [ap,g]at h;simp [R.made]at h
 ·obtain⟨_,_,_,_,e,_⟩:=h;rw [ad.1]at e;simp at e
 ·obtain⟨_,_,_,_,e,g⟩:=h;have:=ad.2.1.symm.trans e;simp only [o.slice.injEq,Option.some.injEq,bG.mk.injEq]at this;obtain⟨⟨ap,_⟩,_⟩:=this;rw [ap,g]at ad;simp [R.made]at ad
 ·obtain⟨a,b,c⟩:=FX h.2 ad.2;exact⟨a,b,by rw [c]⟩
theorem WM{H:j}{d k aR:Nat}{v:o}{l ck:Bytes}(h:ja H d k v l)(ad:ja H d aR v ck):k=aR∧l=ck:=by
 rcases h with ⟨a,b,c⟩|⟨a,b,g⟩<;>rcases ad with ⟨a2,bT,ee⟩|⟨a2,bT,g2⟩
 ·exact⟨by omega,by rw [b,bT]⟩
 ·obtain⟨_,_,_,e,_⟩:=g2;rw [a]at e;simp at e
 ·obtain⟨_,_,_,e,_⟩:=g;rw [a2]at e;simp at e
 ·exact⟨(FX g g2).1,(FX g g2).2.1⟩
theorem WN{H:j}{d k aR:Nat}{v:o}{l ck:List bj}(h:jb H d k v l)(ad:jb H d aR v ck):k=aR∧l=ck:=by
 rcases h with ⟨a,b,c⟩|⟨a,b,J,m,f,e,g⟩<;>rcases ad with ⟨a2,bT,ee⟩|⟨a2,bT,jX,m2,f2,bs,g2⟩
 ·exact⟨by omega,by rw [b,bT]⟩
 ·rw [a]at bs;simp at bs
 ·rw [a2]at e;simp at e
 ·rw [e]at bs;simp only [o.slice.injEq,Option.some.injEq,bG.mk.injEq]at bs;obtain⟨⟨ap,_⟩,_⟩:=bs;subst ap;rw [g]at g2;simp only [Option.some.injEq,R.mk.injEq]at g2;exact⟨rfl,M0 g2.1⟩
theorem WO{h ad:Bytes}{bA bz bl bB i0 i1 i2 i3:Int}{aq ng:Option (TypeId×Nat)}(az:h.length≤4)(e:cn h bA bz bl bB aq=cn ad i0 i1 i2 i3 ng):h=ad:=by
 simp only [R.made,R.mk.injEq,List.cons.injEq,o.agg.injEq,o.int.injEq,true_and,and_true]at e;obtain⟨⟨ca,bn,bs,b7,fO⟩,_⟩:=e;have fO:h.length=ad.length:=by omega
 apply List.ext_getElem? fun i=> ?_
 by_cases ak:i<h.length
 ·have u0:i<ad.length:=by omega
  have key:cd h i 0=cd ad i 0:=by
   have:i=0∨i=1∨i=2∨i=3:=by omega
   have g:∀(x:Bytes)(a b:Int),i<x.length→cd x i a=cd x i b:=fun x a b ae=>by simp [cd,List.getElem?_eq_getElem ae]
   rcases this with rfl|rfl|rfl|rfl
   ·rw [g h 0 bA ak,g ad 0 i0 u0];exact ca
   ·rw [g h 0 bz ak,g ad 0 i1 u0];exact bn
   ·rw [g h 0 bl ak,g ad 0 i2 u0];exact bs
   ·rw [g h 0 bB ak,g ad 0 i3 u0];exact b7
  simp only [cd,List.getElem?_eq_getElem ak,List.getElem?_eq_getElem u0]at key;rw [List.getElem?_eq_getElem ak,List.getElem?_eq_getElem u0]
  congr 1
  exact UInt8.toNat_inj.1 (by omega)
 ·rw [List.getElem?_eq_none (by omega),List.getElem?_eq_none (by omega)]
theorem dQ.q9{H:j}{d:Nat}{aF db:cL}{f f2:Nat}{cr rC:Bool}{bo rB:gg}{kept FY hold AZ aB FZ:Bytes}{es rD:List bj}(h:dQ H d aF f cr bo kept hold aB es)(ad:dQ H d db f2 rC rB FY AZ FZ rD)(az:hold.length≤4) :
 aF=db∧f=f2∧cr=rC∧bo=rB∧kept=FY∧hold=AZ∧aB=FZ∧es=rD:=by
 obtain⟨aX,ah,af,aq,e,ap,ac,ai⟩:=h.ex;obtain⟨u1,u2,rE,ng,bs,cB,u3,hC⟩:=ad.ex;rw [e]at bs;simp only [R.made,Option.some.injEq,R.mk.injEq,List.cons.injEq,o.agg.injEq,o.func.injEq,Fn.func.injEq,o.ptr.injEq,bG.mk.injEq,o.bool.injEq,true_and,and_true]at bs;obtain⟨⟨a8,rfl,rfl,nh,hu,rfl⟩,_⟩:=bs;obtain⟨bA,bz,bl,bB,aE,WQ⟩:=h.iq;obtain⟨i0,i1,i2,i3,af1,M1⟩:=ad.iq;rw [←hu,WQ]at M1;have bW:=WO az (Option.some.inj M1);obtain⟨aM,aR,bu⟩:=WL ap cB;obtain⟨fv,kv⟩:=WM ac u3;obtain⟨pb,n3⟩:=WN ai hC;cases aF;cases db
 simp_all
theorem cu.q9{H:j}{d:Nat}{aF db:cL}{s s2:bO}{es rD:List bj}(h:cu H d aF s es)(ad:cu H d db s2 rD)(az:s.hold.length≤4):aF=db∧s=s2∧es=rD:=by
 obtain⟨bo,g,_⟩:=h;obtain⟨rB,g2,_⟩:=ad;obtain⟨a,b,c,d,e,f,g,i⟩:=g.q9 g2 az;have:=WJ b;cases s;cases s2
 simp_all
theorem lJ(l:Bytes):∀e∈aL l,cR e:=by intro e he;obtain⟨b,_,rfl⟩:=List.mem_map.1 he;exact cR.int _ _
theorem F0(e:bj):cR (cm e):=cR.of rfl
theorem M2(l:List bj):∀e∈l.map cm,cR e:=by intro e he;obtain⟨b,_,rfl⟩:=List.mem_map.1 he;exact F0 b
theorem rF(bE aM aR bu n:Int)(aq:Option (TypeId×Nat)):dl (hj bE aM aR bu n aq):=by intro e he;rw [List.mem_singleton.1 he];exact cR.of rfl
theorem qd{l:List o}(h:∀e∈l,cR e)(es v m f:Nat)(aq:Option (TypeId×Nat)):dl (b3 l es v m f aq):=h
theorem M3:dl (R.made [.int .u8 27] 1 true):=by intro e he;rw [List.mem_singleton.1 he];exact cR.of rfl
theorem Grown.pc{aa aP:j}{r:Nat→Nat}(bb:∀i b,aa.get i=some b→aP.get (r i)=some (b.bc r)){k:Nat}{v:o}{l dO:Bytes}(g:Grown aa k v l dO):Grown aP (r k) (v.bc r) l dO:=by
 obtain⟨J,m,f,rfl,ag⟩:=g;refine⟨J,m,f,rfl,?_⟩;have:=bb _ _ ag
 rwa [(qd (lJ _) _ _ _ _ _).bc]at this
theorem dQ.pc{aa aP:j}{r:Nat→Nat}(bb:∀i b,aa.get i=some b→aP.get (r i)=some (b.bc r))(iw:∀i C,r i=r C→i=C)(cQ:∀i,i<aa.next→r i<aP.next){d:Nat}{aF:cL}{f:Nat}{cr:Bool}{bo:gg}{kept hold aB:Bytes}{es:List bj}
 (g:dQ aa d aF f cr bo kept hold aB es):dQ aP (r d) (aF.map r) f cr bo kept hold aB es where
 ex := by
  obtain⟨aX,ah,af,aq,e,ap,ac,ai⟩:=g.ex;refine⟨aX.bc r,ah.bc r,af.bc r,aq,?_,?_,?_,?_⟩
  ·rw [bb _ _ e];simp [R.bc,R.made,o.bc,o.gK,bG.bc,cL.map]
  ·cases bo with
   |nil =>
    obtain⟨rfl,rfl,ap⟩:=ap;exact⟨rfl,rfl,by show r aF.k=r d;rw [ap]⟩
   |one =>
    obtain⟨b1,rfl,ap,rfl⟩:=ap;refine⟨fun e=>b1 (iw _ _ e),rfl,?_,rfl⟩;have:=bb _ _ ap
    rwa [M3.bc]at this
   |grown dO=>exact⟨fun e=>ap.1 (iw _ _ e),ap.2.pc bb⟩
  ·rcases ac with ⟨rfl,rfl,ac⟩|⟨p,ad,bd⟩
   ·exact .inl ⟨rfl,rfl,by show r aF.I=r d;rw [ac]⟩
   ·exact .inr ⟨fun e=>p (iw _ _ e),ad,bd.pc bb⟩
  ·rcases ai with ⟨rfl,rfl,ai⟩|⟨p,ad,J,m,aG,rfl,ag⟩
   ·exact .inl ⟨rfl,rfl,by show r aF.ab=r d;rw [ai]⟩
   ·refine .inr ⟨fun e=>p (iw _ _ e),ad,J,m,aG,rfl,?_⟩;have:=bb _ _ ag
    rwa [(qd (M2 _) _ _ _ _ _).bc]at this
 iq:=by
  obtain⟨bA,bz,bl,bB,aq,hu⟩:=g.iq;refine⟨bA,bz,bl,bB,aq,?_⟩;have:=bb _ _ hu
  rwa [(rF _ _ _ _ _ _).bc]at this
 lt:=⟨cQ _ g.lt.1,cQ _ g.lt.2.1,cQ _ g.lt.2.2.1,cQ _ g.lt.2.2.2.1,cQ _ g.lt.2.2.2.2⟩
 ne:=by
  rcases g.ne with h|h|h
  ·exact .inl (by show r aF.k=r d;rw [h])
  ·exact .inr (.inl (by show r aF.I=r d;rw [h]))
  ·exact .inr (.inr fun e=>h (iw _ _ e))
structure Fr(h aa:j)(d:Nat)(aF aQ:cL):Prop where
 next:h.next≤aa.next
 get:∀C,C<h.next→C≠d→C≠aF.u→C≠aF.k→C≠aF.I→C≠aF.ab→aa.get C=h.get C
 ids:∀x,x=aQ.u∨x=aQ.k∨x=aQ.I∨x=aQ.ab→x=d∨x=aF.u∨x=aF.k∨x=aF.I∨x=aF.ab∨h.next≤x
theorem Fr.trans{h p ad:j}{d:Nat}{aF n4 db:cL}(a:Fr h p d aF n4)(b:Fr p ad d n4 db):Fr h ad d aF db where
 next:=Nat.le_trans a.next b.next
 get C aV bn bs b7 ct il:=by
  have key:∀x,(x=n4.u∨x=n4.k∨x=n4.I∨x=n4.ab)→C≠x:=by intro x ae e;subst e;have:=a.ids _ ae;omega
  rw [b.get C (Nat.lt_of_lt_of_le aV a.next) bn (key _ (.inl rfl)) (key _ (.inr (.inl rfl))) (key _ (.inr (.inr (.inl rfl)))) (key _ (.inr (.inr (.inr rfl)))),a.get C aV bn bs b7 ct il]
 ids x ae:=by
  rcases b.ids x ae with h|h|h|h|h|h
  ·exact .inl h
  ·exact a.ids x (.inl h)
  ·exact a.ids x (.inr (.inl h))
  ·exact a.ids x (.inr (.inr (.inl h)))
  ·exact a.ids x (.inr (.inr (.inr h)))
  ·have:=a.next;omega
def kB:R:=R.made [] 1 true
theorem F1:dl kB:=by intro e he;cases he
noncomputable def u4(H:j):j:=⟨H.next+3,(((H.set H.next kB).set (H.next+1) kB).set (H.next+2) kB).aJ⟩
theorem A0(H:j)(C:Nat):(u4 H).get C=if H.next+2=C then some kB else if H.next+1=C then some kB else if H.next=C then some kB else H.get C:=by show(((H.set H.next kB).set (H.next+1) kB).set (H.next+2) kB).get C=_;rw [j.kP,j.kP,j.kP]
theorem n5(H:j)(C:Nat)(h:C<H.next):(u4 H).get C=H.get C:=by rw [A0,if_neg (by omega),if_neg (by omega),if_neg (by omega)]
structure Part(H:j)(d x i WR:Nat)(v v0:o)(B:R)(C jg:Nat)(es:Nat):Prop where
 bare:dl B
 bc:∀r:Nat→Nat,r i=C→v0.bc r=v
 e1:∀D:Nat→Prop,D i→cA D v0
 row:(u4 H).get C=some B
 at':(jg=0∧x=d∧C=H.next+WR)∨(jg=i∧x=C∧C≠d∧C<H.next∧B.es=es)
theorem WS{H:j}{d k:Nat}{v:o}{bo:gg}{l:Bytes}(h:i' H d k v bo l)(ap:k<H.next):∃v0 B C jg,Part H d k 2 0 v v0 B C jg 1∧∀bm:j,bm.get 2=some B→i' bm 0 jg v0 bo l:=by
 cases bo with
 |nil =>
  obtain⟨rfl,rfl,rfl⟩:=h;exact⟨.slice none 0 0,kB,H.next,0,⟨F1,fun _ _=>rfl,fun _ _=>trivial,by rw [A0,if_neg (by omega),if_neg (by omega),if_pos rfl],.inl ⟨rfl,rfl,rfl⟩⟩,fun bm _=>⟨rfl,rfl,rfl⟩⟩
 |one =>
  obtain⟨b1,rfl,ag,rfl⟩:=h;exact⟨.slice (some ⟨2,0,0,0,1⟩) 1 1,R.made [.int .u8 27] 1 true,k,2,⟨M3,fun r bb=>by simp [o.bc,bG.bc,bb],fun D b'=>b',by rw [n5 _ _ ap];exact ag,.inr ⟨rfl,rfl,b1,ap,rfl⟩⟩,fun bm g0=>⟨by decide,rfl,g0,rfl⟩⟩
 |grown dO =>
  obtain⟨b1,J,m,f,rfl,ag⟩:=h
  exact⟨.slice (some ⟨2,J,dO.length,0,1⟩) l.length l.length,b3 (aL (dO++l)) 1 J m f cI,k,2,⟨qd (lJ _) _ _ _ _ _,fun r bb=>by simp [o.bc,bG.bc,bb],fun D b'=>b',by rw [n5 _ _ ap];exact ag,.inr ⟨rfl,rfl,b1,ap,rfl⟩⟩,
   fun bm g0=>⟨by decide,J,m,f,rfl,g0⟩⟩
theorem WT{H:j}{d k:Nat}{v:o}{l:Bytes}(h:ja H d k v l)(ap:k<H.next):∃v0 B C jg,Part H d k 3 1 v v0 B C jg 1∧∀bm:j,bm.get 3=some B→ja bm 0 jg v0 l:=by
 rcases h with ⟨rfl,rfl,rfl⟩|⟨b1,az,J,m,f,rfl,ag⟩
 ·exact⟨.slice none 0 0,kB,H.next+1,0,⟨F1,fun _ _=>rfl,fun _ _=>trivial,by rw [A0,if_neg (by omega),if_pos rfl],.inl ⟨rfl,rfl,rfl⟩⟩,fun bm _=> .inl ⟨rfl,rfl,rfl⟩⟩
 ·exact⟨.slice (some ⟨3,J,0,0,1⟩) l.length l.length,b3 (aL ([]++l)) 1 J m f cI,k,3,⟨qd (lJ _) _ _ _ _ _,fun r bb=>by simp [o.bc,bG.bc,bb],fun D b'=>b',by rw [n5 _ _ ap];exact ag,.inr ⟨rfl,rfl,b1,ap,rfl⟩⟩,
   fun bm g0=> .inr ⟨by decide,az,J,m,f,rfl,g0⟩⟩
theorem WU{H:j}{d k:Nat}{v:o}{l:List bj}(h:jb H d k v l)(ap:k<H.next):∃v0 B C jg,Part H d k 4 2 v v0 B C jg 6∧(jg=4→B.exact=false)∧∀bm:j,bm.get 4=some B→jb bm 0 jg v0 l:=by
 rcases h with ⟨rfl,rfl,rfl⟩|⟨b1,az,J,m,f,rfl,ag⟩
 ·exact⟨.slice none 0 0,kB,H.next+2,0,⟨F1,fun _ _=>rfl,fun _ _=>trivial,by rw [A0,if_pos rfl],.inl ⟨rfl,rfl,rfl⟩⟩,(fun e=>by cases e),fun bm _=> .inl ⟨rfl,rfl,rfl⟩⟩
 ·exact⟨.slice (some ⟨4,J,0,0,6⟩) l.length l.length,b3 (l.map cm) 6 J m f ew,k,4,⟨qd (M2 _) _ _ _ _ _,fun r bb=>by simp [o.bc,bG.bc,bb],fun D b'=>b',by rw [n5 _ _ ap];exact ag,.inr ⟨rfl,rfl,b1,ap,rfl⟩⟩,fun _=>rfl,
   fun bm g0=> .inr ⟨by decide,az,J,m,f,rfl,g0⟩⟩
theorem dQ.M4{H:j}{d:Nat}{aF:cL}{f:Nat}{cr:Bool}{bo:gg}{kept hold aB:Bytes}{es:List bj}(g:dQ H d aF f cr bo kept hold aB es){fn:FuncId}{rest:List o}{v:o}(uy:∀a∈rest,cR a)(bg:cR v)
 {Q:j→Nat→cL→Prop} (eI:∀(aa aP:j)(r:Nat→Nat)(d:Nat)(aF:cL),(∀i b,aa.get i=some b→aP.get (r i)=some (b.bc r))→(∀i C,r i=r C→i=C)→(∀i,i<aa.next→r i<aP.next)→Q aa d aF→Q aP (r d) (aF.map r))
 (small:∀aX ah af aq aE bA bz bl bB K P O a7,dQ (j.of [b2 0 f 1 aX ah cr af aq,cn hold bA bz bl bB aE,K,P,O]) 0 a7 f cr bo kept hold aB es→(a7.u=1∧(a7.k=0∨a7.k=2)∧(a7.I=0∨a7.I=3)∧(a7.ab=0∨a7.ab=4))→dl K→dl P→dl O →
  ∃aa,aI Tryz.prog aw fn (.ptr (some ⟨0,0,0,0,6⟩)::rest) (j.of [b2 0 f 1 aX ah cr af aq,cn hold bA bz bl bB aE,K,P,O]) v aa∧∃aQ,Q aa 0 aQ∧Fr (j.of [b2 0 f 1 aX ah cr af aq,cn hold bA bz bl bB aE,K,P,O]) aa 0 a7 aQ) :
 ∃aP,aI Tryz.prog aw fn (.ptr (some ⟨d,0,0,0,6⟩)::rest) H v aP∧∃aQ,Q aP d aQ∧Fr H aP d aF aQ:=by
 obtain⟨aX,ah,af,aq,e,ap,ac,ai⟩:=g.ex;obtain⟨bA,bz,bl,bB,aE,hu⟩:=g.iq;obtain⟨ek,ck,rn,s5,MX⟩:=g.lt;obtain⟨xk,K,rG,s6,lK,WV⟩:=WS ap rn;obtain⟨lL,P,rH,s7,pp,WW⟩:=WT ac s5;obtain⟨A1,O,pd,kq,ju,af2,co⟩:=WU ai MX;have M5:rG<H.next→H.get rG=some K:=fun h=>by rw [←n5 _ _ h];exact lK.row
 have M6:rH<H.next→H.get rH=some P:=fun h=>by rw [←n5 _ _ h];exact pp.row
 have F2:pd<H.next→H.get pd=some O:=fun h=>by rw [←n5 _ _ h];exact ju.row
 have WX:d≠aF.u:=by intro h;rw [←h,e]at hu;simp [R.made]at hu
 have WY:rG<H.next→K.es=1→aF.u≠rG:=by intro p ad h;have:=M5 p;rw [←h,hu]at this;simp only [Option.some.injEq]at this;rw [←this]at ad;simp [R.made]at ad
 have WZ:rH<H.next→P.es=1→aF.u≠rH:=by intro p ad h;have:=M6 p;rw [←h,hu]at this;simp only [Option.some.injEq]at this;rw [←this]at ad;simp [R.made]at ad
 have W0:pd<H.next→O.es=6→aF.u≠pd:=by intro p ad h;have:=F2 p;rw [←h,hu]at this;simp only [Option.some.injEq]at this;rw [←this]at ad;simp [R.made]at ad
 have W1:rG<H.next→K.es=1→pd<H.next→O.es=6→rG≠pd:=by intro p ad bd bS h;have:=M5 p;rw [h,F2 bd]at this;simp only [Option.some.injEq]at this;rw [this]at bS;omega
 have W2:rH<H.next→P.es=1→pd<H.next→O.es=6→rH≠pd:=by intro p ad bd bS h;have:=M6 p;rw [h,F2 bd]at this;simp only [Option.some.injEq]at this;rw [this]at bS;omega
 let ids:=[d,aF.u,rG,rH,pd]
 let aH:=u4 H
 let r:=dJ ids aH.next
 have kC:aH.next=H.next+3:=rfl
 have h5:ids.Nodup:=by
  have ao:=lK.at';have a2:=pp.at';have a3:=ju.at';have a4:=g.ne;simp only [ids,List.nodup_cons,List.mem_cons,List.not_mem_nil,or_false,not_or,List.nodup_nil,and_true,not_false_eq_true];refine⟨⟨WX,?_,?_,?_⟩,⟨?_,?_,?_⟩,⟨?_,?_⟩,?_⟩
  ·omega
  ·omega
  ·omega
  ·rcases ao with ⟨_,_,h⟩|⟨_,_,_,h,aa⟩
   ·omega
   ·exact WY h aa
  ·rcases a2 with ⟨_,_,h⟩|⟨_,_,_,h,aa⟩
   ·omega
   ·exact WZ h aa
  ·rcases a3 with ⟨_,_,h⟩|⟨_,_,_,h,aa⟩
   ·omega
   ·exact W0 h aa
  ·omega
  ·rcases ao with ⟨_,_,h⟩|⟨_,_,_,h,aa⟩<;>rcases a3 with ⟨_,_,q⟩|⟨_,_,_,q,jG⟩
   ·omega
   ·omega
   ·omega
   ·exact W1 h aa q jG
  ·rcases a2 with ⟨_,_,h⟩|⟨_,_,_,h,aa⟩<;>rcases a3 with ⟨_,_,q⟩|⟨_,_,_,q,jG⟩
   ·omega
   ·omega
   ·omega
   ·exact W2 h aa q jG
 have cQ:∀C∈ids,C<aH.next:=by have ao:=lK.at';have a2:=pp.at';have a3:=ju.at';intro C aV;simp only [ids,List.mem_cons,List.not_mem_nil,or_false]at aV;rcases aV with rfl|rfl|rfl|rfl|rfl<;>omega
 have j3:r 0=d:=rfl;have fT:r 1=aF.u:=rfl;have kn:r 2=rG:=rfl;have qe:r 3=rH:=rfl;have xl:r 4=pd:=rfl
 let l:List R:=[b2 0 f 1 xk lL cr A1 aq,cn hold bA bz bl bB aE,K,P,O]
 have W3:∀b∈l,Aw (fun i=>i<l.length) b:=by
  intro b au;simp only [l,List.mem_cons,List.not_mem_nil,or_false]at au;rcases au with rfl|rfl|rfl|rfl|rfl
  ·intro x ae;rw [List.mem_singleton.1 ae];simp only [cA,fw,l,List.length_cons,List.length_nil];exact⟨⟨⟨by decide,trivial⟩,trivial⟩,lK.e1 _ (by decide),pp.e1 _ (by decide),trivial,by decide,ju.e1 _ (by decide),trivial⟩
  ·exact(rF _ _ _ _ _ _).e1 _
  ·exact lK.bare.e1 _
  ·exact pp.bare.e1 _
  ·exact ju.bare.e1 _
 have az:∀i b,l[i]? =some b→aH.get (r i)=some (b.bc r):=by
  intro i b au;have ak:=(List.getElem?_eq_some_iff.1 au).1;simp only [l,List.length_cons,List.length_nil]at ak;have:i=0∨i=1∨i=2∨i=3∨i=4:=by omega
  rcases this with rfl|rfl|rfl|rfl|rfl
  ·simp only [l,List.getElem?_cons_zero,Option.some.injEq]at au;subst au;rw [j3];show(u4 H).get d=_;rw [n5 _ _ ek,e];have bn:=lK.bc r kn;have bs:=pp.bc r qe;have b7:=ju.bc r xl;simp [R.bc,R.made,o.bc,o.gK,bG.bc,bn,bs,b7,j3,fT]
  ·simp only [l,List.getElem?_cons_zero,List.getElem?_cons_succ,Option.some.injEq]at au;subst au;rw [fT,(rF _ _ _ _ _ _).bc];show(u4 H).get aF.u=_;rw [n5 _ _ ck];exact hu
  ·simp only [l,List.getElem?_cons_zero,List.getElem?_cons_succ,Option.some.injEq]at au;subst au;rw [kn,lK.bare.bc];exact lK.row
  ·simp only [l,List.getElem?_cons_zero,List.getElem?_cons_succ,Option.some.injEq]at au;subst au;rw [qe,pp.bare.bc];exact pp.row
  ·simp only [l,List.getElem?_cons_zero,List.getElem?_cons_succ,Option.some.injEq]at au;subst au;rw [xl,ju.bare.bc];exact ju.row
 have gs:dQ (j.of l) 0 ⟨1,s6,s7,kq⟩ f cr bo kept hold aB es:=by
  refine⟨⟨xk,lL,A1,aq,by rw [j.e3];rfl,WV _ (by rw [j.e3];rfl),WW _ (by rw [j.e3];rfl),co _ (by rw [j.e3];rfl)⟩,⟨bA,bz,bl,bB,aE,by rw [j.e3];rfl⟩,?_,?_⟩
  ·have ao:=lK.at';have a2:=pp.at';have a3:=ju.at';show 0<5∧1<5∧s6<5∧s7<5∧kq<5;omega
  ·have ao:=lK.at';have a2:=pp.at';show s6=0∨s7=0∨s6≠s7;omega
 obtain⟨aa,aC,aQ,aD,cU⟩:=small xk lL A1 aq aE bA bz bl bB K P O _ gs (by have ao:=lK.at';have a2:=pp.at';have a3:=ju.at';show 1=1∧(s6=0∨s6=2)∧(s7=0∨s7=3)∧(kq=0∨kq=4);omega) lK.bare pp.bare ju.bare;have W4:5≤aa.next:=cU.next
 obtain⟨aP,hN,q8,e0,jr⟩:=aC.place (lA:=W4) W3 (by
  refine q7.2 fun a aT=> ?_
  rcases List.mem_cons.1 aT with rfl|aT
  ·show 0<5;decide
  ·exact(uy a aT).e1 _) (H:=aH) ids h5 cQ rfl az
 have gH:(o.ptr (some ⟨0,0,0,0,6⟩)::rest).map (o.bc (dJ ids aH.next))=o.ptr (some ⟨d,0,0,0,6⟩)::rest:=by
  rw [List.map_cons]
  congr 1
  conv=>rhs;rw [←List.map_id rest]
  exact List.map_congr_left fun a aT=>(uy a aT).1 _
 rw [gH,bg.1]at hN;have iw:∀i C,r i=r C→i=C:=fun i C h=>LK h5 cQ h
 have W5:∀i,i<aa.next→r i<aP.next:=by
  intro i ak;have q8:aP.next=H.next+3+(aa.next-5):=q8
  by_cases c:i<5
  ·have bI:i<ids.length:=c;have:=cQ _ (List.getElem_mem bI);show dJ ids aH.next i<_
   rw [sX bI];omega
  ·show dJ ids aH.next i<_
   rw [mY (show ids.length≤i by show 5≤i;omega)];show H.next+3+(i-5)<_
   omega
 refine⟨aP,hN.less (by show H.next≤H.next+3;omega) (fun i ak=>n5 H i ak),aQ.map r,eI aa aP r 0 aQ e0 iw W5 aD,?_,?_,?_⟩
 ·have q8:aP.next=H.next+3+(aa.next-5):=q8
  omega
 ·intro C aV bn bs b7 ct il
  have wm:C ∉ ids:=by have ao:=lK.at';have a2:=pp.at';have a3:=ju.at';simp only [ids,List.mem_cons,List.not_mem_nil,or_false,not_or];refine⟨bn,bs,?_,?_,?_⟩<;>omega
  rw [jr C (by show C<H.next+3;omega) wm];exact n5 H C aV
 ·intro x ae
  have key:∀y,(y=aQ.u∨y=aQ.k∨y=aQ.I∨y=aQ.ab)→r y=d∨r y=aF.u∨r y=aF.k∨r y=aF.I∨r y=aF.ab∨H.next≤r y:=by
   intro y bY;have ao:=lK.at';have a2:=pp.at';have a3:=ju.at';rcases cU.ids y bY with h|h|h|h|h|h
   ·left;rw [h];exact j3
   ·right;left;rw [h];exact fT
   ·have h:y=s6:=h;rcases ao with ⟨ba,_,_⟩|⟨ba,bT,_⟩
    ·left;rw [h,ba];exact j3
    ·right;right;left;rw [h,ba,kn,bT]
   ·have h:y=s7:=h;rcases a2 with ⟨ba,_,_⟩|⟨ba,bT,_⟩
    ·left;rw [h,ba];exact j3
    ·right;right;right;left;rw [h,ba,qe,bT]
   ·have h:y=kq:=h;rcases a3 with ⟨ba,_,_⟩|⟨ba,bT,_⟩
    ·left;rw [h,ba];exact j3
    ·right;right;right;right;left;rw [h,ba,xl,bT]
   ·right;right;right;right;right;have h:5≤y:=h;show H.next≤dJ ids aH.next y
    rw [mY (show ids.length≤y from h)];show H.next≤H.next+3+_
    omega
  rcases ae with h|h|h|h<;>(rw [h];exact key _ (by simp))
theorem dQ.lift{H:j}{d:Nat}{aF:cL}{f:Nat}{cr:Bool}{bo:gg}{kept hold aB:Bytes}{es:List bj}(g:dQ H d aF f cr bo kept hold aB es){fn:FuncId}{rest:List o}{v:o}(uy:∀a∈rest,cR a)(bg:cR v)
 {Q:j→Nat→cL→Prop} (eI:∀(aa aP:j)(r:Nat→Nat)(d:Nat)(aF:cL),(∀i b,aa.get i=some b→aP.get (r i)=some (b.bc r))→(∀i C,r i=r C→i=C)→(∀i,i<aa.next→r i<aP.next)→Q aa d aF→Q aP (r d) (aF.map r))
 (small:∀aX ah af aq aE bA bz bl bB K P O a7,dQ (j.of [b2 0 f 1 aX ah cr af aq,cn hold bA bz bl bB aE,K,P,O]) 0 a7 f cr bo kept hold aB es→(a7.u=1∧(a7.k=0∨a7.k=2)∧(a7.I=0∨a7.I=3)∧(a7.ab=0∨a7.ab=4)) →
  ∃aa,aI Tryz.prog aw fn (.ptr (some ⟨0,0,0,0,6⟩)::rest) (j.of [b2 0 f 1 aX ah cr af aq,cn hold bA bz bl bB aE,K,P,O]) v aa∧∃aQ,Q aa 0 aQ∧Fr (j.of [b2 0 f 1 aX ah cr af aq,cn hold bA bz bl bB aE,K,P,O]) aa 0 a7 aQ) :
 ∃aP,aI Tryz.prog aw fn (.ptr (some ⟨d,0,0,0,6⟩)::rest) H v aP∧∃aQ,Q aP d aQ∧Fr H aP d aF aQ :=
 g.M4 uy bg eI fun aX ah af aq aE bA bz bl bB K P O a7 gs cX _ _ _=>small aX ah af aq aE bA bz bl bB K P O a7 gs cX
theorem i'.cs{H aP:j}{d k:Nat}{v:o}{bo:gg}{l:Bytes}(h:i' H d k v bo l)(ag:k≠d→aP.get k=H.get k):i' aP d k v bo l:=by
 cases bo with
 |nil=>exact h
 |one=>exact⟨h.1,h.2.1,by rw [ag h.1];exact h.2.2.1,h.2.2.2⟩
 |grown dO =>
  obtain⟨p,J,m,f,e,g⟩:=h;exact⟨p,J,m,f,e,by rw [ag p];exact g⟩
theorem ja.cs{H aP:j}{d k:Nat}{v:o}{l:Bytes}(h:ja H d k v l)(ag:k≠d→aP.get k=H.get k):ja aP d k v l:=by
 rcases h with h|⟨p,ad,J,m,f,e,g⟩
 ·exact .inl h
 ·exact .inr ⟨p,ad,J,m,f,e,by rw [ag p];exact g⟩
theorem jb.cs{H aP:j}{d k:Nat}{v:o}{l:List bj}(h:jb H d k v l)(ag:k≠d→aP.get k=H.get k):jb aP d k v l:=by
 rcases h with h|⟨p,ad,J,m,f,e,g⟩
 ·exact .inl h
 ·exact .inr ⟨p,ad,J,m,f,e,by rw [ag p];exact g⟩
abbrev rI(l1:Int)(lM:Int)(em:Int)(ex:Int)(iU:Int)(kV:Bytes):o:=o.agg [.int .i8 l1,.int .i32 lM,.int .u8 em,.int .i64 ex,.int .i64 iU,.str kV]
theorem W6(f:Nat)(aX ah:o)(cr:Bool)(ax:Option (TypeId×Nat))(bk K P O:R)(l1 lM em ex iU:Int)(kV:Bytes)(U:o→j→Prop)(aY:U (.tuple []) (j.ar 27 [(0,⟨[.agg [.func (.func 30) [.ptr (some ⟨0,0,0,0,6⟩)] [],.slice none 0 0,ah,.bool cr,.ptr (some ⟨1,0,0,0,5⟩),.slice (some ⟨13,0,0,0,6⟩) 1 1]],6,true,false,0,0,0,ax⟩),(1,bk),(2,K),(3,P),(4,O),(5,R.made [(rI l1 lM em ex iU kV)] 6 true (some (42,6))),(12,R.made [(rI l1 lM em ex iU kV)] 6 true),(13,R.made [(rI l1 lM em ex iU kV)] 6 false (some (42,0)))])) :
 ∃v p,aI Tryz.prog aw 58 [.ptr (some ⟨0,0,0,0,6⟩),cm ⟨l1,lM,em,ex,iU,kV⟩] (j.of [b2 0 f 1 aX ah cr (.slice none 0 0) ax,bk,K,P,O]) v p∧U v p :=
 cb bQ mixed gU (an:= .nil) (by kernel_rfl) aY
theorem W7(f:Nat)(aX ah:o)(cr:Bool)(ax:Option (TypeId×Nat))(bk K P:R)(l1 lM em ex iU:Int)(kV:Bytes)(es:List o)(J m aG n:Nat)(U:o→j→Prop)(aY:(J=J∧0+n=List.length es∧n<n+1∧(n+1+(n+1)/4+512)*48≤281474976710656∧n+1<4611686018427387904)∧U (.tuple []) (j.ar 27 [(0,{bi:=[.agg [.func (.func 30) [.ptr (some ⟨0,0,0,0,6⟩)] [],.slice none 0 0,ah,.bool cr,.ptr (some ⟨1,0,0,0,5⟩),.slice (some {id:=4,J:=J+1,idx:=0,bR:=0,es:=6}) (n+1) (n+1)]],es:=6,exact:=true,ro:=false,J:=0,fX:=0,gQ:=0,aq:=ax}),(1,bk),(2,K),(3,P),(4,⟨es++[(rI l1 lM em ex iU kV)],6,false,false,J+1,m,if m=J then List.length es else min aG (List.length es),some (42,0)⟩),(5,R.made [(rI l1 lM em ex iU kV)] 6 true (some (42,6))),(12,R.made [(rI l1 lM em ex iU kV)] 6 true)])) :
 ∃v p,aI Tryz.prog aw 58 [.ptr (some ⟨0,0,0,0,6⟩),cm ⟨l1,lM,em,ex,iU,kV⟩] (j.of [b2 0 f 1 aX ah cr (.slice (some ⟨4,J,0,0,6⟩) n n) ax,bk,K,P,b3 es 6 J m aG ew]) v p∧U v p :=
 cb bQ mixed gU (an:=ag 1007 .nil) (by kernel_rfl) aY
theorem M7{H:j}{d:Nat}{aF:cL}{f:Nat}{cr:Bool}{bo:gg}{kept hold aB:Bytes}{es:List bj}(g:dQ H d aF f cr bo kept hold aB es)(e:bj)(cw:es.length<2^30) :
 ∃aP,aI Tryz.prog aw 58 [.ptr (some ⟨d,0,0,0,6⟩),cm e] H (.tuple []) aP∧∃aQ,dQ aP d aQ (cK .ground) cr .nil [] hold aB (es++[e])∧Fr H aP d aF aQ:=by
 refine g.lift (Q:=fun h d aF=>dQ h d aF (cK .ground) cr .nil [] hold aB (es++[e])) (fun a aT=>by rw [List.mem_singleton.1 aT];exact F0 e) (cR.of rfl) (fun aa aP r d aF bb iw cQ q=>q.pc bb iw cQ) ?_;intro aX ah af aq aE bA bz bl bB K P O a7 gs cX;obtain⟨F3,im,F4,F5,ca,ap,ac,ai⟩:=gs.ex;rw [j.e3]at ca;simp only [List.getElem?_cons_zero,Option.some.injEq,R.made,R.mk.injEq,List.cons.injEq,o.agg.injEq,o.func.injEq,o.ptr.injEq,bG.mk.injEq,true_and,and_true]at ca;obtain⟨⟨rfl,rfl,hu,rfl⟩,rfl⟩:=ca;obtain⟨i0,xm,ip,pe⟩:=cX
 have fin:∀(v:o)(aa:j)(x:Nat),v=.tuple []∧(∃aQ,dQ aa 0 aQ (cK .ground) cr .nil [] hold aB (es++[e])∧Fr (j.of [b2 0 f 1 aX ah cr af aq,cn hold bA bz bl bB aE,K,P,O]) aa 0 a7 aQ) →
  aI Tryz.prog aw 58 [.ptr (some ⟨0,0,0,0,6⟩),cm e] (j.of [b2 0 f 1 aX ah cr af aq,cn hold bA bz bl bB aE,K,P,O]) v aa →
  ∃aa,aI Tryz.prog aw 58 [.ptr (some ⟨0,0,0,0,6⟩),cm e] (j.of [b2 0 f 1 aX ah cr af aq,cn hold bA bz bl bB aE,K,P,O]) (.tuple []) aa∧∃aQ,dQ aa 0 aQ (cK .ground) cr .nil [] hold aB (es++[e])∧Fr (j.of [b2 0 f 1 aX ah cr af aq,cn hold bA bz bl bB aE,K,P,O]) aa 0 a7 aQ:=by
  rintro v aa x ⟨rfl,q⟩ aC;exact⟨aa,aC,q⟩
 rcases ai with ⟨rfl,rfl,ai⟩|⟨jv,hC,J,m,aG,rfl,h3⟩
 ·obtain⟨v,aa,aC,q⟩:=W6 f aX ah cr aq (cn hold bA bz bl bB aE) K P O e.kind e.code e.dW e.x e.y e.text (fun v aa=>v=.tuple []∧∃aQ,dQ aa 0 aQ (cK .ground) cr .nil [] hold aB [e]∧Fr (j.of [b2 0 f 1 aX ah cr (.slice none 0 0) aq,cn hold bA bz bl bB aE,K,P,O]) aa 0 a7 aQ) (by
   delta rI
   refine⟨rfl,⟨1,0,a7.I,13⟩,⟨⟨.slice none 0 0,ah,.slice (some ⟨13,0,0,0,6⟩) 1 1,aq,by kernel_rfl,⟨rfl,rfl,rfl⟩,ac.cs ?_,.inr ⟨by show 13≠0;decide,by simp,0,0,0,rfl,?_⟩⟩,⟨bA,bz,bl,bB,aE,by kernel_rfl⟩,?_,.inl rfl⟩,⟨?_,?_,?_⟩⟩
   rotate_left
   ·kernel_rfl
   rotate_right
   ·intro b1;rw [j.e3];rcases ip with ip|ip
    ·exact absurd ip b1
    ·rw [ip];kernel_rfl
   ·show 0<27∧1<27∧0<27∧a7.I<27∧13<27;omega
   ·show 5≤27;decide
   ·intro C aV bn bs _ _ _;have aV:C<5:=aV;have:C=2∨C=3∨C=4:=by omega
    rw [j.e3];rcases this with rfl|rfl|rfl<;>(show _=_;kernel_rfl)
   ·intro x ae;show x=0∨x=a7.u∨x=a7.k∨x=a7.I∨x=a7.ab∨5≤x;have ae:x=1∨x=0∨x=a7.I∨x=13:=ae
    omega)
  exact fin v aa 0 q aC
 ·have pe:a7.ab=4:=by omega
  rw [pe,j.e3]at h3;simp only [List.getElem?_cons_zero,List.getElem?_cons_succ,Option.some.injEq]at h3;subst h3
  obtain⟨v,aa,aC,q⟩:=W7 f aX ah cr aq (cn hold bA bz bl bB aE) K P e.kind e.code e.dW e.x e.y e.text (es.map cm) J m aG es.length (fun v aa=>v=.tuple []∧∃aQ,dQ aa 0 aQ (cK .ground) cr .nil [] hold aB (es++[e])∧Fr (j.of [b2 0 f 1 aX ah cr (.slice (some ⟨4,J,0,0,6⟩) es.length es.length) aq,cn hold bA bz bl bB aE,K,P,b3 (es.map cm) 6 J m aG ew]) aa 0 a7 aQ) (by
   delta rI
   refine⟨⟨rfl,by simp,by omega,by omega,by omega⟩,rfl,⟨1,0,a7.I,4⟩,⟨⟨.slice none 0 0,ah,.slice (some ⟨4,J+1,0,0,6⟩) (es.length+1) (es.length+1),aq,by kernel_rfl,⟨rfl,rfl,rfl⟩,ac.cs ?_,.inr ⟨by show 4≠0;decide,by simp,J+1,m,if m=J then(es.map cm).length else min aG (es.map cm).length,by simp,?_⟩⟩,⟨bA,bz,bl,bB,aE,by kernel_rfl⟩,?_,.inl rfl⟩,⟨?_,?_,?_⟩⟩
   rotate_left
   ·rw [List.map_append];kernel_rfl
   rotate_right
   ·intro b1;rw [j.e3];rcases ip with ip|ip
    ·exact absurd ip b1
    ·rw [ip];kernel_rfl
   ·show 0<27∧1<27∧0<27∧a7.I<27∧4<27;omega
   ·show 5≤27;decide
   ·intro C aV bn bs _ _ il;have aV:C<5:=aV;have:C=2∨C=3:=by omega
    rw [j.e3];rcases this with rfl|rfl<;>(show _=_;kernel_rfl)
   ·intro x ae;show x=0∨x=a7.u∨x=a7.k∨x=a7.I∨x=a7.ab∨5≤x;have ae:x=1∨x=0∨x=a7.I∨x=4:=ae
    omega)
  rw [pe]at fin⊢;exact fin v aa 0 q aC
structure cC(h:j)(a:bG)(cS:o):Prop where
 at':a=⟨a.id,0,0,0,6⟩
 ex:∃aF f cr bo kept hold aB es e,cS=cm e∧dQ h a.id aF f cr bo kept hold aB es∧es.length<2^30∧hold.length≤4
structure cD(h:j)(a:bG)(cS:o)(aa:j):Prop where
 all:∀aF f cr bo kept hold aB es e,cS=cm e→dQ h a.id aF f cr bo kept hold aB es→hold.length≤4→ ∃aQ,dQ aa a.id aQ (cK .ground) cr .nil [] hold aB (es++[e])∧Fr h aa a.id aF aQ
 next:h.next≤aa.next
def F6:List o→j→Option eC:=fun args h =>
 match args with
 |[.ptr (some a),.agg bp]=>some (.some (.tuple []) [cC h a (.agg bp)] (cD h a (.agg bp)))
 |_=>none
theorem W8:∀args h a,F6 args h=some a→a.dw Tryz.prog aw 58 args h:=by
 intro args h a e;unfold F6 at e;split at e<;>first|(cases e;done)|skip
 rename_i a bp;simp only [Option.some.injEq]at e;subst e;intro ac;have aT:=ac.head.at';obtain⟨aF,f,cr,bo,kept,hold,aB,es,e,he,g,cw,az⟩:=ac.head.ex;obtain⟨aa,aC,aQ,dv,cU⟩:=M7 g e cw;rw [←aT,←he]at aC;refine⟨aa,aC,⟨?_,cU.next⟩⟩;intro db f2 rC rB FY AZ FZ rD bs oW g2 qZ;obtain⟨rfl,rfl,rfl,rfl,rfl,rfl,rfl,rfl⟩:=g.q9 g2 az;have:=MZ (he.symm.trans oW);subst this;exact⟨aQ,dv,cU⟩
structure dB(N:Nat)(cY:bO→UInt8→Prop)(h:j)(a:bG)(c:Int):Prop where
 at':a=⟨a.id,0,0,0,6⟩
 ex:∃aF s es,cu h a.id aF s es∧es.length<N∧s.hold.length≤4∧cY s (er c)
 c:0≤c∧c≤255
structure dC(F:bO→UInt8→bO×List bj)(h:j)(a:bG)(c:Int)(aa:j):Prop where
 all:∀aF s es,cu h a.id aF s es→s.hold.length≤4→ ∃aQ,cu aa a.id aQ (F s (er c)).1 (es++(F s (er c)).2)∧Fr h aa a.id aF aQ
 next:h.next≤aa.next
def jY(N:Nat)(cY:bO→UInt8→Prop)(F:bO→UInt8→bO×List bj):List o→j→Option eC:=fun args h =>
 match args with
 |[.ptr (some a),.int .u8 c]=>some (.some (.tuple []) [dB N cY h a c] (dC F h a c))
 |_=>none
theorem u5(c:UInt8):er (c.toNat:Int)=c:=by unfold er;simp
theorem M8{c:Int}(h:0≤c∧c≤255):((er c).toNat:Int)=c:=by
 unfold er;have:(UInt8.ofNat c.toNat).toNat=c.toNat%256:=by simp [UInt8.toNat_ofNat']
 rw [this];omega
theorem rJ{N:Nat}{f:FuncId}{cY:bO→UInt8→Prop}{F:bO→UInt8→bO×List bj}(k:∀H d aF s es c,cu H d aF s es→es.length<N→s.hold.length≤4→cY s c→ ∃aP,aI Tryz.prog aw f [.ptr (some ⟨d,0,0,0,6⟩),.int .u8 (c:UInt8).toNat] H (.tuple []) aP∧∃aQ,cu aP d aQ (F s c).1 (es++(F s c).2)∧Fr H aP d aF aQ) :
 ∀args h a,jY N cY F args h=some a→a.dw Tryz.prog aw f args h:=by
 intro args h a e;unfold jY at e;split at e<;>first|(cases e;done)|skip
 rename_i a c;simp only [Option.some.injEq]at e;subst e;intro ac;have aT:=ac.head.at';obtain⟨_,⟨aF,s,es,g,cw,az,dZ⟩,av⟩:=ac.head;obtain⟨aa,aC,aQ,dv,cU⟩:=k h a.id aF s es (er c) g cw az dZ;rw [←aT,M8 av]at aC;refine⟨aa,aC,⟨?_,cU.next⟩⟩;intro db s2 rD g2 qZ;obtain⟨rfl,rfl,rfl⟩:=g.q9 g2 az;exact⟨aQ,dv,cU⟩
noncomputable def A2:fc:=MD.add 58 F6
theorem xn:eW Tryz.prog aw A2:=WI.add W8
theorem W9{h:j}{f:Nat}{aX ah af:o}{cr:Bool}{aq aE:Option (TypeId×Nat)}{hold kept aB:Bytes}{bA bz bl bB:Int}{D bk K P O:R}{bo:gg}{es:List bj}{k I ab:Nat}
 (ca:h.get 0=some (b2 0 f 1 aX ah cr af aq)) (bn:h.get 1=some (cn hold bA bz bl bB aE)) (b7:h.get 3=some P) (ct:h.get 4=some O) (ap:i' h 0 k aX bo kept) (kU:k<h.next) (bI:5≤h.next)
 (ac:ja (j.of [D,bk,K,P,O]) 0 I ah aB) (ai:jb (j.of [D,bk,K,P,O]) 0 ab af es) (ip:I=0∨I=3) (pe:ab=0∨ab=4) (b1:k=0∨k=2∨5≤k):dQ h 0 ⟨1,k,I,ab⟩ f cr bo kept hold aB es where
 ex :=by
  refine⟨aX,ah,af,aq,ca,ap,ac.cs fun aS=> ?_,ai.cs fun aS=> ?_⟩
  ·rcases ip with rfl|rfl
   ·exact absurd rfl aS
   ·rw [b7,j.e3];rfl
  ·rcases pe with rfl|rfl
   ·exact absurd rfl aS
   ·rw [ct,j.e3];rfl
 iq:=⟨bA,bz,bl,bB,aE,bn⟩
 lt:=by show 0<h.next∧1<h.next∧k<h.next∧I<h.next∧ab<h.next;omega
 ne:=by show k=0∨I=0∨k≠I;omega
theorem W'{h:j}{D bk K P O:R}{a7:cL}{k:Nat}(cX:a7.u=1∧(a7.k=0∨a7.k=2)∧(a7.I=0∨a7.I=3)∧(a7.ab=0∨a7.ab=4))(bs:h.get 2=some K∨a7.k=2)(b7:h.get 3=some P)(ct:h.get 4=some O)(bI:5≤h.next)(ap:k=0∨5≤k∨(k=2∧a7.k=2)) :
 Fr (j.of [D,bk,K,P,O]) h 0 a7 ⟨1,k,a7.I,a7.ab⟩ where
 next:=bI
 get C aV a6 aO ft ht ig:=by
  have aV:C<5:=aV;have:(C=2∧a7.k≠2)∨C=3∨C=4:=by omega
  rw [j.e3];rcases this with ⟨rfl,ap⟩|rfl|rfl
  ·rcases bs with e|e
   ·exact e
   ·exact absurd e ap
  ·exact b7
  ·exact ct
 ids x ae:=by show x=0∨x=a7.u∨x=a7.k∨x=a7.I∨x=a7.ab∨5≤x;have ae:x=1∨x=k∨x=a7.I∨x=a7.ab:=ae;omega
theorem iz{h:j}{f:Nat}{aX ah af:o}{cr:Bool}{aq aE:Option (TypeId×Nat)}{hold kept aB:Bytes}{bA bz bl bB:Int}{D bk K P O:R}{bo:gg}{es:List bj}{a7:cL}{k n:Nat}(aS:h.next=n)(bI:5≤n)
 (ca:h.get 0=some (b2 0 f 1 aX ah cr af aq)) (bn:h.get 1=some (cn hold bA bz bl bB aE)) (bs:h.get 2=some K∨a7.k=2) (b7:h.get 3=some P) (ct:h.get 4=some O) (ap:i' h 0 k aX bo kept) (kU:k<n)
 (ac:ja (j.of [D,bk,K,P,O]) 0 a7.I ah aB) (ai:jb (j.of [D,bk,K,P,O]) 0 a7.ab af es) (cX:a7.u=1∧(a7.k=0∨a7.k=2)∧(a7.I=0∨a7.I=3)∧(a7.ab=0∨a7.ab=4)) (b1:k=0∨5≤k∨(k=2∧a7.k=2)) :
 dQ h 0 ⟨1,k,a7.I,a7.ab⟩ f cr bo kept hold aB es∧Fr (j.of [D,bk,K,P,O]) h 0 a7 ⟨1,k,a7.I,a7.ab⟩ :=
 ⟨W9 ca bn b7 ct ap (by omega) (by omega) ac ai cX.2.2.1 cX.2.2.2 (by omega),W' cX bs b7 ct (by omega) b1⟩
theorem A3(h:j):i' h 0 0 (.slice none 0 0) .nil []:=⟨rfl,rfl,rfl⟩
theorem n6{h:j}{k J m f n:Nat}{l:Bytes}{es:List o}(ap:k≠0)(aS:n=l.length)(he:es=aL l)(e:h.get k=some (b3 es 1 J m f cI)):i' h 0 k (.slice (some ⟨k,J,0,0,1⟩) n n) (.grown []) l:=by subst aS;subst he;exact⟨ap,J,m,f,rfl,e⟩
theorem F7{l:j}{h aa:j}{cS:o}{e:bj}{a7 aF:cL}{f:Nat}{cr:Bool}{bo:gg}{kept hold aB:Bytes}{es:List bj}(t:cD h ⟨0,0,0,0,6⟩ cS aa)(g:dQ h 0 aF f cr bo kept hold aB es)(cU:Fr l h 0 a7 aF)(he:cS=cm e)(az:hold.length≤4) :
 ∃aQ,dQ aa 0 aQ (cK .ground) cr .nil [] hold aB (es++[e])∧Fr l aa 0 a7 aQ:=by
 obtain⟨aQ,dv,gh⟩:=t.all aF f cr bo kept hold aB es e he g az;exact⟨aQ,dv,cU.trans gh⟩
theorem F8{h:j}{cS:o}{e:bj}{aF:cL}{f:Nat}{cr:Bool}{bo:gg}{kept hold aB:Bytes}{es:List bj}(g:dQ h 0 aF f cr bo kept hold aB es)(he:cS=cm e)(cw:es.length<2^30)(az:hold.length≤4):cC h ⟨0,0,0,0,6⟩ cS :=
 ⟨rfl,aF,f,cr,bo,kept,hold,aB,es,e,he,g,cw,az⟩
theorem rK{a b:Nat}{I:Prop}(h:a≤b)(k:I):_root_.cond (Nat.ble a b) I False:=by rw [Nat.ble_eq.mpr h];exact k
abbrev M9(c:Int):o:=o.str [UInt8.ofNat (Int.toNat c)]
abbrev M':o:=o.slice (some ⟨98,0,0,0,1⟩) 1 1
abbrev eK(f:Nat):o:= .func (.func f) [.ptr (some ⟨0,0,0,0,6⟩)] []
abbrev rL:o:= .func (.func 90) [.ptr (some ⟨0,0,0,0,6⟩)] []
abbrev u6:dk:=(.aK 6024 (.aK 9001 .nil .nil) (he 12004 (.aK 1007 .nil .nil)))
abbrev jw(a0:Int)(ao:Int)(a2:Int)(a3:Int)(n:Int)(c:Int):R:=(R.made ([.int .i32 (↑(List.getD (Prod.fst (cc a0 ao a2 a3 n c)) 0 0):Int)]) 1 false (some (21,0)))
abbrev F9(a0:Int)(ao:Int)(a2:Int)(a3:Int)(n:Int):o:=o.agg [.int .u8 a0,.int .u8 ao,.int .u8 a2,.int .u8 a3,.int .i64 n]
abbrev fV(a0:Int)(ao:Int)(a2:Int)(a3:Int)(n:Int)(c:Int):o:=o.agg [.int .i8 1,.int .i32 (↑(List.getD (Prod.fst (cc a0 ao a2 a3 n c)) 0 0):Int),.int .u8 0,.int .i64 0,.int .i64 0,.str []]
abbrev u7(a0:Int)(ao:Int)(a2:Int)(a3:Int)(n:Int)(c:Int):R:=⟨[.int .i32 (↑(List.getD (Prod.fst (cc a0 ao a2 a3 n c)) 0 0):Int),.int .i32 (↑(List.getD (Prod.fst (cc a0 ao a2 a3 n c)) 1 0):Int)],1,false,false,1,0,1,some (21,0)⟩
abbrev u9(c:Int):o:=o.agg [.int .i8 (bj.kind (Keys.control (Int.toNat c))),.int .i32 (bj.code (Keys.control (Int.toNat c))),.int .u8 (bj.dW (Keys.control (Int.toNat c))),.int .i64 (bj.x (Keys.control (Int.toNat c))),.int .i64 (bj.y (Keys.control (Int.toNat c))),.str (Keys.control (Int.toNat c)).6]
abbrev s8(a0:Int)(ao:Int)(a2:Int)(a3:Int)(n:Int)(c:Int):o:=o.agg [.int .u8 (cd (Prod.snd (cc a0 ao a2 a3 n c)) 0 a0),.int .u8 (cd (Prod.snd (cc a0 ao a2 a3 n c)) 1 ao),.int .u8 (cd (Prod.snd (cc a0 ao a2 a3 n c)) 2 a2),.int .u8 (cd (Prod.snd (cc a0 ao a2 a3 n c)) 3 a3),.int .i64 (↑(List.length (Prod.snd (cc a0 ao a2 a3 n c))):Int)]
abbrev xo(c:Int):R:=(R.made ([(u9 c)]) 6 true (some (42,6)))
abbrev Na(ah:o)(af:o):o:=o.agg [rL,M',ah,.bool false,.ptr (some ⟨1,0,0,0,5⟩),af]
abbrev F'(f:Nat)(ah:o)(af:o):o:=o.agg [(eK f),.slice none 0 0,ah,.bool false,.ptr (some ⟨1,0,0,0,5⟩),af]
abbrev s9(aE:Option (TypeId×Nat))(a0:Int)(ao:Int)(a2:Int)(a3:Int)(n:Int):R:=⟨[(F9 a0 ao a2 a3 n)],5,true,false,0,0,0,aE⟩
abbrev k4(aE:Option (TypeId×Nat))(a0:Int)(ao:Int)(a2:Int)(a3:Int)(n:Int)(c:Int):R:=⟨[(s8 a0 ao a2 a3 n c)],5,true,false,0,0,0,aE⟩
abbrev n7(c:Int):o:=o.agg [.int .i8 7,.int .i32 0,.int .u8 0,.int .i64 0,.int .i64 0,(M9 c)]
abbrev Ga(ah:o)(af:o)(ax:Option (TypeId×Nat)):R:=⟨[.agg [rL,.slice (some ⟨97,0,0,0,1⟩) 1 1,ah,.bool false,.ptr (some ⟨1,0,0,0,5⟩),af]],6,true,false,0,0,0,ax⟩
abbrev xp(ah:o)(af:o)(ax:Option (TypeId×Nat)):R:=⟨[(Na ah af)],6,true,false,0,0,0,ax⟩
abbrev rM(f:Nat)(ah:o)(af:o)(ax:Option (TypeId×Nat)):R:=⟨[(F' f ah af)],6,true,false,0,0,0,ax⟩
abbrev xq(ah:o)(af:o)(ax:Option (TypeId×Nat))(aE:Option (TypeId×Nat))(K:R)(P:R)(O:R)(a0:Int)(ao:Int)(a2:Int)(a3:Int)(n:Int)(c:Int):j:=(j.ar 119 [(0,(xp ah af ax)),(1,(k4 aE a0 ao a2 a3 n c)),(2,K),(3,P),(4,O),(42,(c9 c)),(45,(jw a0 ao a2 a3 n c)),(97,R.made [.int .u8 c] 1 true),(98,R.made [.int .u8 c] 1 false (some (5,0)))])
abbrev xr(ah:o)(af:o)(ax:Option (TypeId×Nat))(aE:Option (TypeId×Nat))(K:R)(P:R)(O:R)(a0:Int)(ao:Int)(a2:Int)(a3:Int)(n:Int)(c:Int):j:=(j.ar 120 [(0,(xp ah af ax)),(1,(k4 aE a0 ao a2 a3 n c)),(2,K),(3,P),(4,O),(42,(c9 c)),(45,(jw a0 ao a2 a3 n c)),(97,R.made [.int .u8 c] 1 true),(98,R.made [.int .u8 c] 1 false (some (5,0)))])
abbrev xt(ah:o)(af:o)(ax:Option (TypeId×Nat))(aE:Option (TypeId×Nat))(K:R)(P:R)(O:R)(a0:Int)(ao:Int)(a2:Int)(a3:Int)(n:Int)(c:Int):j:=(j.ar 119 [(0,(xp ah af ax)),(1,(k4 aE a0 ao a2 a3 n c)),(2,K),(3,P),(4,O),(42,(c9 c)),(45,(u7 a0 ao a2 a3 n c)),(86,R.made [.int .u8 c] 1 true),(97,R.made [.int .u8 c] 1 true),(98,R.made [.int .u8 c] 1 false (some (5,0)))])
abbrev xu(ah:o)(af:o)(ax:Option (TypeId×Nat))(aE:Option (TypeId×Nat))(K:R)(P:R)(O:R)(a0:Int)(ao:Int)(a2:Int)(a3:Int)(n:Int)(c:Int):j:=(j.ar 120 [(0,(xp ah af ax)),(1,(k4 aE a0 ao a2 a3 n c)),(2,K),(3,P),(4,O),(42,(c9 c)),(45,(u7 a0 ao a2 a3 n c)),(86,R.made [.int .u8 c] 1 true),(97,R.made [.int .u8 c] 1 true),(98,R.made [.int .u8 c] 1 false (some (5,0)))])
theorem Xa(f:Nat)(ah af:o)(ax aE:Option (TypeId×Nat))(K P O:R)(a0 ao a2 a3 n c:Int)(U:o→j→Prop)(aY:(c<32→(0≤c∧(c<32∨c=127))∧(c=27→False)∧cC (j.ar 24 [(0,(rM f ah af ax)),(1,(s9 aE a0 ao a2 a3 n)),(2,K),(3,P),(4,O),(13,(xo c))]) ⟨0,0,0,0,6⟩ ((u9 c))∧∀(jx:j),cD (j.ar 24 [(0,(rM f ah af ax)),(1,(s9 aE a0 ao a2 a3 n)),(2,K),(3,P),(4,O),(13,(xo c))]) ⟨0,0,0,0,6⟩ ((u9 c)) jx→bK 5 (jx.next) (U (.tuple []) jx))∧(¬c<32→(c=127→(0≤c∧(c<32∨c=127))∧(c=27→False)∧cC (j.ar 24 [(0,(rM f ah af ax)),(1,(s9 aE a0 ao a2 a3 n)),(2,K),(3,P),(4,O),(13,(xo c))]) ⟨0,0,0,0,6⟩ ((u9 c))∧∀(jx:j),cD (j.ar 24 [(0,(rM f ah af ax)),(1,(s9 aE a0 ao a2 a3 n)),(2,K),(3,P),(4,O),(13,(xo c))]) ⟨0,0,0,0,6⟩ ((u9 c)) jx→bK 5 (jx.next) (U (.tuple []) jx))∧(¬c=127→((cc a0 ao a2 a3 n c).1=[]→iy a0 ao a2 a3 n c∧(0<(↑(List.length (Prod.snd (cc a0 ao a2 a3 n c))):Int)→U (.tuple []) (j.ar 75 [(0,⟨[.agg [rL,.slice (some ⟨71,0,0,0,1⟩) 1 1,ah,.bool false,.ptr (some ⟨1,0,0,0,5⟩),af]],6,true,false,0,0,0,ax⟩),(1,(k4 aE a0 ao a2 a3 n c)),(2,K),(3,P),(4,O),(42,(c9 c)),(70,R.made [.int .u8 c] 1 true),(71,R.made [.int .u8 c] 1 false (some (5,0)))]))∧(¬0<(↑(List.length (Prod.snd (cc a0 ao a2 a3 n c))):Int)→1<1099511627776∧(valid [UInt8.ofNat (Int.toNat c)]=true→1<1099511627776∧(valid [UInt8.ofNat (Int.toNat c)]=true→False)∧(valid [UInt8.ofNat (Int.toNat c)]=false→cC (j.ar 119 [(0,(Ga ah af ax)),(1,(k4 aE a0 ao a2 a3 n c)),(2,K),(3,P),(4,O),(42,(c9 c)),(85,R.made [.int .u8 c] 1 true),(96,R.made [.int .u8 c] 1 true),(97,R.made [.int .u8 c] 1 false (some (5,0)))]) ⟨0,0,0,0,6⟩ ((n7 c))∧∀(b9:j),cD (j.ar 119 [(0,(Ga ah af ax)),(1,(k4 aE a0 ao a2 a3 n c)),(2,K),(3,P),(4,O),(42,(c9 c)),(85,R.made [.int .u8 c] 1 true),(96,R.made [.int .u8 c] 1 true),(97,R.made [.int .u8 c] 1 false (some (5,0)))]) ⟨0,0,0,0,6⟩ ((n7 c)) b9→bK 20 (b9.next) (bK 5 (b9.next) (U (.tuple []) b9))))∧(valid [UInt8.ofNat (Int.toNat c)]=false→((↑(List.length (Prod.snd (cc a0 ao a2 a3 n c))):Int)=0→False)∧(¬(↑(List.length (Prod.snd (cc a0 ao a2 a3 n c))):Int)=0→False))))∧(¬(cc a0 ao a2 a3 n c).1=[]→(List.length (Prod.fst (cc a0 ao a2 a3 n c))=1→iy a0 ao a2 a3 n c∧(0<(↑(List.length (Prod.snd (cc a0 ao a2 a3 n c))):Int)→1<1099511627776∧(valid [UInt8.ofNat (Int.toNat c)]=true→cC (xq ah af ax aE K P O a0 ao a2 a3 n c) ⟨0,0,0,0,6⟩ ((fV a0 ao a2 a3 n c))∧∀(cz:j),cD (xq ah af ax aE K P O a0 ao a2 a3 n c) ⟨0,0,0,0,6⟩ ((fV a0 ao a2 a3 n c)) cz→bK 20 (cz.next) (bK 5 (cz.next) (U (.tuple []) cz)))∧(valid [UInt8.ofNat (Int.toNat c)]=false→cC (xr ah af ax aE K P O a0 ao a2 a3 n c) ⟨0,0,0,0,6⟩ ((n7 c))∧∀(b9:j),cD (xr ah af ax aE K P O a0 ao a2 a3 n c) ⟨0,0,0,0,6⟩ ((n7 c)) b9→bK 20 (b9.next) (bK 5 (b9.next) (U (.tuple []) b9))))∧(¬0<(↑(List.length (Prod.snd (cc a0 ao a2 a3 n c))):Int)→1<1099511627776∧(valid [UInt8.ofNat (Int.toNat c)]=true→cC (xq ah af ax aE K P O a0 ao a2 a3 n c) ⟨0,0,0,0,6⟩ ((fV a0 ao a2 a3 n c))∧∀(cz:j),cD (xq ah af ax aE K P O a0 ao a2 a3 n c) ⟨0,0,0,0,6⟩ ((fV a0 ao a2 a3 n c)) cz→bK 20 (cz.next) (bK 5 (cz.next) (U (.tuple []) cz)))∧(valid [UInt8.ofNat (Int.toNat c)]=false→cC (xr ah af ax aE K P O a0 ao a2 a3 n c) ⟨0,0,0,0,6⟩ ((n7 c))∧∀(b9:j),cD (xr ah af ax aE K P O a0 ao a2 a3 n c) ⟨0,0,0,0,6⟩ ((n7 c)) b9→bK 20 (b9.next) (bK 5 (b9.next) (U (.tuple []) b9)))))∧(¬List.length (Prod.fst (cc a0 ao a2 a3 n c))=1→iy a0 ao a2 a3 n c∧(0<(↑(List.length (Prod.snd (cc a0 ao a2 a3 n c))):Int)→1<1099511627776∧(valid [UInt8.ofNat (Int.toNat c)]=true→1<1099511627776∧(valid [UInt8.ofNat (Int.toNat c)]=true→cC (xt ah af ax aE K P O a0 ao a2 a3 n c) ⟨0,0,0,0,6⟩ ((fV a0 ao a2 a3 n c))∧∀(cz:j),cD (xt ah af ax aE K P O a0 ao a2 a3 n c) ⟨0,0,0,0,6⟩ ((fV a0 ao a2 a3 n c)) cz→bK 20 (cz.next) (bK 5 (cz.next) (U (.tuple []) cz)))∧(valid [UInt8.ofNat (Int.toNat c)]=false→cC (xu ah af ax aE K P O a0 ao a2 a3 n c) ⟨0,0,0,0,6⟩ ((n7 c))∧∀(b9:j),cD (xu ah af ax aE K P O a0 ao a2 a3 n c) ⟨0,0,0,0,6⟩ ((n7 c)) b9→bK 20 (b9.next) (bK 5 (b9.next) (U (.tuple []) b9))))∧(valid [UInt8.ofNat (Int.toNat c)]=false→((↑(List.length (Prod.snd (cc a0 ao a2 a3 n c))):Int)=0→False)∧(¬(↑(List.length (Prod.snd (cc a0 ao a2 a3 n c))):Int)=0→False)))∧(¬0<(↑(List.length (Prod.snd (cc a0 ao a2 a3 n c))):Int)→1<1099511627776∧(valid [UInt8.ofNat (Int.toNat c)]=true→1<1099511627776∧(valid [UInt8.ofNat (Int.toNat c)]=true→cC (xt ah af ax aE K P O a0 ao a2 a3 n c) ⟨0,0,0,0,6⟩ ((fV a0 ao a2 a3 n c))∧∀(cz:j),cD (xt ah af ax aE K P O a0 ao a2 a3 n c) ⟨0,0,0,0,6⟩ ((fV a0 ao a2 a3 n c)) cz→bK 20 (cz.next) (bK 5 (cz.next) (U (.tuple []) cz)))∧(valid [UInt8.ofNat (Int.toNat c)]=false→cC (xu ah af ax aE K P O a0 ao a2 a3 n c) ⟨0,0,0,0,6⟩ ((n7 c))∧∀(b9:j),cD (xu ah af ax aE K P O a0 ao a2 a3 n c) ⟨0,0,0,0,6⟩ ((n7 c)) b9→bK 20 (b9.next) (bK 5 (b9.next) (U (.tuple []) b9))))∧(valid [UInt8.ofNat (Int.toNat c)]=false→((↑(List.length (Prod.snd (cc a0 ao a2 a3 n c))):Int)=0→False)∧(¬(↑(List.length (Prod.snd (cc a0 ao a2 a3 n c))):Int)=0→False)))))))) :
 ∃v p,aI Tryz.prog aw 60 [.ptr (some ⟨0,0,0,0,6⟩),.int .u8 c] (j.of [b2 0 f 1 (.slice none 0 0) ah false af ax,hj a0 ao a2 a3 n aE,K,P,O]) v p∧U v p :=
 cb bQ mixed xn (an:= .aK 1 .nil (.aK 4 .nil (he 6002 (.aK 3006 (he 4004 (.aK 4005 .nil u6)) (.aK 3006 (he 4004 (.aK 4005 (.aK 9001 .nil .nil) (.aK 9001 .nil .nil))) (he 4004 (.aK 4005 u6 u6))))))) (by kernel_rfl) aY
abbrev Gb:o:=o.slice (some ⟨2,0,0,0,1⟩) 1 1
abbrev Nb:o:=o.slice (some ⟨100,0,0,0,1⟩) 2 2
abbrev Nc(c:Int):o:=o.str [{toBitVec:= {toFin:=⟨27,Nat.mod_lt (Int.toNat (27)) (BitVec.ofNat._proof_1 8)⟩}},UInt8.ofNat (Int.toNat c)]
abbrev io(a0:Int)(ao:Int)(a2:Int)(a3:Int)(n:Int)(c:Int):o:=o.agg [.int .i8 1,.int .i32 (↑(List.getD (Prod.fst (cc a0 ao a2 a3 n c)) 0 0):Int),.int .u8 2,.int .i64 0,.int .i64 0,.str []]
abbrev u'(c:Int):o:=o.agg [.int .i8 (bj.kind (Keys.control (Int.toNat c))),.int .i32 (bj.code (Keys.control (Int.toNat c))),.int .u8 (cg .u8 (bj.dW (Keys.control (Int.toNat c))) (2)),.int .i64 (bj.x (Keys.control (Int.toNat c))),.int .i64 (bj.y (Keys.control (Int.toNat c))),.str (Keys.control (Int.toNat c)).6]
abbrev Nd(c:Int):R:=(R.made ([(u' c)]) 6 true (some (42,6)))
abbrev Nf(ah:o)(af:o):o:=o.agg [rL,Nb,ah,.bool false,.ptr (some ⟨1,0,0,0,5⟩),af]
abbrev Gc(f:Nat)(ah:o)(af:o):o:=o.agg [(eK f),Gb,ah,.bool false,.ptr (some ⟨1,0,0,0,5⟩),af]
abbrev n8(c:Int):o:=o.agg [.int .i8 7,.int .i32 0,.int .u8 0,.int .i64 0,.int .i64 0,(Nc c)]
abbrev Ng(ah:o)(af:o)(ax:Option (TypeId×Nat)):R:=⟨[.agg [rL,.slice (some ⟨99,0,0,0,1⟩) 2 2,ah,.bool false,.ptr (some ⟨1,0,0,0,5⟩),af]],6,true,false,0,0,0,ax⟩
abbrev xv(ah:o)(af:o)(ax:Option (TypeId×Nat)):R:=⟨[(Nf ah af)],6,true,false,0,0,0,ax⟩
abbrev s'(f:Nat)(ah:o)(af:o)(ax:Option (TypeId×Nat)):R:=⟨[(Gc f ah af)],6,true,false,0,0,0,ax⟩
abbrev Gd(ah:o)(af:o)(ax:Option (TypeId×Nat))(aE:Option (TypeId×Nat))(P:R)(O:R)(a0:Int)(ao:Int)(a2:Int)(a3:Int)(n:Int)(c:Int):j:=(j.ar 121 [(0,(Ng ah af ax)),(1,(k4 aE a0 ao a2 a3 n c)),(2,R.made [.int .u8 27] 1 true),(3,P),(4,O),(44,(c9 c)),(87,R.made [.int .u8 c] 1 true),(98,R.made [.int .u8 c] 1 true),(99,R.made [.int .u8 27,.int .u8 c] 1 false (some (5,0)))])
abbrev xw(f:Nat)(ah:o)(af:o)(ax:Option (TypeId×Nat))(aE:Option (TypeId×Nat))(P:R)(O:R)(a0:Int)(ao:Int)(a2:Int)(a3:Int)(n:Int)(c:Int):j:=(j.ar 29 [(0,(s' f ah af ax)),(1,(s9 aE a0 ao a2 a3 n)),(2,R.made [.int .u8 27] 1 true),(3,P),(4,O),(13,(Nd c))])
abbrev xx(ah:o)(af:o)(ax:Option (TypeId×Nat))(aE:Option (TypeId×Nat))(P:R)(O:R)(a0:Int)(ao:Int)(a2:Int)(a3:Int)(n:Int)(c:Int):j:=(j.ar 121 [(0,(xv ah af ax)),(1,(k4 aE a0 ao a2 a3 n c)),(2,R.made [.int .u8 27] 1 true),(3,P),(4,O),(44,(c9 c)),(47,(jw a0 ao a2 a3 n c)),(99,R.made [.int .u8 c] 1 true),(100,R.made [.int .u8 27,.int .u8 c] 1 false (some (5,0)))])
abbrev xy(ah:o)(af:o)(ax:Option (TypeId×Nat))(aE:Option (TypeId×Nat))(P:R)(O:R)(a0:Int)(ao:Int)(a2:Int)(a3:Int)(n:Int)(c:Int):j:=(j.ar 122 [(0,(xv ah af ax)),(1,(k4 aE a0 ao a2 a3 n c)),(2,R.made [.int .u8 27] 1 true),(3,P),(4,O),(44,(c9 c)),(47,(jw a0 ao a2 a3 n c)),(99,R.made [.int .u8 c] 1 true),(100,R.made [.int .u8 27,.int .u8 c] 1 false (some (5,0)))])
abbrev xz(ah:o)(af:o)(ax:Option (TypeId×Nat))(aE:Option (TypeId×Nat))(P:R)(O:R)(a0:Int)(ao:Int)(a2:Int)(a3:Int)(n:Int)(c:Int):j:=(j.ar 121 [(0,(xv ah af ax)),(1,(k4 aE a0 ao a2 a3 n c)),(2,R.made [.int .u8 27] 1 true),(3,P),(4,O),(44,(c9 c)),(47,(u7 a0 ao a2 a3 n c)),(88,R.made [.int .u8 c] 1 true),(99,R.made [.int .u8 c] 1 true),(100,R.made [.int .u8 27,.int .u8 c] 1 false (some (5,0)))])
abbrev xA(ah:o)(af:o)(ax:Option (TypeId×Nat))(aE:Option (TypeId×Nat))(P:R)(O:R)(a0:Int)(ao:Int)(a2:Int)(a3:Int)(n:Int)(c:Int):j:=(j.ar 122 [(0,(xv ah af ax)),(1,(k4 aE a0 ao a2 a3 n c)),(2,R.made [.int .u8 27] 1 true),(3,P),(4,O),(44,(c9 c)),(47,(u7 a0 ao a2 a3 n c)),(88,R.made [.int .u8 c] 1 true),(99,R.made [.int .u8 c] 1 true),(100,R.made [.int .u8 27,.int .u8 c] 1 false (some (5,0)))])
theorem Xb(f:Nat)(ah af:o)(ax aE:Option (TypeId×Nat))(P O:R)(a0 ao a2 a3 n c:Int)(U:o→j→Prop)(aY:(c<32→(0≤c∧(c<32∨c=127))∧(c=27→False)∧True∧cC (xw f ah af ax aE P O a0 ao a2 a3 n c) ⟨0,0,0,0,6⟩ ((u' c))∧∀(jx:j),cD (xw f ah af ax aE P O a0 ao a2 a3 n c) ⟨0,0,0,0,6⟩ ((u' c)) jx→bK 5 (jx.next) (U (.tuple []) jx))∧(¬c<32→(c=127→(0≤c∧(c<32∨c=127))∧(c=27→False)∧True∧cC (xw f ah af ax aE P O a0 ao a2 a3 n c) ⟨0,0,0,0,6⟩ ((u' c))∧∀(jx:j),cD (xw f ah af ax aE P O a0 ao a2 a3 n c) ⟨0,0,0,0,6⟩ ((u' c)) jx→bK 5 (jx.next) (U (.tuple []) jx))∧(¬c=127→((cc a0 ao a2 a3 n c).1=[]→iy a0 ao a2 a3 n c∧(0<(↑(List.length (Prod.snd (cc a0 ao a2 a3 n c))):Int)→U (.tuple []) (j.ar 77 [(0,⟨[.agg [rL,.slice (some ⟨73,0,0,0,1⟩) 2 2,ah,.bool false,.ptr (some ⟨1,0,0,0,5⟩),af]],6,true,false,0,0,0,ax⟩),(1,(k4 aE a0 ao a2 a3 n c)),(2,R.made [.int .u8 27] 1 true),(3,P),(4,O),(44,(c9 c)),(72,R.made [.int .u8 c] 1 true),(73,R.made [.int .u8 27,.int .u8 c] 1 false (some (5,0)))]))∧(¬0<(↑(List.length (Prod.snd (cc a0 ao a2 a3 n c))):Int)→1<1099511627776∧(valid [UInt8.ofNat (Int.toNat c)]=true→1<1099511627776∧(valid [UInt8.ofNat (Int.toNat c)]=true→False)∧(valid [UInt8.ofNat (Int.toNat c)]=false→cC (Gd ah af ax aE P O a0 ao a2 a3 n c) ⟨0,0,0,0,6⟩ ((n8 c))∧∀(b9:j),cD (Gd ah af ax aE P O a0 ao a2 a3 n c) ⟨0,0,0,0,6⟩ ((n8 c)) b9→bK 20 (b9.next) (bK 5 (b9.next) (U (.tuple []) b9))))∧(valid [UInt8.ofNat (Int.toNat c)]=false→((↑(List.length (Prod.snd (cc a0 ao a2 a3 n c))):Int)=0→False)∧(¬(↑(List.length (Prod.snd (cc a0 ao a2 a3 n c))):Int)=0→False))))∧(¬(cc a0 ao a2 a3 n c).1=[]→(List.length (Prod.fst (cc a0 ao a2 a3 n c))=1→iy a0 ao a2 a3 n c∧(0<(↑(List.length (Prod.snd (cc a0 ao a2 a3 n c))):Int)→1<1099511627776∧(valid [UInt8.ofNat (Int.toNat c)]=true→cC (xx ah af ax aE P O a0 ao a2 a3 n c) ⟨0,0,0,0,6⟩ ((io a0 ao a2 a3 n c))∧∀(cz:j),cD (xx ah af ax aE P O a0 ao a2 a3 n c) ⟨0,0,0,0,6⟩ ((io a0 ao a2 a3 n c)) cz→bK 20 (cz.next) (bK 5 (cz.next) (U (.tuple []) cz)))∧(valid [UInt8.ofNat (Int.toNat c)]=false→cC (xy ah af ax aE P O a0 ao a2 a3 n c) ⟨0,0,0,0,6⟩ ((n8 c))∧∀(b9:j),cD (xy ah af ax aE P O a0 ao a2 a3 n c) ⟨0,0,0,0,6⟩ ((n8 c)) b9→bK 20 (b9.next) (bK 5 (b9.next) (U (.tuple []) b9))))∧(¬0<(↑(List.length (Prod.snd (cc a0 ao a2 a3 n c))):Int)→1<1099511627776∧(valid [UInt8.ofNat (Int.toNat c)]=true→cC (xx ah af ax aE P O a0 ao a2 a3 n c) ⟨0,0,0,0,6⟩ ((io a0 ao a2 a3 n c))∧∀(cz:j),cD (xx ah af ax aE P O a0 ao a2 a3 n c) ⟨0,0,0,0,6⟩ ((io a0 ao a2 a3 n c)) cz→bK 20 (cz.next) (bK 5 (cz.next) (U (.tuple []) cz)))∧(valid [UInt8.ofNat (Int.toNat c)]=false→cC (xy ah af ax aE P O a0 ao a2 a3 n c) ⟨0,0,0,0,6⟩ ((n8 c))∧∀(b9:j),cD (xy ah af ax aE P O a0 ao a2 a3 n c) ⟨0,0,0,0,6⟩ ((n8 c)) b9→bK 20 (b9.next) (bK 5 (b9.next) (U (.tuple []) b9)))))∧(¬List.length (Prod.fst (cc a0 ao a2 a3 n c))=1→iy a0 ao a2 a3 n c∧(0<(↑(List.length (Prod.snd (cc a0 ao a2 a3 n c))):Int)→1<1099511627776∧(valid [UInt8.ofNat (Int.toNat c)]=true→1<1099511627776∧(valid [UInt8.ofNat (Int.toNat c)]=true→cC (xz ah af ax aE P O a0 ao a2 a3 n c) ⟨0,0,0,0,6⟩ ((io a0 ao a2 a3 n c))∧∀(cz:j),cD (xz ah af ax aE P O a0 ao a2 a3 n c) ⟨0,0,0,0,6⟩ ((io a0 ao a2 a3 n c)) cz→bK 20 (cz.next) (bK 5 (cz.next) (U (.tuple []) cz)))∧(valid [UInt8.ofNat (Int.toNat c)]=false→cC (xA ah af ax aE P O a0 ao a2 a3 n c) ⟨0,0,0,0,6⟩ ((n8 c))∧∀(b9:j),cD (xA ah af ax aE P O a0 ao a2 a3 n c) ⟨0,0,0,0,6⟩ ((n8 c)) b9→bK 20 (b9.next) (bK 5 (b9.next) (U (.tuple []) b9))))∧(valid [UInt8.ofNat (Int.toNat c)]=false→((↑(List.length (Prod.snd (cc a0 ao a2 a3 n c))):Int)=0→False)∧(¬(↑(List.length (Prod.snd (cc a0 ao a2 a3 n c))):Int)=0→False)))∧(¬0<(↑(List.length (Prod.snd (cc a0 ao a2 a3 n c))):Int)→1<1099511627776∧(valid [UInt8.ofNat (Int.toNat c)]=true→1<1099511627776∧(valid [UInt8.ofNat (Int.toNat c)]=true→cC (xz ah af ax aE P O a0 ao a2 a3 n c) ⟨0,0,0,0,6⟩ ((io a0 ao a2 a3 n c))∧∀(cz:j),cD (xz ah af ax aE P O a0 ao a2 a3 n c) ⟨0,0,0,0,6⟩ ((io a0 ao a2 a3 n c)) cz→bK 20 (cz.next) (bK 5 (cz.next) (U (.tuple []) cz)))∧(valid [UInt8.ofNat (Int.toNat c)]=false→cC (xA ah af ax aE P O a0 ao a2 a3 n c) ⟨0,0,0,0,6⟩ ((n8 c))∧∀(b9:j),cD (xA ah af ax aE P O a0 ao a2 a3 n c) ⟨0,0,0,0,6⟩ ((n8 c)) b9→bK 20 (b9.next) (bK 5 (b9.next) (U (.tuple []) b9))))∧(valid [UInt8.ofNat (Int.toNat c)]=false→((↑(List.length (Prod.snd (cc a0 ao a2 a3 n c))):Int)=0→False)∧(¬(↑(List.length (Prod.snd (cc a0 ao a2 a3 n c))):Int)=0→False)))))))) :
 ∃v p,aI Tryz.prog aw 60 [.ptr (some ⟨0,0,0,0,6⟩),.int .u8 c] (j.of [b2 0 f 1 (.slice (some ⟨2,0,0,0,1⟩) 1 1) ah false af ax,hj a0 ao a2 a3 n aE,R.made [.int .u8 27] 1 true,P,O]) v p∧U v p :=
 cb bQ mixed xn (an:= .aK 1 (ag 3002 .nil) (.aK 4 (ag 3002 .nil) (he 6002 (.aK 3006 (he 4004 (.aK 4005 .nil u6)) (.aK 3006 (he 4004 (.aK 4005 (.aK 9001 .nil .nil) (.aK 9001 .nil .nil))) (he 4004 (.aK 4005 u6 u6))))))) (by kernel_rfl) aY
theorem ni{f gk:Nat}{aX ah af:o}{cr Xc:Bool}{aq:Option (TypeId×Nat)}{bk K P O:R}{a7:cL}{bo:gg}{kept hold aB:Bytes}{es:List bj}(gs:dQ (j.of [b2 0 f 1 aX ah cr af aq,bk,K,P,O]) 0 a7 gk Xc bo kept hold aB es) :
 i' (j.of [b2 0 f 1 aX ah cr af aq,bk,K,P,O]) 0 a7.k aX bo kept∧ja (j.of [b2 0 f 1 aX ah cr af aq,bk,K,P,O]) 0 a7.I ah aB∧jb (j.of [b2 0 f 1 aX ah cr af aq,bk,K,P,O]) 0 a7.ab af es:=by
 obtain⟨F3,im,F4,F5,ca,ap,ac,ai⟩:=gs.ex;rw [j.e3]at ca;simp only [List.getElem?_cons_zero,Option.some.injEq,R.made,R.mk.injEq,List.cons.injEq,o.agg.injEq,o.func.injEq,o.ptr.injEq,bG.mk.injEq,true_and,and_true]at ca;obtain⟨⟨_,rfl,rfl,_,_,rfl⟩,rfl⟩:=ca;exact⟨ap,ac,ai⟩
theorem Nh{l h:j}{cS:o}{e:bj}{a7 aF:cL}{f:Nat}{cr:Bool}{bo:gg}{kept hold aB:Bytes}{es:List bj}{n ba bT:Nat}(aS:h.next=n)(hL:ba≤n)(jI:bT≤n)(gi:dQ h 0 aF f cr bo kept hold aB es∧Fr l h 0 a7 aF)(he:cS=cm e)(cw:es.length<2^30)(az:hold.length≤4)
 {cY:j→Prop} (dZ:∀aa aQ,dQ aa 0 aQ (cK .ground) cr .nil [] hold aB (es++[e])→Fr l aa 0 a7 aQ→cY aa):cC h ⟨0,0,0,0,6⟩ cS∧∀aa,cD h ⟨0,0,0,0,6⟩ cS aa→_root_.cond (Nat.ble ba aa.next) (_root_.cond (Nat.ble bT aa.next) (cY aa) False) False:=by
 refine⟨F8 gi.1 he cw az,fun aa t=> ?_⟩;have:=t.next
 obtain⟨aQ,dv,gh⟩:=F7 t gi.1 gi.2 he az;exact rK (by omega) (rK (by omega) (dZ aa aQ dv gh))
theorem ta{l h:j}{cS:o}{e:bj}{a7 aF:cL}{f:Nat}{cr:Bool}{bo:gg}{kept hold aB:Bytes}{es:List bj}{n ba:Nat}(aS:h.next=n)(hL:ba≤n)(gi:dQ h 0 aF f cr bo kept hold aB es∧Fr l h 0 a7 aF)(he:cS=cm e)(cw:es.length<2^30)(az:hold.length≤4)
 {cY:j→Prop} (dZ:∀aa aQ,dQ aa 0 aQ (cK .ground) cr .nil [] hold aB (es++[e])→Fr l aa 0 a7 aQ→cY aa):cC h ⟨0,0,0,0,6⟩ cS∧∀aa,cD h ⟨0,0,0,0,6⟩ cS aa→_root_.cond (Nat.ble ba aa.next) (cY aa) False:=by
 refine⟨F8 gi.1 he cw az,fun aa t=> ?_⟩;have:=t.next
 obtain⟨aQ,dv,gh⟩:=F7 t gi.1 gi.2 he az;exact rK (by omega) (dZ aa aQ dv gh)
theorem pf{l h:j}{a7 aF:cL}{s:bO}{bo:gg}{es:List bj}(gi:dQ h 0 aF (cK s.cp) (decide (s.cp=.cW)) bo s.kept s.hold s.aB es∧Fr l h 0 a7 aF)(hW:qc s.cp bo s.kept):∃aQ,cu h 0 aQ s es∧Fr l h 0 a7 aQ:=⟨aF,⟨bo,gi.1,hW⟩,gi.2⟩
theorem xB{h:j}{aF:cL}{hold aB:Bytes}{es:List bj}(g:dQ h 0 aF (cK .ground) false .nil [] hold aB es):cu h 0 aF ⟨.ground,[],hold,aB⟩ es:=⟨.nil,g,trivial⟩
theorem Ni{c:UInt8}(h:c≠27):c.toNat≠27:=fun e=>h (UInt8.toNat_inj.1 e)
theorem Xd(aB:Bytes){c:UInt8}(hY:c≠27)(h:c.toNat<32∨c.toNat=127):Keys.ground ⟨.ground,[],[],aB⟩ c=(⟨.ground,[],[],aB⟩,[control c.toNat]):=by simp [Keys.ground,hY,ix,h,tell]
theorem Xe(aB:Bytes){c:UInt8}(hY:c≠27)(h:¬(c.toNat<32∨c.toNat=127))(aD:cl [] c=([],[c])):Keys.ground ⟨.ground,[],[],aB⟩ c=(⟨.dd,[c],[c],aB⟩,[]):=by simp [Keys.ground,hY,ix,h,gD,aD]
theorem Xf(aB:Bytes){c:UInt8}(hY:c≠27)(h:¬(c.toNat<32∨c.toNat=127)){r:Nat}(aD:cl [] c=([r],[])):Keys.ground ⟨.ground,[],[],aB⟩ c=(⟨.ground,[],[],aB⟩,[if valid [c]=true then fe r else gV [c]]):=by by_cases bg:valid [c]=true<;>simp [Keys.ground,hY,ix,h,gD,aD,at',bg,tell]
theorem Nj(c:UInt8):cl [] c=([],[c])∨ ∃r,cl [] c=([r],[]):=by
 rcases jS c.toNat with h|h|h|h|h
 ·exact .inr ⟨_,lH c h⟩
 ·exact .inr ⟨_,lI c h⟩
 ·exact .inl (fi c 0 h)
 ·exact .inl (fi c 1 h)
 ·exact .inl (fi c 2 h)
theorem Nk(bA bz bl bB:Int)(c:UInt8):cc bA bz bl bB 0 c.toNat=cl [] c:=by unfold cc n1;rw [u5];rfl
theorem Nl(bA bz bl bB:Int)(c:UInt8):iy bA bz bl bB 0 c.toNat :=
 ⟨by omega,by omega,by omega,by omega,by have:=c.toNat_lt;omega,.inl rfl⟩
theorem Nn:1<1099511627776:=by decide
theorem pg(c:UInt8):UInt8.ofNat (Int.toNat (c.toNat:Int))=c:=by simp
theorem Xg{f:Nat}{ah af:o}{aq aE:Option (TypeId×Nat)}{K P O:R}{a7:cL}{aB:Bytes}{es:List bj}{bA bz bl bB:Int}(gs:dQ (j.of [b2 0 f 1 (.slice none 0 0) ah false af aq,cn [] bA bz bl bB aE,K,P,O]) 0 a7 f false .nil [] [] aB es)
 (cX:a7.u=1∧(a7.k=0∨a7.k=2)∧(a7.I=0∨a7.I=3)∧(a7.ab=0∨a7.ab=4)) (c:UInt8) (hY:c≠27) (cw:es.length<2^30) :
 ∃aa,aI Tryz.prog aw 60 [.ptr (some ⟨0,0,0,0,6⟩),.int .u8 c.toNat] (j.of [b2 0 f 1 (.slice none 0 0) ah false af aq,cn [] bA bz bl bB aE,K,P,O]) (.tuple []) aa ∧
  ∃aQ,cu aa 0 aQ (Keys.ground ⟨.ground,[],[],aB⟩ c).1 (es++(Keys.ground ⟨.ground,[],[],aB⟩ c).2)∧Fr (j.of [b2 0 f 1 (.slice none 0 0) ah false af aq,cn [] bA bz bl bB aE,K,P,O]) aa 0 a7 aQ:=by
 obtain⟨ap,ac,ai⟩:=ni gs;have av:=c.toNat_lt;have aS:=Ni hY
 obtain ⟨v,aa,aC,rfl,q⟩:=Xa f ah af aq aE K P O bA bz bl bB 0 c.toNat (fun v aa=>v=.tuple []∧∃aQ,cu aa 0 aQ (Keys.ground ⟨.ground,[],[],aB⟩ c).1 (es++(Keys.ground ⟨.ground,[],[],aB⟩ c).2)∧Fr (j.of [b2 0 f 1 (.slice none 0 0) ah false af aq,cn [] bA bz bl bB aE,K,P,O]) aa 0 a7 aQ) (by
  delta n7 M9 xu u7 c9 k4 s8 xp Na M' rL fV xt xr jw xq Ga u9 xo s9 F9 rM F' eK
  have xC:(c.toNat<32∨c.toNat=127)→ ∀aa aQ,dQ aa 0 aQ (cK .ground) false .nil [] [] aB (es++[control c.toNat])→Fr (j.of [b2 0 f 1 (.slice none 0 0) ah false af aq,cn [] bA bz bl bB aE,K,P,O]) aa 0 a7 aQ→o.tuple []=.tuple []∧∃aQ,cu aa 0 aQ (Keys.ground ⟨.ground,[],[],aB⟩ c).1 (es++(Keys.ground ⟨.ground,[],[],aB⟩ c).2)∧Fr (j.of [b2 0 f 1 (.slice none 0 0) ah false af aq,cn [] bA bz bl bB aE,K,P,O]) aa 0 a7 aQ :=
   fun jp aa aQ dv gh=>⟨rfl,aQ,by rw [Xd aB hY jp];exact xB dv,gh⟩
  refine⟨fun p=>⟨by omega,by omega,?_⟩,fun p=>⟨fun ad=>⟨by omega,by omega,?_⟩,fun ad=> ?_⟩⟩
  ·exact ta (n:=24) (e:=control c.toNat) (aF:=⟨1,0,a7.I,a7.ab⟩) (f:=f) (cr:=false) (bo:= .nil) (kept:=[]) (hold:=[]) rfl (by decide) (iz (n:=24) (bA:=bA) (bz:=bz) (bl:=bl) (bB:=bB) (aX:= .slice none 0 0) (ah:=ah) (af:=af) (aq:=aq) (aE:=aE) rfl (by decide) (by kernel_rfl) (by kernel_rfl) (.inl (by kernel_rfl)) (by kernel_rfl) (by kernel_rfl) (A3 _) (by decide) ac ai cX (.inl rfl)) (by rw [Int.toNat_natCast];rfl) cw (by decide) (xC (by omega))
  ·exact ta (n:=24) (e:=control c.toNat) (aF:=⟨1,0,a7.I,a7.ab⟩) (f:=f) (cr:=false) (bo:= .nil) (kept:=[]) (hold:=[]) rfl (by decide) (iz (n:=24) (bA:=bA) (bz:=bz) (bl:=bl) (bB:=bB) (aX:= .slice none 0 0) (ah:=ah) (af:=af) (aq:=aq) (aE:=aE) rfl (by decide) (by kernel_rfl) (by kernel_rfl) (.inl (by kernel_rfl)) (by kernel_rfl) (by kernel_rfl) (A3 _) (by decide) ac ai cX (.inl rfl)) (by rw [Int.toNat_natCast];rfl) cw (by decide) (xC (by omega))
  ·have xD:¬(c.toNat<32∨c.toNat=127):=by omega
   rw [Nk,pg];have pre:=Nl bA bz bl bB c;rcases Nj c with aD|⟨r,aD⟩
   ·rw [aD];refine⟨fun _=>⟨pre,fun _=>⟨rfl,?_⟩,fun e=>absurd (by simp) e⟩,fun e=>absurd rfl e⟩;rw [Xe aB hY xD aD,List.append_nil]
    exact pf (s:=⟨.dd,[c],[c],aB⟩) (iz (n:=75) (k:=71) (bA:=bA) (bz:=bz) (bl:=bl) (bB:=bB) (aX:= .slice (some ⟨71,0,0,0,1⟩) 1 1) (ah:=ah) (af:=af) (aq:=aq) (aE:=aE) rfl (by decide) (by kernel_rfl) (by kernel_rfl) (.inl (by kernel_rfl)) (by kernel_rfl) (by kernel_rfl)
     (n6 (es:=[.int .u8 c.toNat]) (J:=0) (m:=0) (f:=0) (by decide) rfl rfl (by kernel_rfl)) (by decide) ac ai cX (.inr (.inl (by decide)))) (by simp [qc])
   ·rw [aD]
    have one:∀(n:Nat)(h:j)(cS:o)(e:bj),h.next=n→75≤n→h.get 0=some (b2 0 90 1 (.slice (some ⟨98,0,0,0,1⟩) 1 1) ah false af aq)→h.get 1=some (cn [] bA bz bl bB aE)→h.get 2=some K→h.get 3=some P→h.get 4=some O→h.get 98=some (R.made [.int .u8 c.toNat] 1 false cI)→98<n→cS=cm e →
     (if valid [c]=true then fe r else gV [c])=e →
     cC h ⟨0,0,0,0,6⟩ cS∧∀aa,cD h ⟨0,0,0,0,6⟩ cS aa→_root_.cond (Nat.ble 20 aa.next) (_root_.cond (Nat.ble 5 aa.next) (o.tuple []=.tuple []∧∃aQ,cu aa 0 aQ (Keys.ground ⟨.ground,[],[],aB⟩ c).1 (es++(Keys.ground ⟨.ground,[],[],aB⟩ c).2)∧Fr (j.of [b2 0 f 1 (.slice none 0 0) ah false af aq,cn [] bA bz bl bB aE,K,P,O]) aa 0 a7 aQ) False) False:=by
     intro n h cS e aS af3 ca bn bs b7 ct il Xh he Ge;rw [Xf aB hY xD aD,Ge];exact Nh aS (by omega) (by omega) (iz (k:=98) aS (by omega) ca bn (.inl bs) b7 ct (n6 (l:=[c]) (by decide) rfl rfl il) Xh ac ai cX (.inr (.inl (by decide)))) he cw (by decide) fun aa aQ dv gh=>⟨rfl,pf (s:=⟨.ground,[],[],aB⟩) ⟨dv,gh⟩ trivial⟩
    refine⟨fun e=>absurd e (by simp),fun _=>⟨fun _=>⟨pre,fun e=>absurd e (by simp),fun _=>⟨Nn,fun bg=> ?_,fun bg=> ?_⟩⟩,fun e=>absurd rfl e⟩⟩
    ·exact one 119 _ _ (fe r) rfl (by decide) (by kernel_rfl) (by kernel_rfl) (by kernel_rfl) (by kernel_rfl) (by kernel_rfl) (by kernel_rfl) (by decide) rfl (by rw [if_pos bg])
    ·exact one 120 _ _ (gV [c]) rfl (by decide) (by kernel_rfl) (by kernel_rfl) (by kernel_rfl) (by kernel_rfl) (by kernel_rfl) (by kernel_rfl) (by decide) rfl (by rw [if_neg (by rw [bg];decide)]))
 exact⟨aa,aC,q⟩
def tb(e:bj):bj:= {e with dW:=e.dW+2}
theorem Xi(n:Nat):(control n).dW=0∨(control n).dW=4:=by
 unfold Keys.control
 repeat' split
 all_goals simp [eR,fe]
theorem No(n:Nat):o.agg [.int .i8 (control n).kind,.int .i32 (control n).code,.int .u8 (cg .u8 (control n).dW 2),.int .i64 (control n).x,.int .i64 (control n).y,.str (control n).text]=cm (tb (control n)):=by unfold cm tb;rcases Xi n with h|h<;>rw [h]<;>rfl
theorem Xj(aB:Bytes){c:UInt8}(h:c.toNat<32∨c.toNat=127):Keys.plain ⟨.du,[27],[],aB⟩ c=(⟨.ground,[],[],aB⟩,[tb (control c.toNat)]):=by simp [Keys.plain,ix,h,tell,tb]
theorem Xk(aB:Bytes){c:UInt8}(h:¬(c.toNat<32∨c.toNat=127))(aD:cl [] c=([],[c])):Keys.plain ⟨.du,[27],[],aB⟩ c=(⟨.dd,[27,c],[c],aB⟩,[]):=by simp [Keys.plain,ix,h,gD,aD]
theorem Xl(aB:Bytes){c:UInt8}(h:¬(c.toNat<32∨c.toNat=127)){r:Nat}(aD:cl [] c=([r],[])):Keys.plain ⟨.du,[27],[],aB⟩ c=(⟨.ground,[],[],aB⟩,[if valid [c]=true then fe r 2 else gV [27,c]]):=by by_cases bg:valid [c]=true<;>simp [Keys.plain,ix,h,gD,aD,at',bg,tell]
theorem Xm{f:Nat}{ah af:o}{aq aE:Option (TypeId×Nat)}{P O:R}{a7:cL}{aB:Bytes}{es:List bj}{bA bz bl bB:Int}(gs:dQ (j.of [b2 0 f 1 (.slice (some ⟨2,0,0,0,1⟩) 1 1) ah false af aq,cn [] bA bz bl bB aE,R.made [.int .u8 27] 1 true,P,O]) 0 a7 f false .one [27] [] aB es)
 (cX:a7.u=1∧(a7.k=0∨a7.k=2)∧(a7.I=0∨a7.I=3)∧(a7.ab=0∨a7.ab=4)) (c:UInt8) (hY:c≠27) (cw:es.length<2^30) :
 ∃aa,aI Tryz.prog aw 60 [.ptr (some ⟨0,0,0,0,6⟩),.int .u8 c.toNat] (j.of [b2 0 f 1 (.slice (some ⟨2,0,0,0,1⟩) 1 1) ah false af aq,cn [] bA bz bl bB aE,R.made [.int .u8 27] 1 true,P,O]) (.tuple []) aa ∧
  ∃aQ,cu aa 0 aQ (Keys.plain ⟨.du,[27],[],aB⟩ c).1 (es++(Keys.plain ⟨.du,[27],[],aB⟩ c).2)∧Fr (j.of [b2 0 f 1 (.slice (some ⟨2,0,0,0,1⟩) 1 1) ah false af aq,cn [] bA bz bl bB aE,R.made [.int .u8 27] 1 true,P,O]) aa 0 a7 aQ:=by
 obtain⟨ap,ac,ai⟩:=ni gs;have cB:a7.k=2:=by have:=ap.1;omega
 have av:=c.toNat_lt;have aS:=Ni hY
 obtain ⟨v,aa,aC,rfl,q⟩:=Xb f ah af aq aE P O bA bz bl bB 0 c.toNat (fun v aa=>v=.tuple []∧∃aQ,cu aa 0 aQ (Keys.plain ⟨.du,[27],[],aB⟩ c).1 (es++(Keys.plain ⟨.du,[27],[],aB⟩ c).2)∧Fr (j.of [b2 0 f 1 (.slice (some ⟨2,0,0,0,1⟩) 1 1) ah false af aq,cn [] bA bz bl bB aE,R.made [.int .u8 27] 1 true,P,O]) aa 0 a7 aQ) (by
  delta n8 Nc xA u7 c9 k4 s8 xv Nf Nb rL io xz xy jw xx Gd Ng u' xw Nd s9 F9 s' Gc Gb eK
  have xC:(c.toNat<32∨c.toNat=127)→ ∀aa aQ,dQ aa 0 aQ (cK .ground) false .nil [] [] aB (es++[tb (control c.toNat)])→Fr (j.of [b2 0 f 1 (.slice (some ⟨2,0,0,0,1⟩) 1 1) ah false af aq,cn [] bA bz bl bB aE,R.made [.int .u8 27] 1 true,P,O]) aa 0 a7 aQ→o.tuple []=.tuple []∧∃aQ,cu aa 0 aQ (Keys.plain ⟨.du,[27],[],aB⟩ c).1 (es++(Keys.plain ⟨.du,[27],[],aB⟩ c).2)∧Fr (j.of [b2 0 f 1 (.slice (some ⟨2,0,0,0,1⟩) 1 1) ah false af aq,cn [] bA bz bl bB aE,R.made [.int .u8 27] 1 true,P,O]) aa 0 a7 aQ :=
   fun jp aa aQ dv gh=>⟨rfl,aQ,by rw [Xj aB jp];exact xB dv,gh⟩
  refine⟨fun p=>⟨by omega,by omega,trivial,?_⟩,fun p=>⟨fun ad=>⟨by omega,by omega,trivial,?_⟩,fun ad=> ?_⟩⟩
  ·exact ta (n:=29) (e:=tb (control c.toNat)) (aF:=⟨1,2,a7.I,a7.ab⟩) (f:=f) (cr:=false) (bo:= .one) (kept:=[27]) (hold:=[]) rfl (by decide) (iz (n:=29) (bA:=bA) (bz:=bz) (bl:=bl) (bB:=bB) (aX:= .slice (some ⟨2,0,0,0,1⟩) 1 1) (ah:=ah) (af:=af) (aq:=aq) (aE:=aE) rfl (by decide) (by kernel_rfl) (by kernel_rfl) (.inl (by kernel_rfl)) (by kernel_rfl) (by kernel_rfl) ⟨by decide,rfl,by kernel_rfl,rfl⟩ (by decide) ac ai cX (.inr (.inr ⟨rfl,cB⟩))) (by rw [Int.toNat_natCast];exact No _) cw (by decide) (xC (by omega))
  ·exact ta (n:=29) (e:=tb (control c.toNat)) (aF:=⟨1,2,a7.I,a7.ab⟩) (f:=f) (cr:=false) (bo:= .one) (kept:=[27]) (hold:=[]) rfl (by decide) (iz (n:=29) (bA:=bA) (bz:=bz) (bl:=bl) (bB:=bB) (aX:= .slice (some ⟨2,0,0,0,1⟩) 1 1) (ah:=ah) (af:=af) (aq:=aq) (aE:=aE) rfl (by decide) (by kernel_rfl) (by kernel_rfl) (.inl (by kernel_rfl)) (by kernel_rfl) (by kernel_rfl) ⟨by decide,rfl,by kernel_rfl,rfl⟩ (by decide) ac ai cX (.inr (.inr ⟨rfl,cB⟩))) (by rw [Int.toNat_natCast];exact No _) cw (by decide) (xC (by omega))
  ·have xD:¬(c.toNat<32∨c.toNat=127):=by omega
   rw [Nk,pg];have pre:=Nl bA bz bl bB c;rcases Nj c with aD|⟨r,aD⟩
   ·rw [aD];refine⟨fun _=>⟨pre,fun _=>⟨rfl,?_⟩,fun e=>absurd (by simp) e⟩,fun e=>absurd rfl e⟩;rw [Xk aB xD aD,List.append_nil]
    exact pf (s:=⟨.dd,[27,c],[c],aB⟩) (iz (n:=77) (k:=73) (bA:=bA) (bz:=bz) (bl:=bl) (bB:=bB) (aX:= .slice (some ⟨73,0,0,0,1⟩) 2 2) (ah:=ah) (af:=af) (aq:=aq) (aE:=aE) rfl (by decide) (by kernel_rfl) (by kernel_rfl) (.inl (by kernel_rfl)) (by kernel_rfl) (by kernel_rfl)
     (n6 (es:=[.int .u8 27,.int .u8 c.toNat]) (J:=0) (m:=0) (f:=0) (by decide) rfl rfl (by kernel_rfl)) (by decide) ac ai cX (.inr (.inl (by decide)))) (by simp [qc])
   ·rw [aD]
    have one:∀(n:Nat)(h:j)(cS:o)(e:bj),h.next=n→77≤n→h.get 0=some (b2 0 90 1 (.slice (some ⟨100,0,0,0,1⟩) 2 2) ah false af aq)→h.get 1=some (cn [] bA bz bl bB aE)→h.get 2=some (R.made [.int .u8 27] 1 true)→h.get 3=some P→h.get 4=some O→h.get 100=some (R.made [.int .u8 27,.int .u8 c.toNat] 1 false cI)→100<n→cS=cm e →
     (if valid [c]=true then fe r 2 else gV [27,c])=e →
     cC h ⟨0,0,0,0,6⟩ cS∧∀aa,cD h ⟨0,0,0,0,6⟩ cS aa→_root_.cond (Nat.ble 20 aa.next) (_root_.cond (Nat.ble 5 aa.next) (o.tuple []=.tuple []∧∃aQ,cu aa 0 aQ (Keys.plain ⟨.du,[27],[],aB⟩ c).1 (es++(Keys.plain ⟨.du,[27],[],aB⟩ c).2)∧Fr (j.of [b2 0 f 1 (.slice (some ⟨2,0,0,0,1⟩) 1 1) ah false af aq,cn [] bA bz bl bB aE,R.made [.int .u8 27] 1 true,P,O]) aa 0 a7 aQ) False) False:=by
     intro n h cS e aS af4 ca bn bs b7 ct il Xn he Ge;rw [Xl aB xD aD,Ge];exact Nh aS (by omega) (by omega) (iz (k:=100) aS (by omega) ca bn (.inl bs) b7 ct (n6 (l:=[27,c]) (by decide) rfl rfl il) Xn ac ai cX (.inr (.inl (by decide)))) he cw (by decide) fun aa aQ dv gh=>⟨rfl,pf (s:=⟨.ground,[],[],aB⟩) ⟨dv,gh⟩ trivial⟩
    refine⟨fun e=>absurd e (by simp),fun _=>⟨fun _=>⟨pre,fun e=>absurd e (by simp),fun _=>⟨Nn,fun bg=> ?_,fun bg=> ?_⟩⟩,fun e=>absurd rfl e⟩⟩
    ·exact one 121 _ _ (fe r 2) rfl (by decide) (by kernel_rfl) (by kernel_rfl) (by kernel_rfl) (by kernel_rfl) (by kernel_rfl) (by kernel_rfl) (by decide) rfl (by rw [if_pos bg])
    ·exact one 122 _ _ (gV [27,c]) rfl (by decide) (by kernel_rfl) (by kernel_rfl) (by kernel_rfl) (by kernel_rfl) (by kernel_rfl) (by kernel_rfl) (by decide) rfl (by rw [if_neg (by rw [bg];decide)]))
 exact⟨aa,aC,q⟩
theorem cu.pc{aa aP:j}{r:Nat→Nat}(bb:∀i b,aa.get i=some b→aP.get (r i)=some (b.bc r))(iw:∀i C,r i=r C→i=C)(cQ:∀i,i<aa.next→r i<aP.next){d:Nat}{aF:cL}{s:bO}{es:List bj}(g:cu aa d aF s es):cu aP (r d) (aF.map r) s es:=by obtain⟨bo,g,an⟩:=g;exact⟨bo,g.pc bb iw cQ,an⟩
theorem tc{fn:FuncId}{s bL:bO}{es Gf:List bj}{c:UInt8}
 (small:∀bo aX ah af aq aE bA bz bl bB K P O a7,qc s.cp bo s.kept→dQ (j.of [b2 0 (cK s.cp) 1 aX ah (decide (s.cp=.cW)) af aq,cn s.hold bA bz bl bB aE,K,P,O]) 0 a7 (cK s.cp) (decide (s.cp=.cW)) bo s.kept s.hold s.aB es→(a7.u=1∧(a7.k=0∨a7.k=2)∧(a7.I=0∨a7.I=3)∧(a7.ab=0∨a7.ab=4)) →
  ∃aa,aI Tryz.prog aw fn [.ptr (some ⟨0,0,0,0,6⟩),.int .u8 c.toNat] (j.of [b2 0 (cK s.cp) 1 aX ah (decide (s.cp=.cW)) af aq,cn s.hold bA bz bl bB aE,K,P,O]) (.tuple []) aa∧∃aQ,cu aa 0 aQ bL Gf∧Fr (j.of [b2 0 (cK s.cp) 1 aX ah (decide (s.cp=.cW)) af aq,cn s.hold bA bz bl bB aE,K,P,O]) aa 0 a7 aQ)
 {H:j} {d:Nat} {aF:cL} (g:cu H d aF s es):∃aP,aI Tryz.prog aw fn [.ptr (some ⟨d,0,0,0,6⟩),.int .u8 c.toNat] H (.tuple []) aP∧∃aQ,cu aP d aQ bL Gf∧Fr H aP d aF aQ:=by
 obtain⟨bo,g,an⟩:=g;exact g.lift (Q:=fun h d aF=>cu h d aF bL Gf) (fun a aT=>by rw [List.mem_singleton.1 aT];exact cR.int _ _) (cR.of rfl) (fun aa aP r d aF bb iw cQ q=>q.pc bb iw cQ) fun aX ah af aq aE bA bz bl bB K P O a7 gs cX=>small bo aX ah af aq aE bA bz bl bB K P O a7 an gs cX
def rN(s:bO)(c:UInt8):bO×List bj:=match s.cp with|.ground=>Keys.ground s c|_=>Keys.plain s c
def xE(s:bO)(c:UInt8):Prop:=s.hold=[]∧c≠27∧(s.cp=.ground∨s.cp=.du)
theorem Xo{H:j}{d:Nat}{aF:cL}{s:bO}{es:List bj}{c:UInt8}(g:cu H d aF s es)(cw:es.length<2^30)(dZ:xE s c):∃aP,aI Tryz.prog aw 60 [.ptr (some ⟨d,0,0,0,6⟩),.int .u8 c.toNat] H (.tuple []) aP ∧
 ∃aQ,cu aP d aQ (rN s c).1 (es++(rN s c).2)∧Fr H aP d aF aQ:=by
 refine tc ?_ g;intro bo aX ah af aq aE bA bz bl bB K P O a7 an gs cX;obtain⟨ap,ac,ai⟩:=ni gs;obtain⟨cp,kept,hold,aB⟩:=s;obtain⟨p,hY,ad⟩:=dZ;simp only at p ad an gs ap ac ai⊢;subst p;rcases ad with rfl|rfl
 ·cases bo with
  |nil =>
   obtain⟨rfl,rfl,_⟩:=ap;exact Xg gs cX c hY cw
  |one=>exact an.elim
  |grown C=>exact an.elim
 ·cases bo with
  |one =>
   obtain⟨kD,rfl,dj,rfl⟩:=ap;have:a7.k=2:=by omega
   rw [this,j.e3]at dj;simp only [List.getElem?_cons_zero,List.getElem?_cons_succ,Option.some.injEq]at dj;subst dj;rw [this]at gs⊢;exact Xm gs cX c hY cw
  |nil=>exact an.elim
  |grown C=>exact an.elim
theorem Xp:∀args h a,jY (2^30-4) xE rN args h=some a→a.dw Tryz.prog aw 60 args h:=rJ fun H d aF s es c g cw az dZ=>Xo g (by omega) dZ
noncomputable def Np:fc:=A2.add 60 (jY (2^30-4) xE rN)
theorem Nq:eW Tryz.prog aw Np:=xn.add Xp
theorem Xq(f:Nat)(ah af:o)(ax:Option (TypeId×Nat))(bk K P O:R)(c:Int)(U:o→j→Prop)(aY:(c=27→U (.tuple []) (j.ar 19 [(0,⟨[.agg [.func (.func 59) [.ptr (some ⟨0,0,0,0,6⟩)] [],.slice (some ⟨9,0,0,0,1⟩) 1 1,ah,.bool false,.ptr (some ⟨1,0,0,0,5⟩),af]],6,true,false,0,0,0,ax⟩),(1,bk),(2,K),(3,P),(4,O),(9,R.made [.int .u8 c] 1 true)]))∧(¬c=27→dB (2^30-4) xE (j.ar 10 [(0,(rM f ah af ax)),(1,bk),(2,K),(3,P),(4,O)]) ⟨0,0,0,0,6⟩ c∧∀(ph:j),dC rN (j.ar 10 [(0,(rM f ah af ax)),(1,bk),(2,K),(3,P),(4,O)]) ⟨0,0,0,0,6⟩ c ph→bK 5 (ph.next) (U (.tuple []) ph))) :
 ∃v p,aI Tryz.prog aw 30 [.ptr (some ⟨0,0,0,0,6⟩),.int .u8 c] (j.of [b2 0 f 1 (.slice none 0 0) ah false af ax,bk,K,P,O]) v p∧U v p :=
 cb bQ mixed Nq (an:= .aK 1 .nil .nil) (by kernel_rfl) aY
theorem xF{l h:j}{cY:bO→UInt8→Prop}{F:bO→UInt8→bO×List bj}{a7 aF:cL}{s:bO}{es:List bj}{c:UInt8}{n ba N:Nat}(aS:h.next=n)(hL:ba≤n)(gi:cu h 0 aF s es∧Fr l h 0 a7 aF)(cw:es.length<N)(az:s.hold.length≤4)(bb:cY s c)
 {Q:j→Prop} (eI:∀aa aQ,cu aa 0 aQ (F s c).1 (es++(F s c).2)→Fr l aa 0 a7 aQ→Q aa):dB N cY h ⟨0,0,0,0,6⟩ c.toNat∧∀aa,dC F h ⟨0,0,0,0,6⟩ c.toNat aa→_root_.cond (Nat.ble ba aa.next) (Q aa) False:=by
 have av:=c.toNat_lt;refine⟨⟨rfl,⟨aF,s,es,gi.1,cw,az,by rw [u5];exact bb⟩,by omega⟩,fun aa t=> ?_⟩;have:=t.next
 obtain⟨aQ,dv,gh⟩:=t.all aF s es gi.1 az;rw [u5]at dv;exact rK (by omega) (eI aa aQ dv (gi.2.trans gh))
theorem A4{l h:j}{a7 aF:cL}{s:bO}{bo:gg}{es:List bj}(gi:dQ h 0 aF (cK s.cp) (decide (s.cp=.cW)) bo s.kept s.hold s.aB es∧Fr l h 0 a7 aF)(hW:qc s.cp bo s.kept):cu h 0 aF s es∧Fr l h 0 a7 aF:=⟨⟨bo,gi.1,hW⟩,gi.2⟩
def ml(s:bO)(c:UInt8):Prop:=s.hold=[]∧s.cp=.ground
theorem Xr{H:j}{d:Nat}{aF:cL}{s:bO}{es:List bj}{c:UInt8}(g:cu H d aF s es)(cw:es.length<2^30-4)(dZ:ml s c):∃aP,aI Tryz.prog aw 30 [.ptr (some ⟨d,0,0,0,6⟩),.int .u8 c.toNat] H (.tuple []) aP ∧
 ∃aQ,cu aP d aQ (Keys.ground s c).1 (es++(Keys.ground s c).2)∧Fr H aP d aF aQ:=by
 refine tc ?_ g;intro bo aX ah af aq aE bA bz bl bB K P O a7 an gs cX;obtain⟨ap,ac,ai⟩:=ni gs;obtain⟨cp,kept,hold,aB⟩:=s;obtain⟨p,ad⟩:=dZ;simp only at p ad an gs ap ac ai⊢;subst p ad;cases bo with
 |one=>exact an.elim
 |grown C=>exact an.elim
 |nil =>
  obtain⟨rfl,rfl,_⟩:=ap
  obtain⟨v,aa,aC,rfl,q⟩:=Xq (cK .ground) ah af aq (cn [] bA bz bl bB aE) K P O c.toNat (fun v aa=>v=.tuple []∧∃aQ,cu aa 0 aQ (Keys.ground ⟨.ground,[],[],aB⟩ c).1 (es++(Keys.ground ⟨.ground,[],[],aB⟩ c).2)∧Fr (j.of [b2 0 (cK .ground) 1 (.slice none 0 0) ah false af aq,cn [] bA bz bl bB aE,K,P,O]) aa 0 a7 aQ) (by
   delta rM F' eK
   refine⟨fun e=>⟨rfl,?_⟩,fun e=> ?_⟩
   ·have av:c=27:=UInt8.toNat_inj.1 (by show c.toNat=27;omega);rw [show Keys.ground ⟨.ground,[],[],aB⟩ c=(⟨.du,[27],[],aB⟩,[])by simp [Keys.ground,av],List.append_nil]
    exact pf (s:=⟨.du,[27],[],aB⟩) (iz (n:=19) (k:=9) (bo:= .one) (bA:=bA) (bz:=bz) (bl:=bl) (bB:=bB) (aX:= .slice (some ⟨9,0,0,0,1⟩) 1 1) (ah:=ah) (af:=af) (aq:=aq) (aE:=aE) rfl (by decide) (by kernel_rfl) (by kernel_rfl) (.inl (by kernel_rfl)) (by kernel_rfl) (by kernel_rfl)
     ⟨by decide,rfl,by rw [←e];kernel_rfl,rfl⟩ (by decide) ac ai cX (.inr (.inl (by decide)))) trivial
   ·have av:c≠27:=by rintro rfl;exact e rfl
    refine xF (s:=⟨.ground,[],[],aB⟩) (aF:=⟨1,0,a7.I,a7.ab⟩) (n:=10) rfl (by decide) (A4 (bo:= .nil) (iz (n:=10) (k:=0) (bA:=bA) (bz:=bz) (bl:=bl) (bB:=bB) (aX:= .slice none 0 0) (ah:=ah) (af:=af) (aq:=aq) (aE:=aE) rfl (by decide) (by kernel_rfl) (by kernel_rfl) (.inl (by kernel_rfl)) (by kernel_rfl) (by kernel_rfl) (A3 _) (by decide) ac ai cX (.inl rfl)) trivial) cw (by simp) ⟨rfl,av,.inl rfl⟩ fun aa aQ dv gh=>⟨rfl,aQ,dv,gh⟩)
  exact⟨aa,aC,q⟩
theorem Xs:∀args h a,jY (2^30-4) ml Keys.ground args h=some a→a.dw Tryz.prog aw 30 args h:=rJ fun H d aF s es c g cw az dZ=>Xr g cw dZ
noncomputable def Nr:fc:=Np.add 30 (jY (2^30-4) ml Keys.ground)
theorem A5:eW Tryz.prog aw Nr:=Nq.add Xs
abbrev ef(l:List o)(J:Nat)(m:Nat)(aG:Nat):R:=⟨l,1,false,false,J,m,aG,some (5,0)⟩
abbrev Gg(l:List o)(n:Nat):o:=o.agg [.int .i8 7,.int .i32 0,.int .u8 0,.int .i64 0,.int .i64 0,.str (strOf (List.take n l))]
abbrev Gh(f:Nat)(ah:o)(af:o)(ax:Option (TypeId×Nat))(J:Nat)(n:Nat):R:=⟨[.agg [(eK f),.slice (some ⟨2,J,0,0,1⟩) n n,ah,.bool false,.ptr (some ⟨1,0,0,0,5⟩),af]],6,true,false,0,0,0,ax⟩
theorem Xt(f:Nat)(ah af:o)(ax:Option (TypeId×Nat))(bk P O:R)(l:List o)(J m aG n:Nat)(c:Int)(U:o→j→Prop)(aY:J=J∧0+n≤List.length l∧(∃b6,List.take n (List.drop (bG.idx ⟨2,J,0,0,1⟩) (R.bi (ef l J m aG)))=aL b6)∧cC (j.ar 13 [(0,(Gh f ah af ax J n)),(1,bk),(2,(ef l J m aG)),(3,P),(4,O)]) ⟨0,0,0,0,6⟩ ((Gg l n))∧∀(cP:j),cD (j.ar 13 [(0,(Gh f ah af ax J n)),(1,bk),(2,(ef l J m aG)),(3,P),(4,O)]) ⟨0,0,0,0,6⟩ ((Gg l n)) cP→bF 5 (cP.next) (cj env.D 66 ⟨0,0,0,0,6⟩ (j.mk (cP.next+6) (cP.2))=some (.func (.func 30) [.ptr (some ⟨0,0,0,0,6⟩)] [])∧dB (2^30-4) ml (j.mk (cP.next+6) (j.aJ cP)) ⟨0,0,0,0,6⟩ c∧∀(Gi:j),dC ground (j.mk (cP.next+6) (j.aJ cP)) ⟨0,0,0,0,6⟩ c Gi→bK 5 (Gi.next) (U (.tuple []) Gi))) :
 ∃v p,aI Tryz.prog aw 106 [.ptr (some ⟨0,0,0,0,6⟩),.int .u8 c] (j.of [b2 0 f 1 (.slice (some ⟨2,J,0,0,1⟩) n n) ah false af ax,bk,b3 l 1 J m aG cI,P,O]) v p∧U v p :=
 cb bQ mixed A5 (an:=ag 5 (.aA (.val 1003 (.func (.func 30) [.ptr (some ⟨0,0,0,0,6⟩)] [])) .nil)) (by kernel_rfl) aY
abbrev rO:o:=o.agg [.int .i8 2,.int .i32 4,.int .u8 0,.int .i64 0,.int .i64 0,.str []]
theorem Xu(f:Nat)(ah af:o)(ax:Option (TypeId×Nat))(bk P O:R)(c:Int)(U:o→j→Prop)(aY:(c=27→cC (j.ar 11 [(0,(s' f ah af ax)),(1,bk),(2,R.made [.int .u8 27] 1 true),(3,P),(4,O)]) ⟨0,0,0,0,6⟩ (rO)∧∀(ph:j),cD (j.ar 11 [(0,(s' f ah af ax)),(1,bk),(2,R.made [.int .u8 27] 1 true),(3,P),(4,O)]) ⟨0,0,0,0,6⟩ (rO) ph→bF 5 (ph.next) (dB (2^30-4) ml (j.mk (ph.next+3) (j.aJ ph)) ⟨0,0,0,0,6⟩ c∧∀(jx:j),dC ground (j.mk (ph.next+3) (j.aJ ph)) ⟨0,0,0,0,6⟩ c jx→bK 5 (jx.next) (U (.tuple []) jx)))∧(¬c=27→(c=91→U (.tuple []) (j.ar 27 [(0,⟨[.agg [.func (.func 87) [.ptr (some ⟨0,0,0,0,6⟩)] [],.slice (some ⟨17,0,0,0,1⟩) 2 2,ah,.bool false,.ptr (some ⟨1,0,0,0,5⟩),af]],6,true,false,0,0,0,ax⟩),(1,bk),(2,R.made [.int .u8 27] 1 true),(3,P),(4,O),(16,R.made [.int .u8 c] 1 true),(17,R.made [.int .u8 27,.int .u8 c] 1 false (some (5,0)))]))∧(¬c=91→(c=79→U (.tuple []) (j.ar 29 [(0,⟨[.agg [.func (.func 88) [.ptr (some ⟨0,0,0,0,6⟩)] [],.slice (some ⟨19,0,0,0,1⟩) 2 2,ah,.bool false,.ptr (some ⟨1,0,0,0,5⟩),af]],6,true,false,0,0,0,ax⟩),(1,bk),(2,R.made [.int .u8 27] 1 true),(3,P),(4,O),(18,R.made [.int .u8 c] 1 true),(19,R.made [.int .u8 27,.int .u8 c] 1 false (some (5,0)))]))∧(¬c=79→dB (2^30-4) xE (j.ar 15 [(0,(s' f ah af ax)),(1,bk),(2,R.made [.int .u8 27] 1 true),(3,P),(4,O)]) ⟨0,0,0,0,6⟩ c∧∀(Gj:j),dC rN (j.ar 15 [(0,(s' f ah af ax)),(1,bk),(2,R.made [.int .u8 27] 1 true),(3,P),(4,O)]) ⟨0,0,0,0,6⟩ c Gj→bK 5 (Gj.next) (U (.tuple []) Gj))))) :
 ∃v p,aI Tryz.prog aw 59 [.ptr (some ⟨0,0,0,0,6⟩),.int .u8 c] (j.of [b2 0 f 1 (.slice (some ⟨2,0,0,0,1⟩) 1 1) ah false af ax,bk,R.made [.int .u8 27] 1 true,P,O]) v p∧U v p :=
 cb bQ mixed A5 (an:= .aK 2000 .nil (.aK 5000 .nil (.aK 8000 .nil .nil))) (by kernel_rfl) aY
abbrev xG:o:= .func (.func 30) [.ptr (some ⟨0,0,0,0,6⟩)] []
abbrev xH:o:=o.agg [.int .i8 2,.int .i32 1,.int .u8 0,.int .i64 0,.int .i64 0,.str []]
abbrev xI:o:=o.agg [.int .i8 1,.int .i32 79,.int .u8 2,.int .i64 0,.int .i64 0,.str []]
abbrev n9(c:Int):o:=o.agg [.int .i8 2,.int .i32 (hi c),.int .u8 0,.int .i64 0,.int .i64 0,.str []]
abbrev Gk(c:Int):o:=o.agg [.int .i8 2,.int .i32 (21+(c-80)),.int .u8 0,.int .i64 0,.int .i64 0,.str []]
abbrev Ns(f:Nat)(aX:o)(ah:o)(af:o):o:=o.agg [(eK f),aX,ah,.bool false,.ptr (some ⟨1,0,0,0,5⟩),af]
abbrev va(f:Nat)(aX:o)(ah:o)(af:o)(ax:Option (TypeId×Nat)):R:=⟨[(Ns f aX ah af)],6,true,false,0,0,0,ax⟩
abbrev qf(f:Nat)(aX:o)(ah:o)(af:o)(ax:Option (TypeId×Nat))(bk:R)(K:R)(P:R)(O:R):j:=(j.ar 21 [(0,(va f aX ah af ax)),(1,bk),(2,K),(3,P),(4,O)])
theorem Xv(f:Nat)(aX ah af:o)(ax:Option (TypeId×Nat))(bk K P O:R)(c:Int)(U:o→j→Prop)(aY:(0<hi c→cC (j.ar 14 [(0,(va f aX ah af ax)),(1,bk),(2,K),(3,P),(4,O)]) ⟨0,0,0,0,6⟩ ((n9 c))∧∀(Gl:j),cD (j.ar 14 [(0,(va f aX ah af ax)),(1,bk),(2,K),(3,P),(4,O)]) ⟨0,0,0,0,6⟩ ((n9 c)) Gl→bK 5 (Gl.next) (U (.tuple []) Gl))∧(¬0<hi c→(80≤c→(c≤83→(0≤c-80∧c-80≤255)∧(-2147483648≤c-80∧c-80≤2147483647)∧(-2147483648≤21+(c-80)∧21+(c-80)≤2147483647)∧cC (j.ar 23 [(0,(va f aX ah af ax)),(1,bk),(2,K),(3,P),(4,O)]) ⟨0,0,0,0,6⟩ ((Gk c))∧∀(Gm:j),cD (j.ar 23 [(0,(va f aX ah af ax)),(1,bk),(2,K),(3,P),(4,O)]) ⟨0,0,0,0,6⟩ ((Gk c)) Gm→bK 5 (Gm.next) (U (.tuple []) Gm))∧(¬c≤83→(c=77→cC (qf f aX ah af ax bk K P O) ⟨0,0,0,0,6⟩ (xH)∧∀(gw:j),cD (qf f aX ah af ax bk K P O) ⟨0,0,0,0,6⟩ (xH) gw→bK 5 (gw.next) (U (.tuple []) gw))∧(¬c=77→cC (qf f aX ah af ax bk K P O) ⟨0,0,0,0,6⟩ (xI)∧∀(dK:j),cD (qf f aX ah af ax bk K P O) ⟨0,0,0,0,6⟩ (xI) dK→bF 5 (dK.next) (cj env.D 66 ⟨0,0,0,0,6⟩ (j.mk (dK.next+6) (dK.2))=some (xG)∧dB (2^30-4) ml (j.mk (dK.next+6) (j.aJ dK)) ⟨0,0,0,0,6⟩ c∧∀(td:j),dC ground (j.mk (dK.next+6) (j.aJ dK)) ⟨0,0,0,0,6⟩ c td→bK 5 (td.next) (U (.tuple []) td)))))∧(¬80≤c→(c=77→cC (qf f aX ah af ax bk K P O) ⟨0,0,0,0,6⟩ (xH)∧∀(gw:j),cD (qf f aX ah af ax bk K P O) ⟨0,0,0,0,6⟩ (xH) gw→bK 5 (gw.next) (U (.tuple []) gw))∧(¬c=77→cC (qf f aX ah af ax bk K P O) ⟨0,0,0,0,6⟩ (xI)∧∀(dK:j),cD (qf f aX ah af ax bk K P O) ⟨0,0,0,0,6⟩ (xI) dK→bF 5 (dK.next) (cj env.D 66 ⟨0,0,0,0,6⟩ (j.mk (dK.next+6) (dK.2))=some (xG)∧dB (2^30-4) ml (j.mk (dK.next+6) (j.aJ dK)) ⟨0,0,0,0,6⟩ c∧∀(td:j),dC ground (j.mk (dK.next+6) (j.aJ dK)) ⟨0,0,0,0,6⟩ c td→bK 5 (td.next) (U (.tuple []) td)))))) :
 ∃v p,aI Tryz.prog aw 88 [.ptr (some ⟨0,0,0,0,6⟩),.int .u8 c] (j.of [b2 0 f 1 aX ah false af ax,bk,K,P,O]) v p∧U v p :=
 cb bQ mixed A5 (an:= .aK 1001 .nil (.aK 3001 (.aK 3004 (ag 4002 (ag 4003 (ag 4004 .nil))) (.aK 5001 .nil (.aA (.val 8003 (xG)) .nil))) (.aK 5001 .nil (.aA (.val 8003 (xG)) .nil)))) (by kernel_rfl) aY
theorem Nt{h:j}{d k:Nat}{aF:cL}{f:Nat}{cr:Bool}{bo:gg}{kept hold aB:Bytes}{es:List bj}(g:dQ h d aF f cr bo kept hold aB es):dQ ⟨h.next+k,h.aJ⟩ d aF f cr bo kept hold aB es where
 ex:=g.ex
 iq:=g.iq
 lt:=by have:=g.lt;show d<h.next+k∧aF.u<h.next+k∧aF.k<h.next+k∧aF.I<h.next+k∧aF.ab<h.next+k;omega
 ne:=g.ne
theorem Xw{l h:j}{d k:Nat}{aF aQ:cL}(cU:Fr l h d aF aQ):Fr l ⟨h.next+k,h.aJ⟩ d aF aQ where
 next:=by have:=cU.next;show l.next≤h.next+k;omega
 get:=cU.get
 ids:=cU.ids
theorem xJ(x:Bytes):List.take x.length (aL x)=aL x:=by
 have e:x.length=(aL x).length:=by simp [aL]
 rw [e,List.take_length]
theorem Xx{h:j}{aF:cL}{cr:Bool}{bo:gg}{kept hold aB:Bytes}{es:List bj}(g:dQ h 0 aF (cK .ground) cr bo kept hold aB es):cj (b5.D env) 66 ⟨0,0,0,0,6⟩ h=some (.func (.func 30) [.ptr (some ⟨0,0,0,0,6⟩)] []):=by
 obtain⟨aX,ah,af,aq,e,_⟩:=g.ex;unfold cj;rw [e]
 kernel_rfl
theorem Nu{l h:j}{cS:o}{e:bj}{a7 aF:cL}{f:Nat}{bo:gg}{kept aB:Bytes}{es:List bj}{c:UInt8}{k:Nat}(bI:5≤h.next)(gi:dQ h 0 aF f false bo kept [] aB es∧Fr l h 0 a7 aF)(he:cS=cm e)(cw:es.length<2^30-8)
 {Q:j→Prop} (eI:∀aa aQ,cu aa 0 aQ (Keys.ground ⟨.ground,[],[],aB⟩ c).1 (es++(e::(Keys.ground ⟨.ground,[],[],aB⟩ c).2))→Fr l aa 0 a7 aQ→Q aa) :
 cC h ⟨0,0,0,0,6⟩ cS∧∀cP,cD h ⟨0,0,0,0,6⟩ cS cP→(_root_.cond (Nat.ble 5 cP.next&&true) (dB (2^30-4) ml ⟨cP.next+k,cP.aJ⟩ ⟨0,0,0,0,6⟩ c.toNat ∧
  ∀aa,dC Keys.ground ⟨cP.next+k,cP.aJ⟩ ⟨0,0,0,0,6⟩ c.toNat aa→_root_.cond (Nat.ble 5 aa.next) (Q aa) False) False)∧cj (b5.D env) 66 ⟨0,0,0,0,6⟩ ⟨cP.next+k,cP.aJ⟩=some (.func (.func 30) [.ptr (some ⟨0,0,0,0,6⟩)] []):=by
 refine⟨F8 gi.1 he (by omega) (by simp),fun cP t=> ?_⟩;have aS:=t.next
 obtain⟨aQ,dv,gh⟩:=F7 t gi.1 gi.2 he (by simp);have Xy:cu ⟨cP.next+k,cP.aJ⟩ 0 aQ ⟨.ground,[],[],aB⟩ (es++[e]):=⟨.nil,Nt dv,trivial⟩
 refine⟨?_,Xx (Nt dv)⟩;rw [Nat.ble_eq.mpr (by omega)];refine xF (n:=cP.next+k) rfl (by omega) ⟨Xy,Xw gh⟩ (by simp;omega) (by simp) ⟨rfl,rfl⟩ fun aa Xz Nv XA=>eI aa Xz (by rw [List.append_assoc]at Nv;exact Nv) XA
theorem Nw{l h:j}{cS:o}{e:bj}{a7 aF:cL}{f:Nat}{bo:gg}{kept aB:Bytes}{es:List bj}{c:UInt8}{k:Nat}(bI:5≤h.next)(gi:dQ h 0 aF f false bo kept [] aB es∧Fr l h 0 a7 aF)(he:cS=cm e)(cw:es.length<2^30-8)
 {Q:j→Prop} (eI:∀aa aQ,cu aa 0 aQ (Keys.ground ⟨.ground,[],[],aB⟩ c).1 (es++(e::(Keys.ground ⟨.ground,[],[],aB⟩ c).2))→Fr l aa 0 a7 aQ→Q aa) :
 cC h ⟨0,0,0,0,6⟩ cS∧∀cP,cD h ⟨0,0,0,0,6⟩ cS cP→_root_.cond (Nat.ble 5 cP.next&&true) (cj (b5.D env) 66 ⟨0,0,0,0,6⟩ ⟨cP.next+k,cP.aJ⟩=some (.func (.func 30) [.ptr (some ⟨0,0,0,0,6⟩)] [])∧dB (2^30-4) ml ⟨cP.next+k,cP.aJ⟩ ⟨0,0,0,0,6⟩ c.toNat ∧
  ∀aa,dC Keys.ground ⟨cP.next+k,cP.aJ⟩ ⟨0,0,0,0,6⟩ c.toNat aa→_root_.cond (Nat.ble 5 aa.next) (Q aa) False) False:=by
 obtain⟨a,b⟩:=Nu (k:=k) bI gi he cw eI;refine⟨a,fun cP t=> ?_⟩;obtain⟨ba,bT⟩:=b cP t;have aS:=t.next
 rw [Nat.ble_eq.mpr (by omega)]at ba⊢;exact⟨bT,ba⟩
def eE(s:bO)(c:UInt8):Prop:=s.hold=[]∧(s.cp=.dd∨s.cp=.sequence)
theorem XB{H:j}{d:Nat}{aF:cL}{s:bO}{es:List bj}{c:UInt8}(g:cu H d aF s es)(cw:es.length<2^30-8)(dZ:eE s c):∃aP,aI Tryz.prog aw 106 [.ptr (some ⟨d,0,0,0,6⟩),.int .u8 c.toNat] H (.tuple []) aP ∧
 ∃aQ,cu aP d aQ (Keys.bad s c).1 (es++(Keys.bad s c).2)∧Fr H aP d aF aQ:=by
 refine tc ?_ g;intro bo aX ah af aq aE bA bz bl bB K P O a7 an gs cX;obtain⟨ap,ac,ai⟩:=ni gs;obtain⟨cp,kept,hold,aB⟩:=s;obtain⟨p,ad⟩:=dZ;simp only at p ad an gs ap ac ai⊢;subst p
 have mQ:bo=.grown []∧decide (cp=mZ.cW)=false:=by
  rcases ad with rfl|rfl
  ·cases bo with
   |grown C=>cases C with
    |nil=>exact⟨rfl,rfl⟩
    |cons a b=>exact an.elim
   |_=>exact an.elim
  ·cases bo with
   |grown C=>cases C with
    |nil=>exact⟨rfl,rfl⟩
    |cons a b=>exact an.elim
   |_=>exact an.elim
 obtain⟨rfl,nh⟩:=mQ;rw [nh]at gs⊢;obtain⟨kD,J,m,aG,rfl,dj⟩:=ap;have cB:a7.k=2:=by omega
 rw [cB,j.e3]at dj;simp only [List.getElem?_cons_zero,List.getElem?_cons_succ,Option.some.injEq,List.nil_append]at dj;simp only [List.length_nil]at ac ai⊢;subst dj;rw [cB,nh]at ac ai;rw [cB];have w1:∀x:List UInt8,List.take x.length (List.drop 0 (aL x))=aL x:=fun x=>xJ x
 obtain⟨v,aa,aC,rfl,q⟩:=Xt (cK cp) ah af aq (cn [] bA bz bl bB aE) P O (aL kept) J m aG kept.length c.toNat (fun v aa=>v=.tuple []∧∃aQ,cu aa 0 aQ (Keys.bad ⟨cp,kept,[],aB⟩ c).1 (es++(Keys.bad ⟨cp,kept,[],aB⟩ c).2)∧Fr (j.of [b2 0 (cK cp) 1 (.slice (some ⟨2,J,0,0,1⟩) kept.length kept.length) ah false af aq,cn [] bA bz bl bB aE,b3 (aL kept) 1 J m aG cI,P,O]) aa 0 a7 aQ) (by
  delta Gg ef Gh eK
  refine⟨rfl,by simp [aL];try omega,⟨kept,w1 kept⟩,?_⟩
  exact Nw (k:=6) (e:=gV kept) (by show 5≤13;decide) (iz (n:=13) (f:=cK cp) (cr:=false) (bo:= .grown []) (kept:=kept) (hold:=[]) (k:=2) (bA:=bA) (bz:=bz) (bl:=bl) (bB:=bB) (aX:= .slice (some ⟨2,J,0,0,1⟩) kept.length kept.length) (ah:=ah) (af:=af) (aq:=aq) (aE:=aE) rfl (by decide) (by kernel_rfl) (by kernel_rfl) (.inr cB) (by kernel_rfl) (by kernel_rfl)
   (n6 (es:=aL kept) (J:=J) (m:=m) (f:=aG) (by decide) rfl rfl (by kernel_rfl)) (by decide) ac ai cX (.inr (.inr ⟨rfl,cB⟩))) (by rw [xJ,iX];rfl) cw fun aa aQ dv gh=>⟨rfl,aQ,dv,gh⟩)
 exact⟨aa,aC,q⟩
theorem XC:∀args h a,jY (2^30-8) eE Keys.bad args h=some a→a.dw Tryz.prog aw 106 args h:=rJ fun H d aF s es c g cw az dZ=>XB g (by omega) dZ
noncomputable def Nx:fc:=Nr.add 106 (jY (2^30-8) eE Keys.bad)
theorem XD:eW Tryz.prog aw Nx:=A5.add XC
theorem XE{l h:j}{cS:o}{e:bj}{a7 aF:cL}{f:Nat}{bo:gg}{kept aB:Bytes}{es:List bj}{c:UInt8}{k:Nat}(bI:5≤h.next)(gi:dQ h 0 aF f false bo kept [] aB es∧Fr l h 0 a7 aF)(he:cS=cm e)(cw:es.length<2^30-8)
 {Q:j→Prop} (eI:∀aa aQ,cu aa 0 aQ (Keys.ground ⟨.ground,[],[],aB⟩ c).1 (es++(e::(Keys.ground ⟨.ground,[],[],aB⟩ c).2))→Fr l aa 0 a7 aQ→Q aa) :
 cC h ⟨0,0,0,0,6⟩ cS∧∀cP,cD h ⟨0,0,0,0,6⟩ cS cP→_root_.cond (Nat.ble 5 cP.next&&true) (dB (2^30-4) ml ⟨cP.next+k,cP.aJ⟩ ⟨0,0,0,0,6⟩ c.toNat ∧
  ∀aa,dC Keys.ground ⟨cP.next+k,cP.aJ⟩ ⟨0,0,0,0,6⟩ c.toNat aa→_root_.cond (Nat.ble 5 aa.next) (Q aa) False) False:=by
 obtain⟨a,b⟩:=Nu (k:=k) bI gi he cw eI;exact⟨a,fun cP t=>(b cP t).1⟩
theorem Ny{h:j}{k n:Nat}{l:Bytes}{es:List o}(ap:k≠0)(aS:n=l.length)(he:es=aL l)(e:h.get k=some (R.made es 1 false cI)):i' h 0 k (.slice (some ⟨k,0,0,0,1⟩) n n) (.grown []) l:=n6 (J:=0) (m:=0) (f:=0) ap aS he e
def xK(s:bO)(c:UInt8):Prop:=s.hold=[]∧s.cp=.du
theorem XF{H:j}{d:Nat}{aF:cL}{s:bO}{es:List bj}{c:UInt8}(g:cu H d aF s es)(cw:es.length<2^30-8)(dZ:xK s c):∃aP,aI Tryz.prog aw 59 [.ptr (some ⟨d,0,0,0,6⟩),.int .u8 c.toNat] H (.tuple []) aP ∧
 ∃aQ,cu aP d aQ (Keys.du s c).1 (es++(Keys.du s c).2)∧Fr H aP d aF aQ:=by
 refine tc ?_ g;intro bo aX ah af aq aE bA bz bl bB K P O a7 an gs cX;obtain⟨ap,ac,ai⟩:=ni gs;obtain⟨cp,kept,hold,aB⟩:=s;obtain⟨p,ad⟩:=dZ;simp only at p ad an gs ap ac ai⊢;subst p ad;cases bo with
 |nil=>exact an.elim
 |grown C=>exact an.elim
 |one =>
  obtain⟨kD,rfl,dj,rfl⟩:=ap;have cB:a7.k=2:=by omega
  rw [cB,j.e3]at dj;simp only [List.getElem?_cons_zero,List.getElem?_cons_succ,Option.some.injEq]at dj;subst dj;rw [cB]at gs ac ai⊢
  obtain⟨v,aa,aC,rfl,q⟩:=Xu (cK .du) ah af aq (cn [] bA bz bl bB aE) P O c.toNat (fun v aa=>v=.tuple []∧∃aQ,cu aa 0 aQ (Keys.du ⟨.du,[27],[],aB⟩ c).1 (es++(Keys.du ⟨.du,[27],[],aB⟩ c).2)∧Fr (j.of [b2 0 (cK .du) 1 (.slice (some ⟨2,0,0,0,1⟩) 1 1) ah false af aq,cn [] bA bz bl bB aE,R.made [.int .u8 27] 1 true,P,O]) aa 0 a7 aQ) (by
   delta s' Gc Gb eK rO
   refine⟨fun e=> ?_,fun e=>⟨fun bs=>⟨rfl,?_⟩,fun bs=>⟨fun b7=>⟨rfl,?_⟩,fun b7=> ?_⟩⟩⟩
   ·have av:c=27:=UInt8.toNat_inj.1 (by show c.toNat=27;omega);rw [show Keys.du ⟨.du,[27],[],aB⟩ c=((Keys.ground ⟨.ground,[],[],aB⟩ c).1,eR 4::(Keys.ground ⟨.ground,[],[],aB⟩ c).2)by simp [Keys.du,av,tell]]
    exact XE (k:=3) (e:=eR 4) (by show 5≤11;decide) (iz (n:=11) (f:=cK .du) (cr:=false) (bo:= .one) (kept:=[27]) (hold:=[]) (k:=2) (bA:=bA) (bz:=bz) (bl:=bl) (bB:=bB) (aX:= .slice (some ⟨2,0,0,0,1⟩) 1 1) (ah:=ah) (af:=af) (aq:=aq) (aE:=aE) rfl (by decide) (by kernel_rfl) (by kernel_rfl) (.inr cB) (by kernel_rfl) (by kernel_rfl)
     ⟨by decide,rfl,by kernel_rfl,rfl⟩ (by decide) ac ai cX (.inr (.inr ⟨rfl,cB⟩))) rfl cw fun aa aQ dv gh=>⟨rfl,aQ,dv,gh⟩
   ·have av:c=91:=UInt8.toNat_inj.1 (by show c.toNat=91;omega);rw [show Keys.du ⟨.du,[27],[],aB⟩ c=(⟨.sequence,[27,c],[],aB⟩,[])by simp [Keys.du,av],List.append_nil]
    exact pf (s:=⟨.sequence,[27,c],[],aB⟩) (iz (n:=27) (k:=17) (bo:= .grown []) (bA:=bA) (bz:=bz) (bl:=bl) (bB:=bB) (aX:= .slice (some ⟨17,0,0,0,1⟩) 2 2) (ah:=ah) (af:=af) (aq:=aq) (aE:=aE) rfl (by decide) (by kernel_rfl) (by kernel_rfl) (.inr cB) (by kernel_rfl) (by kernel_rfl)
     (Ny (es:=[.int .u8 27,.int .u8 c.toNat]) (by decide) rfl rfl (by kernel_rfl)) (by decide) ac ai cX (.inr (.inl (by decide)))) (by simp [qc])
   ·have av:c=79:=UInt8.toNat_inj.1 (by show c.toNat=79;omega);rw [show Keys.du ⟨.du,[27],[],aB⟩ c=(⟨.single,[27,c],[],aB⟩,[])by simp [Keys.du,av],List.append_nil]
    exact pf (s:=⟨.single,[27,c],[],aB⟩) (iz (n:=29) (k:=19) (bo:= .grown []) (bA:=bA) (bz:=bz) (bl:=bl) (bB:=bB) (aX:= .slice (some ⟨19,0,0,0,1⟩) 2 2) (ah:=ah) (af:=af) (aq:=aq) (aE:=aE) rfl (by decide) (by kernel_rfl) (by kernel_rfl) (.inr cB) (by kernel_rfl) (by kernel_rfl)
     (Ny (es:=[.int .u8 27,.int .u8 c.toNat]) (by decide) rfl rfl (by kernel_rfl)) (by decide) ac ai cX (.inr (.inl (by decide)))) (by simp [qc])
   ·have av:c≠27:=by rintro rfl;exact e rfl
    have jp:c≠91:=by rintro rfl;exact bs rfl
    have sq:c≠79:=by rintro rfl;exact b7 rfl
    rw [show Keys.du ⟨.du,[27],[],aB⟩ c=rN ⟨.du,[27],[],aB⟩ c by simp [Keys.du,av,jp,sq,rN]]
    exact xF (s:=⟨.du,[27],[],aB⟩) (n:=15) rfl (by decide) (A4 (iz (n:=15) (f:=cK .du) (cr:=false) (bo:= .one) (kept:=[27]) (hold:=[]) (k:=2) (bA:=bA) (bz:=bz) (bl:=bl) (bB:=bB) (aX:= .slice (some ⟨2,0,0,0,1⟩) 1 1) (ah:=ah) (af:=af) (aq:=aq) (aE:=aE) rfl (by decide) (by kernel_rfl) (by kernel_rfl) (.inr cB) (by kernel_rfl) (by kernel_rfl)
     ⟨by decide,rfl,by kernel_rfl,rfl⟩ (by decide) ac ai cX (.inr (.inr ⟨rfl,cB⟩))) trivial) (by omega) (by simp) ⟨rfl,av,.inr rfl⟩ fun aa aQ dv gh=>⟨rfl,aQ,dv,gh⟩)
  exact⟨aa,aC,q⟩
theorem XG:∀args h a,jY (2^30-8) xK Keys.du args h=some a→a.dw Tryz.prog aw 59 args h:=rJ fun H d aF s es c g cw az dZ=>XF g cw dZ
theorem xL(c:Nat):hi (c:Int)=gE c:=by
 unfold hi gE;by_cases p:65≤c∧c≤68
 ·have ad:(65:Int)≤c∧(c:Int)≤68:=by omega
  rw [if_pos p,if_pos ad]
 ·have ad:¬((65:Int)≤c∧(c:Int)≤68):=by omega
  rw [if_neg p,if_neg ad];by_cases bd:c=72
  ·have bS:(c:Int)=72:=by omega
   rw [if_pos bd,if_pos bS]
  ·have bS:¬(c:Int)=72:=by omega
   rw [if_neg bd,if_neg bS];by_cases bI:c=70
   ·have dx:(c:Int)=70:=by omega
    rw [if_pos bI,if_pos dx]
   ·have dx:¬(c:Int)=70:=by omega
    rw [if_neg bI,if_neg dx]
def singleR(s:bO)(c:UInt8):Prop:=s.hold=[]∧s.cp=.single
theorem XH{H:j}{d:Nat}{aF:cL}{s:bO}{es:List bj}{c:UInt8}(g:cu H d aF s es)(cw:es.length<2^30-8)(dZ:singleR s c):∃aP,aI Tryz.prog aw 88 [.ptr (some ⟨d,0,0,0,6⟩),.int .u8 c.toNat] H (.tuple []) aP ∧
 ∃aQ,cu aP d aQ (Keys.single s c).1 (es++(Keys.single s c).2)∧Fr H aP d aF aQ:=by
 refine tc ?_ g;intro bo aX ah af aq aE bA bz bl bB K P O a7 an gs cX;obtain⟨ap,ac,ai⟩:=ni gs;obtain⟨cp,kept,hold,aB⟩:=s;obtain⟨p,ad⟩:=dZ;simp only at p ad an gs ap ac ai⊢;subst p ad
 have mQ:bo=.grown []:=by
  cases bo with
  |grown C=>cases C with
   |nil=>rfl
   |cons a b=>exact an.elim
  |_=>exact an.elim
 subst mQ;have av:=c.toNat_lt;have cB:a7.k=2:=by have:=ap.1;omega
 have XI:∀h:j,h.get 2=some K→i' h 0 2 aX (.grown []) kept:=fun h e=>by obtain⟨kD,J,m,aG,bg,dj⟩:=ap;rw [cB]at bg dj;refine⟨by decide,J,m,aG,bg,?_⟩;rw [e,←dj,j.e3];rfl
 have mk:∀{h:j}{n:Nat},h.next=n→5≤n→h.get 0=some (b2 0 (cK .single) 1 aX ah false af aq)→h.get 1=some (cn [] bA bz bl bB aE)→h.get 2=some K→h.get 3=some P→h.get 4=some O →
  dQ h 0 ⟨1,2,a7.I,a7.ab⟩ (cK .single) false (.grown []) kept [] aB es∧Fr (j.of [b2 0 (cK .single) 1 aX ah false af aq,cn [] bA bz bl bB aE,K,P,O]) h 0 a7 ⟨1,2,a7.I,a7.ab⟩:=fun aS bI ca bn bs b7 ct =>
  iz aS bI ca bn (.inr cB) b7 ct (XI _ bs) (by omega) ac ai cX (.inr (.inr ⟨rfl,cB⟩))
 have t1:∀{h:j}{n:Nat}{cS:o}(e:bj),h.next=n→5≤n→h.get 0=some (b2 0 (cK .single) 1 aX ah false af aq)→h.get 1=some (cn [] bA bz bl bB aE)→h.get 2=some K→h.get 3=some P→h.get 4=some O→cS=cm e→Keys.single ⟨.single,kept,[],aB⟩ c=tell ⟨.single,kept,[],aB⟩ e →
  cC h ⟨0,0,0,0,6⟩ cS∧∀aa,cD h ⟨0,0,0,0,6⟩ cS aa→_root_.cond (Nat.ble 5 aa.next) (o.tuple []=o.tuple []∧∃aQ,cu aa 0 aQ (Keys.single ⟨.single,kept,[],aB⟩ c).1 (es++(Keys.single ⟨.single,kept,[],aB⟩ c).2)∧Fr (j.of [b2 0 (cK .single) 1 aX ah false af aq,cn [] bA bz bl bB aE,K,P,O]) aa 0 a7 aQ) False:=fun {h n cS} e aS bI ca bn bs b7 ct he hm=>by
  rw [hm];exact ta (n:=n) aS bI (mk aS bI ca bn bs b7 ct) he (by omega) (by simp) fun aa aQ dv gh=>⟨rfl,aQ,xB dv,gh⟩
 have t2:∀{h:j}{n:Nat}{cS:o}(e:bj),h.next=n→5≤n→h.get 0=some (b2 0 (cK .single) 1 aX ah false af aq)→h.get 1=some (cn [] bA bz bl bB aE)→h.get 2=some K→h.get 3=some P→h.get 4=some O→cS=cm e→Keys.single ⟨.single,kept,[],aB⟩ c=((Keys.ground ⟨.ground,[],[],aB⟩ c).1,e::(Keys.ground ⟨.ground,[],[],aB⟩ c).2) →
  cC h ⟨0,0,0,0,6⟩ cS∧∀cP,cD h ⟨0,0,0,0,6⟩ cS cP→_root_.cond (Nat.ble 5 cP.next&&true) (cj (b5.D env) 66 ⟨0,0,0,0,6⟩ ⟨cP.next+6,cP.aJ⟩=some (.func (.func 30) [.ptr (some ⟨0,0,0,0,6⟩)] [])∧dB (2^30-4) ml ⟨cP.next+6,cP.aJ⟩ ⟨0,0,0,0,6⟩ c.toNat ∧
  ∀aa,dC Keys.ground ⟨cP.next+6,cP.aJ⟩ ⟨0,0,0,0,6⟩ c.toNat aa→_root_.cond (Nat.ble 5 aa.next) (o.tuple []=o.tuple []∧∃aQ,cu aa 0 aQ (Keys.single ⟨.single,kept,[],aB⟩ c).1 (es++(Keys.single ⟨.single,kept,[],aB⟩ c).2)∧Fr (j.of [b2 0 (cK .single) 1 aX ah false af aq,cn [] bA bz bl bB aE,K,P,O]) aa 0 a7 aQ) False) False:=fun {h n cS} e aS bI ca bn bs b7 ct he hm=>by
  rw [hm];exact Nw (k:=6) (by omega) (mk aS bI ca bn bs b7 ct) he cw fun aa aQ dv gh=>⟨rfl,aQ,dv,gh⟩
 obtain⟨v,aa,aC,rfl,q⟩:=Xv (cK .single) aX ah af aq (cn [] bA bz bl bB aE) K P O c.toNat (fun v aa=>v=.tuple []∧∃aQ,cu aa 0 aQ (Keys.single ⟨.single,kept,[],aB⟩ c).1 (es++(Keys.single ⟨.single,kept,[],aB⟩ c).2)∧Fr (j.of [b2 0 (cK .single) 1 aX ah false af aq,cn [] bA bz bl bB aE,K,P,O]) aa 0 a7 aQ) (by
  delta xG xI qf va Ns eK xH Gk n9
  rw [xL];have fI:0<gE c.toNat∨ ¬0<gE c.toNat:=by omega
  refine⟨fun e=> ?_,fun e=>⟨fun bs=>⟨fun b7=>⟨by omega,by omega,by omega,?_⟩,fun b7=>⟨fun ct=> ?_,fun ct=> ?_⟩⟩,fun bs=>⟨fun ct=> ?_,fun ct=> ?_⟩⟩⟩
  ·exact t1 (n:=14) (eR (gE c.toNat)) rfl (by decide) (by kernel_rfl) (by kernel_rfl) (by kernel_rfl) (by kernel_rfl) (by kernel_rfl) rfl (by simp only [Keys.single];rw [if_pos e])
  ·exact t1 (n:=23) (eR (21+(c.toNat-80))) rfl (by decide) (by kernel_rfl) (by kernel_rfl) (by kernel_rfl) (by kernel_rfl) (by kernel_rfl) rfl (by simp only [Keys.single];rw [if_neg e,if_pos (by omega)])
  ·omega
  ·exact t2 (n:=21) (fe 79 2) rfl (by decide) (by kernel_rfl) (by kernel_rfl) (by kernel_rfl) (by kernel_rfl) (by kernel_rfl) rfl (by simp only [Keys.single];rw [if_neg e,if_neg (by omega),if_neg (by omega)];rfl)
  ·exact t1 (n:=21) (eR 1) rfl (by decide) (by kernel_rfl) (by kernel_rfl) (by kernel_rfl) (by kernel_rfl) (by kernel_rfl) rfl (by simp only [Keys.single];rw [if_neg e,if_neg (by omega),if_pos (by omega)])
  ·exact t2 (n:=21) (fe 79 2) rfl (by decide) (by kernel_rfl) (by kernel_rfl) (by kernel_rfl) (by kernel_rfl) (by kernel_rfl) rfl (by simp only [Keys.single];rw [if_neg e,if_neg (by omega),if_neg (by omega)];rfl))
 exact⟨aa,aC,q⟩
theorem XJ:∀args h a,jY (2^30-8) singleR Keys.single args h=some a→a.dw Tryz.prog aw 88 args h:=rJ fun H d aF s es c g cw az dZ=>XH g cw dZ
noncomputable def xM:fc:=(Nx.add 59 (jY (2^30-8) xK Keys.du)).add 88 (jY (2^30-8) singleR Keys.single)
theorem A6:eW Tryz.prog aw xM:=(XD.add XG).add XJ
def eC.pick(k:Nat):eC→Option eC
 |.or I (.one v1 p XK) (.or kv (.one v2 ad XL) (.one v3 bd XM)) =>
  match k with
  |0=>some (.one v1 p (I::XK))
  |1=>some (.one v2 ad ((¬I)::kv::XL))
  |_=>some (.one v3 bd ((¬I)::(¬kv)::XM))
 |_=>none
noncomputable def xN(k:Nat):List o→j→Option eC:=fun args h=>(xi args h).bind (eC.pick k)
theorem XN{f:FuncId}{args:List o}{h:j}{k:Nat} :∀{a b:eC},a.dw Tryz.prog aw f args h→eC.pick k a=some b→b.dw Tryz.prog aw f args h:=by
 intro a b aT au;unfold eC.pick at au;split at au<;>first|(cases au;done)|skip
 split at au<;>simp only [Option.some.injEq]at au<;>subst au<;>intro ac
 ·exact aT.1 (ac _ List.mem_cons_self) (fun x ae=>ac x (List.mem_cons_of_mem _ ae))
 ·exact(aT.2 (ac _ List.mem_cons_self)).1 (ac _ (List.mem_cons_of_mem _ List.mem_cons_self)) (fun x ae=>ac x (List.mem_cons_of_mem _ (List.mem_cons_of_mem _ ae)))
 ·exact(aT.2 (ac _ List.mem_cons_self)).2 (ac _ (List.mem_cons_of_mem _ List.mem_cons_self)) (fun x ae=>ac x (List.mem_cons_of_mem _ (List.mem_cons_of_mem _ ae)))
theorem Gn(k:Nat):∀args h a,xN k args h=some a→a.dw Tryz.prog aw 107 args h:=by
 intro args h a e;unfold xN at e;cases an:xi args h with
 |none=>rw [an]at e;cases e
 |some b=>rw [an]at e;exact XN (MF args h b an) e
noncomputable def XO:fc:=xM.add 107 (xN 0)
theorem XP:eW Tryz.prog aw XO:=A6.add (Gn 0)
noncomputable def XQ:fc:=xM.add 107 (xN 1)
theorem XR:eW Tryz.prog aw XQ:=A6.add (Gn 1)
noncomputable def XS:fc:=xM.add 107 (xN 2)
theorem XT:eW Tryz.prog aw XS:=A6.add (Gn 2)
abbrev vb(J:Nat)(len:Nat):o:=o.slice (some ⟨2,J,0,0,1⟩) len len
abbrev xO(J:Nat)(len:Nat):o:=o.slice (some {id:=2,J:=J+1,idx:=0,bR:=0,es:=1}) (len+1) (len+1)
abbrev XU:dk:=(.aK 6024 (ag 7007 (ag 8006 (.aK 9001 .nil (ag 11005 .nil)))) (he 12004 (.aK 1007 .nil .nil)))
abbrev dr(l:List o)(J:Nat)(m:Nat)(aG:Nat)(c:Int):R:=⟨l++[.int .u8 c],1,false,false,J+1,m,if m=J then List.length l else min aG (List.length l),some (5,0)⟩
abbrev eg(l:List o)(len:Nat)(c:Int):o:=o.agg [.int .i8 7,.int .i32 0,.int .u8 0,.int .i64 0,.int .i64 0,.str (strOf (List.take (len+1) (List.drop 0 (List.append l [.int .u8 c]))))]
abbrev A7(a0:Int)(ao:Int)(a2:Int)(a3:Int)(n:Int)(c:Int):o:=o.agg [.int .u8 (cd (Prod.snd (cc a0 ao a2 a3 n c)) 0 a0),.int .u8 (cd (Prod.snd (cc a0 ao a2 a3 n c)) 1 ao),.int .u8 (cd (Prod.snd (cc a0 ao a2 a3 n c)) 2 a2),.int .u8 (cd (Prod.snd (cc a0 ao a2 a3 n c)) 3 a3),.int .i64 0]
abbrev vc(f:Nat)(ah:o)(af:o)(J:Nat)(len:Nat):o:=o.agg [(eK f),(vb J len),ah,.bool false,.ptr (some ⟨1,0,0,0,5⟩),af]
abbrev xP(f:Nat)(ah:o)(af:o)(J:Nat)(len:Nat):o:=o.agg [(eK f),(xO J len),ah,.bool false,.ptr (some ⟨1,0,0,0,5⟩),af]
abbrev Nz:dk:=(he 4004 (.aK 4005 (ag 5007 .nil) (ag 6019 (ag 6023 XU))))
abbrev pi(aE:Option (TypeId×Nat))(J:Nat)(a0:Int)(ao:Int)(a2:Int)(a3:Int)(n:Int)(c:Int):R:=⟨[(A7 a0 ao a2 a3 n c)],5,true,false,0,0,0,aE⟩
abbrev gY(aE:Option (TypeId×Nat))(J:Nat)(a0:Int)(ao:Int)(a2:Int)(a3:Int)(n:Int)(c:Int):R:=⟨[(s8 a0 ao a2 a3 n c)],5,true,false,0,0,0,aE⟩
abbrev hD(f:Nat)(ah:o)(af:o)(ax:Option (TypeId×Nat))(J:Nat)(len:Nat):R:=⟨[(vc f ah af J len)],6,true,false,0,0,0,ax⟩
abbrev hE(f:Nat)(ah:o)(af:o)(ax:Option (TypeId×Nat))(J:Nat)(len:Nat):R:=⟨[(xP f ah af J len)],6,true,false,0,0,0,ax⟩
abbrev xQ(f:Nat)(ah:o)(af:o)(ax:Option (TypeId×Nat))(aE:Option (TypeId×Nat))(P:R)(O:R)(l:List o)(J:Nat)(m:Nat)(aG:Nat)(len:Nat)(a0:Int)(ao:Int)(a2:Int)(a3:Int)(n:Int)(c:Int):j:=(j.ar 94 [(0,(hD f ah af ax J len)),(1,(gY aE J a0 ao a2 a3 n c)),(2,(ef l J m aG)),(3,P),(4,O),(27,(c9 c)),(70,R.made [.int .u8 c] 1 true)])
abbrev xR(f:Nat)(ah:o)(af:o)(ax:Option (TypeId×Nat))(aE:Option (TypeId×Nat))(P:R)(O:R)(l:List o)(J:Nat)(m:Nat)(aG:Nat)(len:Nat)(a0:Int)(ao:Int)(a2:Int)(a3:Int)(n:Int)(c:Int):j:=(j.ar 104 [(0,(hE f ah af ax J len)),(1,(gY aE J a0 ao a2 a3 n c)),(2,(dr l J m aG c)),(3,P),(4,O),(27,(c9 c)),(70,R.made [.int .u8 c] 1 true),(81,R.made [.int .u8 c] 1 true)])
abbrev xS(f:Nat)(ah:o)(af:o)(ax:Option (TypeId×Nat))(aE:Option (TypeId×Nat))(P:R)(O:R)(l:List o)(J:Nat)(m:Nat)(aG:Nat)(len:Nat)(a0:Int)(ao:Int)(a2:Int)(a3:Int)(n:Int)(c:Int):j:=(j.ar 99 [(0,(hD f ah af ax J len)),(1,(pi aE J a0 ao a2 a3 n c)),(2,(ef l J m aG)),(3,P),(4,O),(27,(c9 c)),(70,R.made [.int .u8 c] 1 true),(94,R.made [.int .i32 65533] 1 true)])
theorem XV(f:Nat)(ah af:o)(ax aE:Option (TypeId×Nat))(P O:R)(l:List o)(J m aG len:Nat)(a0 ao a2 a3 n c:Int)(U:o→j→Prop)(aY:(0<(len:Int)→((0:Int)≤0∧0<(len:Int))∧J=J∧l[0]? =some (.int .u8 (a' l 0))∧(a' l 0=27→(cc a0 ao a2 a3 n c).1=[]∧iy a0 ao a2 a3 n c∧(0<(↑(List.length (Prod.snd (cc a0 ao a2 a3 n c))):Int)→(J=J∧0+len=List.length l∧len<len+1∧(len+1+(len+1)/4+512)*1≤281474976710656∧len+1<4611686018427387904)∧U (.tuple []) (j.ar 62 [(0,(hE f ah af ax J len)),(1,(gY aE J a0 ao a2 a3 n c)),(2,(dr l J m aG c)),(3,P),(4,O),(29,(c9 c)),(57,R.made [.int .u8 c] 1 true)]))∧(¬0<(↑(List.length (Prod.snd (cc a0 ao a2 a3 n c))):Int)→((0:Int)≤1∧1≤(len:Int)∧len≤len)∧J=J∧1+(len-1)≤List.length l∧(∃b6,List.take (len-1) (List.drop (bG.idx ⟨2,J,1,0,1⟩) (R.bi (ef l J m aG)))=aL b6)∧Nat.le (Nat.succ (List.length (strOf (List.take (len-1) (List.drop 1 l)))+List.length [UInt8.ofNat (Int.toNat c)])) (2^62)∧List.length (strOf (List.take (len-1) (List.drop 1 l))++[UInt8.ofNat (Int.toNat c)])<1099511627776∧(valid (strOf (List.take (len-1) (List.drop 1 l))++[UInt8.ofNat (Int.toNat c)])=true→(J=J∧0+len=List.length l∧len<len+1∧(len+1+(len+1)/4+512)*1≤281474976710656∧len+1<4611686018427387904)∧((0:Int)≤1∧1≤(↑(len+1):Int)∧len+1≤len+1)∧J+1=J+1∧1+(len+1-1)≤List.length (l++[.int .u8 c])∧(∃b6,List.take (len+1-1) (List.drop (bG.idx {id:=2,J:=J+1,idx:=1,bR:=0,es:=1}) (R.bi (dr l J m aG c)))=aL b6)∧List.length (strOf (List.take (len+1-1) (List.drop 1 (List.append l [.int .u8 c]))))<1099511627776∧(valid (strOf (List.take (len+1-1) (List.drop 1 (List.append l [.int .u8 c]))))=true→False)∧(valid (strOf (List.take (len+1-1) (List.drop 1 (List.append l [.int .u8 c]))))=false→J+1=J+1∧0+(len+1)≤List.length (l++[.int .u8 c])∧(∃b6,List.take (len+1) (List.drop (bG.idx {id:=2,J:=J+1,idx:=0,bR:=0,es:=1}) (R.bi (dr l J m aG c)))=aL b6)∧cC (j.ar 106 [(0,(hE f ah af ax J len)),(1,(gY aE J a0 ao a2 a3 n c)),(2,(dr l J m aG c)),(3,P),(4,O),(29,(c9 c)),(72,R.made [.int .u8 c] 1 true),(83,R.made [.int .u8 c] 1 true)]) ⟨0,0,0,0,6⟩ ((eg l len c))∧∀(b9:j),cD (j.ar 106 [(0,(hE f ah af ax J len)),(1,(gY aE J a0 ao a2 a3 n c)),(2,(dr l J m aG c)),(3,P),(4,O),(29,(c9 c)),(72,R.made [.int .u8 c] 1 true),(83,R.made [.int .u8 c] 1 true)]) ⟨0,0,0,0,6⟩ ((eg l len c)) b9→bK 5 (b9.next) (U (.tuple []) b9)))∧(valid (strOf (List.take (len-1) (List.drop 1 l))++[UInt8.ofNat (Int.toNat c)])=false→((↑(List.length (Prod.snd (cc a0 ao a2 a3 n c))):Int)=0→dB (2^30-8) eE (j.ar 96 [(0,(hD f ah af ax J len)),(1,(gY aE J a0 ao a2 a3 n c)),(2,(ef l J m aG)),(3,P),(4,O),(29,(c9 c)),(72,R.made [.int .u8 c] 1 true)]) ⟨0,0,0,0,6⟩ c∧∀(cv:j),dC bad (j.ar 96 [(0,(hD f ah af ax J len)),(1,(gY aE J a0 ao a2 a3 n c)),(2,(ef l J m aG)),(3,P),(4,O),(29,(c9 c)),(72,R.made [.int .u8 c] 1 true)]) ⟨0,0,0,0,6⟩ c cv→bK 5 (cv.next) (U (.tuple []) cv))∧(¬(↑(List.length (Prod.snd (cc a0 ao a2 a3 n c))):Int)=0→dB (2^30-8) eE (j.ar 101 [(0,(hD f ah af ax J len)),(1,(pi aE J a0 ao a2 a3 n c)),(2,(ef l J m aG)),(3,P),(4,O),(29,(c9 c)),(72,R.made [.int .u8 c] 1 true),(96,R.made [.int .i32 65533] 1 true)]) ⟨0,0,0,0,6⟩ c∧∀(cv:j),dC bad (j.ar 101 [(0,(hD f ah af ax J len)),(1,(pi aE J a0 ao a2 a3 n c)),(2,(ef l J m aG)),(3,P),(4,O),(29,(c9 c)),(72,R.made [.int .u8 c] 1 true),(96,R.made [.int .i32 65533] 1 true)]) ⟨0,0,0,0,6⟩ c cv→bK 5 (cv.next) (U (.tuple []) cv)))))∧(¬a' l 0=27→(cc a0 ao a2 a3 n c).1=[]∧iy a0 ao a2 a3 n c∧(0<(↑(List.length (Prod.snd (cc a0 ao a2 a3 n c))):Int)→(J=J∧0+len=List.length l∧len<len+1∧(len+1+(len+1)/4+512)*1≤281474976710656∧len+1<4611686018427387904)∧U (.tuple []) (j.ar 60 [(0,(hE f ah af ax J len)),(1,(gY aE J a0 ao a2 a3 n c)),(2,(dr l J m aG c)),(3,P),(4,O),(27,(c9 c)),(55,R.made [.int .u8 c] 1 true)]))∧(¬0<(↑(List.length (Prod.snd (cc a0 ao a2 a3 n c))):Int)→J=J∧0+(len-0)≤List.length l∧(∃b6,List.take (len-0) (List.drop (bG.idx ⟨2,J,0,0,1⟩) (R.bi (ef l J m aG)))=aL b6)∧Nat.le (Nat.succ (List.length (strOf (List.take (len-0) l))+List.length [UInt8.ofNat (Int.toNat c)])) (2^62)∧List.length (strOf (List.take (len-0) l)++[UInt8.ofNat (Int.toNat c)])<1099511627776∧(valid (strOf (List.take (len-0) l)++[UInt8.ofNat (Int.toNat c)])=true→(J=J∧0+len=List.length l∧len<len+1∧(len+1+(len+1)/4+512)*1≤281474976710656∧len+1<4611686018427387904)∧J+1=J+1∧0+(len+1-0)≤List.length (l++[.int .u8 c])∧(∃b6,List.take (len+1-0) (List.drop (bG.idx {id:=2,J:=J+1,idx:=0,bR:=0,es:=1}) (R.bi (dr l J m aG c)))=aL b6)∧List.length (strOf (List.take (len+1-0) (List.drop 0 (List.append l [.int .u8 c]))))<1099511627776∧(valid (strOf (List.take (len+1-0) (List.drop 0 (List.append l [.int .u8 c]))))=true→False)∧(valid (strOf (List.take (len+1-0) (List.drop 0 (List.append l [.int .u8 c]))))=false→J+1=J+1∧0+(len+1)≤List.length (l++[.int .u8 c])∧(∃b6,List.take (len+1) (List.drop (bG.idx {id:=2,J:=J+1,idx:=0,bR:=0,es:=1}) (R.bi (dr l J m aG c)))=aL b6)∧cC (xR f ah af ax aE P O l J m aG len a0 ao a2 a3 n c) ⟨0,0,0,0,6⟩ ((eg l len c))∧∀(b9:j),cD (xR f ah af ax aE P O l J m aG len a0 ao a2 a3 n c) ⟨0,0,0,0,6⟩ ((eg l len c)) b9→bK 5 (b9.next) (U (.tuple []) b9)))∧(valid (strOf (List.take (len-0) l)++[UInt8.ofNat (Int.toNat c)])=false→((↑(List.length (Prod.snd (cc a0 ao a2 a3 n c))):Int)=0→dB (2^30-8) eE (xQ f ah af ax aE P O l J m aG len a0 ao a2 a3 n c) ⟨0,0,0,0,6⟩ c∧∀(cv:j),dC bad (xQ f ah af ax aE P O l J m aG len a0 ao a2 a3 n c) ⟨0,0,0,0,6⟩ c cv→bK 5 (cv.next) (U (.tuple []) cv))∧(¬(↑(List.length (Prod.snd (cc a0 ao a2 a3 n c))):Int)=0→dB (2^30-8) eE (xS f ah af ax aE P O l J m aG len a0 ao a2 a3 n c) ⟨0,0,0,0,6⟩ c∧∀(cv:j),dC bad (xS f ah af ax aE P O l J m aG len a0 ao a2 a3 n c) ⟨0,0,0,0,6⟩ c cv→bK 5 (cv.next) (U (.tuple []) cv))))))∧(¬0<(len:Int)→(cc a0 ao a2 a3 n c).1=[]∧iy a0 ao a2 a3 n c∧(0<(↑(List.length (Prod.snd (cc a0 ao a2 a3 n c))):Int)→(J=J∧0+len=List.length l∧len<len+1∧(len+1+(len+1)/4+512)*1≤281474976710656∧len+1<4611686018427387904)∧U (.tuple []) (j.ar 60 [(0,(hE f ah af ax J len)),(1,(gY aE J a0 ao a2 a3 n c)),(2,(dr l J m aG c)),(3,P),(4,O),(27,(c9 c)),(55,R.made [.int .u8 c] 1 true)]))∧(¬0<(↑(List.length (Prod.snd (cc a0 ao a2 a3 n c))):Int)→J=J∧0+(len-0)≤List.length l∧(∃b6,List.take (len-0) (List.drop (bG.idx ⟨2,J,0,0,1⟩) (R.bi (ef l J m aG)))=aL b6)∧Nat.le (Nat.succ (List.length (strOf (List.take (len-0) l))+List.length [UInt8.ofNat (Int.toNat c)])) (2^62)∧List.length (strOf (List.take (len-0) l)++[UInt8.ofNat (Int.toNat c)])<1099511627776∧(valid (strOf (List.take (len-0) l)++[UInt8.ofNat (Int.toNat c)])=true→(J=J∧0+len=List.length l∧len<len+1∧(len+1+(len+1)/4+512)*1≤281474976710656∧len+1<4611686018427387904)∧J+1=J+1∧0+(len+1-0)≤List.length (l++[.int .u8 c])∧(∃b6,List.take (len+1-0) (List.drop (bG.idx {id:=2,J:=J+1,idx:=0,bR:=0,es:=1}) (R.bi (dr l J m aG c)))=aL b6)∧List.length (strOf (List.take (len+1-0) (List.drop 0 (List.append l [.int .u8 c]))))<1099511627776∧(valid (strOf (List.take (len+1-0) (List.drop 0 (List.append l [.int .u8 c]))))=true→False)∧(valid (strOf (List.take (len+1-0) (List.drop 0 (List.append l [.int .u8 c]))))=false→J+1=J+1∧0+(len+1)≤List.length (l++[.int .u8 c])∧(∃b6,List.take (len+1) (List.drop (bG.idx {id:=2,J:=J+1,idx:=0,bR:=0,es:=1}) (R.bi (dr l J m aG c)))=aL b6)∧cC (xR f ah af ax aE P O l J m aG len a0 ao a2 a3 n c) ⟨0,0,0,0,6⟩ ((eg l len c))∧∀(b9:j),cD (xR f ah af ax aE P O l J m aG len a0 ao a2 a3 n c) ⟨0,0,0,0,6⟩ ((eg l len c)) b9→bK 5 (b9.next) (U (.tuple []) b9)))∧(valid (strOf (List.take (len-0) l)++[UInt8.ofNat (Int.toNat c)])=false→((↑(List.length (Prod.snd (cc a0 ao a2 a3 n c))):Int)=0→dB (2^30-8) eE (xQ f ah af ax aE P O l J m aG len a0 ao a2 a3 n c) ⟨0,0,0,0,6⟩ c∧∀(cv:j),dC bad (xQ f ah af ax aE P O l J m aG len a0 ao a2 a3 n c) ⟨0,0,0,0,6⟩ c cv→bK 5 (cv.next) (U (.tuple []) cv))∧(¬(↑(List.length (Prod.snd (cc a0 ao a2 a3 n c))):Int)=0→dB (2^30-8) eE (xS f ah af ax aE P O l J m aG len a0 ao a2 a3 n c) ⟨0,0,0,0,6⟩ c∧∀(cv:j),dC bad (xS f ah af ax aE P O l J m aG len a0 ao a2 a3 n c) ⟨0,0,0,0,6⟩ c cv→bK 5 (cv.next) (U (.tuple []) cv)))))) :
 ∃v p,aI Tryz.prog aw 90 [.ptr (some ⟨0,0,0,0,6⟩),.int .u8 c] (j.of [b2 0 f 1 (.slice (some ⟨2,J,0,0,1⟩) len len) ah false af ax,hj a0 ao a2 a3 n aE,b3 l 1 J m aG cI,P,O]) v p∧U v p :=
 cb bQ mixed XP (an:= .aK 1005 (ag 1011 (ag 1012 (.aK 1013 (he 4004 (.aK 4005 (ag 5007 .nil) (ag 6018 (ag 6019 (ag 6023 (.aK 6024 (ag 7007 (ag 8005 (ag 8006 (.aK 9001 .nil (ag 11005 .nil))))) (he 12004 (.aK 1007 .nil .nil)))))))) Nz))) Nz) (by kernel_rfl) aY
abbrev NA:dk:=(ag 7007 (ag 8006 (.aK 9001 .nil (ag 11005 .nil))))
abbrev Gp:dk:=(ag 8005 (ag 8006 (.aK 9001 .nil (ag 11005 .nil))))
abbrev Gq:dk:=(.aK 6024 NA (he 12004 (.aK 1007 .nil .nil)))
abbrev A8:dk:=(ag 6023 (.aK 6024 (ag 7007 Gp) (he 12004 (.aK 1007 .nil .nil))))
abbrev A9:dk:=(.aK 6010 NA (ag 6019 (ag 6023 Gq)))
abbrev qg(f:Nat)(ah:o)(af:o)(ax:Option (TypeId×Nat))(aE:Option (TypeId×Nat))(P:R)(O:R)(l:List o)(J:Nat)(m:Nat)(aG:Nat)(len:Nat)(a0:Int)(ao:Int)(a2:Int)(a3:Int)(n:Int)(c:Int):j:=(j.ar 95 [(0,(hD f ah af ax J len)),(1,(gY aE J a0 ao a2 a3 n c)),(2,(ef l J m aG)),(3,P),(4,O),(27,(c9 c)),(30,(jw a0 ao a2 a3 n c)),(71,R.made [.int .u8 c] 1 true)])
abbrev xT(f:Nat)(ah:o)(af:o)(ax:Option (TypeId×Nat))(aE:Option (TypeId×Nat))(P:R)(O:R)(l:List o)(J:Nat)(m:Nat)(aG:Nat)(len:Nat)(a0:Int)(ao:Int)(a2:Int)(a3:Int)(n:Int)(c:Int):j:=(j.ar 97 [(0,(hD f ah af ax J len)),(1,(gY aE J a0 ao a2 a3 n c)),(2,(ef l J m aG)),(3,P),(4,O),(29,(c9 c)),(32,(jw a0 ao a2 a3 n c)),(73,R.made [.int .u8 c] 1 true)])
abbrev qh(f:Nat)(ah:o)(af:o)(ax:Option (TypeId×Nat))(aE:Option (TypeId×Nat))(P:R)(O:R)(l:List o)(J:Nat)(m:Nat)(aG:Nat)(len:Nat)(a0:Int)(ao:Int)(a2:Int)(a3:Int)(n:Int)(c:Int):j:=(j.ar 104 [(0,(hE f ah af ax J len)),(1,(gY aE J a0 ao a2 a3 n c)),(2,(dr l J m aG c)),(3,P),(4,O),(27,(c9 c)),(30,(jw a0 ao a2 a3 n c)),(82,R.made [.int .u8 c] 1 true)])
abbrev qi(f:Nat)(ah:o)(af:o)(ax:Option (TypeId×Nat))(aE:Option (TypeId×Nat))(P:R)(O:R)(l:List o)(J:Nat)(m:Nat)(aG:Nat)(len:Nat)(a0:Int)(ao:Int)(a2:Int)(a3:Int)(n:Int)(c:Int):j:=(j.ar 105 [(0,(hE f ah af ax J len)),(1,(gY aE J a0 ao a2 a3 n c)),(2,(dr l J m aG c)),(3,P),(4,O),(27,(c9 c)),(30,(jw a0 ao a2 a3 n c)),(82,R.made [.int .u8 c] 1 true)])
abbrev xU(f:Nat)(ah:o)(af:o)(ax:Option (TypeId×Nat))(aE:Option (TypeId×Nat))(P:R)(O:R)(l:List o)(J:Nat)(m:Nat)(aG:Nat)(len:Nat)(a0:Int)(ao:Int)(a2:Int)(a3:Int)(n:Int)(c:Int):j:=(j.ar 106 [(0,(hE f ah af ax J len)),(1,(gY aE J a0 ao a2 a3 n c)),(2,(dr l J m aG c)),(3,P),(4,O),(29,(c9 c)),(32,(jw a0 ao a2 a3 n c)),(84,R.made [.int .u8 c] 1 true)])
abbrev xV(f:Nat)(ah:o)(af:o)(ax:Option (TypeId×Nat))(aE:Option (TypeId×Nat))(P:R)(O:R)(l:List o)(J:Nat)(m:Nat)(aG:Nat)(len:Nat)(a0:Int)(ao:Int)(a2:Int)(a3:Int)(n:Int)(c:Int):j:=(j.ar 107 [(0,(hE f ah af ax J len)),(1,(gY aE J a0 ao a2 a3 n c)),(2,(dr l J m aG c)),(3,P),(4,O),(29,(c9 c)),(32,(jw a0 ao a2 a3 n c)),(84,R.made [.int .u8 c] 1 true)])
abbrev qj(f:Nat)(ah:o)(af:o)(ax:Option (TypeId×Nat))(aE:Option (TypeId×Nat))(P:R)(O:R)(l:List o)(J:Nat)(m:Nat)(aG:Nat)(len:Nat)(a0:Int)(ao:Int)(a2:Int)(a3:Int)(n:Int)(c:Int):j:=(j.ar 104 [(0,(hE f ah af ax J len)),(1,(gY aE J a0 ao a2 a3 n c)),(2,(dr l J m aG c)),(3,P),(4,O),(27,(c9 c)),(30,(jw a0 ao a2 a3 n c)),(71,R.made [.int .u8 c] 1 true),(82,R.made [.int .u8 c] 1 true)])
abbrev qk(f:Nat)(ah:o)(af:o)(ax:Option (TypeId×Nat))(aE:Option (TypeId×Nat))(P:R)(O:R)(l:List o)(J:Nat)(m:Nat)(aG:Nat)(len:Nat)(a0:Int)(ao:Int)(a2:Int)(a3:Int)(n:Int)(c:Int):j:=(j.ar 105 [(0,(hE f ah af ax J len)),(1,(gY aE J a0 ao a2 a3 n c)),(2,(dr l J m aG c)),(3,P),(4,O),(27,(c9 c)),(30,(jw a0 ao a2 a3 n c)),(71,R.made [.int .u8 c] 1 true),(82,R.made [.int .u8 c] 1 true)])
abbrev xW(f:Nat)(ah:o)(af:o)(ax:Option (TypeId×Nat))(aE:Option (TypeId×Nat))(P:R)(O:R)(l:List o)(J:Nat)(m:Nat)(aG:Nat)(len:Nat)(a0:Int)(ao:Int)(a2:Int)(a3:Int)(n:Int)(c:Int):j:=(j.ar 106 [(0,(hE f ah af ax J len)),(1,(gY aE J a0 ao a2 a3 n c)),(2,(dr l J m aG c)),(3,P),(4,O),(29,(c9 c)),(32,(jw a0 ao a2 a3 n c)),(73,R.made [.int .u8 c] 1 true),(84,R.made [.int .u8 c] 1 true)])
abbrev xX(f:Nat)(ah:o)(af:o)(ax:Option (TypeId×Nat))(aE:Option (TypeId×Nat))(P:R)(O:R)(l:List o)(J:Nat)(m:Nat)(aG:Nat)(len:Nat)(a0:Int)(ao:Int)(a2:Int)(a3:Int)(n:Int)(c:Int):j:=(j.ar 107 [(0,(hE f ah af ax J len)),(1,(gY aE J a0 ao a2 a3 n c)),(2,(dr l J m aG c)),(3,P),(4,O),(29,(c9 c)),(32,(jw a0 ao a2 a3 n c)),(73,R.made [.int .u8 c] 1 true),(84,R.made [.int .u8 c] 1 true)])
abbrev ql(f:Nat)(ah:o)(af:o)(ax:Option (TypeId×Nat))(aE:Option (TypeId×Nat))(P:R)(O:R)(l:List o)(J:Nat)(m:Nat)(aG:Nat)(len:Nat)(a0:Int)(ao:Int)(a2:Int)(a3:Int)(n:Int)(c:Int):j:=(j.ar 100 [(0,(hD f ah af ax J len)),(1,(pi aE J a0 ao a2 a3 n c)),(2,(ef l J m aG)),(3,P),(4,O),(27,(c9 c)),(30,(jw a0 ao a2 a3 n c)),(71,R.made [.int .u8 c] 1 true),(95,R.made [.int .i32 65533] 1 true)])
abbrev xY(f:Nat)(ah:o)(af:o)(ax:Option (TypeId×Nat))(aE:Option (TypeId×Nat))(P:R)(O:R)(l:List o)(J:Nat)(m:Nat)(aG:Nat)(len:Nat)(a0:Int)(ao:Int)(a2:Int)(a3:Int)(n:Int)(c:Int):j:=(j.ar 102 [(0,(hD f ah af ax J len)),(1,(pi aE J a0 ao a2 a3 n c)),(2,(ef l J m aG)),(3,P),(4,O),(29,(c9 c)),(32,(jw a0 ao a2 a3 n c)),(73,R.made [.int .u8 c] 1 true),(97,R.made [.int .i32 65533] 1 true)])
theorem XW(f:Nat)(ah af:o)(ax aE:Option (TypeId×Nat))(P O:R)(l:List o)(J m aG len:Nat)(a0 ao a2 a3 n c:Int)(U:o→j→Prop)(aY:(0<(len:Int)→((0:Int)≤0∧0<(len:Int))∧J=J∧l[0]? =some (.int .u8 (a' l 0))∧(a' l 0=27→ ¬(cc a0 ao a2 a3 n c).1=[]∧List.length (Prod.fst (cc a0 ao a2 a3 n c))=1∧iy a0 ao a2 a3 n c∧(0<(↑(List.length (Prod.snd (cc a0 ao a2 a3 n c))):Int)→((len:Int)=1→(J=J∧0+len=List.length l∧len<len+1∧(len+1+(len+1)/4+512)*1≤281474976710656∧len+1<4611686018427387904)∧((0:Int)≤1∧1≤(↑(len+1):Int)∧len+1≤len+1)∧J+1=J+1∧1+(len+1-1)≤List.length (l++[.int .u8 c])∧(∃b6,List.take (len+1-1) (List.drop (bG.idx {id:=2,J:=J+1,idx:=1,bR:=0,es:=1}) (R.bi (dr l J m aG c)))=aL b6)∧List.length (strOf (List.take (len+1-1) (List.drop 1 (List.append l [.int .u8 c]))))<1099511627776∧(valid (strOf (List.take (len+1-1) (List.drop 1 (List.append l [.int .u8 c]))))=true→cC (xU f ah af ax aE P O l J m aG len a0 ao a2 a3 n c) ⟨0,0,0,0,6⟩ ((io a0 ao a2 a3 n c))∧∀(cz:j),cD (xU f ah af ax aE P O l J m aG len a0 ao a2 a3 n c) ⟨0,0,0,0,6⟩ ((io a0 ao a2 a3 n c)) cz→bK 5 (cz.next) (U (.tuple []) cz))∧(valid (strOf (List.take (len+1-1) (List.drop 1 (List.append l [.int .u8 c]))))=false→J+1=J+1∧0+(len+1)≤List.length (l++[.int .u8 c])∧(∃b6,List.take (len+1) (List.drop (bG.idx {id:=2,J:=J+1,idx:=0,bR:=0,es:=1}) (R.bi (dr l J m aG c)))=aL b6)∧cC (xV f ah af ax aE P O l J m aG len a0 ao a2 a3 n c) ⟨0,0,0,0,6⟩ ((eg l len c))∧∀(b9:j),cD (xV f ah af ax aE P O l J m aG len a0 ao a2 a3 n c) ⟨0,0,0,0,6⟩ ((eg l len c)) b9→bK 5 (b9.next) (U (.tuple []) b9)))∧(¬(len:Int)=1→((0:Int)≤1∧1≤(len:Int)∧len≤len)∧J=J∧1+(len-1)≤List.length l∧(∃b6,List.take (len-1) (List.drop (bG.idx ⟨2,J,1,0,1⟩) (R.bi (ef l J m aG)))=aL b6)∧Nat.le (Nat.succ (List.length (strOf (List.take (len-1) (List.drop 1 l)))+List.length [UInt8.ofNat (Int.toNat c)])) (2^62)∧List.length (strOf (List.take (len-1) (List.drop 1 l))++[UInt8.ofNat (Int.toNat c)])<1099511627776∧(valid (strOf (List.take (len-1) (List.drop 1 l))++[UInt8.ofNat (Int.toNat c)])=true→(J=J∧0+len=List.length l∧len<len+1∧(len+1+(len+1)/4+512)*1≤281474976710656∧len+1<4611686018427387904)∧((0:Int)≤1∧1≤(↑(len+1):Int)∧len+1≤len+1)∧J+1=J+1∧1+(len+1-1)≤List.length (l++[.int .u8 c])∧(∃b6,List.take (len+1-1) (List.drop (bG.idx {id:=2,J:=J+1,idx:=1,bR:=0,es:=1}) (R.bi (dr l J m aG c)))=aL b6)∧List.length (strOf (List.take (len+1-1) (List.drop 1 (List.append l [.int .u8 c]))))<1099511627776∧(valid (strOf (List.take (len+1-1) (List.drop 1 (List.append l [.int .u8 c]))))=true→cC (xW f ah af ax aE P O l J m aG len a0 ao a2 a3 n c) ⟨0,0,0,0,6⟩ ((io a0 ao a2 a3 n c))∧∀(cz:j),cD (xW f ah af ax aE P O l J m aG len a0 ao a2 a3 n c) ⟨0,0,0,0,6⟩ ((io a0 ao a2 a3 n c)) cz→bK 5 (cz.next) (U (.tuple []) cz))∧(valid (strOf (List.take (len+1-1) (List.drop 1 (List.append l [.int .u8 c]))))=false→J+1=J+1∧0+(len+1)≤List.length (l++[.int .u8 c])∧(∃b6,List.take (len+1) (List.drop (bG.idx {id:=2,J:=J+1,idx:=0,bR:=0,es:=1}) (R.bi (dr l J m aG c)))=aL b6)∧cC (xX f ah af ax aE P O l J m aG len a0 ao a2 a3 n c) ⟨0,0,0,0,6⟩ ((eg l len c))∧∀(b9:j),cD (xX f ah af ax aE P O l J m aG len a0 ao a2 a3 n c) ⟨0,0,0,0,6⟩ ((eg l len c)) b9→bK 5 (b9.next) (U (.tuple []) b9)))∧(valid (strOf (List.take (len-1) (List.drop 1 l))++[UInt8.ofNat (Int.toNat c)])=false→((↑(List.length (Prod.snd (cc a0 ao a2 a3 n c))):Int)=0→dB (2^30-8) eE (xT f ah af ax aE P O l J m aG len a0 ao a2 a3 n c) ⟨0,0,0,0,6⟩ c∧∀(cv:j),dC bad (xT f ah af ax aE P O l J m aG len a0 ao a2 a3 n c) ⟨0,0,0,0,6⟩ c cv→bK 5 (cv.next) (U (.tuple []) cv))∧(¬(↑(List.length (Prod.snd (cc a0 ao a2 a3 n c))):Int)=0→dB (2^30-8) eE (xY f ah af ax aE P O l J m aG len a0 ao a2 a3 n c) ⟨0,0,0,0,6⟩ c∧∀(cv:j),dC bad (xY f ah af ax aE P O l J m aG len a0 ao a2 a3 n c) ⟨0,0,0,0,6⟩ c cv→bK 5 (cv.next) (U (.tuple []) cv)))))∧(¬0<(↑(List.length (Prod.snd (cc a0 ao a2 a3 n c))):Int)→((len:Int)=1→(J=J∧0+len=List.length l∧len<len+1∧(len+1+(len+1)/4+512)*1≤281474976710656∧len+1<4611686018427387904)∧((0:Int)≤1∧1≤(↑(len+1):Int)∧len+1≤len+1)∧J+1=J+1∧1+(len+1-1)≤List.length (l++[.int .u8 c])∧(∃b6,List.take (len+1-1) (List.drop (bG.idx {id:=2,J:=J+1,idx:=1,bR:=0,es:=1}) (R.bi (dr l J m aG c)))=aL b6)∧List.length (strOf (List.take (len+1-1) (List.drop 1 (List.append l [.int .u8 c]))))<1099511627776∧(valid (strOf (List.take (len+1-1) (List.drop 1 (List.append l [.int .u8 c]))))=true→cC (xU f ah af ax aE P O l J m aG len a0 ao a2 a3 n c) ⟨0,0,0,0,6⟩ ((io a0 ao a2 a3 n c))∧∀(cz:j),cD (xU f ah af ax aE P O l J m aG len a0 ao a2 a3 n c) ⟨0,0,0,0,6⟩ ((io a0 ao a2 a3 n c)) cz→bK 5 (cz.next) (U (.tuple []) cz))∧(valid (strOf (List.take (len+1-1) (List.drop 1 (List.append l [.int .u8 c]))))=false→J+1=J+1∧0+(len+1)≤List.length (l++[.int .u8 c])∧(∃b6,List.take (len+1) (List.drop (bG.idx {id:=2,J:=J+1,idx:=0,bR:=0,es:=1}) (R.bi (dr l J m aG c)))=aL b6)∧cC (xV f ah af ax aE P O l J m aG len a0 ao a2 a3 n c) ⟨0,0,0,0,6⟩ ((eg l len c))∧∀(b9:j),cD (xV f ah af ax aE P O l J m aG len a0 ao a2 a3 n c) ⟨0,0,0,0,6⟩ ((eg l len c)) b9→bK 5 (b9.next) (U (.tuple []) b9)))∧(¬(len:Int)=1→((0:Int)≤1∧1≤(len:Int)∧len≤len)∧J=J∧1+(len-1)≤List.length l∧(∃b6,List.take (len-1) (List.drop (bG.idx ⟨2,J,1,0,1⟩) (R.bi (ef l J m aG)))=aL b6)∧Nat.le (Nat.succ (List.length (strOf (List.take (len-1) (List.drop 1 l)))+List.length [UInt8.ofNat (Int.toNat c)])) (2^62)∧List.length (strOf (List.take (len-1) (List.drop 1 l))++[UInt8.ofNat (Int.toNat c)])<1099511627776∧(valid (strOf (List.take (len-1) (List.drop 1 l))++[UInt8.ofNat (Int.toNat c)])=true→(J=J∧0+len=List.length l∧len<len+1∧(len+1+(len+1)/4+512)*1≤281474976710656∧len+1<4611686018427387904)∧((0:Int)≤1∧1≤(↑(len+1):Int)∧len+1≤len+1)∧J+1=J+1∧1+(len+1-1)≤List.length (l++[.int .u8 c])∧(∃b6,List.take (len+1-1) (List.drop (bG.idx {id:=2,J:=J+1,idx:=1,bR:=0,es:=1}) (R.bi (dr l J m aG c)))=aL b6)∧List.length (strOf (List.take (len+1-1) (List.drop 1 (List.append l [.int .u8 c]))))<1099511627776∧(valid (strOf (List.take (len+1-1) (List.drop 1 (List.append l [.int .u8 c]))))=true→cC (xW f ah af ax aE P O l J m aG len a0 ao a2 a3 n c) ⟨0,0,0,0,6⟩ ((io a0 ao a2 a3 n c))∧∀(cz:j),cD (xW f ah af ax aE P O l J m aG len a0 ao a2 a3 n c) ⟨0,0,0,0,6⟩ ((io a0 ao a2 a3 n c)) cz→bK 5 (cz.next) (U (.tuple []) cz))∧(valid (strOf (List.take (len+1-1) (List.drop 1 (List.append l [.int .u8 c]))))=false→J+1=J+1∧0+(len+1)≤List.length (l++[.int .u8 c])∧(∃b6,List.take (len+1) (List.drop (bG.idx {id:=2,J:=J+1,idx:=0,bR:=0,es:=1}) (R.bi (dr l J m aG c)))=aL b6)∧cC (xX f ah af ax aE P O l J m aG len a0 ao a2 a3 n c) ⟨0,0,0,0,6⟩ ((eg l len c))∧∀(b9:j),cD (xX f ah af ax aE P O l J m aG len a0 ao a2 a3 n c) ⟨0,0,0,0,6⟩ ((eg l len c)) b9→bK 5 (b9.next) (U (.tuple []) b9)))∧(valid (strOf (List.take (len-1) (List.drop 1 l))++[UInt8.ofNat (Int.toNat c)])=false→((↑(List.length (Prod.snd (cc a0 ao a2 a3 n c))):Int)=0→dB (2^30-8) eE (xT f ah af ax aE P O l J m aG len a0 ao a2 a3 n c) ⟨0,0,0,0,6⟩ c∧∀(cv:j),dC bad (xT f ah af ax aE P O l J m aG len a0 ao a2 a3 n c) ⟨0,0,0,0,6⟩ c cv→bK 5 (cv.next) (U (.tuple []) cv))∧(¬(↑(List.length (Prod.snd (cc a0 ao a2 a3 n c))):Int)=0→dB (2^30-8) eE (xY f ah af ax aE P O l J m aG len a0 ao a2 a3 n c) ⟨0,0,0,0,6⟩ c∧∀(cv:j),dC bad (xY f ah af ax aE P O l J m aG len a0 ao a2 a3 n c) ⟨0,0,0,0,6⟩ c cv→bK 5 (cv.next) (U (.tuple []) cv))))))∧(¬a' l 0=27→ ¬(cc a0 ao a2 a3 n c).1=[]∧List.length (Prod.fst (cc a0 ao a2 a3 n c))=1∧iy a0 ao a2 a3 n c∧(0<(↑(List.length (Prod.snd (cc a0 ao a2 a3 n c))):Int)→((len:Int)=0→(J=J∧0+len=List.length l∧len<len+1∧(len+1+(len+1)/4+512)*1≤281474976710656∧len+1<4611686018427387904)∧J+1=J+1∧0+(len+1-0)≤List.length (l++[.int .u8 c])∧(∃b6,List.take (len+1-0) (List.drop (bG.idx {id:=2,J:=J+1,idx:=0,bR:=0,es:=1}) (R.bi (dr l J m aG c)))=aL b6)∧List.length (strOf (List.take (len+1-0) (List.drop 0 (List.append l [.int .u8 c]))))<1099511627776∧(valid (strOf (List.take (len+1-0) (List.drop 0 (List.append l [.int .u8 c]))))=true→cC (qh f ah af ax aE P O l J m aG len a0 ao a2 a3 n c) ⟨0,0,0,0,6⟩ ((fV a0 ao a2 a3 n c))∧∀(cz:j),cD (qh f ah af ax aE P O l J m aG len a0 ao a2 a3 n c) ⟨0,0,0,0,6⟩ ((fV a0 ao a2 a3 n c)) cz→bK 5 (cz.next) (U (.tuple []) cz))∧(valid (strOf (List.take (len+1-0) (List.drop 0 (List.append l [.int .u8 c]))))=false→J+1=J+1∧0+(len+1)≤List.length (l++[.int .u8 c])∧(∃b6,List.take (len+1) (List.drop (bG.idx {id:=2,J:=J+1,idx:=0,bR:=0,es:=1}) (R.bi (dr l J m aG c)))=aL b6)∧cC (qi f ah af ax aE P O l J m aG len a0 ao a2 a3 n c) ⟨0,0,0,0,6⟩ ((eg l len c))∧∀(b9:j),cD (qi f ah af ax aE P O l J m aG len a0 ao a2 a3 n c) ⟨0,0,0,0,6⟩ ((eg l len c)) b9→bK 5 (b9.next) (U (.tuple []) b9)))∧(¬(len:Int)=0→J=J∧0+(len-0)≤List.length l∧(∃b6,List.take (len-0) (List.drop (bG.idx ⟨2,J,0,0,1⟩) (R.bi (ef l J m aG)))=aL b6)∧Nat.le (Nat.succ (List.length (strOf (List.take (len-0) l))+List.length [UInt8.ofNat (Int.toNat c)])) (2^62)∧List.length (strOf (List.take (len-0) l)++[UInt8.ofNat (Int.toNat c)])<1099511627776∧(valid (strOf (List.take (len-0) l)++[UInt8.ofNat (Int.toNat c)])=true→(J=J∧0+len=List.length l∧len<len+1∧(len+1+(len+1)/4+512)*1≤281474976710656∧len+1<4611686018427387904)∧J+1=J+1∧0+(len+1-0)≤List.length (l++[.int .u8 c])∧(∃b6,List.take (len+1-0) (List.drop (bG.idx {id:=2,J:=J+1,idx:=0,bR:=0,es:=1}) (R.bi (dr l J m aG c)))=aL b6)∧List.length (strOf (List.take (len+1-0) (List.drop 0 (List.append l [.int .u8 c]))))<1099511627776∧(valid (strOf (List.take (len+1-0) (List.drop 0 (List.append l [.int .u8 c]))))=true→cC (qj f ah af ax aE P O l J m aG len a0 ao a2 a3 n c) ⟨0,0,0,0,6⟩ ((fV a0 ao a2 a3 n c))∧∀(cz:j),cD (qj f ah af ax aE P O l J m aG len a0 ao a2 a3 n c) ⟨0,0,0,0,6⟩ ((fV a0 ao a2 a3 n c)) cz→bK 5 (cz.next) (U (.tuple []) cz))∧(valid (strOf (List.take (len+1-0) (List.drop 0 (List.append l [.int .u8 c]))))=false→J+1=J+1∧0+(len+1)≤List.length (l++[.int .u8 c])∧(∃b6,List.take (len+1) (List.drop (bG.idx {id:=2,J:=J+1,idx:=0,bR:=0,es:=1}) (R.bi (dr l J m aG c)))=aL b6)∧cC (qk f ah af ax aE P O l J m aG len a0 ao a2 a3 n c) ⟨0,0,0,0,6⟩ ((eg l len c))∧∀(b9:j),cD (qk f ah af ax aE P O l J m aG len a0 ao a2 a3 n c) ⟨0,0,0,0,6⟩ ((eg l len c)) b9→bK 5 (b9.next) (U (.tuple []) b9)))∧(valid (strOf (List.take (len-0) l)++[UInt8.ofNat (Int.toNat c)])=false→((↑(List.length (Prod.snd (cc a0 ao a2 a3 n c))):Int)=0→dB (2^30-8) eE (qg f ah af ax aE P O l J m aG len a0 ao a2 a3 n c) ⟨0,0,0,0,6⟩ c∧∀(cv:j),dC bad (qg f ah af ax aE P O l J m aG len a0 ao a2 a3 n c) ⟨0,0,0,0,6⟩ c cv→bK 5 (cv.next) (U (.tuple []) cv))∧(¬(↑(List.length (Prod.snd (cc a0 ao a2 a3 n c))):Int)=0→dB (2^30-8) eE (ql f ah af ax aE P O l J m aG len a0 ao a2 a3 n c) ⟨0,0,0,0,6⟩ c∧∀(cv:j),dC bad (ql f ah af ax aE P O l J m aG len a0 ao a2 a3 n c) ⟨0,0,0,0,6⟩ c cv→bK 5 (cv.next) (U (.tuple []) cv)))))∧(¬0<(↑(List.length (Prod.snd (cc a0 ao a2 a3 n c))):Int)→((len:Int)=0→(J=J∧0+len=List.length l∧len<len+1∧(len+1+(len+1)/4+512)*1≤281474976710656∧len+1<4611686018427387904)∧J+1=J+1∧0+(len+1-0)≤List.length (l++[.int .u8 c])∧(∃b6,List.take (len+1-0) (List.drop (bG.idx {id:=2,J:=J+1,idx:=0,bR:=0,es:=1}) (R.bi (dr l J m aG c)))=aL b6)∧List.length (strOf (List.take (len+1-0) (List.drop 0 (List.append l [.int .u8 c]))))<1099511627776∧(valid (strOf (List.take (len+1-0) (List.drop 0 (List.append l [.int .u8 c]))))=true→cC (qh f ah af ax aE P O l J m aG len a0 ao a2 a3 n c) ⟨0,0,0,0,6⟩ ((fV a0 ao a2 a3 n c))∧∀(cz:j),cD (qh f ah af ax aE P O l J m aG len a0 ao a2 a3 n c) ⟨0,0,0,0,6⟩ ((fV a0 ao a2 a3 n c)) cz→bK 5 (cz.next) (U (.tuple []) cz))∧(valid (strOf (List.take (len+1-0) (List.drop 0 (List.append l [.int .u8 c]))))=false→J+1=J+1∧0+(len+1)≤List.length (l++[.int .u8 c])∧(∃b6,List.take (len+1) (List.drop (bG.idx {id:=2,J:=J+1,idx:=0,bR:=0,es:=1}) (R.bi (dr l J m aG c)))=aL b6)∧cC (qi f ah af ax aE P O l J m aG len a0 ao a2 a3 n c) ⟨0,0,0,0,6⟩ ((eg l len c))∧∀(b9:j),cD (qi f ah af ax aE P O l J m aG len a0 ao a2 a3 n c) ⟨0,0,0,0,6⟩ ((eg l len c)) b9→bK 5 (b9.next) (U (.tuple []) b9)))∧(¬(len:Int)=0→J=J∧0+(len-0)≤List.length l∧(∃b6,List.take (len-0) (List.drop (bG.idx ⟨2,J,0,0,1⟩) (R.bi (ef l J m aG)))=aL b6)∧Nat.le (Nat.succ (List.length (strOf (List.take (len-0) l))+List.length [UInt8.ofNat (Int.toNat c)])) (2^62)∧List.length (strOf (List.take (len-0) l)++[UInt8.ofNat (Int.toNat c)])<1099511627776∧(valid (strOf (List.take (len-0) l)++[UInt8.ofNat (Int.toNat c)])=true→(J=J∧0+len=List.length l∧len<len+1∧(len+1+(len+1)/4+512)*1≤281474976710656∧len+1<4611686018427387904)∧J+1=J+1∧0+(len+1-0)≤List.length (l++[.int .u8 c])∧(∃b6,List.take (len+1-0) (List.drop (bG.idx {id:=2,J:=J+1,idx:=0,bR:=0,es:=1}) (R.bi (dr l J m aG c)))=aL b6)∧List.length (strOf (List.take (len+1-0) (List.drop 0 (List.append l [.int .u8 c]))))<1099511627776∧(valid (strOf (List.take (len+1-0) (List.drop 0 (List.append l [.int .u8 c]))))=true→cC (qj f ah af ax aE P O l J m aG len a0 ao a2 a3 n c) ⟨0,0,0,0,6⟩ ((fV a0 ao a2 a3 n c))∧∀(cz:j),cD (qj f ah af ax aE P O l J m aG len a0 ao a2 a3 n c) ⟨0,0,0,0,6⟩ ((fV a0 ao a2 a3 n c)) cz→bK 5 (cz.next) (U (.tuple []) cz))∧(valid (strOf (List.take (len+1-0) (List.drop 0 (List.append l [.int .u8 c]))))=false→J+1=J+1∧0+(len+1)≤List.length (l++[.int .u8 c])∧(∃b6,List.take (len+1) (List.drop (bG.idx {id:=2,J:=J+1,idx:=0,bR:=0,es:=1}) (R.bi (dr l J m aG c)))=aL b6)∧cC (qk f ah af ax aE P O l J m aG len a0 ao a2 a3 n c) ⟨0,0,0,0,6⟩ ((eg l len c))∧∀(b9:j),cD (qk f ah af ax aE P O l J m aG len a0 ao a2 a3 n c) ⟨0,0,0,0,6⟩ ((eg l len c)) b9→bK 5 (b9.next) (U (.tuple []) b9)))∧(valid (strOf (List.take (len-0) l)++[UInt8.ofNat (Int.toNat c)])=false→((↑(List.length (Prod.snd (cc a0 ao a2 a3 n c))):Int)=0→dB (2^30-8) eE (qg f ah af ax aE P O l J m aG len a0 ao a2 a3 n c) ⟨0,0,0,0,6⟩ c∧∀(cv:j),dC bad (qg f ah af ax aE P O l J m aG len a0 ao a2 a3 n c) ⟨0,0,0,0,6⟩ c cv→bK 5 (cv.next) (U (.tuple []) cv))∧(¬(↑(List.length (Prod.snd (cc a0 ao a2 a3 n c))):Int)=0→dB (2^30-8) eE (ql f ah af ax aE P O l J m aG len a0 ao a2 a3 n c) ⟨0,0,0,0,6⟩ c∧∀(cv:j),dC bad (ql f ah af ax aE P O l J m aG len a0 ao a2 a3 n c) ⟨0,0,0,0,6⟩ c cv→bK 5 (cv.next) (U (.tuple []) cv)))))))∧(¬0<(len:Int)→ ¬(cc a0 ao a2 a3 n c).1=[]∧List.length (Prod.fst (cc a0 ao a2 a3 n c))=1∧iy a0 ao a2 a3 n c∧(0<(↑(List.length (Prod.snd (cc a0 ao a2 a3 n c))):Int)→((len:Int)=0→(J=J∧0+len=List.length l∧len<len+1∧(len+1+(len+1)/4+512)*1≤281474976710656∧len+1<4611686018427387904)∧J+1=J+1∧0+(len+1-0)≤List.length (l++[.int .u8 c])∧(∃b6,List.take (len+1-0) (List.drop (bG.idx {id:=2,J:=J+1,idx:=0,bR:=0,es:=1}) (R.bi (dr l J m aG c)))=aL b6)∧List.length (strOf (List.take (len+1-0) (List.drop 0 (List.append l [.int .u8 c]))))<1099511627776∧(valid (strOf (List.take (len+1-0) (List.drop 0 (List.append l [.int .u8 c]))))=true→cC (qh f ah af ax aE P O l J m aG len a0 ao a2 a3 n c) ⟨0,0,0,0,6⟩ ((fV a0 ao a2 a3 n c))∧∀(cz:j),cD (qh f ah af ax aE P O l J m aG len a0 ao a2 a3 n c) ⟨0,0,0,0,6⟩ ((fV a0 ao a2 a3 n c)) cz→bK 5 (cz.next) (U (.tuple []) cz))∧(valid (strOf (List.take (len+1-0) (List.drop 0 (List.append l [.int .u8 c]))))=false→J+1=J+1∧0+(len+1)≤List.length (l++[.int .u8 c])∧(∃b6,List.take (len+1) (List.drop (bG.idx {id:=2,J:=J+1,idx:=0,bR:=0,es:=1}) (R.bi (dr l J m aG c)))=aL b6)∧cC (qi f ah af ax aE P O l J m aG len a0 ao a2 a3 n c) ⟨0,0,0,0,6⟩ ((eg l len c))∧∀(b9:j),cD (qi f ah af ax aE P O l J m aG len a0 ao a2 a3 n c) ⟨0,0,0,0,6⟩ ((eg l len c)) b9→bK 5 (b9.next) (U (.tuple []) b9)))∧(¬(len:Int)=0→J=J∧0+(len-0)≤List.length l∧(∃b6,List.take (len-0) (List.drop (bG.idx ⟨2,J,0,0,1⟩) (R.bi (ef l J m aG)))=aL b6)∧Nat.le (Nat.succ (List.length (strOf (List.take (len-0) l))+List.length [UInt8.ofNat (Int.toNat c)])) (2^62)∧List.length (strOf (List.take (len-0) l)++[UInt8.ofNat (Int.toNat c)])<1099511627776∧(valid (strOf (List.take (len-0) l)++[UInt8.ofNat (Int.toNat c)])=true→(J=J∧0+len=List.length l∧len<len+1∧(len+1+(len+1)/4+512)*1≤281474976710656∧len+1<4611686018427387904)∧J+1=J+1∧0+(len+1-0)≤List.length (l++[.int .u8 c])∧(∃b6,List.take (len+1-0) (List.drop (bG.idx {id:=2,J:=J+1,idx:=0,bR:=0,es:=1}) (R.bi (dr l J m aG c)))=aL b6)∧List.length (strOf (List.take (len+1-0) (List.drop 0 (List.append l [.int .u8 c]))))<1099511627776∧(valid (strOf (List.take (len+1-0) (List.drop 0 (List.append l [.int .u8 c]))))=true→cC (qj f ah af ax aE P O l J m aG len a0 ao a2 a3 n c) ⟨0,0,0,0,6⟩ ((fV a0 ao a2 a3 n c))∧∀(cz:j),cD (qj f ah af ax aE P O l J m aG len a0 ao a2 a3 n c) ⟨0,0,0,0,6⟩ ((fV a0 ao a2 a3 n c)) cz→bK 5 (cz.next) (U (.tuple []) cz))∧(valid (strOf (List.take (len+1-0) (List.drop 0 (List.append l [.int .u8 c]))))=false→J+1=J+1∧0+(len+1)≤List.length (l++[.int .u8 c])∧(∃b6,List.take (len+1) (List.drop (bG.idx {id:=2,J:=J+1,idx:=0,bR:=0,es:=1}) (R.bi (dr l J m aG c)))=aL b6)∧cC (qk f ah af ax aE P O l J m aG len a0 ao a2 a3 n c) ⟨0,0,0,0,6⟩ ((eg l len c))∧∀(b9:j),cD (qk f ah af ax aE P O l J m aG len a0 ao a2 a3 n c) ⟨0,0,0,0,6⟩ ((eg l len c)) b9→bK 5 (b9.next) (U (.tuple []) b9)))∧(valid (strOf (List.take (len-0) l)++[UInt8.ofNat (Int.toNat c)])=false→((↑(List.length (Prod.snd (cc a0 ao a2 a3 n c))):Int)=0→dB (2^30-8) eE (qg f ah af ax aE P O l J m aG len a0 ao a2 a3 n c) ⟨0,0,0,0,6⟩ c∧∀(cv:j),dC bad (qg f ah af ax aE P O l J m aG len a0 ao a2 a3 n c) ⟨0,0,0,0,6⟩ c cv→bK 5 (cv.next) (U (.tuple []) cv))∧(¬(↑(List.length (Prod.snd (cc a0 ao a2 a3 n c))):Int)=0→dB (2^30-8) eE (ql f ah af ax aE P O l J m aG len a0 ao a2 a3 n c) ⟨0,0,0,0,6⟩ c∧∀(cv:j),dC bad (ql f ah af ax aE P O l J m aG len a0 ao a2 a3 n c) ⟨0,0,0,0,6⟩ c cv→bK 5 (cv.next) (U (.tuple []) cv)))))∧(¬0<(↑(List.length (Prod.snd (cc a0 ao a2 a3 n c))):Int)→((len:Int)=0→(J=J∧0+len=List.length l∧len<len+1∧(len+1+(len+1)/4+512)*1≤281474976710656∧len+1<4611686018427387904)∧J+1=J+1∧0+(len+1-0)≤List.length (l++[.int .u8 c])∧(∃b6,List.take (len+1-0) (List.drop (bG.idx {id:=2,J:=J+1,idx:=0,bR:=0,es:=1}) (R.bi (dr l J m aG c)))=aL b6)∧List.length (strOf (List.take (len+1-0) (List.drop 0 (List.append l [.int .u8 c]))))<1099511627776∧(valid (strOf (List.take (len+1-0) (List.drop 0 (List.append l [.int .u8 c]))))=true→cC (qh f ah af ax aE P O l J m aG len a0 ao a2 a3 n c) ⟨0,0,0,0,6⟩ ((fV a0 ao a2 a3 n c))∧∀(cz:j),cD (qh f ah af ax aE P O l J m aG len a0 ao a2 a3 n c) ⟨0,0,0,0,6⟩ ((fV a0 ao a2 a3 n c)) cz→bK 5 (cz.next) (U (.tuple []) cz))∧(valid (strOf (List.take (len+1-0) (List.drop 0 (List.append l [.int .u8 c]))))=false→J+1=J+1∧0+(len+1)≤List.length (l++[.int .u8 c])∧(∃b6,List.take (len+1) (List.drop (bG.idx {id:=2,J:=J+1,idx:=0,bR:=0,es:=1}) (R.bi (dr l J m aG c)))=aL b6)∧cC (qi f ah af ax aE P O l J m aG len a0 ao a2 a3 n c) ⟨0,0,0,0,6⟩ ((eg l len c))∧∀(b9:j),cD (qi f ah af ax aE P O l J m aG len a0 ao a2 a3 n c) ⟨0,0,0,0,6⟩ ((eg l len c)) b9→bK 5 (b9.next) (U (.tuple []) b9)))∧(¬(len:Int)=0→J=J∧0+(len-0)≤List.length l∧(∃b6,List.take (len-0) (List.drop (bG.idx ⟨2,J,0,0,1⟩) (R.bi (ef l J m aG)))=aL b6)∧Nat.le (Nat.succ (List.length (strOf (List.take (len-0) l))+List.length [UInt8.ofNat (Int.toNat c)])) (2^62)∧List.length (strOf (List.take (len-0) l)++[UInt8.ofNat (Int.toNat c)])<1099511627776∧(valid (strOf (List.take (len-0) l)++[UInt8.ofNat (Int.toNat c)])=true→(J=J∧0+len=List.length l∧len<len+1∧(len+1+(len+1)/4+512)*1≤281474976710656∧len+1<4611686018427387904)∧J+1=J+1∧0+(len+1-0)≤List.length (l++[.int .u8 c])∧(∃b6,List.take (len+1-0) (List.drop (bG.idx {id:=2,J:=J+1,idx:=0,bR:=0,es:=1}) (R.bi (dr l J m aG c)))=aL b6)∧List.length (strOf (List.take (len+1-0) (List.drop 0 (List.append l [.int .u8 c]))))<1099511627776∧(valid (strOf (List.take (len+1-0) (List.drop 0 (List.append l [.int .u8 c]))))=true→cC (qj f ah af ax aE P O l J m aG len a0 ao a2 a3 n c) ⟨0,0,0,0,6⟩ ((fV a0 ao a2 a3 n c))∧∀(cz:j),cD (qj f ah af ax aE P O l J m aG len a0 ao a2 a3 n c) ⟨0,0,0,0,6⟩ ((fV a0 ao a2 a3 n c)) cz→bK 5 (cz.next) (U (.tuple []) cz))∧(valid (strOf (List.take (len+1-0) (List.drop 0 (List.append l [.int .u8 c]))))=false→J+1=J+1∧0+(len+1)≤List.length (l++[.int .u8 c])∧(∃b6,List.take (len+1) (List.drop (bG.idx {id:=2,J:=J+1,idx:=0,bR:=0,es:=1}) (R.bi (dr l J m aG c)))=aL b6)∧cC (qk f ah af ax aE P O l J m aG len a0 ao a2 a3 n c) ⟨0,0,0,0,6⟩ ((eg l len c))∧∀(b9:j),cD (qk f ah af ax aE P O l J m aG len a0 ao a2 a3 n c) ⟨0,0,0,0,6⟩ ((eg l len c)) b9→bK 5 (b9.next) (U (.tuple []) b9)))∧(valid (strOf (List.take (len-0) l)++[UInt8.ofNat (Int.toNat c)])=false→((↑(List.length (Prod.snd (cc a0 ao a2 a3 n c))):Int)=0→dB (2^30-8) eE (qg f ah af ax aE P O l J m aG len a0 ao a2 a3 n c) ⟨0,0,0,0,6⟩ c∧∀(cv:j),dC bad (qg f ah af ax aE P O l J m aG len a0 ao a2 a3 n c) ⟨0,0,0,0,6⟩ c cv→bK 5 (cv.next) (U (.tuple []) cv))∧(¬(↑(List.length (Prod.snd (cc a0 ao a2 a3 n c))):Int)=0→dB (2^30-8) eE (ql f ah af ax aE P O l J m aG len a0 ao a2 a3 n c) ⟨0,0,0,0,6⟩ c∧∀(cv:j),dC bad (ql f ah af ax aE P O l J m aG len a0 ao a2 a3 n c) ⟨0,0,0,0,6⟩ c cv→bK 5 (cv.next) (U (.tuple []) cv))))))) :
 ∃v p,aI Tryz.prog aw 90 [.ptr (some ⟨0,0,0,0,6⟩),.int .u8 c] (j.of [b2 0 f 1 (.slice (some ⟨2,J,0,0,1⟩) len len) ah false af ax,hj a0 ao a2 a3 n aE,b3 l 1 J m aG cI,P,O]) v p∧U v p :=
 cb bQ mixed XR (an:= .aK 1005 (ag 1011 (ag 1012 (.aK 1013 (he 4004 (.aK 4005 (.aK 6010 (ag 7007 Gp) (ag 6018 (ag 6019 A8))) (.aK 6010 (ag 7007 Gp) (ag 6018 (ag 6019 A8))))) (he 4004 (.aK 4005 A9 A9))))) (he 4004 (.aK 4005 A9 A9))) (by kernel_rfl) aY
end Go.Proofs.YtddnafghiejcoaaGreatDoor
