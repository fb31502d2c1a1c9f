/-
  Parts of the proof of KeysScripts.
-/
import Derived.Lib.Bytealg
import Derived.Shelf.Strings.OnBuilder
import Derived.Shelf.Strings.Repeat
import Derived.Lib.Atoi
import Derived.Lib.SlTrimSet
import Derived.Shelf.Strings.SlTrimAscii
import Derived.Shelf.Strconv.Atoi
import Derived.Lib.AtoiErrMem
import Derived.Shelf.Strings.Count
import Derived.Shelf.Strings.Search3
import Derived.Test.YtddnafghiejcoaaGreatDoorKKeysScriptsD
set_option linter.unusedVariables false
set_option linter.unusedSimpArgs false
namespace Go.Proofs.YtddnafghiejcoaaGreatDoor
open Go.bh Go.Keys
set_option maxRecDepth 1000000
abbrev mi(g:Nat)(a b c d f e:Int):ac:=⟨[.int .i32 (↑(List.getD (Prod.fst (bD a b c d f e)) 0 0):Int),.int .i32 (↑(List.getD (Prod.fst (bD a b c d f e)) 1 0):Int)],1,false,false,1,0,1,some (21,0)⟩
abbrev Et:ch:=(.aq 4005 (ag 6019 (ag 6023 zu)) (ag 6019 (ag 6023 zu)))
abbrev mj(k:Nat)(q p:J)(j r:bj)(i h:ac)(m:List J)(b o l n:Nat)(c d e f g a:Int):T:=(T.af 95 [(0,(fw k q p j b n)),(1,(fa r b c d e f g a)),(2,(dd m b o l)),(3,i),(4,h),(27,(cl a)),(30,(mi b c d e f g a)),(71,ac.aj [.int .u8 a] 1 true)])
abbrev sB(k:Nat)(q p:J)(j r:bj)(i h:ac)(m:List J)(b o l n:Nat)(c d e f g a:Int):T:=(T.af 97 [(0,(fw k q p j b n)),(1,(fa r b c d e f g a)),(2,(dd m b o l)),(3,i),(4,h),(29,(cl a)),(32,(mi b c d e f g a)),(73,ac.aj [.int .u8 a] 1 true)])
abbrev ml(k:Nat)(q p:J)(j r:bj)(i h:ac)(m:List J)(b o l n:Nat)(c d e f g a:Int):T:=(T.af 104 [(0,(fx k q p j b n)),(1,(fa r b c d e f g a)),(2,(cw m b o l a)),(3,i),(4,h),(27,(cl a)),(30,(mi b c d e f g a)),(71,ac.aj [.int .u8 a] 1 true),(82,ac.aj [.int .u8 a] 1 true)])
abbrev mm(k:Nat)(q p:J)(j r:bj)(i h:ac)(m:List J)(b o l n:Nat)(c d e f g a:Int):T:=(T.af 105 [(0,(fx k q p j b n)),(1,(fa r b c d e f g a)),(2,(cw m b o l a)),(3,i),(4,h),(27,(cl a)),(30,(mi b c d e f g a)),(71,ac.aj [.int .u8 a] 1 true),(82,ac.aj [.int .u8 a] 1 true)])
abbrev sC(k:Nat)(q p:J)(j r:bj)(i h:ac)(m:List J)(b o l n:Nat)(c d e f g a:Int):T:=(T.af 106 [(0,(fx k q p j b n)),(1,(fa r b c d e f g a)),(2,(cw m b o l a)),(3,i),(4,h),(29,(cl a)),(32,(mi b c d e f g a)),(73,ac.aj [.int .u8 a] 1 true),(84,ac.aj [.int .u8 a] 1 true)])
abbrev sD(k:Nat)(q p:J)(j r:bj)(i h:ac)(m:List J)(b o l n:Nat)(c d e f g a:Int):T:=(T.af 107 [(0,(fx k q p j b n)),(1,(fa r b c d e f g a)),(2,(cw m b o l a)),(3,i),(4,h),(29,(cl a)),(32,(mi b c d e f g a)),(73,ac.aj [.int .u8 a] 1 true),(84,ac.aj [.int .u8 a] 1 true)])
abbrev mn(k:Nat)(q p:J)(j r:bj)(i h:ac)(m:List J)(b o l n:Nat)(c d e f g a:Int):T:=(T.af 100 [(0,(fw k q p j b n)),(1,(lk r b c d e f g a)),(2,(dd m b o l)),(3,i),(4,h),(27,(cl a)),(30,(mi b c d e f g a)),(71,ac.aj [.int .u8 a] 1 true),(95,ac.aj [.int .i32 65533] 1 true)])
abbrev sE(k:Nat)(q p:J)(j r:bj)(i h:ac)(m:List J)(b o l n:Nat)(c d e f g a:Int):T:=(T.af 102 [(0,(fw k q p j b n)),(1,(lk r b c d e f g a)),(2,(dd m b o l)),(3,i),(4,h),(29,(cl a)),(32,(mi b c d e f g a)),(73,ac.aj [.int .u8 a] 1 true),(97,ac.aj [.int .i32 65533] 1 true)])
theorem NH(n:Nat)(p o:J)(m q:bj)(l k:ac)(c:List J)(ab j i a:Nat)(d e f g h b:Int)(t:bm)(w:(0<(a:Int)->((0:Int)<=0/\0<(a:Int))/\ab=ab/\c[0]? =some (.int .u8 (aL c 0))/\(aL c 0=27-> ¬(bD d e f g h b).1=[]/\¬List.length (Prod.fst (bD d e f g h b))=1/\gp d e f g h b/\(0<(↑(List.length (Prod.snd (bD d e f g h b))):Int)->((0:Int)<=1/\1<=(a:Int)/\a<=a)/\ab=ab/\1+(a-1)<=c.length/\(∃s,List.take (a-1) (List.drop (aT.idx ⟨2,ab,1,0,1⟩) (ac.aQ (dd c ab j i)))=aG s)/\Nat.le (Nat.succ (List.length (strOf (List.take (a-1) (List.drop 1 c)))+List.length [UInt8.ofNat (Int.toNat b)])) (2^62)/\List.length (strOf (List.take (a-1) (List.drop 1 c))++[UInt8.ofNat (Int.toNat b)])<1099511627776/\(valid (strOf (List.take (a-1) (List.drop 1 c))++[UInt8.ofNat (Int.toNat b)])=true->(ab=ab/\0+a=c.length/\a<a+1/\(a+1+(a+1)/4+512)*1<=281474976710656/\a+1<4611686018427387904)/\((0:Int)<=1/\1<=(↑(a+1):Int)/\a+1<=a+1)/\ab+1=ab+1/\1+(a+1-1)<=List.length (c++[.int .u8 b])/\(∃s,List.take (a+1-1) (List.drop (aT.idx {id:=2,ab:=ab+1,idx:=1,fld:=0,es:=1}) (ac.aQ (cw c ab j i b)))=aG s)/\List.length (strOf (List.take (a+1-1) (List.drop 1 (List.append c [.int .u8 b]))))<1099511627776/\(valid (strOf (List.take (a+1-1) (List.drop 1 (List.append c [.int .u8 b]))))=true->bU (sC n p o m q l k c ab j i a d e f g h b) ⟨0,0,0,0,6⟩ ((f' d e f g h b))/\∀(u:T),bV (sC n p o m q l k c ab j i a d e f g h b) ⟨0,0,0,0,6⟩ ((f' d e f g h b)) u->bk 5 (u.Y) (t (.tuple []) u))/\(valid (strOf (List.take (a+1-1) (List.drop 1 (List.append c [.int .u8 b]))))=false->ab+1=ab+1/\0+(a+1)<=List.length (c++[.int .u8 b])/\(∃s,List.take (a+1) (List.drop (aT.idx {id:=2,ab:=ab+1,idx:=0,fld:=0,es:=1}) (ac.aQ (cw c ab j i b)))=aG s)/\bU (sD n p o m q l k c ab j i a d e f g h b) ⟨0,0,0,0,6⟩ ((de c a b))/\∀(v:T),bV (sD n p o m q l k c ab j i a d e f g h b) ⟨0,0,0,0,6⟩ ((de c a b)) v->bk 5 (v.Y) (t (.tuple []) v)))/\(valid (strOf (List.take (a-1) (List.drop 1 c))++[UInt8.ofNat (Int.toNat b)])=false->((↑(List.length (Prod.snd (bD d e f g h b))):Int)=0->cF (2^30-8) dr (sB n p o m q l k c ab j i a d e f g h b) ⟨0,0,0,0,6⟩ b/\∀(r:T),cG bad (sB n p o m q l k c ab j i a d e f g h b) ⟨0,0,0,0,6⟩ b r->bk 5 (r.Y) (t (.tuple []) r))/\(¬(↑(List.length (Prod.snd (bD d e f g h b))):Int)=0->cF (2^30-8) dr (sE n p o m q l k c ab j i a d e f g h b) ⟨0,0,0,0,6⟩ b/\∀(r:T),cG bad (sE n p o m q l k c ab j i a d e f g h b) ⟨0,0,0,0,6⟩ b r->bk 5 (r.Y) (t (.tuple []) r))))/\(¬0<(↑(List.length (Prod.snd (bD d e f g h b))):Int)->((0:Int)<=1/\1<=(a:Int)/\a<=a)/\ab=ab/\1+(a-1)<=c.length/\(∃s,List.take (a-1) (List.drop (aT.idx ⟨2,ab,1,0,1⟩) (ac.aQ (dd c ab j i)))=aG s)/\Nat.le (Nat.succ (List.length (strOf (List.take (a-1) (List.drop 1 c)))+List.length [UInt8.ofNat (Int.toNat b)])) (2^62)/\List.length (strOf (List.take (a-1) (List.drop 1 c))++[UInt8.ofNat (Int.toNat b)])<1099511627776/\(valid (strOf (List.take (a-1) (List.drop 1 c))++[UInt8.ofNat (Int.toNat b)])=true->(ab=ab/\0+a=c.length/\a<a+1/\(a+1+(a+1)/4+512)*1<=281474976710656/\a+1<4611686018427387904)/\((0:Int)<=1/\1<=(↑(a+1):Int)/\a+1<=a+1)/\ab+1=ab+1/\1+(a+1-1)<=List.length (c++[.int .u8 b])/\(∃s,List.take (a+1-1) (List.drop (aT.idx {id:=2,ab:=ab+1,idx:=1,fld:=0,es:=1}) (ac.aQ (cw c ab j i b)))=aG s)/\List.length (strOf (List.take (a+1-1) (List.drop 1 (List.append c [.int .u8 b]))))<1099511627776/\(valid (strOf (List.take (a+1-1) (List.drop 1 (List.append c [.int .u8 b]))))=true->bU (sC n p o m q l k c ab j i a d e f g h b) ⟨0,0,0,0,6⟩ ((f' d e f g h b))/\∀(u:T),bV (sC n p o m q l k c ab j i a d e f g h b) ⟨0,0,0,0,6⟩ ((f' d e f g h b)) u->bk 5 (u.Y) (t (.tuple []) u))/\(valid (strOf (List.take (a+1-1) (List.drop 1 (List.append c [.int .u8 b]))))=false->ab+1=ab+1/\0+(a+1)<=List.length (c++[.int .u8 b])/\(∃s,List.take (a+1) (List.drop (aT.idx {id:=2,ab:=ab+1,idx:=0,fld:=0,es:=1}) (ac.aQ (cw c ab j i b)))=aG s)/\bU (sD n p o m q l k c ab j i a d e f g h b) ⟨0,0,0,0,6⟩ ((de c a b))/\∀(v:T),bV (sD n p o m q l k c ab j i a d e f g h b) ⟨0,0,0,0,6⟩ ((de c a b)) v->bk 5 (v.Y) (t (.tuple []) v)))/\(valid (strOf (List.take (a-1) (List.drop 1 c))++[UInt8.ofNat (Int.toNat b)])=false->((↑(List.length (Prod.snd (bD d e f g h b))):Int)=0->cF (2^30-8) dr (sB n p o m q l k c ab j i a d e f g h b) ⟨0,0,0,0,6⟩ b/\∀(r:T),cG bad (sB n p o m q l k c ab j i a d e f g h b) ⟨0,0,0,0,6⟩ b r->bk 5 (r.Y) (t (.tuple []) r))/\(¬(↑(List.length (Prod.snd (bD d e f g h b))):Int)=0->cF (2^30-8) dr (sE n p o m q l k c ab j i a d e f g h b) ⟨0,0,0,0,6⟩ b/\∀(r:T),cG bad (sE n p o m q l k c ab j i a d e f g h b) ⟨0,0,0,0,6⟩ b r->bk 5 (r.Y) (t (.tuple []) r)))))/\(¬aL c 0=27-> ¬(bD d e f g h b).1=[]/\¬List.length (Prod.fst (bD d e f g h b))=1/\gp d e f g h b/\(0<(↑(List.length (Prod.snd (bD d e f g h b))):Int)->ab=ab/\0+(a-0)<=c.length/\(∃s,List.take (a-0) (List.drop (aT.idx ⟨2,ab,0,0,1⟩) (ac.aQ (dd c ab j i)))=aG s)/\Nat.le (Nat.succ (List.length (strOf (List.take (a-0) c))+List.length [UInt8.ofNat (Int.toNat b)])) (2^62)/\List.length (strOf (List.take (a-0) c)++[UInt8.ofNat (Int.toNat b)])<1099511627776/\(valid (strOf (List.take (a-0) c)++[UInt8.ofNat (Int.toNat b)])=true->(ab=ab/\0+a=c.length/\a<a+1/\(a+1+(a+1)/4+512)*1<=281474976710656/\a+1<4611686018427387904)/\ab+1=ab+1/\0+(a+1-0)<=List.length (c++[.int .u8 b])/\(∃s,List.take (a+1-0) (List.drop (aT.idx {id:=2,ab:=ab+1,idx:=0,fld:=0,es:=1}) (ac.aQ (cw c ab j i b)))=aG s)/\List.length (strOf (List.take (a+1-0) (List.drop 0 (List.append c [.int .u8 b]))))<1099511627776/\(valid (strOf (List.take (a+1-0) (List.drop 0 (List.append c [.int .u8 b]))))=true->bU (ml n p o m q l k c ab j i a d e f g h b) ⟨0,0,0,0,6⟩ ((et d e f g h b))/\∀(u:T),bV (ml n p o m q l k c ab j i a d e f g h b) ⟨0,0,0,0,6⟩ ((et d e f g h b)) u->bk 5 (u.Y) (t (.tuple []) u))/\(valid (strOf (List.take (a+1-0) (List.drop 0 (List.append c [.int .u8 b]))))=false->ab+1=ab+1/\0+(a+1)<=List.length (c++[.int .u8 b])/\(∃s,List.take (a+1) (List.drop (aT.idx {id:=2,ab:=ab+1,idx:=0,fld:=0,es:=1}) (ac.aQ (cw c ab j i b)))=aG s)/\bU (mm n p o m q l k c ab j i a d e f g h b) ⟨0,0,0,0,6⟩ ((de c a b))/\∀(v:T),bV (mm n p o m q l k c ab j i a d e f g h b) ⟨0,0,0,0,6⟩ ((de c a b)) v->bk 5 (v.Y) (t (.tuple []) v)))/\(valid (strOf (List.take (a-0) c)++[UInt8.ofNat (Int.toNat b)])=false->((↑(List.length (Prod.snd (bD d e f g h b))):Int)=0->cF (2^30-8) dr (mj n p o m q l k c ab j i a d e f g h b) ⟨0,0,0,0,6⟩ b/\∀(r:T),cG bad (mj n p o m q l k c ab j i a d e f g h b) ⟨0,0,0,0,6⟩ b r->bk 5 (r.Y) (t (.tuple []) r))/\(¬(↑(List.length (Prod.snd (bD d e f g h b))):Int)=0->cF (2^30-8) dr (mn n p o m q l k c ab j i a d e f g h b) ⟨0,0,0,0,6⟩ b/\∀(r:T),cG bad (mn n p o m q l k c ab j i a d e f g h b) ⟨0,0,0,0,6⟩ b r->bk 5 (r.Y) (t (.tuple []) r))))/\(¬0<(↑(List.length (Prod.snd (bD d e f g h b))):Int)->ab=ab/\0+(a-0)<=c.length/\(∃s,List.take (a-0) (List.drop (aT.idx ⟨2,ab,0,0,1⟩) (ac.aQ (dd c ab j i)))=aG s)/\Nat.le (Nat.succ (List.length (strOf (List.take (a-0) c))+List.length [UInt8.ofNat (Int.toNat b)])) (2^62)/\List.length (strOf (List.take (a-0) c)++[UInt8.ofNat (Int.toNat b)])<1099511627776/\(valid (strOf (List.take (a-0) c)++[UInt8.ofNat (Int.toNat b)])=true->(ab=ab/\0+a=c.length/\a<a+1/\(a+1+(a+1)/4+512)*1<=281474976710656/\a+1<4611686018427387904)/\ab+1=ab+1/\0+(a+1-0)<=List.length (c++[.int .u8 b])/\(∃s,List.take (a+1-0) (List.drop (aT.idx {id:=2,ab:=ab+1,idx:=0,fld:=0,es:=1}) (ac.aQ (cw c ab j i b)))=aG s)/\List.length (strOf (List.take (a+1-0) (List.drop 0 (List.append c [.int .u8 b]))))<1099511627776/\(valid (strOf (List.take (a+1-0) (List.drop 0 (List.append c [.int .u8 b]))))=true->bU (ml n p o m q l k c ab j i a d e f g h b) ⟨0,0,0,0,6⟩ ((et d e f g h b))/\∀(u:T),bV (ml n p o m q l k c ab j i a d e f g h b) ⟨0,0,0,0,6⟩ ((et d e f g h b)) u->bk 5 (u.Y) (t (.tuple []) u))/\(valid (strOf (List.take (a+1-0) (List.drop 0 (List.append c [.int .u8 b]))))=false->ab+1=ab+1/\0+(a+1)<=List.length (c++[.int .u8 b])/\(∃s,List.take (a+1) (List.drop (aT.idx {id:=2,ab:=ab+1,idx:=0,fld:=0,es:=1}) (ac.aQ (cw c ab j i b)))=aG s)/\bU (mm n p o m q l k c ab j i a d e f g h b) ⟨0,0,0,0,6⟩ ((de c a b))/\∀(v:T),bV (mm n p o m q l k c ab j i a d e f g h b) ⟨0,0,0,0,6⟩ ((de c a b)) v->bk 5 (v.Y) (t (.tuple []) v)))/\(valid (strOf (List.take (a-0) c)++[UInt8.ofNat (Int.toNat b)])=false->((↑(List.length (Prod.snd (bD d e f g h b))):Int)=0->cF (2^30-8) dr (mj n p o m q l k c ab j i a d e f g h b) ⟨0,0,0,0,6⟩ b/\∀(r:T),cG bad (mj n p o m q l k c ab j i a d e f g h b) ⟨0,0,0,0,6⟩ b r->bk 5 (r.Y) (t (.tuple []) r))/\(¬(↑(List.length (Prod.snd (bD d e f g h b))):Int)=0->cF (2^30-8) dr (mn n p o m q l k c ab j i a d e f g h b) ⟨0,0,0,0,6⟩ b/\∀(r:T),cG bad (mn n p o m q l k c ab j i a d e f g h b) ⟨0,0,0,0,6⟩ b r->bk 5 (r.Y) (t (.tuple []) r))))))/\(¬0<(a:Int)-> ¬(bD d e f g h b).1=[]/\¬List.length (Prod.fst (bD d e f g h b))=1/\gp d e f g h b/\(0<(↑(List.length (Prod.snd (bD d e f g h b))):Int)->ab=ab/\0+(a-0)<=c.length/\(∃s,List.take (a-0) (List.drop (aT.idx ⟨2,ab,0,0,1⟩) (ac.aQ (dd c ab j i)))=aG s)/\Nat.le (Nat.succ (List.length (strOf (List.take (a-0) c))+List.length [UInt8.ofNat (Int.toNat b)])) (2^62)/\List.length (strOf (List.take (a-0) c)++[UInt8.ofNat (Int.toNat b)])<1099511627776/\(valid (strOf (List.take (a-0) c)++[UInt8.ofNat (Int.toNat b)])=true->(ab=ab/\0+a=c.length/\a<a+1/\(a+1+(a+1)/4+512)*1<=281474976710656/\a+1<4611686018427387904)/\ab+1=ab+1/\0+(a+1-0)<=List.length (c++[.int .u8 b])/\(∃s,List.take (a+1-0) (List.drop (aT.idx {id:=2,ab:=ab+1,idx:=0,fld:=0,es:=1}) (ac.aQ (cw c ab j i b)))=aG s)/\List.length (strOf (List.take (a+1-0) (List.drop 0 (List.append c [.int .u8 b]))))<1099511627776/\(valid (strOf (List.take (a+1-0) (List.drop 0 (List.append c [.int .u8 b]))))=true->bU (ml n p o m q l k c ab j i a d e f g h b) ⟨0,0,0,0,6⟩ ((et d e f g h b))/\∀(u:T),bV (ml n p o m q l k c ab j i a d e f g h b) ⟨0,0,0,0,6⟩ ((et d e f g h b)) u->bk 5 (u.Y) (t (.tuple []) u))/\(valid (strOf (List.take (a+1-0) (List.drop 0 (List.append c [.int .u8 b]))))=false->ab+1=ab+1/\0+(a+1)<=List.length (c++[.int .u8 b])/\(∃s,List.take (a+1) (List.drop (aT.idx {id:=2,ab:=ab+1,idx:=0,fld:=0,es:=1}) (ac.aQ (cw c ab j i b)))=aG s)/\bU (mm n p o m q l k c ab j i a d e f g h b) ⟨0,0,0,0,6⟩ ((de c a b))/\∀(v:T),bV (mm n p o m q l k c ab j i a d e f g h b) ⟨0,0,0,0,6⟩ ((de c a b)) v->bk 5 (v.Y) (t (.tuple []) v)))/\(valid (strOf (List.take (a-0) c)++[UInt8.ofNat (Int.toNat b)])=false->((↑(List.length (Prod.snd (bD d e f g h b))):Int)=0->cF (2^30-8) dr (mj n p o m q l k c ab j i a d e f g h b) ⟨0,0,0,0,6⟩ b/\∀(r:T),cG bad (mj n p o m q l k c ab j i a d e f g h b) ⟨0,0,0,0,6⟩ b r->bk 5 (r.Y) (t (.tuple []) r))/\(¬(↑(List.length (Prod.snd (bD d e f g h b))):Int)=0->cF (2^30-8) dr (mn n p o m q l k c ab j i a d e f g h b) ⟨0,0,0,0,6⟩ b/\∀(r:T),cG bad (mn n p o m q l k c ab j i a d e f g h b) ⟨0,0,0,0,6⟩ b r->bk 5 (r.Y) (t (.tuple []) r))))/\(¬0<(↑(List.length (Prod.snd (bD d e f g h b))):Int)->ab=ab/\0+(a-0)<=c.length/\(∃s,List.take (a-0) (List.drop (aT.idx ⟨2,ab,0,0,1⟩) (ac.aQ (dd c ab j i)))=aG s)/\Nat.le (Nat.succ (List.length (strOf (List.take (a-0) c))+List.length [UInt8.ofNat (Int.toNat b)])) (2^62)/\List.length (strOf (List.take (a-0) c)++[UInt8.ofNat (Int.toNat b)])<1099511627776/\(valid (strOf (List.take (a-0) c)++[UInt8.ofNat (Int.toNat b)])=true->(ab=ab/\0+a=c.length/\a<a+1/\(a+1+(a+1)/4+512)*1<=281474976710656/\a+1<4611686018427387904)/\ab+1=ab+1/\0+(a+1-0)<=List.length (c++[.int .u8 b])/\(∃s,List.take (a+1-0) (List.drop (aT.idx {id:=2,ab:=ab+1,idx:=0,fld:=0,es:=1}) (ac.aQ (cw c ab j i b)))=aG s)/\List.length (strOf (List.take (a+1-0) (List.drop 0 (List.append c [.int .u8 b]))))<1099511627776/\(valid (strOf (List.take (a+1-0) (List.drop 0 (List.append c [.int .u8 b]))))=true->bU (ml n p o m q l k c ab j i a d e f g h b) ⟨0,0,0,0,6⟩ ((et d e f g h b))/\∀(u:T),bV (ml n p o m q l k c ab j i a d e f g h b) ⟨0,0,0,0,6⟩ ((et d e f g h b)) u->bk 5 (u.Y) (t (.tuple []) u))/\(valid (strOf (List.take (a+1-0) (List.drop 0 (List.append c [.int .u8 b]))))=false->ab+1=ab+1/\0+(a+1)<=List.length (c++[.int .u8 b])/\(∃s,List.take (a+1) (List.drop (aT.idx {id:=2,ab:=ab+1,idx:=0,fld:=0,es:=1}) (ac.aQ (cw c ab j i b)))=aG s)/\bU (mm n p o m q l k c ab j i a d e f g h b) ⟨0,0,0,0,6⟩ ((de c a b))/\∀(v:T),bV (mm n p o m q l k c ab j i a d e f g h b) ⟨0,0,0,0,6⟩ ((de c a b)) v->bk 5 (v.Y) (t (.tuple []) v)))/\(valid (strOf (List.take (a-0) c)++[UInt8.ofNat (Int.toNat b)])=false->((↑(List.length (Prod.snd (bD d e f g h b))):Int)=0->cF (2^30-8) dr (mj n p o m q l k c ab j i a d e f g h b) ⟨0,0,0,0,6⟩ b/\∀(r:T),cG bad (mj n p o m q l k c ab j i a d e f g h b) ⟨0,0,0,0,6⟩ b r->bk 5 (r.Y) (t (.tuple []) r))/\(¬(↑(List.length (Prod.snd (bD d e f g h b))):Int)=0->cF (2^30-8) dr (mn n p o m q l k c ab j i a d e f g h b) ⟨0,0,0,0,6⟩ b/\∀(r:T),cG bad (mn n p o m q l k c ab j i a d e f g h b) ⟨0,0,0,0,6⟩ b r->bk 5 (r.Y) (t (.tuple []) r)))))) :
 bC 90 [.ptr (ba 0),.int .u8 b] (T.of [bB 0 n 1 (.slice (some ⟨2,ab,0,0,1⟩) a a) p false o m,fk d e f g h q,bL c 1 ab j i bZ,l,k]) t :=
 bI ND (.aq 1005 (ag 1011 (ag 1012 (.aq 1013 (he 4004 (.aq 4005 (ag 6018 (ag 6019 vy)) (ag 6018 (ag 6019 vy)))) (he 4004 Et)))) (he 4004 Et)) w
theorem qp(b:UInt8):dk (b.toNat:Int)=b:=by unfold dk;simp
theorem Eu:∀(ax:Bytes)(j0 j1 j2 j3:Int),ax.length<=4->kC (bF ax 0 j0) (bF ax 1 j1) (bF ax 2 j2) (bF ax 3 j3) ax.length=ax
 |[],_,_,_,_,_=>rfl
 |[a],_,_,_,_,_=>by simp [kC,bF,qp]
 |[a,b],_,_,_,_,_=>by simp [kC,bF,qp]
 |[a,b,c],_,_,_,_,_=>by simp [kC,bF,qp]
 |[a,b,c,d],_,_,_,_,_=>by simp [kC,bF,qp]
 |_::_::_::_::_::_,_,_,_,_,h=>by simp at h
theorem zv(ax:Bytes)(j0 j1 j2 j3:Int)(c:UInt8)(h:ax.length<=4):bD (bF ax 0 j0) (bF ax 1 j1) (bF ax 2 j2) (bF ax 3 j3) ax.length c.toNat=bG ax c:=by unfold bD;rw [Eu ax _ _ _ _ h,qp]
theorem zw(ax:Bytes)(i:Nat)(j:Int)(h:i<ax.length):0<=bF ax i j/\bF ax i j<=255:=by
 have:∃b:UInt8,bF ax i j=(b.toNat:Int):=by unfold bF;rw [c7 h];exact⟨_,rfl⟩
 obtain⟨b,e⟩:=this;have:=b.toNat_lt;rw [e];omega
theorem zx(ax:Bytes)(j0 j1 j2 j3:Int)(c:UInt8)(h:ax.length<=3)(a:(first ax).2.2=true):gp (bF ax 0 j0) (bF ax 1 j1) (bF ax 2 j2) (bF ax 3 j3) ax.length c.toNat where
 az:= V
 au:=λk=>zw _ _ _ V
 aH:=λk=>zw _ _ _ V
 b2:=λk=>zw _ _ _ V
 al:=by have:=c.toNat_lt;omega
 op:= .inr (by rw [Eu ax _ _ _ _ V];exact a)
theorem ll(x:Bytes)(n k:Nat):∃l,List.take n (List.drop k (aG x))=aG l:=⟨(x.drop k).take n,by simp [aG,List.map_drop,List.map_take]⟩
theorem jW(x:Bytes)(c:UInt8):aG x++[J.int .u8 c.toNat]=aG (x++[c]):=by simp [aG]
theorem vA(x:Bytes)(c:UInt8)(n k:Nat):∃l,List.take n (List.drop k (aG x++[J.int .u8 c.toNat]))=aG l:=by rw [jW];exact ll _ _ _
theorem kJ(x:Bytes):(aG x).length=x.length:=by simp [aG]
theorem vB(x:Bytes)(c:UInt8):(aG x++[J.int .u8 c.toNat]).length=x.length+1:=by simp [aG]
theorem zy(x:Bytes)(n k:Nat)(h:n=(x.drop k).length):List.take n (List.drop k (aG x))=aG (x.drop k):=by
 subst h;have:=si (x.drop k)
 rwa [show aG (List.drop k x)=List.drop k (aG x)by simp [aG,List.map_drop]]at this⊢
theorem zz(x:Bytes):strOf (List.take (x.length-1) (List.drop 1 (aG x)))=x.drop 1:=by rw [zy _ _ _ an,hb]
theorem zA(x:Bytes):strOf (List.take (x.length-0) (aG x))=x:=by rw [n8,si,hb]
theorem zB(x:Bytes)(c:UInt8):strOf (List.take (x.length+1-1) (List.drop 1 (List.append (aG x) [J.int .u8 c.toNat])))=(x++[c]).drop 1:=by show strOf (List.take _ (List.drop 1 (aG x++_)))=_;rw [jW,zy _ _ _ an,hb]
theorem vC(x:Bytes)(c:UInt8):strOf (List.take (x.length+1-0) (List.drop 0 (List.append (aG x) [J.int .u8 c.toNat])))=x++[c]:=by show strOf (List.take _ (List.drop 0 (aG x++_)))=_;rw [jW,zy _ _ _ an,hb];rfl
theorem vD(x:Bytes)(c:UInt8):strOf (List.take (x.length+1) (List.drop 0 (List.append (aG x) [J.int .u8 c.toNat])))=x++[c]:=vC x c
theorem oU{D aV K P O:ac}{h:T}{f:Nat}{pv ov b3:J}{ty uty:bj}{ab m j len:Nat}{l:List J}{ai ax aw:Bytes}{es:List aP}{e:aP}{a:bO}{j0 j1 j2 j3:Int}(b:Nat.ble 5 h.Y=true)(e0:h.get 0=some (bB 0 f 1 (.slice (some ⟨2,ab,0,0,1⟩) len len) pv false ov ty))(aI:h.get 1=some (bJ ax j0 j1 j2 j3 uty))
 (aO:h.get 2=some (bL l 1 ab m j bZ)) (d:h.get 3=some P) (i:h.get 4=some O) (hlen:len=ai.length) (hle:l=aG ai) (ae:gM (T.of [D,aV,K,P,O]) 0 a.p pv aw) (t:gN (T.of [D,aV,K,P,O]) 0 a.o ov es) (n:a.u=1/\(a.k=0\/a.k=2)/\(a.p=0\/a.p=3)/\(a.o=0\/a.o=4)) (c:a.k=2)
 (he:b3=bi e) (r:es.length<2^30) (s:ax.length<=4) {R:T->Prop} (q:∀ad aC,bS ad 0 aC ⟨.ground,[],ax,aw⟩ (es++[e])->Fr (T.of [D,aV,K,P,O]) ad 0 a aC->R ad) :
 bU h ⟨0,0,0,0,6⟩ b3/\∀ad,bV h ⟨0,0,0,0,6⟩ b3 ad->_root_.cond (Nat.ble 5 ad.Y) (R ad) False:=by
 have b:=hC b;exact oP rfl b (gq rfl b e0 aI (.inr c) d i (kE aA hlen hle aO) V ae t n (.inr (.inr ⟨rfl,c⟩))) he r s λad aC g b6=>q ad aC (se g) b6
theorem nF{D aV K P O:ac}{h:T}{pv ov:J}{ty uty:bj}{ab m g:Nat}{ai aw:Bytes}{es:List aP}{a:bO}{j0 j1 j2 j3:Int}{c:UInt8}(b:Nat.ble 5 h.Y=true)(e0:h.get 0=some (bB 0 (b1 .cd) 1 (.slice (some ⟨2,ab,0,0,1⟩) ai.length ai.length) pv false ov ty))(aI:h.get 1=some (bJ [] j0 j1 j2 j3 uty))
 (aO:h.get 2=some (bL (aG ai) 1 ab m g bZ)) (e:h.get 3=some P) (f:h.get 4=some O) (n:ai≠[]) (ae:gM (T.of [D,aV,K,P,O]) 0 a.p pv aw) (q:gN (T.of [D,aV,K,P,O]) 0 a.o ov es) (i:a.u=1/\(a.k=0\/a.k=2)/\(a.p=0\/a.p=3)/\(a.o=0\/a.o=4)) (d:a.k=2)
 (l:es.length<2^30-8) {R:T->Prop} (j:∀ad aC,bS ad 0 aC (Keys.bad ⟨.cd,ai,[],aw⟩ c).1 (es++(Keys.bad ⟨.cd,ai,[],aw⟩ c).2)->Fr (T.of [D,aV,K,P,O]) ad 0 a aC->R ad) :
 cF (2^30-8) dr h ⟨0,0,0,0,6⟩ c.toNat/\∀ad,cG Keys.bad h ⟨0,0,0,0,6⟩ c.toNat ad->_root_.cond (Nat.ble 5 ad.Y) (R ad) False:=by
 have b:=hC b;exact sg (s:=⟨.cd,ai,[],aw⟩) rfl b (vu (ks:= .grown []) (gq rfl b e0 aI (.inr d) e f (kE aA rfl rfl aO) V ae q i (.inr (.inr ⟨rfl,d⟩))) n) l an ⟨rfl,.inl rfl⟩ j
theorem NI{D aV K P O:ac}{h:T}{pv ov:J}{ty uty:bj}{ab m f len:Nat}{l:List J}{ai ax aw:Bytes}{es:List aP}{a:bO}{j0 j1 j2 j3:Int}(b:Nat.ble 5 h.Y=true)(e0:h.get 0=some (bB 0 (b1 .cd) 1 (.slice (some ⟨2,ab,0,0,1⟩) len len) pv false ov ty))(aI:h.get 1=some (bJ ax j0 j1 j2 j3 uty))
 (aO:h.get 2=some (bL l 1 ab m f bZ)) (d:h.get 3=some P) (e:h.get 4=some O) (hlen:len=ai.length) (hle:l=aG ai) (i:ai≠[]) (ae:gM (T.of [D,aV,K,P,O]) 0 a.p pv aw) (j:gN (T.of [D,aV,K,P,O]) 0 a.o ov es) (g:a.u=1/\(a.k=0\/a.k=2)/\(a.p=0\/a.p=3)/\(a.o=0\/a.o=4)) (c:a.k=2) :
 ∃aC,bS h 0 aC ⟨.cd,ai,ax,aw⟩ es/\Fr (T.of [D,aV,K,P,O]) h 0 a aC:=by
 have b:=hC b;exact li (s:=⟨.cd,ai,ax,aw⟩) (ks:= .grown []) (gq rfl b e0 aI (.inr c) d e (kE aA hlen hle aO) V ae j g (.inr (.inr ⟨rfl,c⟩))) i
set_option maxHeartbeats 4000000
theorem nv{b:Bool}(h:b=true)(k:b=false):False:=by rw [h]at k;cases k
set_option hygiene false in
theorem NJ{pv ov:J}{ty uty:bj}{P O:ac}{ai ax:Bytes}{c:UInt8}{j0 j1 j2 j3:Int}{ab m d:Nat}{x:UInt8}{t:Bytes}(a:ai=x::t)(j:ax.length<=3)(k:(first ax).2.2=true)(z:(bG ax c).1=[])(hlen:ai.length=at' ai+ax.length)(w:0<ax.length)(aN:¬(0:Int)<(bG ax c).2.length->False)(b:bm)
 (g:∀{h:T},Nat.ble 5 h.Y=true->h.get 0=some (bB 0 (b1 .cd) 1 (.slice (some ⟨2,ab+1,0,0,1⟩) (ai.length+1) (ai.length+1)) pv false ov ty)->h.get 1=some (bJ (bG ax c).2 (bF ax 0 j0) (bF ax 1 j1) (bF ax 2 j2) (bF ax 3 j3) uty)->h.get 2=some (bL (aG ai++[.int .u8 c.toNat]) 1 (ab+1) m (if m=ab then(aG ai).length else min d (aG ai).length) bZ)->h.get 3=some P->h.get 4=some O->b (.tuple []) h) :
 ∃v ad,bu 90 [.ptr (some ⟨0,0,0,0,6⟩),.int .u8 c.toNat] (T.of [bB 0 (b1 .cd) 1 (.slice (some ⟨2,ab,0,0,1⟩) ai.length ai.length) pv false ov ty,bJ ax j0 j1 j2 j3 uty,bL (aG ai) 1 ab m d bZ,P,O]) v ad/\b v ad:=by
 refine NF (b1 .cd) pv ov ty uty P O (aG ai) ab m d ai.length (bF ax 0 j0) (bF ax 1 j1) (bF ax 2 j2) (bF ax 3 j3) ax.length c.toNat b ?_
 delta st cl dd lk vx fw qo qn dw sr fa oM de ss cw fx sq sp
 have ah:aL (aG ai) 0=x.toNat:=by rw [a];rfl
 have n:(aG ai)[0]? =some (J.int .u8 x.toNat):=by rw [a];rfl
 have u:ai.length<=4:=by
  have:at' ai<=1:=by unfold at';split<;>(try split)<;>omega
  omega
 have s:0<ai.length:= V;have i:(ai++[c]).drop 1=ai.drop 1++[c]:=by rw [a];rfl
 have q:=kJ ai;have r:=vB ai c;have y:=zx ax j0 j1 j2 j3 c j k
 have p:(x.toNat:Int)=27->(ai.length:Int)=1->False:=λe aI=>by
  have l:x=27:=fq.1 (by show x.toNat=27;omega);have:at' ai=1:=by rw [a,l];rfl
  omega
 have o:(ai.length:Int)=0->False:=λe=> V
 have f:¬(0:Int)<ai.length->False:=λe=> V
 rw [zv ax j0 j1 j2 j3 c V];simp only [zz,zA,zB,vC,vD,lj,i,ah];refine⟨?_,λe=>(f e).elim⟩
 repeat' (first
  |assumption
  |exact g ar ar ar ar ar ar
  |exact(aN (by assumption)).elim
  |intro _
  |refine And.intro ?_ ?_
  |exact True.intro
  |assumption
  |rfl
  |omega
  |exact ll _ _ _
  |exact vA _ _ _ _
  |(simp only [dt,ep,b',dx,kJ];omega)
  |(refine mK ?_;simp only [dt,ep,b',dx,kJ];omega))
set_option maxHeartbeats 4000000
set_option hygiene false in
theorem NK{pv ov:J}{ty uty:bj}{P O:ac}{ai ax:Bytes}{c:UInt8}{j0 j1 j2 j3:Int}{ab m b:Nat}{x:UInt8}{t:Bytes}(d:ai=x::t)(s:ax.length<=3)(u:(first ax).2.2=true)(f:(bG ax c).1.length=1)(hlen:ai.length=at' ai+ax.length)(D:0<ax.length)(a:bm)
 (q:∀{h:T}{b3:J},x.toNat=27->valid (ai.drop 1++[c])=true->Nat.ble 5 h.Y=true->h.get 0=some (bB 0 (b1 .cd) 1 (.slice (some ⟨2,ab+1,0,0,1⟩) (ai.length+1) (ai.length+1)) pv false ov ty)->h.get 1=some (bJ (bG ax c).2 (bF ax 0 j0) (bF ax 1 j1) (bF ax 2 j2) (bF ax 3 j3) uty)->h.get 2=some (bL (aG ai++[.int .u8 c.toNat]) 1 (ab+1) m (if m=ab then(aG ai).length else min b (aG ai).length) bZ)->h.get 3=some P->h.get 4=some O->b3=bi (dq ((bG ax c).1.getD 0 0) 2)->bU h ⟨0,0,0,0,6⟩ b3/\∀ad,bV h ⟨0,0,0,0,6⟩ b3 ad->_root_.cond (Nat.ble 5 ad.Y) (a (.tuple []) ad) False)
 (i:∀{h:T},x.toNat=27->valid (ai.drop 1++[c])=false->((bG ax c).2.length:Int)=0->Nat.ble 5 h.Y=true->h.get 0=some (bB 0 (b1 .cd) 1 (.slice (some ⟨2,ab,0,0,1⟩) ai.length ai.length) pv false ov ty)->h.get 1=some (bJ (bG ax c).2 (bF ax 0 j0) (bF ax 1 j1) (bF ax 2 j2) (bF ax 3 j3) uty)->h.get 2=some (bL (aG ai) 1 ab m b bZ)->h.get 3=some P->h.get 4=some O->cF (2^30-8) dr h ⟨0,0,0,0,6⟩ c.toNat/\∀ad,cG Keys.bad h ⟨0,0,0,0,6⟩ c.toNat ad->_root_.cond (Nat.ble 5 ad.Y) (a (.tuple []) ad) False)
 (k:∀{h:T},x.toNat=27->valid (ai.drop 1++[c])=false-> ¬((bG ax c).2.length:Int)=0->Nat.ble 5 h.Y=true->h.get 0=some (bB 0 (b1 .cd) 1 (.slice (some ⟨2,ab,0,0,1⟩) ai.length ai.length) pv false ov ty)->h.get 1=some (bJ [] (bF (bG ax c).2 0 (bF ax 0 j0)) (bF (bG ax c).2 1 (bF ax 1 j1)) (bF (bG ax c).2 2 (bF ax 2 j2)) (bF (bG ax c).2 3 (bF ax 3 j3)) uty)->h.get 2=some (bL (aG ai) 1 ab m b bZ)->h.get 3=some P->h.get 4=some O->cF (2^30-8) dr h ⟨0,0,0,0,6⟩ c.toNat/\∀ad,cG Keys.bad h ⟨0,0,0,0,6⟩ c.toNat ad->_root_.cond (Nat.ble 5 ad.Y) (a (.tuple []) ad) False)
 (p:∀{h:T}{b3:J},x.toNat≠27->valid (ai++[c])=true->Nat.ble 5 h.Y=true->h.get 0=some (bB 0 (b1 .cd) 1 (.slice (some ⟨2,ab+1,0,0,1⟩) (ai.length+1) (ai.length+1)) pv false ov ty)->h.get 1=some (bJ (bG ax c).2 (bF ax 0 j0) (bF ax 1 j1) (bF ax 2 j2) (bF ax 3 j3) uty)->h.get 2=some (bL (aG ai++[.int .u8 c.toNat]) 1 (ab+1) m (if m=ab then(aG ai).length else min b (aG ai).length) bZ)->h.get 3=some P->h.get 4=some O->b3=bi (dq ((bG ax c).1.getD 0 0) 0)->bU h ⟨0,0,0,0,6⟩ b3/\∀ad,bV h ⟨0,0,0,0,6⟩ b3 ad->_root_.cond (Nat.ble 5 ad.Y) (a (.tuple []) ad) False)
 (g:∀{h:T},x.toNat≠27->valid (ai++[c])=false->((bG ax c).2.length:Int)=0->Nat.ble 5 h.Y=true->h.get 0=some (bB 0 (b1 .cd) 1 (.slice (some ⟨2,ab,0,0,1⟩) ai.length ai.length) pv false ov ty)->h.get 1=some (bJ (bG ax c).2 (bF ax 0 j0) (bF ax 1 j1) (bF ax 2 j2) (bF ax 3 j3) uty)->h.get 2=some (bL (aG ai) 1 ab m b bZ)->h.get 3=some P->h.get 4=some O->cF (2^30-8) dr h ⟨0,0,0,0,6⟩ c.toNat/\∀ad,cG Keys.bad h ⟨0,0,0,0,6⟩ c.toNat ad->_root_.cond (Nat.ble 5 ad.Y) (a (.tuple []) ad) False)
 (j:∀{h:T},x.toNat≠27->valid (ai++[c])=false-> ¬((bG ax c).2.length:Int)=0->Nat.ble 5 h.Y=true->h.get 0=some (bB 0 (b1 .cd) 1 (.slice (some ⟨2,ab,0,0,1⟩) ai.length ai.length) pv false ov ty)->h.get 1=some (bJ [] (bF (bG ax c).2 0 (bF ax 0 j0)) (bF (bG ax c).2 1 (bF ax 1 j1)) (bF (bG ax c).2 2 (bF ax 2 j2)) (bF (bG ax c).2 3 (bF ax 3 j3)) uty)->h.get 2=some (bL (aG ai) 1 ab m b bZ)->h.get 3=some P->h.get 4=some O->cF (2^30-8) dr h ⟨0,0,0,0,6⟩ c.toNat/\∀ad,cG Keys.bad h ⟨0,0,0,0,6⟩ c.toNat ad->_root_.cond (Nat.ble 5 ad.Y) (a (.tuple []) ad) False) :
 ∃v ad,bu 90 [.ptr (some ⟨0,0,0,0,6⟩),.int .u8 c.toNat] (T.of [bB 0 (b1 .cd) 1 (.slice (some ⟨2,ab,0,0,1⟩) ai.length ai.length) pv false ov ty,bJ ax j0 j1 j2 j3 uty,bL (aG ai) 1 ab m b bZ,P,O]) v ad/\a v ad:=by
 refine NG (b1 .cd) pv ov ty uty P O (aG ai) ab m b ai.length (bF ax 0 j0) (bF ax 1 j1) (bF ax 2 j2) (bF ax 3 j3) ax.length c.toNat a ?_
 delta mh hd cl dd lk vx fw qo qn dw mb fa oM de mg cw fx sq sp et mf me mc sA su sy f' sx sw sv
 have ah:aL (aG ai) 0=x.toNat:=by rw [d];rfl
 have y:(aG ai)[0]? =some (J.int .u8 x.toNat):=by rw [d];rfl
 have C:ai.length<=4:=by
  have:at' ai<=1:=by unfold at';split<;>(try split)<;>omega
  omega
 have B:0<ai.length:= V;have r:(ai++[c]).drop 1=ai.drop 1++[c]:=by rw [d];rfl
 have z:=kJ ai;have A:=vB ai c;have E:=zx ax j0 j1 j2 j3 c s u;have F:¬(bG ax c).1=[]:=λe=>by rw [e]at f;simp at f
 have n:(x.toNat:Int)=27->(ai.length:Int)=1->False:=λe aI=>by
  have w:x=27:=fq.1 (by show x.toNat=27;omega);have:at' ai=1:=by rw [d,w];rfl
  omega
 have l:(ai.length:Int)=0->False:=λe=> V
 have o:¬(0:Int)<ai.length->False:=λe=> V
 rw [zv ax j0 j1 j2 j3 c V];simp only [zz,zA,zB,vC,vD,lj,r,ah];refine⟨?_,λe=>(o e).elim⟩
 repeat' (first
  |assumption
  |exact q V (by assumption) ar ar ar ar ar ar rfl
  |exact i V (by assumption) (by assumption) ar ar ar ar ar ar
  |exact k V (by assumption) (by assumption) ar ar ar ar ar ar
  |exact(nv ‹valid (ai.drop 1++[c])=true› ‹valid (ai.drop 1++[c])=false›).elim
  |exact p V (by assumption) ar ar ar ar ar ar rfl
  |exact g V (by assumption) (by assumption) ar ar ar ar ar ar
  |exact j V (by assumption) (by assumption) ar ar ar ar ar ar
  |exact(nv ‹valid (ai++[c])=true› ‹valid (ai++[c])=false›).elim
  |exact(n (by assumption) (by assumption)).elim
  |exact(l (by assumption)).elim
  |intro _
  |refine And.intro ?_ ?_
  |exact True.intro
  |assumption
  |rfl
  |omega
  |exact ll _ _ _
  |exact vA _ _ _ _
  |(simp only [dt,ep,b',dx,kJ];omega)
  |(refine mK ?_;simp only [dt,ep,b',dx,kJ];omega))
set_option maxHeartbeats 4000000
set_option hygiene false in
theorem NL{pv ov:J}{ty uty:bj}{P O:ac}{ai ax:Bytes}{c:UInt8}{j0 j1 j2 j3:Int}{ab m b:Nat}{x:UInt8}{t:Bytes}(d:ai=x::t)(r:ax.length<=3)(s:(first ax).2.2=true)(F:(bG ax c).1≠[])(E:(bG ax c).1.length≠1)(hlen:ai.length=at' ai+ax.length)(C:0<ax.length)(a:bm)
 (p:∀{h:T}{b3:J},x.toNat=27->valid (ai.drop 1++[c])=true->Nat.ble 5 h.Y=true->h.get 0=some (bB 0 (b1 .cd) 1 (.slice (some ⟨2,ab+1,0,0,1⟩) (ai.length+1) (ai.length+1)) pv false ov ty)->h.get 1=some (bJ (bG ax c).2 (bF ax 0 j0) (bF ax 1 j1) (bF ax 2 j2) (bF ax 3 j3) uty)->h.get 2=some (bL (aG ai++[.int .u8 c.toNat]) 1 (ab+1) m (if m=ab then(aG ai).length else min b (aG ai).length) bZ)->h.get 3=some P->h.get 4=some O->b3=bi (dq ((bG ax c).1.getD 0 0) 2)->bU h ⟨0,0,0,0,6⟩ b3/\∀ad,bV h ⟨0,0,0,0,6⟩ b3 ad->_root_.cond (Nat.ble 5 ad.Y) (a (.tuple []) ad) False)
 (g:∀{h:T},x.toNat=27->valid (ai.drop 1++[c])=false->((bG ax c).2.length:Int)=0->Nat.ble 5 h.Y=true->h.get 0=some (bB 0 (b1 .cd) 1 (.slice (some ⟨2,ab,0,0,1⟩) ai.length ai.length) pv false ov ty)->h.get 1=some (bJ (bG ax c).2 (bF ax 0 j0) (bF ax 1 j1) (bF ax 2 j2) (bF ax 3 j3) uty)->h.get 2=some (bL (aG ai) 1 ab m b bZ)->h.get 3=some P->h.get 4=some O->cF (2^30-8) dr h ⟨0,0,0,0,6⟩ c.toNat/\∀ad,cG Keys.bad h ⟨0,0,0,0,6⟩ c.toNat ad->_root_.cond (Nat.ble 5 ad.Y) (a (.tuple []) ad) False)
 (j:∀{h:T},x.toNat=27->valid (ai.drop 1++[c])=false-> ¬((bG ax c).2.length:Int)=0->Nat.ble 5 h.Y=true->h.get 0=some (bB 0 (b1 .cd) 1 (.slice (some ⟨2,ab,0,0,1⟩) ai.length ai.length) pv false ov ty)->h.get 1=some (bJ [] (bF (bG ax c).2 0 (bF ax 0 j0)) (bF (bG ax c).2 1 (bF ax 1 j1)) (bF (bG ax c).2 2 (bF ax 2 j2)) (bF (bG ax c).2 3 (bF ax 3 j3)) uty)->h.get 2=some (bL (aG ai) 1 ab m b bZ)->h.get 3=some P->h.get 4=some O->cF (2^30-8) dr h ⟨0,0,0,0,6⟩ c.toNat/\∀ad,cG Keys.bad h ⟨0,0,0,0,6⟩ c.toNat ad->_root_.cond (Nat.ble 5 ad.Y) (a (.tuple []) ad) False)
 (o:∀{h:T}{b3:J},x.toNat≠27->valid (ai++[c])=true->Nat.ble 5 h.Y=true->h.get 0=some (bB 0 (b1 .cd) 1 (.slice (some ⟨2,ab+1,0,0,1⟩) (ai.length+1) (ai.length+1)) pv false ov ty)->h.get 1=some (bJ (bG ax c).2 (bF ax 0 j0) (bF ax 1 j1) (bF ax 2 j2) (bF ax 3 j3) uty)->h.get 2=some (bL (aG ai++[.int .u8 c.toNat]) 1 (ab+1) m (if m=ab then(aG ai).length else min b (aG ai).length) bZ)->h.get 3=some P->h.get 4=some O->b3=bi (dq ((bG ax c).1.getD 0 0) 0)->bU h ⟨0,0,0,0,6⟩ b3/\∀ad,bV h ⟨0,0,0,0,6⟩ b3 ad->_root_.cond (Nat.ble 5 ad.Y) (a (.tuple []) ad) False)
 (f:∀{h:T},x.toNat≠27->valid (ai++[c])=false->((bG ax c).2.length:Int)=0->Nat.ble 5 h.Y=true->h.get 0=some (bB 0 (b1 .cd) 1 (.slice (some ⟨2,ab,0,0,1⟩) ai.length ai.length) pv false ov ty)->h.get 1=some (bJ (bG ax c).2 (bF ax 0 j0) (bF ax 1 j1) (bF ax 2 j2) (bF ax 3 j3) uty)->h.get 2=some (bL (aG ai) 1 ab m b bZ)->h.get 3=some P->h.get 4=some O->cF (2^30-8) dr h ⟨0,0,0,0,6⟩ c.toNat/\∀ad,cG Keys.bad h ⟨0,0,0,0,6⟩ c.toNat ad->_root_.cond (Nat.ble 5 ad.Y) (a (.tuple []) ad) False)
 (i:∀{h:T},x.toNat≠27->valid (ai++[c])=false-> ¬((bG ax c).2.length:Int)=0->Nat.ble 5 h.Y=true->h.get 0=some (bB 0 (b1 .cd) 1 (.slice (some ⟨2,ab,0,0,1⟩) ai.length ai.length) pv false ov ty)->h.get 1=some (bJ [] (bF (bG ax c).2 0 (bF ax 0 j0)) (bF (bG ax c).2 1 (bF ax 1 j1)) (bF (bG ax c).2 2 (bF ax 2 j2)) (bF (bG ax c).2 3 (bF ax 3 j3)) uty)->h.get 2=some (bL (aG ai) 1 ab m b bZ)->h.get 3=some P->h.get 4=some O->cF (2^30-8) dr h ⟨0,0,0,0,6⟩ c.toNat/\∀ad,cG Keys.bad h ⟨0,0,0,0,6⟩ c.toNat ad->_root_.cond (Nat.ble 5 ad.Y) (a (.tuple []) ad) False) :
 ∃v ad,bu 90 [.ptr (some ⟨0,0,0,0,6⟩),.int .u8 c.toNat] (T.of [bB 0 (b1 .cd) 1 (.slice (some ⟨2,ab,0,0,1⟩) ai.length ai.length) pv false ov ty,bJ ax j0 j1 j2 j3 uty,bL (aG ai) 1 ab m b bZ,P,O]) v ad/\a v ad:=by
 refine NH (b1 .cd) pv ov ty uty P O (aG ai) ab m b ai.length (bF ax 0 j0) (bF ax 1 j1) (bF ax 2 j2) (bF ax 3 j3) ax.length c.toNat a ?_
 delta mn mi cl dd lk vx fw qo qn dw mj fa oM de mm cw fx sq sp et ml sE sB sD f' sC
 have ah:aL (aG ai) 0=x.toNat:=by rw [d];rfl
 have w:(aG ai)[0]? =some (J.int .u8 x.toNat):=by rw [d];rfl
 have B:ai.length<=4:=by
  have:at' ai<=1:=by unfold at';split<;>(try split)<;>omega
  omega
 have A:0<ai.length:= V;have q:(ai++[c]).drop 1=ai.drop 1++[c]:=by rw [d];rfl
 have y:=kJ ai;have z:=vB ai c;have D:=zx ax j0 j1 j2 j3 c r s
 have l:(x.toNat:Int)=27->(ai.length:Int)=1->False:=λe aI=>by
  have u:x=27:=fq.1 (by show x.toNat=27;omega);have:at' ai=1:=by rw [d,u];rfl
  omega
 have k:(ai.length:Int)=0->False:=λe=> V
 have n:¬(0:Int)<ai.length->False:=λe=> V
 rw [zv ax j0 j1 j2 j3 c V];simp only [zz,zA,zB,vC,vD,lj,q,ah];refine⟨?_,λe=>(n e).elim⟩
 repeat' (first
  |assumption
  |exact p V (by assumption) ar ar ar ar ar ar rfl
  |exact g V (by assumption) (by assumption) ar ar ar ar ar ar
  |exact j V (by assumption) (by assumption) ar ar ar ar ar ar
  |exact(nv ‹valid (ai.drop 1++[c])=true› ‹valid (ai.drop 1++[c])=false›).elim
  |exact o V (by assumption) ar ar ar ar ar ar rfl
  |exact f V (by assumption) (by assumption) ar ar ar ar ar ar
  |exact i V (by assumption) (by assumption) ar ar ar ar ar ar
  |exact(nv ‹valid (ai++[c])=true› ‹valid (ai++[c])=false›).elim
  |exact(l (by assumption) (by assumption)).elim
  |exact(k (by assumption)).elim
  |intro _
  |refine And.intro ?_ ?_
  |exact True.intro
  |assumption
  |rfl
  |omega
  |exact ll _ _ _
  |exact vA _ _ _ _
  |(simp only [dt,ep,b',dx,kJ];omega)
  |(refine mK ?_;simp only [dt,ep,b',dx,kJ];omega))
theorem Ev:∀(k:Nat)(s:Bytes),(fj k s).2.length<=s.length
 |0,s=>by simp [fj]
 |k+1,[]=>by simp [fj]
 |k +1,b::r=>by
  unfold fj;split
  .exact Nat.le_refl _
  .refine Nat.le_trans (Ev k _) ?_;rw [ep];omega
theorem NM(ax:Bytes)(c:UInt8):(bG ax c).2.length<=ax.length+1:=by have:=Ev (ax.length+1) (ax++[c]);rw [dt]at this;exact this
theorem Ew(ax:Bytes)(c:UInt8)(h:(bG ax c).1=[]):0<(bG ax c).2.length:=by
 unfold bG at h⊢;cases hs:ax++[c]with
 |nil=>simp at hs
 |cons b r =>
  rw [hs]at h;unfold fj at h⊢;split
  .simp
  .rename_i e;rw [ap e]at h;simp at h
theorem NN{ai ax aw:Bytes}{c:UInt8}(h:(bG ax c).1=[]):Keys.cd ⟨.cd,ai,ax,aw⟩ c=(⟨.cd,ai++[c],(bG ax c).2,aw⟩,[]):=by
 have h2:=Ew ax c h;have a:(bG ax c).2≠[]:=λe=>by rw [e]at h2;simp at h2
 simp [Keys.cd,eZ,h,a]
theorem Ex{ai ax aw:Bytes}{c:UInt8}{a:Nat}(b:at' ai=a)(h:(bG ax c).1≠[])(f:valid (ai.drop a++[c])=true)(d:(ai++[c]).drop a=ai.drop a++[c]):Keys.cd ⟨.cd,ai,ax,aw⟩ c=(⟨.ground,[],(bG ax c).2,aw⟩,[dq ((bG ax c).1.getD 0 0) (2*a)]):=by
 subst b;have e:(bG ax c).1.headD 0=(bG ax c).1.getD 0 0:=by cases (bG ax c).1<;>rfl
 unfold Keys.cd eZ;simp only [h,and_false,ey,f,or_true,dy,d,tell,e]
theorem Ey{ai ax aw:Bytes}{c:UInt8}{a:Nat}(b:at' ai=a)(h:(bG ax c).1≠[])(d:ai.length≠a)(e:valid (ai.drop a++[c])=false):Keys.cd ⟨.cd,ai,ax,aw⟩ c=Keys.bad ⟨.cd,ai,[],aw⟩ c:=by subst b;unfold Keys.cd eZ;simp [h,e,d]
def sF(s:bq)(c:UInt8):Prop:=s.nx=.cd/\s.ax=s.ai.drop (at' s.ai)/\0<s.ax.length/\s.ax.length<=3/\(first s.ax).2.2=true
theorem NO{H:T}{d:Nat}{I:bO}{s:bq}{es:List aP}{c:UInt8}(g:bS H d I s es)(z:es.length<2^30-8)(a3:sF s c):∃H',bu 90 [.ptr (some ⟨d,0,0,0,6⟩),.int .u8 c.toNat] H (.tuple []) H' /\
 ∃aC,bS H' d aC (Keys.cd s c).1 (es++(Keys.cd s c).2)/\Fr H H' d I aC:=by
 refine oR ?_ g;intro ks kv pv ov ty uty j0 j1 j2 j3 K P O B hs gs u;obtain⟨a0,ae,p⟩:=kH gs;obtain⟨nx,ai,ax,aw⟩:=s;obtain⟨aa,L,N,M,Q⟩:=a3;simp only at aa L N M Q hs gs a0 ae p⊢;subst aa
 have a5:ks=.grown []:=by
  cases ks with
  |grown j=>cases j with
   |nil=>rfl
   |cons a b=>exact hs.elim
  |_=>exact hs.elim
 subst a5;have y:ai≠[]:=hs
 obtain⟨x,t,C⟩:∃x t,ai=x::t:=by
  cases ai with
  |nil=>exact absurd rfl y
  |cons x t=>exact⟨x,t,rfl⟩
 obtain⟨bn,ab,m,G,rfl,X⟩:=a0;have r:B.k=2:= V;rw [r,T.dG]at X;simp only [fe,hj,a6,eg]at X;subst X;rw [r]at ae p⊢;simp only [dx]at ae p⊢;have a9:at' ai<=1:=by unfold at';split<;>(try split)<;>omega
 have av:at' ai=if x=27 then 1 else 0:=by rw [C];rfl
 have hlen:ai.length=at' ai+ax.length:=by
  rw [L,ep];have:0<ai.length:=by rw [C];simp
  omega
 have R:(bG ax c).2.length<=4:=by have:=NM ax c;omega
 have W:x.toNat=27->at' ai=1:=λe=>by have:x=27:=fq.1 (by show x.toNat=27;exact e);rw [av,aE this]
 have U:x.toNat≠27->at' ai=0:=λe=>by rw [av,ap (by rintro rfl;exact e rfl)]
 have a4:(ai++[c]).drop 1=ai.drop 1++[c]:=by rw [C];rfl
 have S:((bG ax c).2.length:Int)=0->(bG ax c).2=[]:=λe=>mI V
 have fin:∀{D:bq×List aP},(∃v ad,bu 90 [.ptr (some ⟨0,0,0,0,6⟩),.int .u8 c.toNat] (T.of [bB 0 (b1 .cd) 1 (.slice (some ⟨2,ab,0,0,1⟩) ai.length ai.length) pv false ov ty,bJ ax j0 j1 j2 j3 uty,bL (aG ai) 1 ab m G bZ,P,O]) v ad /\
  (v=.tuple []/\∃aC,bS ad 0 aC D.1 (es++D.2)/\Fr (T.of [bB 0 (b1 .cd) 1 (.slice (some ⟨2,ab,0,0,1⟩) ai.length ai.length) pv false ov ty,bJ ax j0 j1 j2 j3 uty,bL (aG ai) 1 ab m G bZ,P,O]) ad 0 B aC)) ->
  ∃ad,bu 90 [.ptr (some ⟨0,0,0,0,6⟩),.int .u8 c.toNat] (T.of [bB 0 (b1 .cd) 1 (.slice (some ⟨2,ab,0,0,1⟩) ai.length ai.length) pv false ov ty,bJ ax j0 j1 j2 j3 uty,bL (aG ai) 1 ab m G bZ,P,O]) (.tuple []) ad/\∃aC,bS ad 0 aC D.1 (es++D.2)/\Fr (T.of [bB 0 (b1 .cd) 1 (.slice (some ⟨2,ab,0,0,1⟩) ai.length ai.length) pv false ov ty,bJ ax j0 j1 j2 j3 uty,bL (aG ai) 1 ab m G bZ,P,O]) ad 0 B aC:=by
  rintro D ⟨v,ad,L,rfl,q⟩;exact⟨ad,L,q⟩
 by_cases A:(bG ax c).1=[]
 .rw [NN (ai:=ai) (aw:=aw) A];refine fin (NJ C M Q A hlen N (λe=>e (by have:=Ew ax c A;omega)) (λv ad=>v=.tuple []/\∃aC,bS ad 0 aC _ (es++_)/\Fr _ ad 0 B aC) ?_);intro h o e0 aI aO l n;refine⟨rfl,?_⟩;rw [fV];exact NI (ai:=ai++[c]) o e0 aI aO l n an (jW _ _) an ae p u r
 .have am:x.toNat=27->valid (ai.drop 1++[c])=true->_:=λf i=>Ex (aw:=aw) (ax:=ax) (W f) A i a4
  have Z:x.toNat≠27->valid (ai++[c])=true->_:=λf i=>Ex (aw:=aw) (ax:=ax) (U f) A i rfl
  have F:x.toNat=27->valid (ai.drop 1++[c])=false->_:=λf i=>Ey (aw:=aw) (ax:=ax) (W f) A (by have:=W f;omega) i
  have E:x.toNat≠27->valid (ai++[c])=false->_:=λf i=>Ey (aw:=aw) (ax:=ax) (U f) A (by have:=U f;omega) i
  by_cases a2:(bG ax c).1.length=1
  .refine fin (NK C M Q a2 hlen N (λv ad=>v=.tuple []/\∃aC,bS ad 0 aC (Keys.cd ⟨.cd,ai,ax,aw⟩ c).1 (es++(Keys.cd ⟨.cd,ai,ax,aw⟩ c).2)/\Fr _ ad 0 B aC) ?_ ?_ ?_ ?_ ?_ ?_)
   .intro h b3 f i o e0 aI aO l n he;exact oU (ai:=ai++[c]) o e0 aI aO l n an (jW _ _) ae p u r he V R λad aC g b6=>⟨rfl,aC,by rw [am f i];exact g,b6⟩
   .intro h f i w o e0 aI aO l n;rw [S w]at aI;exact nF o e0 aI aO l n y ae p u r z λad aC g b6=>⟨rfl,aC,by rw [F f i];exact g,b6⟩
   .intro h f i w o e0 aI aO l n;exact nF o e0 aI aO l n y ae p u r z λad aC g b6=>⟨rfl,aC,by rw [F f i];exact g,b6⟩
   .intro h b3 f i o e0 aI aO l n he;exact oU (ai:=ai++[c]) o e0 aI aO l n an (jW _ _) ae p u r he V R λad aC g b6=>⟨rfl,aC,by rw [Z f i];exact g,b6⟩
   .intro h f i w o e0 aI aO l n;rw [S w]at aI;exact nF o e0 aI aO l n y ae p u r z λad aC g b6=>⟨rfl,aC,by rw [E f i];exact g,b6⟩
   .intro h f i w o e0 aI aO l n;exact nF o e0 aI aO l n y ae p u r z λad aC g b6=>⟨rfl,aC,by rw [E f i];exact g,b6⟩
  .refine fin (NL C M Q A a2 hlen N (λv ad=>v=.tuple []/\∃aC,bS ad 0 aC (Keys.cd ⟨.cd,ai,ax,aw⟩ c).1 (es++(Keys.cd ⟨.cd,ai,ax,aw⟩ c).2)/\Fr _ ad 0 B aC) ?_ ?_ ?_ ?_ ?_ ?_)
   .intro h b3 f i o e0 aI aO l n he;exact oU (ai:=ai++[c]) o e0 aI aO l n an (jW _ _) ae p u r he V R λad aC g b6=>⟨rfl,aC,by rw [am f i];exact g,b6⟩
   .intro h f i w o e0 aI aO l n;rw [S w]at aI;exact nF o e0 aI aO l n y ae p u r z λad aC g b6=>⟨rfl,aC,by rw [F f i];exact g,b6⟩
   .intro h f i w o e0 aI aO l n;exact nF o e0 aI aO l n y ae p u r z λad aC g b6=>⟨rfl,aC,by rw [F f i];exact g,b6⟩
   .intro h b3 f i o e0 aI aO l n he;exact oU (ai:=ai++[c]) o e0 aI aO l n an (jW _ _) ae p u r he V R λad aC g b6=>⟨rfl,aC,by rw [Z f i];exact g,b6⟩
   .intro h f i w o e0 aI aO l n;rw [S w]at aI;exact nF o e0 aI aO l n y ae p u r z λad aC g b6=>⟨rfl,aC,by rw [E f i];exact g,b6⟩
   .intro h f i w o e0 aI aO l n;exact nF o e0 aI aO l n y ae p u r z λad aC g b6=>⟨rfl,aC,by rw [E f i];exact g,b6⟩
theorem NP:∀args h a,hv (2^30-8) sF Keys.cd args h=some a->a.cx Tryz.prog ck 90 args h:=nA λH d I s es c g e f b=>NO g e b
noncomputable def Ez:dB:=sl.add 90 (hv (2^30-8) sF Keys.cd)
theorem NQ:dv Tryz.prog ck Ez:=vw.add NP
abbrev EA:J:=J.agg [.int .i64 13,.int .i64 9,.int .i64 127,.int .i64 27]
abbrev zC(b a:Int):J:=J.agg [.int .i8 1,.int .i32 b,.int .u8 a,.int .i64 0,.int .i64 0,.str []]
abbrev sG(a:Int):J:=J.agg [.int .i8 2,.int .i32 1,.int .u8 a,.int .i64 0,.int .i64 0,.str []]
abbrev sH(a:Int):J:=J.agg [.int .i8 2,.int .i32 2,.int .u8 a,.int .i64 0,.int .i64 0,.str []]
abbrev sI(a:Int):J:=J.agg [.int .i8 2,.int .i32 3,.int .u8 a,.int .i64 0,.int .i64 0,.str []]
abbrev sJ(a:Int):J:=J.agg [.int .i8 2,.int .i32 4,.int .u8 a,.int .i64 0,.int .i64 0,.str []]
abbrev fF:J:=J.agg [.int .i8 0,.int .i32 0,.int .u8 0,.int .i64 0,.int .i64 0,.str []]
abbrev bx:ac:=ac.aj [fF] 6 true (some (42,6))
abbrev nG:ac:=(ac.aj ([EA]) 4 true (some (109,4)))
theorem NR(a b:Int)(c:bm)(d:(13=a->c (.tuple [(sG b),.bool true]) (T.af 22 [(0,(ac.aj ([(sG b)]) 6 true (some (42,6)))),(4,nG)]))/\(¬13=a->(9=a->c (.tuple [(sH b),.bool true]) (T.af 32 [(0,(ac.aj ([(sH b)]) 6 true (some (42,6)))),(4,nG)]))/\(¬9=a->(127=a->c (.tuple [(sI b),.bool true]) (T.af 42 [(0,(ac.aj ([(sI b)]) 6 true (some (42,6)))),(4,nG)]))/\(¬127=a->(27=a->c (.tuple [(sJ b),.bool true]) (T.af 52 [(0,(ac.aj ([(sJ b)]) 6 true (some (42,6)))),(4,nG)]))/\(¬27=a->(2097152<a->c (.tuple [fF,.bool false]) (T.af 59 [(0,(ac.aj ([fF]) 6 true (some (42,6)))),(4,nG)]))/\(¬2097152<a->(-2147483648<=a/\a<=2147483647)/\(shown a=true->(-2147483648<=a/\a<=2147483647)/\c (.tuple [(zC a b),.bool true]) (T.af 62 [(0,(ac.aj ([(zC a b)]) 6 true (some (42,6)))),(4,nG)]))/\(shown a=false->c (.tuple [fF,.bool false]) (T.af 59 [(0,(ac.aj ([fF]) 6 true (some (42,6)))),(4,nG)])))))))) :
 bC 149 [.int .i64 a,.int .u8 b] (⟨0,.nil⟩) c :=
 bI dP (he 1000 (.ak (.rounds 300) (.aq 4002 .nil (.aq 4002 .nil (.aq 4002 .nil (.aq 4002 .nil (.aq 7001 .nil (ag 7004 (.aq 7005 (ag 9001 .nil) .nil))))))))) d
def dR:aP:= {kind:=0}
def fm(o:Option aP):J:= .tuple [bi (o.getD dR),.bool o.isSome]
theorem NS(n:Nat)(m:Int)(H:T):bu 149 [.int .i64 n,.int .u8 m] H (fm (Keys.cT n m)) H:=by
 refine bl.cm (NR n m (λv _=>v=fm (Keys.cT n m)) ?_) rfl rfl H
 delta nG EA fF zC sJ sI sH sG
 refine⟨λe=> ?_,λaa=>⟨λe=> ?_,λh2=>⟨λe=> ?_,λf=>⟨λe=> ?_,λg=>⟨λe=> ?_,λh=>⟨V,λe=>⟨V,?_⟩,λe=> ?_⟩⟩⟩⟩⟩⟩
 .have e:n=13:= V;rw [show Keys.cT n m=some (cY 1 m)by simp [Keys.cT,e]];rfl
 .have e:n=9:= V;rw [show Keys.cT n m=some (cY 2 m)by simp [Keys.cT,e]];rfl
 .have e:n=127:= V;rw [show Keys.cT n m=some (cY 3 m)by simp [Keys.cT,e]];rfl
 .have e:n=27:= V;rw [show Keys.cT n m=some (cY 4 m)by simp [Keys.cT,e]];rfl
 all_goals
  have b:n≠13:= V;have n2:n≠9:= V;have c:n≠127:= V;have d:n≠27:= V
 .have a:2097152<n:= V;rw [show Keys.cT n m=none by simp [Keys.cT,b,n2,c,d,a]];rfl
 .have a:¬2097152<n:= V;rw [show Keys.cT n m=some (dq n m)by simp [Keys.cT,b,n2,c,d,a,e]];rfl
 .have a:¬2097152<n:= V;rw [show Keys.cT n m=none by simp [Keys.cT,b,n2,c,d,a,e]];rfl
theorem EB(a:UInt8)(b:Bytes)(c:Int)(d:bW->a8->T->Prop)(g:(0<(↑(List.length (a::b)):Int)->((↑(UInt8.toNat a):Int)=c->((0:Int)<=1/\1<=(↑(List.length (a::b)):Int))/\d .normal [(0,.str b),(1,.int .u8 c)] (T.af 12 []))/\(¬(↑(UInt8.toNat a):Int)=c->d (.exit 0) [(0,.str (a::b)),(1,.int .u8 c)] (T.af 9 [])))/\(¬0<(↑(List.length (a::b)):Int)->d (.exit 0) [(0,.str (a::b)),(1,.int .u8 c)] (T.af 9 []))) :
 ∃e f aa,bR 0 17 (br 142 0) [(0,.str (a::b)),(1,.int .u8 c)] (⟨0,.nil⟩) e f aa/\d e f aa :=
 di cP mixed bT (hs:= .aq 1002 (.aq 1007 (ag 2001 .nil) .nil) .nil) (keep:=[0,1]) ar g
theorem NT(c:Int)(b:bW->a8->T->Prop)(d:b (.exit 0) [(0,.str []),(1,.int .u8 c)] (T.af 9 [])) :
 ∃e a aa,bR 0 17 (br 142 0) [(0,.str []),(1,.int .u8 c)] (⟨0,.nil⟩) e a aa/\b e a aa :=
 di cP mixed bT (hs:= .nil) (keep:=[0,1]) ar d
theorem NU(e c:Bytes)(a:Int)(b:T)(d:bm)(f:bR 0 17 (Code.loop (br 142 0)) [(0,.str e),(1,.int .u8 a)] (T.af 1 []) (.exit 0) [(0,.str c),(1,.int .u8 a)] b/\d (.str c) (T.mk (b.Y+2) (T.ay b))) :
 bC 142 [.str e,.int .u8 a] (⟨0,.nil⟩) d :=
 bI bT (.ak (.keep [0,1]) (.ak (.loop [(0,.str c),(1,.int .u8 a)] b (.exit 0)) .nil)) f
theorem NV(a:Bytes)(b:bm)(c:(a=[]->b (.str a) (T.af 9 []))/\(¬a=[]->bM 142 [.str a,.int .u8 48] (T.af 20 []) (.str (List.dropWhile (λx=>x == 48) a)) (T.af 20 [])/\b (.str (List.dropWhile (λx=>x == 48) a)) (T.af 20 []))) :
 bC 128 [.str a,.str [48]] (⟨0,.nil⟩) b :=
 bI bT (.aq 1001 .nil (.ak (.val 4003 (.str (List.dropWhile (λx=>x == 48) a))) .nil)) c
theorem NW(b a:Bytes)(c:bm)(d:((↑a.length:Int)<=(↑b.length:Int)->(0<=(↑a.length:Int)/\(↑a.length:Int)<=(↑b.length:Int))/\(List.take (Int.toNat (↑a.length:Int)) b=a->c (.bool true) (T.af 20 []))/\(¬List.take (Int.toNat (↑a.length:Int)) b=a->c (.bool false) (T.af 20 [])))/\(¬(↑a.length:Int)<=(↑b.length:Int)->c (.bool false) (T.af 20 []))) :
 bC 146 [.str b,.str a] (⟨0,.nil⟩) c :=
 bI bT (he 1002 (.aq 1004 (ag 1009 (.aq 1011 .nil .nil)) .nil)) d
theorem NX(b a:Bytes)(c:bm)(d:((↑a.length:Int)<=(↑b.length:Int)->(0<=(↑a.length:Int)/\(↑a.length:Int)<=(↑b.length:Int))/\(List.take (Int.toNat (↑a.length:Int)) b=a->(0<=(↑a.length:Int)/\(↑a.length:Int)<=(↑b.length:Int))/\c (.tuple [.str (List.drop (Int.toNat (↑a.length:Int)) b),.bool true]) (T.af 36 []))/\(¬List.take (Int.toNat (↑a.length:Int)) b=a->c (.tuple [.str b,.bool false]) (T.af 33 [])))/\(¬(↑a.length:Int)<=(↑b.length:Int)->c (.tuple [.str b,.bool false]) (T.af 33 []))) :
 bC 53 [.str b,.str a] (⟨0,.nil⟩) c :=
 bI bT (he 1002 (he 1002 (.aq 1004 (ag 1009 (.aq 1011 (ag 3003 .nil) .nil)) .nil))) d
abbrev oV(s:Bytes)(c:UInt8):a8:=[(0,.str s),(1,.int .u8 c.toNat)]
theorem EC(s:Bytes)(c:UInt8)(h:T):b5 0 17 (oV s c) h (oV s c) ⟨0,.nil⟩ :=
 b5.drop (K:=0) (l:=[]) rfl rfl rfl rfl (a7.cons trivial (a7.cons trivial a7.nil)) a7.nil
theorem ED(c:UInt8):∀s:Bytes,∃ad,dl 0 17 (br 142 0) (oV s c) ⟨0,.nil⟩ (.exit 0) (oV (s.dropWhile (· == c)) c) ad
 |[]=>by obtain⟨e,a,aa,b,rfl,rfl⟩:=NT c.toNat (λe a aa=>e=.exit 0/\a=oV [] c) ⟨rfl,rfl⟩;exact⟨aa,bX.last an b⟩
 |x ::r=>by
  by_cases d:x=c
  .subst d;obtain⟨e,a,aa,b,rfl,rfl⟩:=EB x r x.toNat (λe a aa=>e=.normal/\a=oV r x) ⟨λ_=>⟨λ_=>⟨⟨aA,by simp only [b'];omega⟩,rfl,rfl⟩,λh=>absurd rfl h⟩,λh=>by simp at h⟩;obtain⟨ad,f⟩:=ED x r;refine⟨ad,?_⟩;rw [List.dropWhile_cons_of_pos an];exact bX.step (b.post (EC r x aa)) f
  .have g:¬(x.toNat:Int)=(c.toNat:Int):=λh=>d (fq.1 V)
   obtain⟨e,a,aa,b,rfl,rfl⟩:=EB x r c.toNat (λe a aa=>e=.exit 0/\a=oV (x::r) c) ⟨λ_=>⟨λh=>absurd h g,λ_=>⟨rfl,rfl⟩⟩,λh=>by simp at h⟩;refine⟨aa,?_⟩;rw [List.dropWhile_cons_of_neg (by simpa using d)];exact bX.last an b
theorem NY(s:Bytes)(c:UInt8)(H:T):bu 142 [.str s,.int .u8 c.toNat] H (.str (s.dropWhile (· == c))) H:=by obtain⟨ad,a⟩:=ED c s;exact bl.cm (NU s (s.dropWhile (· == c)) c.toNat ad (λv _=>v=.str (s.dropWhile (· == c))) ⟨cZ.dJ (a.pre (EC s c _)),rfl⟩) rfl rfl H
theorem NZ(s:Bytes)(H:T):bu 128 [.str s,.str [48]] H (.str (s.dropWhile (· == 48))) H :=
 bl.cm (NV s (λv _=>v=.str (s.dropWhile (· == 48))) ⟨λh=>by subst h;rfl,λh=>⟨⟨NY s 48 _⟩,rfl⟩⟩) rfl rfl H
theorem pre_true{s p:Bytes}(h:s.take p.length=p):p.isPrefixOf s=true:=by rw [kk,tD];exact h.symm
theorem vE{s p:Bytes}(h:¬s.take p.length=p):p.isPrefixOf s=false:=by
 cases a:p.isPrefixOf s with
 |false=>rfl
 |true=>rw [kk,tD]at a;exact absurd a.symm h
theorem take_len{s p:Bytes}(h:¬p.length<=s.length):¬s.take p.length=p:=λe=>h (by have:=dW List.length e;simp at this;omega)
theorem N0(s p:Bytes)(H:T):bu 146 [.str s,.str p] H (.bool (p.isPrefixOf s)) H:=by
 refine bl.cm (NW s p (λv _=>v=.bool (p.isPrefixOf s)) ⟨λh=>⟨⟨V,h⟩,λe=> ?_,λe=> ?_⟩,λh=> ?_⟩) rfl rfl H
 .rw [pre_true (by simpa using e)]
 .rw [vE (by simpa using e)]
 .rw [vE (take_len V)]
def oW(s p:Bytes):J:= .tuple [.str (if p.isPrefixOf s then s.drop p.length else s),.bool (p.isPrefixOf s)]
theorem EE(s p:Bytes)(H:T):bu 53 [.str s,.str p] H (oW s p) H:=by
 refine bl.cm (NX s p (λv _=>v=oW s p) ⟨λh=>⟨⟨V,h⟩,λe=>⟨⟨V,h⟩,?_⟩,λe=> ?_⟩,λh=> ?_⟩) rfl rfl H
 .unfold oW;rw [pre_true (by simpa using e)];simp
 .unfold oW;rw [vE (by simpa using e)];simp
 .unfold oW;rw [vE (take_len V)];simp
end Go.Proofs.YtddnafghiejcoaaGreatDoor
namespace Go.Keys
theorem qq(c:UInt8):∀s:Bytes,splitAt c s≠[]
 |[]=>by simp [splitAt]
 |b ::r=>by
  unfold splitAt;split
  .simp
  .cases h:splitAt c r with
   |nil=>exact absurd h (qq c r)
   |cons w t=>simp
theorem zD(c:UInt8):∀s:Bytes,(splitAt c s).length=s.count c+1
 |[]=>rfl
 |b ::r=>by
  have ih:=zD c r;unfold splitAt;split
  .rename_i h;subst h;simp [ih]
  .rename_i h;cases hs:splitAt c r with
   |nil=>exact absurd hs (qq c r)
   |cons w t =>
    rw [hs]at ih;simp only [b']at ih⊢;rw [List.count_cons_of_ne (by simpa using h)];omega
theorem EF{c:UInt8} :∀{s:Bytes},s.count c=0->splitAt c s=[s]
 |[],_=>rfl
 |b ::r,h=>by
  have a:¬b=c:=by intro e;subst e;simp at h
  rw [List.count_cons_of_ne (by simpa using a)]at h;unfold splitAt;rw [ap a,EF h]
theorem EG{c:UInt8} :∀{s:Bytes},s.count c≠0-> ∃m:Nat,Go.Lib.indexByte s c=m/\m<s.length/\splitAt c s=s.take m::splitAt c (s.drop (m+1))/\s.count c=(s.drop (m+1)).count c+1
 |[],h=>by simp at h
 |b ::r,h=>by
  by_cases a:b=c
  .subst a;refine⟨0,by simp [Go.Lib.indexByte],an,?_,an⟩;rw [splitAt,aE rfl];simp
  .rw [List.count_cons_of_ne (by simpa using a)]at h⊢;obtain⟨m,aI,aO,d,e⟩:=EG h;refine⟨m+1,?_,by simp;omega,?_,by simpa using e⟩
   .unfold Go.Lib.indexByte;rw [ap (by simpa using a),aI,ap (by rw [kh];omega)];rfl
   .rw [splitAt,ap a,d];simp
def hx(w:Bytes):Bool:= !(decide (w=[]) || decide (9<w.length) || w.all digit == false)
theorem EH:∀{l:List Bytes},(∀w∈l,hx w=true)->fN l=some (l.map number)
 |[],_=>rfl
 |w ::r,h=>by
  have aN:=h w jG
  have hw:¬(w=[]\/9<w.length\/w.all digit=false):=by intro q;unfold hx at aN;rcases q with q|q|q<;>simp [q]at aN
  rw [fN,ap hw,EH λx a=>h x (iR _ a)];rfl
theorem EI:∀{a b:List Bytes}{w:Bytes},hx w=false->fN (a++w::b)=none
 |[],b,w,h=>by
  have hw:w=[]\/9<w.length\/w.all digit=false:=by
   unfold hx at h;simp only [Bool.not_eq_false',fI,gx,kh]at h;rcases h with (h|h)|h
   .exact .inl h
   .exact .inr (.inl h)
   .exact .inr (.inr h)
  rw [eg,fN,aE hw]
 |x::a,b,w,h=>by rw [hA,fN,EI h];split<;>rfl
theorem N1:∀(w:Bytes),w.all digit=true->number w<10^w.length:=by
 suffices h:∀(w:Bytes)(n k:Nat),w.all digit=true->n<10^k->w.foldl (λn b=>10*n+(b.toNat-48)) n<10^(k+w.length)from λw hw=>by
  have:=h w 0 0 hw aA
  rwa [eM]at this
 intro w;induction w with
 |nil=>intro n k _ h;exact h
 |cons b r ih =>
  intro n k hw h;simp only [hY,cS,digit,gx]at hw;rw [hB,b',show k+(r.length+1)=k+1+r.length by omega];refine ih _ _ hw.2 ?_;rw [Nat.pow_succ];omega
theorem EJ:∀{l:List Bytes}{r:List Nat},fN l=some r-> ∀n∈r,n<1000000000
 |[],r,h=>by simp [fN]at h;subst h;simp
 |w :: t, r,h=>by
  rw [fN]at h;split at h
  .cases h
  .rename_i hw;cases a:fN t with
   |none=>rw [a]at h;cases h
   |some x =>
    rw [a]at h;simp only [ev,a6]at h;subst h;intro n az;rcases cM.1 az with rfl|az
    .have b:w.all digit=true:=by
      cases d:w.all digit with
      |true=>rfl
      |false=>exact absurd (.inr (.inr d)) hw
     have:=N1 w b;have c:w.length<=9:= V;exact iN this (tC aA c)
    .exact EJ a n az
end Go.Keys
namespace Go.bh
noncomputable section
open Go.RowKit Go.Shelf
section
variable {P:Program}{φ:Map}
theorem N2{w aZ:World}{a:Addr}(e:aZ.heap[a.block]? =w.heap[a.block]?):aZ.frozen? a=w.frozen? a:=by unfold World.frozen?;rw [e]
theorem Alike.below{w aZ:World}(k:Below w.heap.size w aZ):Alike w aZ where
 size:=k.size
 cell a c:=k.cell c
 frozen a c:=N2 (k.block _ c)
 mark b d:=ol (k.block _ d)
theorem Safe.EK{aM:Nat->Prop}{aS w aZ:World}(h:Safe aM aS w)(a:dN aM aS.heap.size)(k:Below w.heap.size w aZ):Safe aM aS aZ :=
 h.trans ⟨k.os,k.tape,k.output,k.size,λi ah=>k.block i (iN (a i ah) h.size)⟩
theorem N3{aM:Nat->Prop}{aS w:World}{h:T}{f:FuncId}{b:Array Value}{s:List UInt8}(j:dN aM aS.heap.size)(i:cg φ aM h w)(g:Safe aM aS w)
 (al:Calls P f b w λe aZ=>e=.returned (.string ⟨s.toArray⟩)/\Below w.heap.size w aZ) :
 Calls P f b w λe aZ=> ∃d a,e=.returned d/\dH φ a h.Y/\aB a (.str s) d/\cg a aM h aZ/\Safe aM aS aZ/\h.Y<=h.Y :=
 al.mono λe aZ ⟨he,c⟩=>⟨_,φ,he,dH.refl _ _,by simp only [aB];exact⟨_,rfl,an⟩,i.alike (Alike.below c),g.EK j c,Nat.le_refl _⟩
end
end
end Go.bh
namespace Go.Keys
theorem EL:∀(w:Bytes)(n:Nat),w.all digit=true->Go.Lib.decFrom n w=some (w.foldl (λn b=>10*n+(b.toNat-48)) n)
 |[],n,_=>rfl
 |b::r,n,h=>by
  simp only [hY,cS,digit,gx]at h;have a:Go.Lib.digitVal b=some (b.toNat-48):=by unfold Go.Lib.digitVal;rw [aE h.1]
  unfold Go.Lib.decFrom;rw [a];show Go.Lib.decFrom (n*10+(b.toNat-48)) r=_;rw [EL r _ h.2,hB,Nat.mul_comm]
theorem EM{w:Bytes}(aN:w≠[])(h:w.all digit=true):Go.Lib.atoi w=some (number w:Int):=by
 cases w with
 |nil=>exact absurd rfl aN
 |cons b r =>
  have a:48<=b.toNat/\b.toNat<=57:=by simp only [hY,cS,digit,gx]at h;exact h.1
  have d:(b == 45)=false:=by rw [od];rintro rfl;revert a;decide
  have c:(b == 43)=false:=by rw [od];rintro rfl;revert a;decide
  unfold Go.Lib.atoi;simp only [d,c,ew,ey];unfold Go.Lib.decNat;rw [List.isEmpty_cons];simp only [ew,ey];rw [EL _ _ h];rfl
def jX:Bytes:=[48,49,50,51,52,53,54,55,56,57]
set_option maxRecDepth 100000 in
theorem N4(b:UInt8):jX.contains b=digit b:=by have h:∀n:Fin 256,jX.contains (UInt8.ofNat n.val)=digit (UInt8.ofNat n.val):= aA;have:=h ⟨b.toNat,b.toNat_lt⟩;simpa using this
theorem vF(w:Bytes):Go.Lib.trimS w jX=[]↔w.all digit=true:=by
 have e:(λb=>jX.contains b)=digit:=funext N4
 have a:∀l:Bytes,l.dropWhile digit=[]↔l.all digit=true:=by
  intro l;induction l with
  |nil=>simp
  |cons b r ih =>
   rw [List.dropWhile_cons];cases d:digit b with
   |true=>simp [ih,d]
   |false=>simp [d]
 unfold Go.Lib.trimS Go.Lib.trimLeftS Go.Lib.trimRightS;rw [e,a];constructor
 .intro h;have h2:((w.reverse.dropWhile digit)).all digit=true:=by simpa using h
  cases c:w.reverse.dropWhile digit with
  |nil =>
   have:=(a _).1 c;simpa using this
  |cons b r =>
   have f:digit b=false:=by have:=List.head?_dropWhile_not digit w.reverse;rw [c]at this;simpa using this
   rw [c]at h2;simp [f]at h2
 .intro h;have:w.reverse.dropWhile digit=[]:=(a _).2 (by simpa using h);rw [this];rfl
end Go.Keys
namespace Go.Proofs.YtddnafghiejcoaaGreatDoor
open Go.bh Go.Shelf Go.RowKit Go.Keys
set_option maxRecDepth 1000000
def N5:Ren where
 f:=λx=>if x=119 then 165 else if x=120 then 171 else if x=137 then 164 else if x=151 then 155 else if x=152 then 159 else if x=160 then 157 else if x=197 then 154 else if x=217 then 115 else if x=224 then 117 else if x=225 then 116 else if x=227 then 143 else if x=228 then 153 else if x=231 then 142 else if x=232 then 161 else if x=233 then 144 else if x=234 then 162 else if x=235 then 145 else if x=236 then 163 else if x=260 then 158 else if x=266 then 133 else if x=271 then 168 else 0
 t:=λx=>if x=0 then 0 else if x=3 then 3 else if x=4 then 4 else if x=5 then 5 else if x=9 then 9 else if x=21 then 21 else if x=46 then 108 else if x=105 then 85 else if x=116 then 192 else if x=117 then 193 else if x=119 then 113 else if x=124 then 196 else if x=138 then 208 else if x=139 then 209 else 0
 g:=λx=>if x=3 then 8 else if x=4 then 9 else 0
theorem N6:Lays.n160 Tryz.prog N5:=by constructor;all_goals first|kernel_rfl|(intro w;kernel_rfl)
def N7:Ren where
 f:=λx=>if x=129 then 136 else if x=171 then 49 else if x=172 then 55 else if x=205 then 127 else if x=243 then 75 else if x=244 then 84 else if x=245 then 85 else if x=246 then 96 else if x=247 then 100 else if x=279 then 101 else if x=280 then 102 else if x=281 then 103 else if x=282 then 104 else if x=283 then 119 else if x=284 then 120 else if x=285 then 121 else if x=286 then 122 else if x=287 then 125 else if x=316 then 126 else if x=317 then 135 else if x=318 then 137 else if x=319 then 138 else if x=320 then 139 else if x=321 then 140 else if x=322 then 141 else if x=337 then 151 else if x=338 then 152 else 0
 t:=λx=>if x=0 then 0 else if x=2 then 2 else if x=3 then 3 else if x=4 then 4 else if x=5 then 5 else if x=9 then 9 else if x=20 then 20 else if x=21 then 21 else if x=37 then 34 else if x=46 then 108 else if x=51 then 132 else if x=53 then 151 else if x=75 then 89 else if x=76 then 90 else if x=80 then 212 else if x=85 then 138 else if x=127 then 186 else if x=143 then 187 else if x=145 then 189 else if x=167 then 137 else if x=168 then 140 else if x=171 then 154 else if x=173 then 157 else if x=175 then 170 else if x=210 then 173 else if x=212 then 179 else if x=213 then 180 else if x=232 then 203 else if x=233 then 204 else 0
 g:=λx=>if x=15 then 3 else if x=16 then 4 else if x=17 then 5 else if x=18 then 6 else if x=19 then 7 else 0
theorem N8:Lays.n172 Tryz.prog N7:=by constructor;all_goals first|kernel_rfl|(intro w;kernel_rfl)
theorem N9(s:Bytes)(hs:s.length<2^40)(H:T):bu 157 [.str s,.str jX] H (.str (Lib.trimS s jX)) H:=by
 intro aM aS h ef φ w e g f d;obtain⟨l⟩:=e;simp only [bc,aB]at d;obtain⟨a,t,rfl,⟨u,rfl,rfl⟩,b,t2,rfl,⟨c,rfl,al⟩,rfl⟩:=d;refine⟨⟨Tryz.f157,_,ar,rfl⟩,N3 h g f ?_⟩;have j:u.size<2^40:=by simpa using hs
 have i:c.size=10:=(dW List.length al).trans rfl;have k:=Any.strings_Trim_laid N6 ar u c w V V (by rw [al];exact ascii_of_all aA);rw [al]at k;exact k
theorem EN(s:Bytes)(hs:s.length<=18)(n:Int)(az:Lib.atoi s=some n)(H:T):bu 55 [.str s] H (.tuple [.int .i64 n,.nilIface]) H:=by
 intro aM aS h ef φ w d g f b;obtain⟨l⟩:=d;simp only [bc,aB]at b;obtain⟨a,t,rfl,⟨u,rfl,rfl⟩,rfl⟩:=b;refine⟨⟨Tryz.f55,_,ar,rfl⟩,?_⟩;have k:=Any.strconv_Atoi N8 u n (by simpa using hs) az w;refine k.mono λe aZ ⟨he,t,hw⟩=> ?_
 have c:Below w.heap.size w aZ:=by rw [hw];exact Lib.bytesWorld_below _ _ _
 exact⟨_,φ,he,dH.refl _ _,by simp only [aB,bc];exact⟨_,rfl,_,_,rfl,rfl,_,_,rfl,rfl,rfl⟩,g.alike (Alike.below c),f.EK h c,Nat.le_refl _⟩
def EO:Ren where
 f:=λx=>if x=138 then 167 else if x=143 then 74 else if x=195 then 169 else if x=217 then 115 else if x=218 then 170 else if x=219 then 95 else if x=224 then 117 else if x=225 then 116 else if x=266 then 133 else if x=267 then 118 else if x=314 then 134 else 0
 t:=λx=>if x=0 then 0 else if x=3 then 3 else if x=4 then 4 else if x=5 then 5 else if x=9 then 9 else if x=46 then 108 else if x=51 then 132 else if x=146 then 176 else 0
 g:=λx=>if x=1 then 2 else 0
theorem N':Lays.n138 Tryz.prog EO:=by constructor;all_goals first|kernel_rfl|(intro w;kernel_rfl)
theorem Oa:Lays.n143 Tryz.prog EO:=by constructor;all_goals first|kernel_rfl|(intro w;kernel_rfl)
theorem EP{c:UInt8}{b:ByteArray}(h:b.data.toList=[c]):b=⟨#[c]⟩:=by
 obtain⟨d⟩:=b;simp only at h
 congr 1
 exact Array.toList_inj.1 (by simpa using h)
theorem Ob(s:Bytes)(c:UInt8)(H:T):bu 167 [.str s,.str [c]] H (.int .i64 (Lib.countByte s c)) H:=by
 intro aM aS m ef φ w g i h f;obtain⟨l⟩:=g;simp only [bc,aB]at f;obtain⟨a,t,rfl,⟨u,rfl,rfl⟩,b,t2,rfl,⟨d,rfl,j⟩,rfl⟩:=f;refine⟨⟨Tryz.f167,_,ar,rfl⟩,?_⟩;have k:=Any.strings_Count_one N' u c w;rw [<-EP j]at k
 exact k.mono λe aZ ⟨he,hw⟩=>by subst hw;exact⟨_,φ,he,dH.refl _ _,by simp only [aB],i,h,Nat.le_refl _⟩
theorem Oc(s:Bytes)(c:UInt8)(H:T):bu 74 [.str s,.str [c]] H (.int .i64 (Lib.indexByte s c)) H:=by
 intro aM aS m ef φ w g i h f;obtain⟨l⟩:=g;simp only [bc,aB]at f;obtain⟨a,t,rfl,⟨u,rfl,rfl⟩,b,t2,rfl,⟨d,rfl,j⟩,rfl⟩:=f;refine⟨⟨Tryz.f74,_,ar,rfl⟩,?_⟩;have k:=Any.strings_Index_one Oa u c w;rw [<-EP j]at k
 exact k.mono λe aZ ⟨he,hw⟩=>by subst hw;exact⟨_,φ,he,dH.refl _ _,by simp only [aB],i,h,Nat.le_refl _⟩
end Go.Proofs.YtddnafghiejcoaaGreatDoor
namespace Go.Proofs.YtddnafghiejcoaaGreatDoor
open Go.bh Go.Keys
set_option maxRecDepth 1000000
abbrev du(l:List J)(aJ:Nat):ac:= {aQ:=l,es:=1,exact:=true,ro:=false,ab:=0,eb:=aJ,eS:=0,ty:=none}
theorem Od(a f:Bytes)(d c b:Nat)(e:List J)(g:bm)(h:bM 167 [.str a,.str [59]] (T.af 12 []) (.int .i64 (b:Int)) (T.af 12 [])/\(-9223372036854775808<=(b:Int)+1/\(b:Int)+1<=9223372036854775807)/\(-9223372036854775808<=(↑a.length:Int)+1/\(↑a.length:Int)+1<=9223372036854775807)/\((0<=if(↑a.length:Int)+1<(b:Int)+1 then(↑a.length:Int)+1 else(b:Int)+1)/\((if(↑a.length:Int)+1<(b:Int)+1 then(↑a.length:Int)+1 else(b:Int)+1)<=if(↑a.length:Int)+1<(b:Int)+1 then(↑a.length:Int)+1 else(b:Int)+1)/\(if(↑a.length:Int)+1<(b:Int)+1 then(↑a.length:Int)+1 else(b:Int)+1)<4611686018427387904/\(16*if(↑a.length:Int)+1<(b:Int)+1 then(↑a.length:Int)+1 else(b:Int)+1)<=281474976710656)/\(-9223372036854775808<=(if(↑a.length:Int)+1<(b:Int)+1 then(↑a.length:Int)+1 else(b:Int)+1)-1/\(if(↑a.length:Int)+1<(b:Int)+1 then(↑a.length:Int)+1 else(b:Int)+1)-1<=9223372036854775807)/\bR 0 66 (Code.loop (br 160 0)) [(0,.str a),(1,.str [59]),(2,.int .i64 0),(3,.int .i64 ((if(↑a.length:Int)+1<(b:Int)+1 then(↑a.length:Int)+1 else(b:Int)+1)-1)),(9,.slice (cX 19) (Int.toNat (if(↑a.length:Int)+1<(b:Int)+1 then(↑a.length:Int)+1 else(b:Int)+1)) (Int.toNat (if(↑a.length:Int)+1<(b:Int)+1 then(↑a.length:Int)+1 else(b:Int)+1))),(10,.int .i64 0)] (T.af 25 [(19,ac.aj (List.replicate (Int.toNat (if(↑a.length:Int)+1<(b:Int)+1 then(↑a.length:Int)+1 else(b:Int)+1)) (.str [])) 1 true)]) (.exit 0) [(0,.str f),(9,.slice (cX 50) d d),(10,.int .i64 (c:Int))] (T.af 60 [(50,du e 0)])/\(0<=(c:Int)/\(c:Int)<(d:Int))/\(0=0/\e[0+Int.toNat (c:Int)]? =some (J.str []))/\(-9223372036854775808<=(c:Int)+1/\(c:Int)+1<=9223372036854775807)/\(0<=(c:Int)+1/\(c:Int)+1<=(d:Int))/\g (.slice (cX 50) (c+1) d) (T.af 70 [(50,(ac.aj (List.set e (0+Int.toNat (c:Int)) (.str f)) 1 true))])) :
 bC 160 [.str a,.str [59],.int .i64 0,.int .i64 (-1)] (⟨0,.nil⟩) g :=
 bI bT (.ak (.val 6002 (.int .i64 (b:Int))) (ag 6003 (ag 7003 (ag 8001 (ag 9001 (.ak (.keep [0,1,2,3,9,10]) (.ak (.loop [(0,.str f),(9,.slice (cX 50) d d),(10,.int .i64 (c:Int))] (T.af 60 [(50,du e 0)]) (.exit 0)) (ag 17003 (.ak (.e7 17004 (.str [])) (ag 18002 (ag 18003 .nil))))))))))) h
theorem EQ(d:Bytes)(c g b a:Nat)(f:List J)(h:bW->a8->T->Prop)(j:((b:Int)<(g:Int)->bM 74 [.str d,.str [59]] (T.af 67 [(50,(ac.aj (f) 1 true))]) (.int .i64 (a:Int)) (T.af 67 [(50,(ac.aj (f) 1 true))])/\(-9223372036854775808<=(a:Int)+0/\(a:Int)+0<=9223372036854775807)/\(0<=(a:Int)+0/\(a:Int)+0<=(↑d.length:Int))/\(0<=(b:Int)/\(b:Int)<(c:Int))/\(0=0/\f[0+Int.toNat (b:Int)]? =some (J.str []))/\(-9223372036854775808<=(a:Int)+1/\(a:Int)+1<=9223372036854775807)/\(0<=(a:Int)+1/\(a:Int)+1<=(↑d.length:Int))/\(-9223372036854775808<=(b:Int)+1/\(b:Int)+1<=9223372036854775807)/\h .normal [(0,.str (List.drop (a+1) d)),(1,.str [59]),(2,.int .i64 0),(3,.int .i64 (g:Int)),(9,.slice (cX 50) c c),(10,.int .i64 ((b:Int)+1))] (T.af 88 [(50,(ac.aj (List.set f (0+Int.toNat (b:Int)) (.str (List.take (a+0) d))) 1 true))]))/\(¬(b:Int)<(g:Int)->h (.exit 0) [(0,.str d),(1,.str [59]),(2,.int .i64 0),(3,.int .i64 (g:Int)),(9,.slice (cX 50) c c),(10,.int .i64 (b:Int))] (T.af 63 [(50,(ac.aj (f) 1 true))]))) :
 ∃e i aa,bR 0 66 (br 160 0) [(0,.str d),(1,.str [59]),(2,.int .i64 0),(3,.int .i64 g),(9,.slice (cX 50) c c),(10,.int .i64 b)] (T.rows 60 [(50,du f 0)]) e i aa/\h e i aa :=
 di cP mixed bT (hs:= .aq 11002 (.ak (.val 12002 (.int .i64 (a:Int))) (ag 14005 (ag 14006 (ag 14007 (.ak (.e7 14008 (.str [])) (ag 15004 (ag 15005 (ag 16001 .nil)))))))) .nil) (keep:=[0,1,2,3,9,10]) ar j
def fG(d:List Bytes)(k:Nat):List J:=d.map J.str++List.replicate k (.str [])
theorem zE(d:List Bytes)(k:Nat):∀e∈fG d k,ci e:=by
 intro e he;rcases eG.1 he with h|h
 .obtain⟨w,_,rfl⟩:=dz.1 h;exact ci.str w
 .rw [(List.mem_replicate.1 h).2];exact ci.str []
theorem ER(d:List Bytes)(k:Nat):(fG d (k+1))[d.length]? =some (.str []):=by unfold fG;rw [hX an];simp
theorem ES(d:List Bytes)(k:Nat)(w:Bytes):(fG d (k+1)).set d.length (.str w)=fG (d++[w]) k:=by unfold fG;rw [List.set_append_right _ _ an,List.replicate_succ];simp
abbrev nH(s:Bytes)(n i:Nat):a8:=[(0,.str s),(1,.str [59]),(2,.int .i64 0),(3,.int .i64 (n:Nat)),(9,.slice (some ⟨50,0,0,0,1⟩) (n+1) (n+1)),(10,.int .i64 (i:Nat))]
theorem ET{l c:Nat} :bQ (Go.bh.bO [50]) (.slice (some ⟨50,0,0,0,1⟩) l c):=(by show(50:Nat)∈ [50];simp)
theorem EU{s:Bytes}{n i:Nat}{h:T}{d:List Bytes}{k:Nat}(ag:h.get 50=some (du (fG d k) 0)):b5 0 66 (nH s n i) h (nH s n i) (T.rows 60 [(50,du (fG d k) 0)]) :=
 b5.drop (K:=60) (l:=[(50,du (fG d k) 0)]) (by simp [ag]) rfl rfl rfl (a7.cons trivial (a7.cons trivial (a7.cons trivial (a7.cons trivial (a7.cons ET (a7.cons trivial a7.nil)))))) (a7.cons (λe he=>(zE d k e he).dh _) a7.nil)
theorem Oe(n:Nat)(az:n<2^40):∀(k:Nat)(s:Bytes)(d:List Bytes),s.count 59=k->d.length+k=n->s.length<2^40-> ∃(t:Bytes)(b:List Bytes),b++[t]=d++splitAt 59 s/\b.length=n /\
 dl 0 66 (br 160 0) (nH s n d.length) (T.rows 60 [(50,du (fG d (k+1)) 0)]) (.exit 0) (nH t n n) (T.rows 60 [(50,du (fG b 1) 0)]):=by
 intro k;induction k with
 |zero =>
  intro s d i o hs;obtain rfl:n=d.length:= V;obtain⟨e,a,aa,f,rfl,rfl,ag⟩:=EQ s (d.length+1) d.length d.length 0 (fG d 1) (λe a aa=>e=.exit 0/\a=nH s d.length d.length/\aa.get 50=some (du (fG d 1) 0)) ⟨λh=> V,λ_=>⟨rfl,rfl,rfl⟩⟩;exact⟨s,d,by rw [EF i],rfl,(bX.last an f).post (EU ag)⟩
 |succ k ih =>
  intro s d i o hs;obtain⟨m,aI,aO,j,q⟩:=EG (c:=59) (s:=s) V
  obtain⟨e,a,aa,f,rfl,rfl,ag⟩:=EQ s (n+1) n d.length m (fG d (k+1+1)) (λe a aa=>e=.normal/\a=nH (s.drop (m+1)) n (d.length+1)/\aa.get 50=some (du (fG (d++[s.take m]) (k+1)) 0)) (by
   have p:((d.length:Int)+1)=((d.length+1:Nat):Int):= V;have e7:0+Int.toNat (d.length:Int)=d.length:= an;refine⟨λ_=>⟨⟨?_⟩,⟨V,V⟩,⟨V,V⟩,⟨V,V⟩,⟨rfl,by rw [e7];exact ER d (k+1)⟩,⟨V,V⟩,⟨V,V⟩,⟨V,V⟩,rfl,by rw [p],?_⟩,λh=> V⟩
   .have:=Oc s 59 (T.af 67 [(50,ac.aj (fG d (k+1+1)) 1 true)]);rw [aI]at this;exact this
   .rw [<-ES d (k+1) (s.take m),e7,lI];rfl)
  obtain⟨t,b,l,h2,g⟩:=ih (s.drop (m+1)) (d++[s.take m]) V (by simp;omega) (by rw [ep];omega);refine⟨t,b,?_,h2,?_⟩
  .rw [l,j];simp
  .have el:(d++[s.take m]).length=d.length+1:= an;rw [show nH (s.drop (m+1)) n (d++[s.take m]).length=nH (s.drop (m+1)) n (d.length+1)by rw [el]]at g;exact bX.round f (EU ag) g
theorem Of(s:Bytes)(hs:s.length<2^40)(H:T):bu 160 [.str s,.str [59],.int .i64 0,.int .i64 (-1)] H
 (.slice (some ⟨H.Y,0,0,0,1⟩) (splitAt 59 s).length (splitAt 59 s).length) (H.dO [] [du ((splitAt 59 s).map J.str) 0]):=by
 have n:s.count 59<=s.length:=List.count_le_length;obtain⟨t,c,aa,h2,f⟩:=Oe (s.count 59) V (s.count 59) s [] rfl an hs;have al:¬((s.length:Int)+1<(s.count 59:Int)+1):= V;have az:Int.toNat ((s.count 59:Int)+1)=s.count 59+1:= V;have aN:=Ob s 59 (T.af 12 [])
 obtain ⟨v,d,k,m,ag⟩:=Od s t (s.count 59+1) (s.count 59) (s.count 59) (fG c 1) (λv d=>v=.slice (some ⟨50,0,0,0,1⟩) (s.count 59+1) (s.count 59+1)/\d.get 50=some (du ((splitAt 59 s).map J.str) 0)) (by
  rw [ap al,az];refine⟨⟨aN⟩,⟨V,V⟩,⟨V,V⟩,⟨V,V,V,V⟩,⟨V,V⟩,?_,⟨V,V⟩,⟨rfl,?_⟩,⟨V,V⟩,⟨V,V⟩,rfl,?_⟩
  .have g :=cZ.dJ (f.pre (b5.move (F:=[(0,J.str s),(1,J.str [59]),(2,J.int .i64 0),(3,J.int .i64 ((s.count 59:Int)+1-1)),(9,J.slice (some ⟨19,0,0,0,1⟩) (s.count 59+1) (s.count 59+1)),(10,J.int .i64 0)]) (h:=T.af 25 [(19,ac.aj (List.replicate (s.count 59+1) (J.str [])) 1 true)]) (K:=60) (l:=[(50,du (fG [] (s.count 59+1)) 0)]) (λ_=>19) ?_ rfl an rfl rfl ?_ rfl (a7.cons trivial (a7.cons trivial (a7.cons trivial (a7.cons trivial (a7.cons ET (a7.cons trivial a7.nil)))))) (a7.cons (λe he=>(zE [] _ e he).dh _) a7.nil)))
   .exact (g.post (b5.facts (G:=[(0,J.str t),(9,J.slice (some ⟨50,0,0,0,1⟩) (s.count 59+1) (s.count 59+1)),(10,J.int .i64 (s.count 59:Nat))]) (by
     intro j u hu;rw [gH]at hu;split at hu
     .rename_i a;subst a;rw [<-hu];rfl
     .rw [gH]at hu;split at hu
      .rename_i a;subst a;rw [<-hu];rfl
      .rw [gH]at hu;split at hu
       .rename_i a;subst a;rw [<-hu];rfl
       .cases hu))).post (by
      have:T.rows 60 [(50,du (fG c 1) 0)]=T.af 60 [(50,du (fG c 1) 0)]:= ar
      rw [this];exact b5.refl _ _ _ _)
   .simp only [eF,jE];rw [show(du (fG [] (s.count 59+1)) 0).aK (λ_=>19)=du (fG [] (s.count 59+1)) 0 from cj.aK (b:=du (fG [] (s.count 59+1)) 0) (zE [] _) _];rfl
   .simp [J.aK,aT.aK]
  .have:=ER c 0;rw [h2]at this;simpa using this
  .have:=ES c 0 t;rw [h2,aa]at this;show some (ac.aj (List.set (fG c 1) (0+Int.toNat (s.count 59:Int)) (J.str t)) 1 true)=_;rw [show 0+Int.toNat (s.count 59:Int)=s.count 59 by simp,this]
   simp [fG,ac.aj])
 subst m;rw [zD]
 exact bl.yj (l:=[]) (bn:=du ((splitAt 59 s).map J.str) 0) k (λb i=>by cases i) (by
  intro e he;obtain⟨w,_,rfl⟩:=dz.1 he
  exact ci.str w) rfl ag an (by exact⟨trivial,trivial,trivial,trivial,trivial⟩) [] lN (λj a=>by cases a) rfl
noncomputable def zF:List J->T->Option dm:=λargs h=>match args with
 |[.str s,.str k,.int .i64 a,.int .i64 b]=>some (.one (.slice (some ⟨h.Y,0,0,0,1⟩) (splitAt 59 s).length (splitAt 59 s).length) (h.dO [] [du ((splitAt 59 s).map J.str) 0]) [k=[59],a=0,b= -1,s.length<2^40])
 |_=>none
theorem Og:∀args h a,zF args h=some a->a.cx Tryz.prog ck 160 args h:=by
 intro args h a e;unfold zF at e;split at e<;>first|(cases e;done)|skip
 simp only [a6]at e;subst e;intro ae;rw [ae.head,ae.tail.head,ae.tail.tail.head];exact Of _ ae.tail.tail.tail.head h
noncomputable def Oh:dB:=l0.add 160 zF
theorem Oi:dv Tryz.prog ck Oh:=dP.add Og
theorem Oj(a:Bytes)(b:bm)(c:[(59:UInt8)]=[(59:UInt8)]/\(0:Int)=0/\(-1:Int)= -1/\a.length<1099511627776/\b (.slice (cX 5) (List.length (splitAt 59 a)) (List.length (splitAt 59 a))) (T.dO (T.af 5 []) [] [(ac.aj (List.map .str (splitAt 59 a)) 1 true)])) :
 bC 156 [.str a,.str [59]] (⟨0,.nil⟩) b :=
 bI Oi (.nil) c
theorem Ok(s:Bytes)(hs:s.length<2^40)(H:T):bu 156 [.str s,.str [59]] H (.slice (some ⟨H.Y,0,0,0,1⟩) (splitAt 59 s).length (splitAt 59 s).length) (H.dO [] [du ((splitAt 59 s).map J.str) 0]):=by
 obtain⟨v,aa,c,j,rfl,ag⟩:=Oj s (λv aa=> ∃j,v=.slice (some ⟨j,0,0,0,1⟩) (splitAt 59 s).length (splitAt 59 s).length/\aa.get j=some (du ((splitAt 59 s).map J.str) 0)) ⟨rfl,rfl,rfl,hs,_,rfl,rfl⟩
 exact bl.yj (l:=[]) (bn:=du ((splitAt 59 s).map J.str) 0) c (λb a=>by cases a) (by
  intro e he;obtain⟨w,_,rfl⟩:=dz.1 he
  exact ci.str w) rfl ag an (by exact⟨trivial,trivial,trivial⟩) [] lN (λj d=>by cases d) rfl
abbrev vG(l:List J)(v f:Nat):ac:= {aQ:=l,es:=1,exact:=false,ro:=false,ab:=v,eb:=0,eS:=f,ty:=some (3,0)}
def EV:List J->T->Option dm:=hN λa=>match a with | [.str s,.str k]=>some (.str (Go.Lib.trimS s jX),[k=jX,s.length<2^40])|_=>none
theorem Ol:∀args h a,EV args h=some a->a.cx Tryz.prog ck 157 args h:=by
 refine iz ?_;intro args v ps e ae H;split at e<;>first|(cases e;done)|skip
 simp only [a6,bo]at e;obtain⟨rfl,rfl⟩:=e;rw [ae.head];exact N9 _ ae.tail.head H
noncomputable def zG:List J->T->Option dm:=λargs h=>match args with
 |[.str s,.str k]=>some (.one (.slice (some ⟨h.Y,0,0,0,1⟩) (splitAt 59 s).length (splitAt 59 s).length) (h.dO [] [du ((splitAt 59 s).map J.str) 0]) [k=[59],s.length<2^40])
 |_=>none
noncomputable def Om:dB:=(l0.add 157 EV).add 156 zG
theorem On:∀args h a,zG args h=some a->a.cx Tryz.prog ck 156 args h:=by
 intro args h a e;unfold zG at e;split at e<;>first|(cases e;done)|skip
 simp only [a6]at e;subst e;intro ae;rw [ae.head];exact Ok _ ae.tail.head h
theorem sK:dv Tryz.prog ck Om:=(dP.add Ol).add On
abbrev jj(a:Nat):J:=J.slice (cX 9) a a
theorem EW(c:Bytes)(a b g:Nat)(d:List J)(f:bW->a8->T->Prop)(i:((b:Int)<(a:Int)->(0<=(b:Int)/\(b:Int)<(a:Int))/\a1 env.D 9 ⟨9,0,0+Int.toNat (b:Int),0,1⟩ (T.af 14 [(9,(ac.aj (d) 1 true))])=some (J.str c)/\(c=[]->f .ret [(2,.slice none 0 0),(3,.bool false),(4,.slice none 0 0),(12,(jj a)),(13,.int .i64 (a:Int)),(14,.int .i64 (b:Int))] (T.af 28 [(9,(ac.aj (d) 1 true))]))/\(¬c=[]->(9<(↑c.length:Int)->f .ret [(2,.slice none 0 0),(3,.bool false),(4,.slice none 0 0),(12,(jj a)),(13,.int .i64 (a:Int)),(14,.int .i64 (b:Int))] (T.af 28 [(9,(ac.aj (d) 1 true))]))/\(¬9<(↑c.length:Int)-> [(48:UInt8),(49:UInt8),(50:UInt8),(51:UInt8),(52:UInt8),(53:UInt8),(54:UInt8),(55:UInt8),(56:UInt8),(57:UInt8)]=[(48:UInt8),(49:UInt8),(50:UInt8),(51:UInt8),(52:UInt8),(53:UInt8),(54:UInt8),(55:UInt8),(56:UInt8),(57:UInt8)]/\c.length<1099511627776/\(Lib.trimS c jX=[]->bM 55 [.str c] (T.af 33 [(9,(ac.aj (d) 1 true))]) (.tuple [.int .i64 (g:Int),J.nilIface]) (T.af 33 [(9,(ac.aj (d) 1 true))])/\(-9223372036854775808<=(b:Int)+1/\(b:Int)+1<=9223372036854775807)/\f .normal [(4,.slice (cX 36) 1 1),(12,(jj a)),(13,.int .i64 (a:Int)),(14,.int .i64 ((b:Int)+1))] (T.af 40 [(9,(ac.aj (d) 1 true)),(35,ac.aj [.int .i64 (g:Int)] 1 true),(36,ac.aj [.int .i64 (g:Int)] 1 false (some (3,0)))]))/\(¬Lib.trimS c jX=[]->f .ret [(2,.slice none 0 0),(3,.bool false),(4,.slice none 0 0),(12,(jj a)),(13,.int .i64 (a:Int)),(14,.int .i64 (b:Int))] (T.af 28 [(9,(ac.aj (d) 1 true))])))))/\(¬(b:Int)<(a:Int)->f (.exit 0) [(4,.slice none 0 0),(12,(jj a)),(13,.int .i64 (a:Int)),(14,.int .i64 (b:Int))] (T.af 11 [(9,(ac.aj (d) 1 true))]))) :
 ∃e h aa,bR 0 41 (br 148 0) [(4,.slice none 0 0),(12,.slice (cX 9) a a),(13,.int .i64 a),(14,.int .i64 b)] (T.rows 10 [(9,du d 0)]) e h aa/\f e h aa :=
 di cP mixed sK (hs:= .aq 5000 (ag 6000 (.ak (.val 6001 (.str c)) (.aq 7001 .nil (.aq 7005 .nil (.aq 7010 (.ak (.val 9001 (.tuple [.int .i64 (g:Int),J.nilIface])) (ag 11000 .nil)) .nil))))) .nil) (keep:=[2,3,4,12,13,14]) ar i
abbrev mo(c a:Nat)(b:List J):ac:=⟨b,1,false,false,c,0,a,some (3,0)⟩
theorem zH(g:Bytes)(c d k b h a:Nat)(i f:List J)(j:bW->a8->T->Prop)(m:((d:Int)<(c:Int)->(0<=(d:Int)/\(d:Int)<(c:Int))/\a1 env.D 9 ⟨9,0,0+Int.toNat (d:Int),0,1⟩ (T.af 64 [(9,(ac.aj (i) 1 true)),(50,(mo b h f))])=some (J.str g)/\(g=[]->j .ret [(2,.slice none 0 0),(3,.bool false),(4,.slice (some ⟨50,b,0,0,1⟩) a a),(12,(jj c)),(13,.int .i64 (c:Int)),(14,.int .i64 (d:Int))] (T.af 78 [(9,(ac.aj (i) 1 true)),(50,(mo b h f))]))/\(¬g=[]->(9<(↑g.length:Int)->j .ret [(2,.slice none 0 0),(3,.bool false),(4,.slice (some ⟨50,b,0,0,1⟩) a a),(12,(jj c)),(13,.int .i64 (c:Int)),(14,.int .i64 (d:Int))] (T.af 78 [(9,(ac.aj (i) 1 true)),(50,(mo b h f))]))/\(¬9<(↑g.length:Int)-> [(48:UInt8),(49:UInt8),(50:UInt8),(51:UInt8),(52:UInt8),(53:UInt8),(54:UInt8),(55:UInt8),(56:UInt8),(57:UInt8)]=[(48:UInt8),(49:UInt8),(50:UInt8),(51:UInt8),(52:UInt8),(53:UInt8),(54:UInt8),(55:UInt8),(56:UInt8),(57:UInt8)]/\g.length<1099511627776/\(Lib.trimS g jX=[]->bM 55 [.str g] (T.af 83 [(9,(ac.aj (i) 1 true)),(50,(mo b h f))]) (.tuple [.int .i64 (k:Int),J.nilIface]) (T.af 83 [(9,(ac.aj (i) 1 true)),(50,(mo b h f))])/\(b=b/\0+a=f.length/\a<a+1/\(a+1+(a+1)/4+512)*8<=281474976710656/\a+1<4611686018427387904)/\(-9223372036854775808<=(d:Int)+1/\(d:Int)+1<=9223372036854775807)/\j .normal [(4,.slice (some {id:=50,ab:=b+1,idx:=0,fld:=0,es:=1}) (a+1) (a+1)),(12,(jj c)),(13,.int .i64 (c:Int)),(14,.int .i64 ((d:Int)+1))] (T.af 90 [(9,(ac.aj (i) 1 true)),(50,⟨f++[.int .i64 (k:Int)],1,false,false,b+1,0,if 0=b then f.length else min h f.length,some (3,0)⟩),(85,ac.aj [.int .i64 (k:Int)] 1 true)]))/\(¬Lib.trimS g jX=[]->j .ret [(2,.slice none 0 0),(3,.bool false),(4,.slice (some ⟨50,b,0,0,1⟩) a a),(12,(jj c)),(13,.int .i64 (c:Int)),(14,.int .i64 (d:Int))] (T.af 78 [(9,(ac.aj (i) 1 true)),(50,(mo b h f))])))))/\(¬(d:Int)<(c:Int)->j (.exit 0) [(4,.slice (some ⟨50,b,0,0,1⟩) a a),(12,(jj c)),(13,.int .i64 (c:Int)),(14,.int .i64 (d:Int))] (T.af 61 [(9,(ac.aj (i) 1 true)),(50,(mo b h f))]))) :
 ∃e l aa,bR 0 41 (br 148 0) [(4,.slice (some ⟨50,b,0,0,1⟩) a a),(12,.slice (cX 9) c c),(13,.int .i64 c),(14,.int .i64 d)] (T.rows 60 [(9,du i 0),(50,vG f b h)]) e l aa/\j e l aa :=
 di cP mixed sK (hs:= .aq 5000 (ag 6000 (.ak (.val 6001 (.str g)) (.aq 7001 .nil (.aq 7005 .nil (.aq 7010 (.ak (.val 9001 (.tuple [.int .i64 (k:Int),J.nilIface])) (ag 10003 (ag 11000 .nil))) .nil))))) .nil) (keep:=[2,3,4,12,13,14]) ar m
theorem Oo(a:bm)(b:a (.tuple [.slice none 0 0,.bool true]) (T.af 6 [])) :
 bC 148 [.str []] (⟨0,.nil⟩) a :=
 bI sK (.nil) b
theorem Oq(a:Bytes)(d e f g:J)(b:T)(c:bm)(h:(a=[]->c (.tuple [.slice none 0 0,.bool true]) (T.af 6 []))/\(¬a=[]-> [(59:UInt8)]=[(59:UInt8)]/\a.length<1099511627776/\bR 0 41 (Code.loop (br 148 0)) [(4,.slice none 0 0),(12,.slice (cX 9) (List.length (splitAt 59 a)) (List.length (splitAt 59 a))),(13,.int .i64 (↑(List.length (splitAt 59 a)):Int)),(14,.int .i64 0)] (T.dO (T.af 9 []) [] [(ac.aj (List.map .str (splitAt 59 a)) 1 true)]) (.exit 0) [(4,d),(12,g),(13,f),(14,e)] b/\c (.tuple [d,.bool true]) (T.mk (b.Y+3) (T.ay b)))) :
 bC 148 [.str a] (⟨0,.nil⟩) c :=
 bI sK (.aq 1001 .nil (.ak (.keep [4,12,13,14]) (.ak (.loop [(4,d),(12,g),(13,f),(14,e)] b (.exit 0)) .nil))) h
theorem Ot(a:Bytes)(c:T)(b:bm)(d:(a=[]->b (.tuple [.slice none 0 0,.bool true]) (T.af 6 []))/\(¬a=[]-> [(59:UInt8)]=[(59:UInt8)]/\a.length<1099511627776/\bR 0 41 (Code.loop (br 148 0)) [(4,.slice none 0 0),(12,.slice (cX 9) (List.length (splitAt 59 a)) (List.length (splitAt 59 a))),(13,.int .i64 (↑(List.length (splitAt 59 a)):Int)),(14,.int .i64 0)] (T.dO (T.af 9 []) [] [(ac.aj (List.map .str (splitAt 59 a)) 1 true)]) .ret [(2,.slice none 0 0),(3,.bool false)] c/\b (.tuple [.slice none 0 0,.bool false]) c)) :
 bC 148 [.str a] (⟨0,.nil⟩) b :=
 bI sK (.aq 1001 .nil (.ak (.keep [4,12,13,14]) (.ak (.loop [(2,.slice none 0 0),(3,.bool false)] c .ret) .nil))) d
theorem EX{h:T}{b:ac}{id i:Nat}{w:Bytes}(ag:h.get id=some b)(he:b.elem? 0 i=some (.str w)):a1 (a'.D env) 9 ⟨id,0,i,0,1⟩ h=some (.str w):=by have a:(a'.D env 9).map (λd=>d.kind.isAgg)=some false:= ar;obtain⟨d,aa,h2⟩:=b4.1 a;unfold a1;rw [aa,ag];simp only [he,ft,h2,ew,ey,dy]
theorem EY{ws:List Bytes}{j:Nat}(h:j<ws.length):(du (ws.map J.str) 0).elem? 0 j=some (.str ws[j]):=by simp [ac.elem?,ac.b0,h]
def bb(l:List Nat):List J:=l.map fun(n:Nat)=>J.int .i64 n
theorem EZ(l:List Nat):(bb l).length=l.length:=by simp [bb]
theorem vH(l:List Nat):∀e∈bb l,ci e:=ci.ints l .i64 fun(n:Nat)=>(n:Int)
theorem zI(ws:List Bytes):cj (du (ws.map J.str) 0):=by intro e he;obtain⟨w,_,rfl⟩:=dz.1 he;exact ci.str w
abbrev hf(l:List Nat):ac:=vG (bb l) (l.length-1) (hr l.length)
abbrev ic(l m j:Nat):a8:=[(4,.slice (some ⟨50,l-1,0,0,1⟩) l l),(12,.slice (some ⟨9,0,0,0,1⟩) m m),(13,.int .i64 (m:Nat)),(14,.int .i64 (j:Nat))]
theorem vI{K:List Nat}{i v o l c e:Nat}(h:i∈K):bQ (Go.bh.bO K) (.slice (some ⟨i,v,o,0,e⟩) l c):=h
theorem E0{l m j k:Nat}{h:T}{R B:ac}(c:k≠9)(b:cj R)(a:cj B)(aN:h.get 9=some R)(ag:h.get k=some B) :
 b5 0 41 [(4,.slice (some ⟨k,l-1,0,0,1⟩) l l),(12,.slice (some ⟨9,0,0,0,1⟩) m m),(13,.int .i64 (m:Nat)),(14,.int .i64 (j:Nat))] h (ic l m j) (T.rows 60 [(9,R),(50,B)]):=by
 refine b5.move (K:=60) (l:=[(9,R),(50,B)]) (λi=>if i=9 then 9 else k) ?_ rfl ?_ rfl rfl ?_ rfl ?_ ?_
 .simp [aN,ag,b.aK,a.aK]
 .simp;exact λe=>c e.symm
 .simp [J.aK,aT.aK]
 .exact a7.cons (vI an) (a7.cons (vI an) (a7.cons trivial (a7.cons trivial a7.nil)))
 .exact a7.cons (λe he=>(b e he).dh _) (a7.cons (λe he=>(a e he).dh _) a7.nil)
abbrev oX:a8:=[(2,.slice none 0 0),(3,.bool false)]
theorem vJ(w:Bytes):hx w=true↔w≠[]/\w.length<=9/\w.all digit=true:=by unfold hx;simp only [hi,Bool.or_eq_false_iff,pg,od,ne_eq,Bool.not_eq_false,Nat.not_lt,and_assoc]
theorem E1{a b c d:J}{n:Nat}{h:T} :b5 0 n [(2,J.slice none 0 0),(3,J.bool false),(4,a),(12,b),(13,c),(14,d)] h oX h :=
 b5.facts (by
  intro j u hu;rw [gH]at hu;split at hu
  .rename_i e;subst e;rw [<-hu];rfl
  .rw [gH]at hu;split at hu
   .rename_i e;subst e;rw [<-hu];rfl
   .cases hu)
theorem Ou(ws:List Bytes)(L:List Nat)(j:Nat)(k:j<ws.length)(q:L.length<2^40)(aa:1<=L.length)(hw:ws[j].length<2^40)(hm:ws.length<2^40) :
 (hx ws[j]=true-> ∃ad,bR 0 41 (br 148 0) (ic L.length ws.length j) (T.rows 60 [(9,du (ws.map J.str) 0),(50,hf L)]) .normal (ic (L++[number ws[j]]).length ws.length (j+1)) ad/\ad.get 9=some (du (ws.map J.str) 0)/\ad.get 50=some (hf (L++[number ws[j]]))) /\
 (hx ws[j]=false-> ∃ad,bR 0 41 (br 148 0) (ic L.length ws.length j) (T.rows 60 [(9,du (ws.map J.str) 0),(50,hf L)]) .ret oX ad):=by
 have e7:0+Int.toNat (j:Int)=j:= an;have o:((j:Int)+1)=((j+1:Nat):Int):= V
 have f:∀n:Nat,a1 (a'.D env) 9 ⟨9,0,0+Int.toNat (j:Int),0,1⟩ (T.af n [(9,du (ws.map J.str) 0),(50,vG (bb L) (L.length-1) (hr L.length))])=some (.str ws[j]):=λn=>by rw [e7];exact EX (b:=du (ws.map J.str) 0) ar (EY k)
 refine⟨λok=> ?_,λbad=> ?_⟩
 .obtain⟨aS,p,wd⟩:=(vJ _).1 ok;have d:(L++[number ws[j]]).length=L.length+1:= an
  obtain⟨e,a,h2,c,rfl,rfl,l,m⟩:=zH ws[j] ws.length j (number ws[j]) (L.length-1) (hr L.length) L.length (ws.map J.str) (bb L) (λe a h2=>e=.normal/\a=ic (L.length+1) ws.length (j+1)/\h2.get 9=some (du (ws.map J.str) 0)/\h2.get 50=some (hf (L++[number ws[j]]))) (by
   delta mo jj
   refine⟨λ_=>⟨⟨V,V⟩,f _,λh=>absurd h aS,λ_=>⟨λh=> V,λ_=>⟨rfl,hw,λ_=>⟨⟨EN _ V _ (EM aS wd) _⟩,⟨rfl,by rw [EZ];omega,V,V,V⟩,⟨V,V⟩,rfl,?_,rfl,?_⟩,λh=>absurd ((vF _).2 wd) h⟩⟩⟩,λh=> V⟩
   .unfold ic;rw [o,show L.length+1-1=L.length-1+1 by omega]
   .have aI:bb (L++[number ws[j]])=bb L++[J.int .i64 (number ws[j]:Nat)]:=by simp [bb]
    have aO:(L++[number ws[j]]).length-1=L.length-1+1:=by simp;omega
    have g:hr (L++[number ws[j]]).length=if 0=L.length-1 then(bb L).length else min (hr L.length) (bb L).length:=by
     rw [EZ,d];unfold hr;by_cases cs:L.length=1
     .rw [ap V,aE V];omega
     .rw [ap V,ap V,ap cs];omega
    show some _=some (vG _ _ _)
    rw [aI,aO,g])
  exact⟨h2,by rw [d];exact c,l,m⟩
 .obtain⟨e,a,h2,c,rfl,i⟩:=zH ws[j] ws.length j (number ws[j]) (L.length-1) (hr L.length) L.length (ws.map J.str) (bb L) (λe a h2=>e=.ret/\a=[(2,J.slice none 0 0),(3,J.bool false),(4,J.slice (some ⟨50,L.length-1,0,0,1⟩) L.length L.length),(12,J.slice (some ⟨9,0,0,0,1⟩) ws.length ws.length),(13,J.int .i64 ws.length),(14,J.int .i64 j)]) (by
   delta mo jj
   refine⟨λ_=>⟨⟨V,V⟩,f _,λh=>⟨rfl,rfl⟩,λaS=>⟨λh=>⟨rfl,rfl⟩,λp=>⟨rfl,hw,λh=> ?_,λh=>⟨rfl,rfl⟩⟩⟩⟩,λh=> V⟩;have:=(vJ ws[j]).2 ⟨aS,V,(vF _).1 h⟩
   rw [this]at bad;cases bad)
  subst i;exact⟨h2,c.post E1⟩
theorem Ov(ws:List Bytes)(g:0<ws.length)(hw:ws[0].length<2^40)(hm:ws.length<2^40) :
 (hx ws[0]=true-> ∃ad k,k≠9/\bR 0 41 (br 148 0) [(4,.slice none 0 0),(12,.slice (some ⟨9,0,0,0,1⟩) ws.length ws.length),(13,.int .i64 ws.length),(14,.int .i64 (0:Nat))] (T.rows 10 [(9,du (ws.map J.str) 0)]) .normal [(4,.slice (some ⟨k,1-1,0,0,1⟩) 1 1),(12,.slice (some ⟨9,0,0,0,1⟩) ws.length ws.length),(13,.int .i64 ws.length),(14,.int .i64 (0+1:Nat))] ad/\ad.get 9=some (du (ws.map J.str) 0)/\ad.get k=some (hf [number ws[0]])) /\
 (hx ws[0]=false-> ∃ad,bR 0 41 (br 148 0) [(4,.slice none 0 0),(12,.slice (some ⟨9,0,0,0,1⟩) ws.length ws.length),(13,.int .i64 ws.length),(14,.int .i64 (0:Nat))] (T.rows 10 [(9,du (ws.map J.str) 0)]) .ret oX ad):=by
 have e7:0+Int.toNat ((0:Nat):Int)=0:= an
 have d:∀n:Nat,a1 (a'.D env) 9 ⟨9,0,0+Int.toNat ((0:Nat):Int),0,1⟩ (T.af n [(9,du (ws.map J.str) 0)])=some (.str ws[0]):=λn=>by rw [e7];exact EX (b:=du (ws.map J.str) 0) ar (EY g)
 refine⟨λok=> ?_,λbad=> ?_⟩
 .obtain⟨aS,m,wd⟩:=(vJ _).1 ok
  obtain⟨e,a,h2,c,rfl,k,i,rfl,j,l⟩:=EW ws[0] ws.length 0 (number ws[0]) (ws.map J.str) (λe a h2=>e=.normal/\∃k,k≠9/\a=[(4,.slice (some ⟨k,1-1,0,0,1⟩) 1 1),(12,.slice (some ⟨9,0,0,0,1⟩) ws.length ws.length),(13,.int .i64 ws.length),(14,.int .i64 (0+1:Nat))]/\h2.get 9=some (du (ws.map J.str) 0)/\h2.get k=some (hf [number ws[0]]))
   ⟨λ_=>⟨⟨V,V⟩,d _,λh=>absurd h aS,λ_=>⟨λh=> V,λ_=>⟨rfl,hw,λ_=>⟨⟨EN _ V _ (EM aS wd) _⟩,⟨V,V⟩,rfl,_, aA,rfl,rfl,rfl⟩,λh=>absurd ((vF _).2 wd) h⟩⟩⟩,λh=> V⟩
  exact⟨h2,k,i,c,j,l⟩
 .obtain⟨e,a,h2,c,rfl,f⟩:=EW ws[0] ws.length 0 (number ws[0]) (ws.map J.str) (λe a h2=>e=.ret/\a=[(2,J.slice none 0 0),(3,J.bool false),(4,J.slice none 0 0),(12,J.slice (some ⟨9,0,0,0,1⟩) ws.length ws.length),(13,J.int .i64 ws.length),(14,J.int .i64 (0:Nat))]) (by
   delta jj
   refine⟨λ_=>⟨⟨V,V⟩,d _,λh=>⟨rfl,rfl⟩,λaS=>⟨λh=>⟨rfl,rfl⟩,λm=>⟨rfl,hw,λh=> ?_,λh=>⟨rfl,rfl⟩⟩⟩⟩,λh=> V⟩;have:=(vJ ws[0]).2 ⟨aS,V,(vF _).1 h⟩
   rw [this]at bad;cases bad)
  subst f;exact⟨h2,c.post E1⟩
theorem Ow(ws:List Bytes)(hw:∀w∈ws,w.length<2^40)(hm:ws.length<2^40):∀(k j:Nat),ws.length-j<=k->j<=ws.length->1<=j ->
 ((∀w∈ws.drop j,hx w=true)-> ∃ad,dl 0 41 (br 148 0) (ic ((ws.take j).map number).length ws.length j) (T.rows 60 [(9,du (ws.map J.str) 0),(50,hf ((ws.take j).map number))]) (.exit 0) (ic ws.length ws.length ws.length) ad/\ad.get 50=some (hf (ws.map number))) /\
 ((∃w∈ws.drop j,hx w=false)-> ∃ad,dl 0 41 (br 148 0) (ic ((ws.take j).map number).length ws.length j) (T.rows 60 [(9,du (ws.map J.str) 0),(50,hf ((ws.take j).map number))]) .ret oX ad):=by
 intro k
 have fin:∀h:(∀w∈ws.drop ws.length,hx w=true),∃ad,dl 0 41 (br 148 0) (ic ((ws.take ws.length).map number).length ws.length ws.length) (T.rows 60 [(9,du (ws.map J.str) 0),(50,hf ((ws.take ws.length).map number))]) (.exit 0) (ic ws.length ws.length ws.length) ad/\ad.get 50=some (hf (ws.map number)):=by intro _;rw [jH];obtain⟨e,i,h2,a,rfl,rfl,ag⟩:=zH [] ws.length ws.length 0 ((ws.map number).length-1) (hr (ws.map number).length) (ws.map number).length (ws.map J.str) (bb (ws.map number)) (λe i h2=>e=.exit 0/\i=ic (ws.map number).length ws.length ws.length/\h2.get 50=some (hf (ws.map number))) ⟨λh=> V,λ_=>⟨rfl,rfl,rfl⟩⟩;have el:(ws.map number).length=ws.length:=gy _;refine⟨h2,bX.last an ?_,ag⟩;rw [show ic ws.length ws.length ws.length=ic (ws.map number).length ws.length ws.length by rw [el]];exact a
 induction k with
 |zero =>
  intro j p o aa;obtain rfl:j=ws.length:= V;exact⟨fin,fun⟨w,hw,_⟩=>by simp at hw⟩
 |succ k ih =>
  intro j p o aa;by_cases al:j<ws.length
  .have q:(ws.take (j+1)).map number=(ws.take j).map number++[number ws[j]]:=by rw [List.take_succ_eq_append_getElem al,kj];rfl
   have f:ws.drop j=ws[j]::ws.drop (j+1):=iS al;have v:((ws.take j).map number).length=j:=by rw [gy,kl];omega
   obtain⟨t,u⟩:=Ou ws ((ws.take j).map number) j al V V (hw _ (gw al)) hm;obtain⟨i1,i2⟩:=ih (j+1) V V V;rw [q]at i1 i2;cases c:hx ws[j]with
   |false =>
    refine⟨λh=> ?_,λ_=> ?_⟩
    .have:=h ws[j] (by rw [f];exact jG);rw [c]at this;cases this
    .obtain⟨ad,a⟩:=u c;exact⟨ad,bX.last an a⟩
   |true =>
    obtain⟨h2,a,r,s⟩:=t c;have n:=E0 (l:=((ws.take j).map number++[number ws[j]]).length) (m:=ws.length) (j:=j+1) (k:=50) aA (zI ws) (B:=hf ((ws.take j).map number++[number ws[j]])) (vH _) r s;refine⟨λh=> ?_,fun⟨w,b,d⟩=> ?_⟩
    .obtain⟨ad,g,ag⟩:=i1 (λw b=>h w (by rw [f];exact iR _ b));exact⟨ad,bX.step (a.post n) g,ag⟩
    .rw [f]at b;rcases cM.1 b with rfl|b
     .rw [c]at d;cases d
     .obtain⟨ad,g⟩:=i2 ⟨w,b,d⟩;exact⟨ad,bX.step (a.post n) g⟩
  .obtain rfl:j=ws.length:= V;exact⟨fin,fun⟨w,hw,_⟩=>by simp at hw⟩
theorem zJ(c:UInt8):∀(s:Bytes),∀w∈splitAt c s,w.length<=s.length
 |[],w,h=>by simp [splitAt]at h;simp [h]
 |b ::r,w,h=>by
  unfold splitAt at h;split at h
  .rcases cM.1 h with rfl|h
   .simp
   .have:=zJ c r w h;simp only [b'];omega
  .cases hs:splitAt c r with
   |nil=>exact absurd hs (qq c r)
   |cons x t =>
    rw [hs]at h;have ih:=zJ c r;rw [hs]at ih;rcases cM.1 h with rfl|h
    .have:=ih x jG;simp only [b'];omega
    .have:=ih w (iR _ h);simp only [b'];omega
theorem bl.E2{f:FuncId}{args:List J}{ad:T}{j es n c ab:Nat}{b:Bool}{bn:ac}(k:bu f args ⟨0,.nil⟩ (.tuple [.slice (some ⟨j,ab,0,0,es⟩) n c,.bool b]) ad)(g:cj bn)(q:ad.get j=some bn)(e:∀a∈args,ci a)(H:T) :
 bu f args H (.tuple [.slice (some ⟨H.Y,ab,0,0,es⟩) n c,.bool b]) (H.dO [] [bn]):=by
 have r:bu f args (T.of []) (.tuple [.slice (some ⟨j,ab,0,0,es⟩) n c,.bool b]) ad:=k;have s:=r.fin [j] [bn] (.tuple [.slice (some ⟨0,ab,0,0,es⟩) n c,.bool b]) (λb d=>by rw [cC.1 d];exact g) rfl (by simp [eV,q]) (by simp [J.aK,J.fD,aT.aK,eV]) (by simp [bQ,dI]) an an;have o:dI (λi=>i<([]:List ac).length) args:=rz.2 λa h=>(e a h).dh _
 have m:=s.yg (l:=[]) (l2:=[bn]) (λb d=>by cases d) (λb d=>by rw [cC.1 d];exact g) o (H:=H) [] lN (λj p=>by cases p) rfl
 have aI:args.map (J.aK (cK [] H.Y))=args:=by
  conv=>rhs;rw [<-List.map_id args]
  exact jF λa h=>(e a h).1 _
 rw [aI]at m;simpa [J.aK,J.fD,aT.aK,cK]using m
theorem E3(ws:List Bytes)(n:Nat):b5 0 41 [(4,.slice none 0 0),(12,.slice (some ⟨9,0,0,0,1⟩) n n),(13,.int .i64 n),(14,.int .i64 (0:Nat))] (T.dO (T.af 9 []) [] [du (ws.map J.str) 0]) [(4,.slice none 0 0),(12,.slice (some ⟨9,0,0,0,1⟩) n n),(13,.int .i64 n),(14,.int .i64 (0:Nat))] (T.rows 10 [(9,du (ws.map J.str) 0)]) :=
 b5.drop (K:=10) (l:=[(9,du (ws.map J.str) 0)]) ar rfl rfl rfl (a7.cons trivial (a7.cons (vI an) (a7.cons trivial (a7.cons trivial a7.nil)))) (a7.cons (λe he=>(zI ws e he).dh _) a7.nil)
theorem qs(w:Bytes)(hw:w.length<2^38)(H:T) :
 (Keys.numbers w=none->bu 148 [.str w] H (.tuple [.slice none 0 0,.bool false]) H) /\
 (Keys.numbers w=some []->bu 148 [.str w] H (.tuple [.slice none 0 0,.bool true]) H) /\
 (∀l,l≠[]->Keys.numbers w=some l->bu 148 [.str w] H (.tuple [.slice (some ⟨H.Y,l.length-1,0,0,1⟩) l.length l.length,.bool true]) (H.dO [] [hf l])):=by
 by_cases q:w=[]
 .subst q;have az:Keys.numbers []=some []:=rfl;refine⟨(λh=>by rw [az]at h;cases h),λ_=> ?_,(λl s h=>by rw [az]at h;simp only [a6]at h;exact absurd h.symm s)⟩;exact bl.cm (Oo (λv _=>v=.tuple [.slice none 0 0,.bool true]) rfl) rfl rfl H
 .have az :Keys.numbers w=fN (splitAt 59 w):=by unfold Keys.numbers;rw [ap q]
  have hlen:=zD 59 w;have P:w.count 59<=w.length:=List.count_le_length;have D:=zJ 59 w;generalize A:splitAt 59 w=ws at az hlen D;have d:0<ws.length:= V;have hm:ws.length<2^40:= V;have E:∀x∈ws,x.length<2^40:=λx c=>by have:=D x c;omega
  obtain⟨G,O⟩:=Ov ws d (E _ (gw d)) hm;obtain⟨F,l2⟩:=Ow ws E hm ws.length 1 V V V
  have t1:(ws.take 1).map number=[number ws[0]]:=by
   cases ws with
   |nil=>simp at d
   |cons x r=>rfl
  rw [t1]at F l2
  have K:ws=ws[0]::ws.drop 1:=by
   cases ws with
   |nil=>simp at d
   |cons x r=>rfl
  have key:∀(h2:T)(k:Nat),k≠9->h2.get 9=some (du (ws.map J.str) 0)->h2.get k=some (hf [number ws[0]])->b5 0 41 [(4,.slice (some ⟨k,1-1,0,0,1⟩) 1 1),(12,.slice (some ⟨9,0,0,0,1⟩) ws.length ws.length),(13,.int .i64 ws.length),(14,.int .i64 (0+1:Nat))] h2 (ic [number ws[0]].length ws.length 1) (T.rows 60 [(9,du (ws.map J.str) 0),(50,hf [number ws[0]])]) :=
   λh2 k i n o=>E0 (l:=1) i (zI ws) (B:=hf [number ws[0]]) (vH _) n o
  by_cases p:∀x∈ws,hx x=true
  .have u:Keys.numbers w=some (ws.map number):=by rw [az,EH p]
   have N:ws.map number≠[]:=by intro h;have:=dW List.length h;simp at this;rw [this]at d;simp at d
   refine⟨(λh=>by rw [u]at h;cases h),(λh=>by rw [u]at h;simp only [a6]at h;exact absurd h N),λl s h=> ?_⟩;rw [u]at h;simp only [a6]at h;subst h;obtain⟨h2,k,i,m,n,o⟩:=G (p _ (gw d));obtain⟨ad,t,ag⟩:=F (λx c=>p x (List.mem_of_mem_drop c));have f:=cZ.dJ ((bX.step (m.post (key h2 k i n o)) t).pre (E3 ws ws.length));obtain⟨v,y,L,rfl,M⟩:=Oq w (.slice (some ⟨50,ws.length-1,0,0,1⟩) ws.length ws.length) (.int .i64 ws.length) (.int .i64 ws.length) (.slice (some ⟨9,0,0,0,1⟩) ws.length ws.length) ad (λv y=>v=.tuple [.slice (some ⟨50,ws.length-1,0,0,1⟩) ws.length ws.length,.bool true]/\y.get 50=some (hf (ws.map number))) (by rw [A];exact⟨λh=>absurd h q,λ_=>⟨rfl,V,f,rfl,ag⟩⟩);have:=bl.E2 L (bn:=hf (ws.map number)) (vH _) M (λa I=>by rw [cC.1 I];exact ci.str w) H
   rwa [gy]
  .have z:∃x∈ws,hx x=false:=by
    apply Classical.byContradiction;intro h;apply p;intro x c;cases j:hx x with
    |true=>rfl
    |false=>exact absurd ⟨x,c,j⟩ h
   have C:Keys.numbers w=none:=by obtain⟨x,c,g⟩:=z;obtain⟨a,b,e⟩:=List.append_of_mem c;rw [az,e,EI g]
   refine⟨λ_=> ?_,(λh=>by rw [C]at h;cases h),(λl s h=>by rw [C]at h;cases h)⟩
   have f:∃ad,dl 0 41 (br 148 0) [(4,.slice none 0 0),(12,.slice (some ⟨9,0,0,0,1⟩) ws.length ws.length),(13,.int .i64 ws.length),(14,.int .i64 (0:Nat))] (T.rows 10 [(9,du (ws.map J.str) 0)]) .ret oX ad:=by
    cases j:hx ws[0]with
    |false =>
     obtain⟨ad,m⟩:=O j;exact⟨ad,bX.last an m⟩
    |true =>
     obtain⟨h2,k,i,m,n,o⟩:=G j;obtain⟨x,c,g⟩:=z;rw [K]at c;rcases cM.1 c with rfl|c
     .rw [j]at g;cases g
     .obtain⟨ad,t⟩:=l2 ⟨x,c,g⟩;exact⟨ad,bX.step (m.post (key h2 k i n o)) t⟩
   obtain⟨ad,f⟩:=f;exact bl.cm (Ot w ad (λv _=>v=.tuple [.slice none 0 0,.bool false]) (by rw [A];exact⟨λh=>absurd h q,λ_=>⟨rfl,V,cZ.dJ (f.pre (E3 ws ws.length)),rfl⟩⟩)) rfl rfl H
abbrev vK(l:List J)(v f:Nat):ac:= {aQ:=l,es:=1,exact:=false,ro:=false,ab:=v,eb:=0,eS:=f,ty:=some (3,0)}
noncomputable def oY(o:Option (List Nat))(v:J)(rows:List ac):List J->T->Option dm:=λargs h =>
 match args with
 |[.str w]=>some (.one v (h.dO [] rows) [Keys.numbers w=o,w.length<100])
 |_=>none
noncomputable def vL:List J->T->Option dm:=oY none (.tuple [.slice none 0 0,.bool false]) []
noncomputable def vM:List J->T->Option dm:=oY (some []) (.tuple [.slice none 0 0,.bool true]) []
noncomputable def E4(a:Nat):List J->T->Option dm:=λargs h=>oY (some [a]) (.tuple [.slice (some ⟨h.Y,0,0,0,1⟩) 1 1,.bool true]) [vK [.int .i64 a] 0 0] args h
noncomputable def E5(a b:Nat):List J->T->Option dm:=λargs h=>oY (some [a,b]) (.tuple [.slice (some ⟨h.Y,1,0,0,1⟩) 2 2,.bool true]) [vK [.int .i64 a,.int .i64 b] 1 1] args h
noncomputable def E6(a b c:Nat):List J->T->Option dm:=λargs h=>oY (some [a,b,c]) (.tuple [.slice (some ⟨h.Y,2,0,0,1⟩) 3 3,.bool true]) [vK [.int .i64 a,.int .i64 b,.int .i64 c] 2 1] args h
def E7:List J->T->Option dm:=hN λa=>match a with | [.str s,.str k]=>some (.tuple [.str (s.drop 1),.bool (s.head? == some 60)],[k=[60],s.head? =some 60])|_=>none
def E8:List J->T->Option dm:=hN λa=>match a with | [.str s,.str k]=>some (.tuple [.str s,.bool false],[k=[60],s.head? ≠some 60])|_=>none
noncomputable def vN(num:List J->T->Option dm):dB:=(l0.add 53 E7).add 148 num
noncomputable def Ox(a b c:Nat):dB:=vN (E6 a b c)
noncomputable def Oy:dB:=vN vL
theorem vO:∀args h a,E7 args h=some a->a.cx Tryz.prog ck 53 args h:=by
 refine iz ?_;intro args v ps e ae H;split at e<;>first|(cases e;done)|skip
 rename_i s k;simp only [a6,bo]at e;obtain⟨rfl,rfl⟩:=e;have aa:k=[60]:=ae.head;have h2:s.head? =some 60:=ae.tail.head;subst aa;have:=EE s [60] H
 have ae:([60]:Bytes).isPrefixOf s=true:=by
  cases s with
  |nil=>cases h2
  |cons b r=>simp only [List.head?_cons,a6]at h2;subst h2;simp [List.isPrefixOf]
 unfold oW at this;rw [ae]at this;simpa [h2]using this
theorem sL{o:Option (List Nat)}{v:T->J}{rows:List ac}(k:∀(w:Bytes),w.length<100->Keys.numbers w=o-> ∀H,bu 148 [.str w] H (v H) (H.dO [] rows)):∀args h a,oY o (v h) rows args h=some a->a.cx Tryz.prog ck 148 args h:=by
 intro args h a e;unfold oY at e;split at e<;>first|(cases e;done)|skip
 simp only [a6]at e;subst e;exact λae=>k _ ae.tail.head ae.head h
theorem zK:∀args h a,vL args h=some a->a.cx Tryz.prog ck 148 args h:=sL (v:=λ_=> .tuple [.slice none 0 0,.bool false]) λw hw h H=>(qs w V H).1 h
theorem zL:∀args h a,vM args h=some a->a.cx Tryz.prog ck 148 args h:=sL (v:=λ_=> .tuple [.slice none 0 0,.bool true]) λw hw h H=>(qs w V H).2.1 h
theorem Oz(x:Nat):∀args h a,E4 x args h=some a->a.cx Tryz.prog ck 148 args h:=sL (v:=λh=> .tuple [.slice (some ⟨h.Y,0,0,0,1⟩) 1 1,.bool true]) λw hw h H=>(qs w V H).2.2 [x] an h
theorem OA(x y:Nat):∀args h a,E5 x y args h=some a->a.cx Tryz.prog ck 148 args h:=sL (v:=λh=> .tuple [.slice (some ⟨h.Y,1,0,0,1⟩) 2 2,.bool true]) λw hw h H=>(qs w V H).2.2 [x,y] an h
theorem OB(x y z:Nat):∀args h a,E6 x y z args h=some a->a.cx Tryz.prog ck 148 args h:=sL (v:=λh=> .tuple [.slice (some ⟨h.Y,2,0,0,1⟩) 3 3,.bool true]) λw hw h H=>(qs w V H).2.2 [x,y,z] an h
noncomputable def sM(l:List Nat):List J->T->Option dm:=λargs h=>match args with
 |[.str w]=>some (.one (.tuple [.slice (some ⟨h.Y,l.length-1,0,0,1⟩) l.length l.length,.bool true]) (h.dO [] [vK (bb l) (l.length-1) (hr l.length)]) [Keys.numbers w=some l,l≠[],w.length<100])
 |_=>none
theorem zM(l:List Nat):∀args h a,sM l args h=some a->a.cx Tryz.prog ck 148 args h:=by
 intro args h a e;unfold sM at e;split at e<;>first|(cases e;done)|skip
 rename_i w;simp only [a6]at e;subst e;intro ae;exact(qs w (by have:=ae.tail.tail.head;omega) h).2.2 l ae.tail.head ae.head
noncomputable def OC:dB:=vN vM
noncomputable def OD(l:List Nat):dB:=vN (sM l)
theorem OE:dv Tryz.prog ck OC:=(dP.add vO).add zL
theorem OF(l:List Nat):dv Tryz.prog ck (OD l):=(dP.add vO).add (zM l)
theorem OG:dv Tryz.prog ck Oy:=(dP.add vO).add zK
theorem OH(a b c:Nat):dv Tryz.prog ck (Ox a b c):=(dP.add vO).add (OB a b c)
theorem zN:∀args h a,E8 args h=some a->a.cx Tryz.prog ck 53 args h:=by
 refine iz ?_;intro args v ps e ae H;split at e<;>first|(cases e;done)|skip
 rename_i s k;simp only [a6,bo]at e;obtain⟨rfl,rfl⟩:=e;have aa:k=[60]:=ae.head;have h2:s.head? ≠some 60:=ae.tail.head;subst aa;have:=EE s [60] H
 have ae:([60]:Bytes).isPrefixOf s=false:=by
  cases s with
  |nil=>rfl
  |cons b r =>
   have c:¬(60:UInt8)=b:=λe=>h2 (by rw [<-e];rfl)
   simp [List.isPrefixOf,c]
 unfold oW at this;rw [ae]at this;simpa using this
noncomputable def zO(num:List J->T->Option dm):dB:=(l0.add 53 E8).add 148 num
noncomputable def OI:dB:=zO vL
noncomputable def OJ:dB:=zO vM
noncomputable def OK(l:List Nat):dB:=zO (sM l)
theorem OL:dv Tryz.prog ck OI:=(dP.add zN).add zK
theorem OM:dv Tryz.prog ck OJ:=(dP.add zN).add zL
theorem ON(l:List Nat):dv Tryz.prog ck (OK l):=(dP.add zN).add (zM l)
theorem OO(a:Bytes)(c:Int)(b:bm)(d:[(60:UInt8)]=[(60:UInt8)]/\List.head? a=some (60:UInt8)/\((List.head? a == some 60)=true->numbers (List.drop 1 a)=none/\List.length (List.drop 1 a)<100/\b (.tuple [fF,.bool false]) (T.af 30 [(0,(ac.aj ([fF]) 6 true (some (42,6))))]))/\((List.head? a == some 60)=false->numbers (List.drop 1 a)=none/\List.length (List.drop 1 a)<100/\b (.tuple [fF,.bool false]) (T.af 30 [(0,(ac.aj ([fF]) 6 true (some (42,6))))]))) :
 bC 147 [.str a,.int .u8 c] (⟨0,.nil⟩) b :=
 bI OG (.aq 1004 .nil .nil) d
abbrev zP:ch:=(.aq 16001 (.aq 16004 .nil (.aq 18001 (.aq 18004 .nil .nil) .nil)) (.aq 18001 (.aq 18004 .nil .nil) .nil))
abbrev mq(a b c:Nat):ac:=⟨[.int .i64 (a:Int),.int .i64 (b:Int),.int .i64 (c:Int)],1,false,false,2,0,1,some (3,0)⟩
abbrev E9(a b c:Nat):J:=J.agg [.int .i8 3,.int .i32 0,.int .u8 (bz .i64 (be .i64 (a:Int) (28)) (2)),.int .i64 ((b:Int)-1),.int .i64 ((c:Int)-1),.str []]
abbrev vP(a b c:Nat):J:=J.agg [.int .i8 3,.int .i32 3,.int .u8 (bz .i64 (be .i64 (a:Int) (28)) (2)),.int .i64 ((b:Int)-1),.int .i64 ((c:Int)-1),.str []]
abbrev zQ(a b c:Nat):J:=J.agg [.int .i8 3,.int .i32 4,.int .u8 (bz .i64 (be .i64 (a:Int) (28)) (2)),.int .i64 ((b:Int)-1),.int .i64 ((c:Int)-1),.str []]
abbrev zR(a b c:Nat):J:=J.agg [.int .i8 3,.int .i32 5,.int .u8 (bz .i64 (be .i64 (a:Int) (28)) (2)),.int .i64 ((b:Int)-1),.int .i64 ((c:Int)-1),.str []]
abbrev zS(a b c:Nat):J:=J.agg [.int .i8 3,.int .i32 6,.int .u8 (bz .i64 (be .i64 (a:Int) (28)) (2)),.int .i64 ((b:Int)-1),.int .i64 ((c:Int)-1),.str []]
abbrev vQ(a b c:Nat):J:=J.agg [.int .i8 3,.int .i32 (dc .i64 (a:Int) (28)),.int .u8 (bz .i64 (be .i64 (a:Int) (28)) (2)),.int .i64 ((b:Int)-1),.int .i64 ((c:Int)-1),.str []]
abbrev ds:J:=J.tuple [fF,.bool false]
abbrev df:ac:=(ac.aj ([fF]) 6 true (some (42,6)))
abbrev E'(a b c:Nat):J:=J.tuple [(zQ a b c),.bool true]
abbrev Fa(a b c:Nat):J:=J.tuple [(zR a b c),.bool true]
abbrev zT(a b c:Nat):ac:=(ac.aj ([(E9 a b c)]) 6 true (some (42,6)))
abbrev zU(a b c:Nat):ac:=(ac.aj ([(zQ a b c)]) 6 true (some (42,6)))
abbrev zV(a b c:Nat):ac:=(ac.aj ([(zR a b c)]) 6 true (some (42,6)))
abbrev zW(a b c:Nat):ac:=(ac.aj ([(zS a b c)]) 6 true (some (42,6)))
abbrev nI:ch:=(.aq 14001 (.aq 14004 (.aq 14008 .nil zP) zP) zP)
abbrev Fb(a b c:Nat):T:=(T.af 90 [(0,(ac.aj ([(vQ a b c)]) 6 true (some (42,6)))),(16,(mq a b c)),(48,(ac.aj ([(vQ a b c)]) 6 true (some (42,6))))])
abbrev sN(a b c:Nat):T:=(T.af 72 [(0,df),(16,(mq a b c)),(48,(zT a b c))])
abbrev vR(a b c:Nat):T:=(T.af 111 [(0,df),(16,(mq a b c)),(48,(zT a b c))])
abbrev Fc(a b c:Nat):T:=(T.af 99 [(0,(zW a b c)),(16,(mq a b c)),(48,(zW a b c))])
abbrev Fe(a b c:Nat):T:=(T.af 106 [(0,(zU a b c)),(16,(mq a b c)),(48,(zU a b c))])
abbrev Ff(a b c:Nat):T:=(T.af 113 [(0,(zV a b c)),(16,(mq a b c)),(48,(zV a b c))])
abbrev zX(a b c:Nat)(d:bm):Prop:=(dc .i64 (a:Int) (28)<=2->(-2147483648<=dc .i64 (a:Int) (28)/\dc .i64 (a:Int) (28)<=2147483647)/\d (.tuple [(vQ a b c),.bool true]) (Fb a b c))
abbrev zY(a c d:Nat)(b:bm):Prop:=(¬dc .i64 (a:Int) (28)=65->b (ds) (vR a c d))
abbrev jk(a b c:Nat)(d:bm):Prop:=(dc .i64 (a:Int) (28)=64->d ((E' a b c)) (Fe a b c))
abbrev zZ(a b c:Nat)(d:bm):Prop:=(dc .i64 (a:Int) (28)=65->d ((Fa a b c)) (Ff a b c))
abbrev sO(a b c:Nat)(d:bm):Prop:=(dc .i64 (a:Int) (28)<=35->d (.tuple [(zS a b c),.bool true]) (Fc a b c))
abbrev jl(b:Int)(c d e:Nat)(a:bm):Prop:=(¬b=77->(b=77->(zZ c d e a)/\(zY c d e a))/\(¬b=77->a (ds) (vR c d e)))
abbrev jm(e:Int)(a c d:Nat)(b:bm):Prop:=(¬dc .i64 (a:Int) (28)=64->(e=77->(zZ a c d b)/\(zY a c d b))/\(¬e=77->b (ds) (vR a c d)))
theorem OP(f:Bytes)(d:Int)(a b c:Nat)(e:bm)(g:[(60:UInt8)]=[(60:UInt8)]/\List.head? f=some (60:UInt8)/\((List.head? f == some 60)=true->numbers (List.drop 1 f)=some [a,b,c]/\List.length (List.drop 1 f)<100/\True/\True/\Int.NonNeg (2-0)/\(0<=bz .i64 (be .i64 (a:Int) (28)) (2)/\bz .i64 (be .i64 (a:Int) (28)) (2)<=255)/\(-9223372036854775808<=(b:Int)-1/\(b:Int)-1<=9223372036854775807)/\(-9223372036854775808<=(c:Int)-1/\(c:Int)-1<=9223372036854775807)/\((b:Int)-1<0->e (ds) (sN a b c))/\(¬(b:Int)-1<0->(4096<=(b:Int)-1->e (ds) (sN a b c))/\(¬4096<=(b:Int)-1->((c:Int)-1<0->e (ds) (sN a b c))/\(¬(c:Int)-1<0->(4096<=(c:Int)-1->e (ds) (sN a b c))/\(¬4096<=(c:Int)-1->(d=109->(dc .i64 (a:Int) (28)<=3->e (.tuple [(vP a b c),.bool true]) (T.af 81 [(0,(ac.aj ([(vP a b c)]) 6 true (some (42,6)))),(16,(mq a b c)),(48,(ac.aj ([(vP a b c)]) 6 true (some (42,6))))]))/\(¬dc .i64 (a:Int) (28)<=3->(d=77->(zX a b c e)/\(¬dc .i64 (a:Int) (28)<=2->(d=77->(32<=dc .i64 (a:Int) (28)->(sO a b c e)/\(¬dc .i64 (a:Int) (28)<=35->(d=77->(jk a b c e)/\(jm d a b c e))/\(jl d a b c e)))/\(¬32<=dc .i64 (a:Int) (28)->(d=77->(jk a b c e)/\(jm d a b c e))/\(jl d a b c e)))/\(¬d=77->(d=77->(jk a b c e)/\(jm d a b c e))/\(jl d a b c e))))/\(¬d=77->(d=77->(32<=dc .i64 (a:Int) (28)->(sO a b c e)/\(¬dc .i64 (a:Int) (28)<=35->(d=77->(jk a b c e)/\(jm d a b c e))/\(jl d a b c e)))/\(¬32<=dc .i64 (a:Int) (28)->(d=77->(jk a b c e)/\(jm d a b c e))/\(jl d a b c e)))/\(¬d=77->(d=77->(jk a b c e)/\(jm d a b c e))/\(jl d a b c e)))))/\(¬d=109->(d=77->(zX a b c e)/\(¬dc .i64 (a:Int) (28)<=2->(d=77->(32<=dc .i64 (a:Int) (28)->(sO a b c e)/\(¬dc .i64 (a:Int) (28)<=35->(d=77->(jk a b c e)/\(jm d a b c e))/\(jl d a b c e)))/\(¬32<=dc .i64 (a:Int) (28)->(d=77->(jk a b c e)/\(jm d a b c e))/\(jl d a b c e)))/\(¬d=77->(d=77->(jk a b c e)/\(jm d a b c e))/\(jl d a b c e))))/\(¬d=77->(d=77->(32<=dc .i64 (a:Int) (28)->(sO a b c e)/\(¬dc .i64 (a:Int) (28)<=35->(d=77->(jk a b c e)/\(jm d a b c e))/\(jl d a b c e)))/\(¬32<=dc .i64 (a:Int) (28)->(d=77->(jk a b c e)/\(jm d a b c e))/\(jl d a b c e)))/\(¬d=77->(d=77->(jk a b c e)/\(jm d a b c e))/\(jl d a b c e)))))))))/\((List.head? f == some 60)=false->numbers (List.drop 1 f)=some [a,b,c]/\List.length (List.drop 1 f)<100/\e (ds) (T.af 31 [(0,df),(16,(mq a b c))]))) :
 bC 147 [.str f,.int .u8 d] (⟨0,.nil⟩) e :=
 oH cP mixed (OH a b c) (hs:= .aq 1004 (ag 5003 (ag 6003 (ag 6004 (ag 6005 (ag 6009 (ag 6013 (.aq 8002 .nil (.aq 8006 .nil (.aq 8011 .nil (.aq 8016 .nil (.aq 10001 (.aq 10004 .nil (.aq 12001 (.aq 12004 (ag 13001 .nil) nI) nI)) (.aq 12001 (.aq 12004 (ag 13001 .nil) nI) nI)))))))))))) .nil) ar g
theorem OQ(a:Bytes)(c:Int)(b:bm)(d:[(60:UInt8)]=[(60:UInt8)]/\List.head? a=some (60:UInt8)/\((List.head? a == some 60)=true->numbers (List.drop 1 a)=some []/\List.length (List.drop 1 a)<100/\b (ds) (T.af 30 [(0,df)]))/\((List.head? a == some 60)=false->numbers (List.drop 1 a)=some []/\List.length (List.drop 1 a)<100/\b (ds) (T.af 30 [(0,df)]))) :
 bC 147 [.str a,.int .u8 c] (⟨0,.nil⟩) b :=
 bI OE (.aq 1004 .nil .nil) d
abbrev fy(a:List Nat):ac:=⟨bb a,1,false,false,List.length a-1,0,hr (List.length a),some (3,0)⟩
abbrev OR(a:List Nat):J:=J.agg [.int .i8 3,.int .i32 0,.int .u8 (bz .i64 (be .i64 (aL (bb a) 0) (28)) (2)),.int .i64 (aL (bb a) 1-1),.int .i64 (aL (bb a) 2-1),.str []]
abbrev z1(a:List Nat):J:=J.agg [.int .i8 3,.int .i32 3,.int .u8 (bz .i64 (be .i64 (aL (bb a) 0) (28)) (2)),.int .i64 (aL (bb a) 1-1),.int .i64 (aL (bb a) 2-1),.str []]
abbrev Fg(a:List Nat):J:=J.agg [.int .i8 3,.int .i32 4,.int .u8 (bz .i64 (be .i64 (aL (bb a) 0) (28)) (2)),.int .i64 (aL (bb a) 1-1),.int .i64 (aL (bb a) 2-1),.str []]
abbrev Fh(a:List Nat):J:=J.agg [.int .i8 3,.int .i32 5,.int .u8 (bz .i64 (be .i64 (aL (bb a) 0) (28)) (2)),.int .i64 (aL (bb a) 1-1),.int .i64 (aL (bb a) 2-1),.str []]
abbrev Fi(a:List Nat):J:=J.agg [.int .i8 3,.int .i32 6,.int .u8 (bz .i64 (be .i64 (aL (bb a) 0) (28)) (2)),.int .i64 (aL (bb a) 1-1),.int .i64 (aL (bb a) 2-1),.str []]
abbrev Fj(a:List Nat):J:=J.agg [.int .i8 3,.int .i32 (dc .i64 (aL (bb a) 0) (28)),.int .u8 (bz .i64 (be .i64 (aL (bb a) 0) (28)) (2)),.int .i64 (aL (bb a) 1-1),.int .i64 (aL (bb a) 2-1),.str []]
abbrev OS(a:List Nat):J:=J.tuple [(Fg a),.bool true]
abbrev OT(a:List Nat):J:=J.tuple [(Fh a),.bool true]
abbrev Fk(a:List Nat):ac:=(ac.aj ([(OR a)]) 6 true (some (42,6)))
abbrev Fl(a:List Nat):ac:=(ac.aj ([(Fg a)]) 6 true (some (42,6)))
abbrev Fm(a:List Nat):ac:=(ac.aj ([(Fh a)]) 6 true (some (42,6)))
abbrev Fo(a:List Nat):ac:=(ac.aj ([(Fi a)]) 6 true (some (42,6)))
abbrev Fp(a:List Nat):ac:=(ac.aj ([(Fj a)]) 6 true (some (42,6)))
abbrev vS(a:List Nat):T:=(T.af 72 [(0,df),(16,(fy a)),(48,(Fk a))])
abbrev z6(a:List Nat):T:=(T.af 111 [(0,df),(16,(fy a)),(48,(Fk a))])
abbrev OU(a:List Nat):T:=(T.af 99 [(0,(Fo a)),(16,(fy a)),(48,(Fo a))])
abbrev OV(a:List Nat):T:=(T.af 106 [(0,(Fl a)),(16,(fy a)),(48,(Fl a))])
abbrev OW(a:List Nat):T:=(T.af 113 [(0,(Fm a)),(16,(fy a)),(48,(Fm a))])
abbrev Fq(a:List Nat)(b:bm):Prop:=(dc .i64 (aL (bb a) 0) (28)<=2->(-2147483648<=dc .i64 (aL (bb a) 0) (28)/\dc .i64 (aL (bb a) 0) (28)<=2147483647)/\b (.tuple [(Fj a),.bool true]) (T.af 90 [(0,(Fp a)),(16,(fy a)),(48,(Fp a))]))
abbrev Fs(a:List Nat)(b:bm):Prop:=(¬dc .i64 (aL (bb a) 0) (28)=65->b (ds) (z6 a))
abbrev jY(a:List Nat)(b:bm):Prop:=(dc .i64 (aL (bb a) 0) (28)=64->b ((OS a)) (OV a))
abbrev Ft(a:List Nat)(b:bm):Prop:=(dc .i64 (aL (bb a) 0) (28)=65->b ((OT a)) (OW a))
abbrev vT(a:List Nat)(b:bm):Prop:=(dc .i64 (aL (bb a) 0) (28)<=35->b (.tuple [(Fi a),.bool true]) (OU a))
abbrev jZ(b:Int)(c:List Nat)(a:bm):Prop:=(¬b=77->(b=77->(Ft c a)/\(Fs c a))/\(¬b=77->a (ds) (z6 c)))
abbrev j4(c:Int)(a:List Nat)(b:bm):Prop:=(¬dc .i64 (aL (bb a) 0) (28)=64->(c=77->(Ft a b)/\(Fs a b))/\(¬c=77->b (ds) (z6 a)))
theorem z7(d:Bytes)(b:Int)(a:List Nat)(c:bm)(e:[(60:UInt8)]=[(60:UInt8)]/\List.head? d=some (60:UInt8)/\((List.head? d == some 60)=true->numbers (List.drop 1 d)=some a/\(a=[]->False)/\List.length (List.drop 1 d)<100/\((↑a.length:Int)=3->((0:Int)<=0/\0<(↑a.length:Int))/\a.length-1=a.length-1/\(bb a)[0]? =some (.int .i64 (aL (bb a) 0))/\True/\((0:Int)<=0/\0<(↑a.length:Int))/\a.length-1=a.length-1/\(bb a)[0]? =some (.int .i64 (aL (bb a) 0))/\True/\Int.NonNeg (2-0)/\(0<=bz .i64 (be .i64 (aL (bb a) 0) (28)) (2)/\bz .i64 (be .i64 (aL (bb a) 0) (28)) (2)<=255)/\((0:Int)<=1/\1<(↑a.length:Int))/\a.length-1=a.length-1/\(bb a)[1]? =some (.int .i64 (aL (bb a) 1))/\(-9223372036854775808<=aL (bb a) 1-1/\aL (bb a) 1-1<=9223372036854775807)/\((0:Int)<=2/\2<(↑a.length:Int))/\a.length-1=a.length-1/\(bb a)[2]? =some (.int .i64 (aL (bb a) 2))/\(-9223372036854775808<=aL (bb a) 2-1/\aL (bb a) 2-1<=9223372036854775807)/\(aL (bb a) 1-1<0->c (ds) (vS a))/\(¬aL (bb a) 1-1<0->(4096<=aL (bb a) 1-1->c (ds) (vS a))/\(¬4096<=aL (bb a) 1-1->(aL (bb a) 2-1<0->c (ds) (vS a))/\(¬aL (bb a) 2-1<0->(4096<=aL (bb a) 2-1->c (ds) (vS a))/\(¬4096<=aL (bb a) 2-1->(b=109->(dc .i64 (aL (bb a) 0) (28)<=3->c (.tuple [(z1 a),.bool true]) (T.af 81 [(0,(ac.aj ([(z1 a)]) 6 true (some (42,6)))),(16,(fy a)),(48,(ac.aj ([(z1 a)]) 6 true (some (42,6))))]))/\(¬dc .i64 (aL (bb a) 0) (28)<=3->(b=77->(Fq a c)/\(¬dc .i64 (aL (bb a) 0) (28)<=2->(b=77->(32<=dc .i64 (aL (bb a) 0) (28)->(vT a c)/\(¬dc .i64 (aL (bb a) 0) (28)<=35->(b=77->(jY a c)/\(j4 b a c))/\(jZ b a c)))/\(¬32<=dc .i64 (aL (bb a) 0) (28)->(b=77->(jY a c)/\(j4 b a c))/\(jZ b a c)))/\(¬b=77->(b=77->(jY a c)/\(j4 b a c))/\(jZ b a c))))/\(¬b=77->(b=77->(32<=dc .i64 (aL (bb a) 0) (28)->(vT a c)/\(¬dc .i64 (aL (bb a) 0) (28)<=35->(b=77->(jY a c)/\(j4 b a c))/\(jZ b a c)))/\(¬32<=dc .i64 (aL (bb a) 0) (28)->(b=77->(jY a c)/\(j4 b a c))/\(jZ b a c)))/\(¬b=77->(b=77->(jY a c)/\(j4 b a c))/\(jZ b a c)))))/\(¬b=109->(b=77->(Fq a c)/\(¬dc .i64 (aL (bb a) 0) (28)<=2->(b=77->(32<=dc .i64 (aL (bb a) 0) (28)->(vT a c)/\(¬dc .i64 (aL (bb a) 0) (28)<=35->(b=77->(jY a c)/\(j4 b a c))/\(jZ b a c)))/\(¬32<=dc .i64 (aL (bb a) 0) (28)->(b=77->(jY a c)/\(j4 b a c))/\(jZ b a c)))/\(¬b=77->(b=77->(jY a c)/\(j4 b a c))/\(jZ b a c))))/\(¬b=77->(b=77->(32<=dc .i64 (aL (bb a) 0) (28)->(vT a c)/\(¬dc .i64 (aL (bb a) 0) (28)<=35->(b=77->(jY a c)/\(j4 b a c))/\(jZ b a c)))/\(¬32<=dc .i64 (aL (bb a) 0) (28)->(b=77->(jY a c)/\(j4 b a c))/\(jZ b a c)))/\(¬b=77->(b=77->(jY a c)/\(j4 b a c))/\(jZ b a c)))))))))/\(¬(↑a.length:Int)=3->c (ds) (T.af 31 [(0,df),(16,(fy a))])))/\((List.head? d == some 60)=false->numbers (List.drop 1 d)=some a/\(a=[]->False)/\List.length (List.drop 1 d)<100/\c (ds) (T.af 31 [(0,df),(16,(fy a))]))) :
 bC 147 [.str d,.int .u8 b] (⟨0,.nil⟩) c :=
 oH cP mixed (OF a) (hs:= .aq 1004 (.aq 3009 (ag 5001 (ag 5002 (ag 5003 (ag 6001 (ag 6002 (ag 6003 (ag 6004 (ag 6005 (ag 6007 (ag 6008 (ag 6009 (ag 6011 (ag 6012 (ag 6013 (.aq 8002 .nil (.aq 8006 .nil (.aq 8011 .nil (.aq 8016 .nil (.aq 10001 (.aq 10004 .nil (.aq 12001 (.aq 12004 (ag 13001 .nil) nI) nI)) (.aq 12001 (.aq 12004 (ag 13001 .nil) nI) nI)))))))))))))))))))) .nil) .nil) ar e
theorem OX(a:Bytes)(c:Int)(b:bm)(d:[(60:UInt8)]=[(60:UInt8)]/\(List.head? a=some (60:UInt8)->False)/\numbers a=none/\a.length<100/\b (ds) (T.af 30 [(0,df)])) :
 bC 147 [.str a,.int .u8 c] (⟨0,.nil⟩) b :=
 bI OL (.nil) d
theorem OY(a:Bytes)(c:Int)(b:bm)(d:[(60:UInt8)]=[(60:UInt8)]/\(List.head? a=some (60:UInt8)->False)/\numbers a=some []/\a.length<100/\b (ds) (T.af 30 [(0,df)])) :
 bC 147 [.str a,.int .u8 c] (⟨0,.nil⟩) b :=
 bI OM (.nil) d
theorem OZ(b:Bytes)(d:Int)(a:List Nat)(c:bm)(e:[(60:UInt8)]=[(60:UInt8)]/\(List.head? b=some (60:UInt8)->False)/\numbers b=some a/\(a=[]->False)/\b.length<100/\c (ds) (T.af 31 [(0,df),(16,(fy a))])) :
 bC 147 [.str b,.int .u8 d] (⟨0,.nil⟩) c :=
 oH cP mixed (ON a) (hs:= .nil) ar e
theorem O0(n:Nat):n &&& 28=4* (n/4%8):=by
 have h:∀r:Fin 32,(r.val &&& 28)=4* (r.val/4%8):= aA
 have e:n &&& 28=(n%32) &&& 28:=by rw [show n%32=n &&& 31 from(tB n 5).symm,Nat.and_assoc];rfl
 have h2:n%32 &&& 28=4* (n%32/4%8):=h ⟨n%32,Nat.mod_lt _ aA⟩;rw [e,h2];omega
theorem O1(n:Nat)(h:n<2^62):n &&& (2^64-29)=n-4* (n/4%8):=by
 have aI:(n &&& (2^64-29))/2^5=n/2^5:=by rw [Nat.and_div_two_pow,show(2^64-29)/2^5=2^59-1 by decide,tB];exact qY V
 have aO:(n &&& (2^64-29))%2^5=n%4:=by rw [Nat.and_mod_two_pow,show(2^64-29)%2^5=2^2-1 by decide,tB];omega
 omega
theorem O2(n:Nat)(h:n<2^30):be .i64 (n:Int) 28=(4* (n/4%8):Nat):=by
 unfold be;rw [BitVec.toNat_and]
 have a:(BitVec.ofInt IntKind.i64.bits (n:Int)).toNat=n:=by show(BitVec.ofInt 64 (n:Int)).toNat=n;rw [BitVec.toNat_ofInt];omega
 have b:(BitVec.ofInt IntKind.i64.bits 28).toNat=28:= aA;rw [a,b,O0];have:4* (n/4%8)<32:= V;generalize 4* (n/4%8)=k at this;have w:∀k:Fin 32,IntKind.i64.wrap (k.val:Int)=k.val:= aA;exact w ⟨k,this⟩
theorem O3(n:Nat)(h:n<2^30):dc .i64 (n:Int) 28=(n-4* (n/4%8):Nat):=by
 unfold dc;rw [BitVec.toNat_and]
 have a:(BitVec.ofInt IntKind.i64.bits (n:Int)).toNat=n:=by show(BitVec.ofInt 64 (n:Int)).toNat=n;rw [BitVec.toNat_ofInt];omega
 have b:(~~~(BitVec.ofInt IntKind.i64.bits 28)).toNat=2^64-29:= aA;rw [a,b,O1 n V];generalize c:n-4* (n/4%8)=k;have:k<2^30:= V;exact xz V V rfl
theorem O4(k:Nat):bz .i64 ((4*k:Nat):Int) 2=k:=by unfold bz;show Int.fdiv ((4*k:Nat):Int) 4=k;rw [Int.fdiv_eq_ediv_of_nonneg _ aA];omega
set_option maxHeartbeats 8000000
def z8(held b a n2 c:Nat):Option aP :=
 if a<1\/4096<a\/n2<1\/4096<n2 then none
 else if c=109/\b<=3 then some {kind:=3,code:=3,eJ:=held,x:=(a:Int)-1,y:=(n2:Int)-1}
 else if c=77/\b<=2 then some {kind:=3,code:=b,eJ:=held,x:=(a:Int)-1,y:=(n2:Int)-1}
 else if c=77/\32<=b/\b<=35 then some {kind:=3,code:=6,eJ:=held,x:=(a:Int)-1,y:=(n2:Int)-1}
 else if c=77/\b=64 then some {kind:=3,code:=4,eJ:=held,x:=(a:Int)-1,y:=(n2:Int)-1}
 else if c=77/\b=65 then some {kind:=3,code:=5,eJ:=held,x:=(a:Int)-1,y:=(n2:Int)-1}
 else none
theorem O5{rest:Bytes}{a b n2 c:Nat}(h:Keys.numbers rest=some [a,b,n2]):Keys.dj (60::rest) c=z8 (a/4%8) (a-4* (a/4%8)) b n2 c:=by simp only [Keys.dj,h,z8]
theorem O6{rest:Bytes}{a d n2 c:Nat}(h:Keys.numbers rest=some [a,d,n2])(i:rest.length<100)(aN:a<2^30)(aa:d<2^30)(h2:n2<2^30)(H:T):bu 147 [.str (60::rest),.int .u8 c] H (fm (Keys.dj (60::rest) c)) H:=by
 refine bl.cm (OP (60::rest) c a d n2 (λv _=>v=fm (Keys.dj (60::rest) c)) ?_) rfl rfl H
 delta mq df fF ds jl vR zT E9 zY zZ Ff zV zR Fa jm jk Fe zU zQ E' sO Fc zW zS zX Fb vQ vP sN
 rw [O5 h,O2 a aN,O3 a aN,O4];have g:a/4%8<8:= V;have f:a-4* (a/4%8)<2^30:= V;generalize a/4%8=held at g f⊢;generalize a-4*held=b at f⊢;refine⟨rfl,rfl,λ_=>⟨h,i,?_⟩,λe=>by cases e⟩
 repeat' (first|exact True.intro|apply And.intro|intro _)
 all_goals first
  |omega
  |decide
  |exact(show(0:Int)<=2 by decide)
  |(unfold z8;(repeat' split)<;>first|rfl|(exfalso;omega))
end Go.Proofs.YtddnafghiejcoaaGreatDoor
namespace Go.Keys
theorem sP{w:Bytes}{l:List Nat}(h:numbers w=some l):∀n∈l,n<1000000000:=by
 unfold numbers at h;split at h
 .simp only [a6]at h;subst h;intro n az;cases az
 .exact EJ h
theorem qt{w:Bytes}{c:Nat}(h:w.head? ≠some 60):dj w c=none:=by
 unfold dj;split
 .simp at h
 .rfl
theorem O7{r:Bytes}{c:Nat}(h:numbers r=none):dj (60::r) c=none:=by simp only [dj,h]
theorem vU{r:Bytes}{c:Nat}{l:List Nat}(h:numbers r=some l)(b:l.length≠3):dj (60::r) c=none:=by
 simp only [dj,h];split
 .rename_i a;simp only [a6]at a;subst a;simp at b
 .rfl
end Go.Keys
namespace Go.Proofs.YtddnafghiejcoaaGreatDoor
open Go.bh Go.Keys
set_option maxRecDepth 1000000
theorem O8(w:Bytes)(c:Nat)(hw:w.length<100)(H:T):bu 147 [.str w,.int .u8 c] H (fm (Keys.dj w c)) H:=by
 by_cases f:w.head? =some 60
 .cases w with
  |nil=>cases f
  |cons b r =>
   simp only [List.head?_cons,a6]at f;subst f;have g:r.length<100:=by simp only [b']at hw;omega
   cases az:Keys.numbers r with
   |none =>
    rw [O7 az];exact bl.cm (OO (60::r) c (λv _=>v=fm none) ⟨rfl,rfl,λ_=>⟨az,g,rfl⟩,λe=>by cases e⟩) rfl rfl H
   |some l =>
    match l,az with
    |[],az =>
     rw [vU az an];exact bl.cm (OQ (60::r) c (λv _=>v=fm none) ⟨rfl,rfl,λ_=>⟨az,g,rfl⟩,λe=>by cases e⟩) rfl rfl H
    |[a,b,d],az =>
     have i:=sP az;exact O6 az g (by have:=i a an ;omega) (by have:=i b an ;omega) (by have:=i d an ;omega) H
    |[a],az =>
     rw [vU az an];exact bl.cm (z7 (60::r) c [a] (λv _=>v=fm none) ⟨rfl,rfl,λ_=>⟨az,an,g,(λh=>by simp only [b',dx]at h;omega),λ_=>rfl⟩,λe=>by cases e⟩) rfl rfl H
    |[a,b],az =>
     rw [vU az an];exact bl.cm (z7 (60::r) c [a,b] (λv _=>v=fm none) ⟨rfl,rfl,λ_=>⟨az,an,g,(λh=>by simp only [b',dx]at h;omega),λ_=>rfl⟩,λe=>by cases e⟩) rfl rfl H
    |a::b::d::e::t,az =>
     rw [vU az an];exact bl.cm (z7 (60::r) c (a::b::d::e::t) (λv _=>v=fm none) ⟨rfl,rfl,λ_=>⟨az,an,g,(λh=>by simp only [b']at h;omega),λ_=>rfl⟩,λe=>by cases e⟩) rfl rfl H
 .rw [qt f];cases az:Keys.numbers w with
  |none=>exact bl.cm (OX w c (λv _=>v=fm none) ⟨rfl,f,az,hw,rfl⟩) rfl rfl H
  |some l =>
   cases l with
   |nil=>exact bl.cm (OY w c (λv _=>v=fm none) ⟨rfl,f,az,hw,rfl⟩) rfl rfl H
   |cons a t=>exact bl.cm (OZ w c (a::t) (λv _=>v=fm none) ⟨rfl,f,az,an,hw,rfl⟩) rfl rfl H
noncomputable def Fu:List J->T->Option dm:=hN λa=>match a with | [.str w,.int .u8 c]=>some (fm (Keys.dj w c.toNat),[w.length<100,0<=c/\c<=255])|_=>none
theorem sQ:∀args h a,Fu args h=some a->a.cx Tryz.prog ck 147 args h:=by
 refine iz ?_;intro args v ps e ae H;split at e<;>first|(cases e;done)|skip
 rename_i w c;simp only [a6,bo]at e;obtain⟨rfl,rfl⟩:=e;have aN:=ae.tail.head.1;have:=O8 w c.toNat ae.head H
 rwa [Int.toNat_of_nonneg aN]at this
noncomputable def Fv:List J->T->Option dm:=hN λa=>match a with | [.int .i64 n,.int .u8 m]=>some (fm (Keys.cT n.toNat m),[0<=n])|_=>none
theorem sR:∀args h a,Fv args h=some a->a.cx Tryz.prog ck 149 args h:=by
 refine iz ?_;intro args v ps e ae H;split at e<;>first|(cases e;done)|skip
 rename_i n m;simp only [a6,bo]at e;obtain⟨rfl,rfl⟩:=e;have aN:0<=n:=ae _ jG;have:=NS n.toNat m H
 rwa [Int.toNat_of_nonneg aN]at this
noncomputable def sS(num:List J->T->Option dm):dB:=((l0.add 147 Fu).add 149 Fv).add 148 num
noncomputable def O9:dB:=sS vL
noncomputable def O':dB:=sS vM
noncomputable def Pa(a:Nat):dB:=sS (E4 a)
noncomputable def Pb(a b:Nat):dB:=sS (E5 a b)
theorem Pc:dv Tryz.prog ck O9:=((dP.add sQ).add sR).add zK
theorem Pd:dv Tryz.prog ck O':=((dP.add sQ).add sR).add zL
theorem Pe(a:Nat):dv Tryz.prog ck (Pa a):=((dP.add sQ).add sR).add (Oz a)
theorem Pf(a b:Nat):dv Tryz.prog ck (Pb a b):=((dP.add sQ).add sR).add (OA a b)
noncomputable def Pg(l:List Nat):dB:=sS (sM l)
theorem Ph(l:List Nat):dv Tryz.prog ck (Pg l):=((dP.add sQ).add sR).add (zM l)
abbrev eu(b:Bytes)(a:Int):J:=J.agg [.int .i8 6,.int .i32 0,.int .u8 0,.int .i64 0,.int .i64 0,.str (b++[UInt8.ofNat (Int.toNat a)])]
abbrev fz(b:Bytes)(a:Int):J:=J.agg [.int .i8 (aP.kind (Option.getD (dj b (Int.toNat a)) dR)),.int .i32 (aP.code (Option.getD (dj b (Int.toNat a)) dR)),.int .u8 (aP.eJ (Option.getD (dj b (Int.toNat a)) dR)),.int .i64 (aP.x (Option.getD (dj b (Int.toNat a)) dR)),.int .i64 (aP.y (Option.getD (dj b (Int.toNat a)) dR)),.str (Option.getD (dj b (Int.toNat a)) dR).6]
abbrev fH(b:Bytes)(a:Int):ac:=(ac.aj ([(fz b a)]) 6 true (some (42,6)))
theorem Pj(b:Bytes)(a:Int)(c:bm)(d:(a=82->Nat.le (Nat.succ (List.length b+List.length [UInt8.ofNat (Int.toNat a)])) (2^62)/\c (.tuple [(eu b a),.bool true]) (T.af 14 [(0,(ac.aj ([(eu b a)]) 6 true (some (42,6)))),(2,bx),(8,ac.aj [.int .u8 a] 1 true)]))/\(¬a=82->(a=99->Nat.le (Nat.succ (List.length b+List.length [UInt8.ofNat (Int.toNat a)])) (2^62)/\c (.tuple [(eu b a),.bool true]) (T.af 16 [(0,(ac.aj ([(eu b a)]) 6 true (some (42,6)))),(2,bx),(10,ac.aj [.int .u8 a] 1 true)]))/\(¬a=99->(a=110->Nat.le (Nat.succ (List.length b+List.length [UInt8.ofNat (Int.toNat a)])) (2^62)/\c (.tuple [(eu b a),.bool true]) (T.af 18 [(0,(ac.aj ([(eu b a)]) 6 true (some (42,6)))),(2,bx),(12,ac.aj [.int .u8 a] 1 true)]))/\(¬a=110->(a=77->b.length<100/\(0<=a/\a<=255)/\(Option.isSome (dj b (Int.toNat a))=true->c (.tuple [(fz b a),.bool true]) (T.af 19 [(0,(fH b a)),(2,bx)]))/\(Option.isSome (dj b (Int.toNat a))=false->c (.tuple [(fz b a),.bool false]) (T.af 19 [(0,(fH b a)),(2,bx)])))/\(¬a=77->(a=109->b.length<100/\(0<=a/\a<=255)/\(Option.isSome (dj b (Int.toNat a))=true->c (.tuple [(fz b a),.bool true]) (T.af 21 [(0,(fH b a)),(2,bx)]))/\(Option.isSome (dj b (Int.toNat a))=false->c (.tuple [(fz b a),.bool false]) (T.af 21 [(0,(fH b a)),(2,bx)])))/\(¬a=109->numbers b=none/\b.length<100/\c (ds) (T.af 26 [(0,df),(2,bx)]))))))) :
 bC 130 [.str b,.int .u8 a] (⟨0,.nil⟩) c :=
 bI Pc (.aq 3000 (ag 6004 .nil) (.aq 4000 (ag 6004 .nil) (.aq 5000 (ag 6004 .nil) (.aq 7000 (.aq 9004 .nil .nil) (.aq 8000 (.aq 9004 .nil .nil) .nil))))) d
abbrev lm:J:=J.agg [.int .i8 2,.int .i32 2,.int .u8 1,.int .i64 0,.int .i64 0,.str []]
abbrev ln:J:=J.agg [.int .i8 5,.int .i32 0,.int .u8 0,.int .i64 0,.int .i64 0,.str []]
abbrev lo:J:=J.agg [.int .i8 5,.int .i32 1,.int .u8 0,.int .i64 0,.int .i64 0,.str []]
theorem Pk(b:Bytes)(a:Int)(c:bm)(d:(a=82->Nat.le (Nat.succ (List.length b+List.length [UInt8.ofNat (Int.toNat a)])) (2^62)/\c (.tuple [(eu b a),.bool true]) (T.af 14 [(0,(ac.aj ([(eu b a)]) 6 true (some (42,6)))),(2,bx),(8,ac.aj [.int .u8 a] 1 true)]))/\(¬a=82->(a=99->Nat.le (Nat.succ (List.length b+List.length [UInt8.ofNat (Int.toNat a)])) (2^62)/\c (.tuple [(eu b a),.bool true]) (T.af 16 [(0,(ac.aj ([(eu b a)]) 6 true (some (42,6)))),(2,bx),(10,ac.aj [.int .u8 a] 1 true)]))/\(¬a=99->(a=110->Nat.le (Nat.succ (List.length b+List.length [UInt8.ofNat (Int.toNat a)])) (2^62)/\c (.tuple [(eu b a),.bool true]) (T.af 18 [(0,(ac.aj ([(eu b a)]) 6 true (some (42,6)))),(2,bx),(12,ac.aj [.int .u8 a] 1 true)]))/\(¬a=110->(a=77->b.length<100/\(0<=a/\a<=255)/\(Option.isSome (dj b (Int.toNat a))=true->c (.tuple [(fz b a),.bool true]) (T.af 19 [(0,(fH b a)),(2,bx)]))/\(Option.isSome (dj b (Int.toNat a))=false->c (.tuple [(fz b a),.bool false]) (T.af 19 [(0,(fH b a)),(2,bx)])))/\(¬a=77->(a=109->b.length<100/\(0<=a/\a<=255)/\(Option.isSome (dj b (Int.toNat a))=true->c (.tuple [(fz b a),.bool true]) (T.af 21 [(0,(fH b a)),(2,bx)]))/\(Option.isSome (dj b (Int.toNat a))=false->c (.tuple [(fz b a),.bool false]) (T.af 21 [(0,(fH b a)),(2,bx)])))/\(¬a=109->numbers b=some []/\b.length<100/\(a=90->c (.tuple [lm,.bool true]) (T.af 32 [(0,(ac.aj ([lm]) 6 true (some (42,6)))),(2,bx)]))/\(¬a=90->(a=73->c (.tuple [lo,.bool true]) (T.af 34 [(0,(ac.aj ([lo]) 6 true (some (42,6)))),(2,bx)]))/\(¬a=73->(a=79->c (.tuple [ln,.bool true]) (T.af 36 [(0,(ac.aj ([ln]) 6 true (some (42,6)))),(2,bx)]))/\(¬a=79->(0<fZ a->c (.tuple [(kI a),.bool true]) (T.af 42 [(0,(ac.aj ([(kI a)]) 6 true (some (42,6)))),(2,bx)]))/\(¬0<fZ a->c (ds) (T.af 41 [(0,df),(2,bx)]))))))))))) :
 bC 130 [.str b,.int .u8 a] (⟨0,.nil⟩) c :=
 bI Pd (.aq 3000 (ag 6004 .nil) (.aq 4000 (ag 6004 .nil) (.aq 5000 (ag 6004 .nil) (.aq 7000 (.aq 9004 .nil .nil) (.aq 8000 (.aq 9004 .nil .nil) (.aq 15000 .nil (.aq 17000 .nil (.aq 19000 .nil (.aq 22001 .nil .nil))))))))) d
abbrev vV(a:Nat):ac:=(ac.aj ([.int .i64 (a:Int)]) 1 false (some (3,0)))
abbrev sT:ch:=(.aq 33001 (.aq 33007 .nil (.aq 35001 (.aq 36006 .nil .nil) .nil)) (.aq 35001 (.aq 36006 .nil .nil) .nil))
abbrev z'(a:Nat):J:=J.agg [.int .i8 2,.int .i32 (hq (a:Int)),.int .u8 0,.int .i64 0,.int .i64 0,.str []]
abbrev vW(a:Nat):J:=J.agg [.int .i8 (aP.kind (Option.getD (cT a 0) dR)),.int .i32 (aP.code (Option.getD (cT a 0) dR)),.int .u8 (aP.eJ (Option.getD (cT a 0) dR)),.int .i64 (aP.x (Option.getD (cT a 0) dR)),.int .i64 (aP.y (Option.getD (cT a 0) dR)),.str (Option.getD (cT a (0)) dR).6]
abbrev Fw(a:Nat):J:=J.tuple [(vW a),.bool true]
abbrev Fx(a:Nat):J:=J.tuple [(vW a),.bool false]
abbrev Fy(a:Nat):ac:=(ac.aj ([(vW a)]) 6 true (some (42,6)))
abbrev Fz(a:Nat):T:=(T.af 79 [(0,(ac.aj ([(z' a)]) 6 true (some (42,6)))),(2,bx),(21,(vV a))])
abbrev vX(a:Nat)(b:bm):Prop:=(0<hq (a:Int)->b (.tuple [(z' a),.bool true]) (Fz a))
abbrev Aa(a:Nat):T:=(T.af 77 [(0,df),(2,bx),(21,(vV a))])
abbrev Ab(a:Nat):T:=(T.af 83 [(0,(Fy a)),(2,bx),(21,(vV a))])
abbrev Ac(a:Nat)(b:bm):Prop:=(Option.isSome (cT a 0)=true->b ((Fw a)) (Ab a))
abbrev Ad(a:Nat)(b:bm):Prop:=(Option.isSome (cT a 0)=false->b ((Fx a)) (Ab a))
abbrev vY(c:Int)(a:Nat)(b:bm):Prop:=(¬c=126->(c=117->0<=(a:Int)/\(Ac a b)/\(Ad a b))/\(¬c=117->b (ds) (Aa a)))
abbrev vZ(c:Int)(a:Nat)(b:bm):Prop:=(¬0<hq (a:Int)->(c=117->0<=(a:Int)/\(Ac a b)/\(Ad a b))/\(¬c=117->b (ds) (Aa a)))
theorem Pl(b:Bytes)(a:Int)(d:Nat)(c:bm)(e:(a=82->Nat.le (Nat.succ (List.length b+List.length [UInt8.ofNat (Int.toNat a)])) (2^62)/\c (.tuple [(eu b a),.bool true]) (T.af 14 [(0,(ac.aj ([(eu b a)]) 6 true (some (42,6)))),(2,bx),(8,ac.aj [.int .u8 a] 1 true)]))/\(¬a=82->(a=99->Nat.le (Nat.succ (List.length b+List.length [UInt8.ofNat (Int.toNat a)])) (2^62)/\c (.tuple [(eu b a),.bool true]) (T.af 16 [(0,(ac.aj ([(eu b a)]) 6 true (some (42,6)))),(2,bx),(10,ac.aj [.int .u8 a] 1 true)]))/\(¬a=99->(a=110->Nat.le (Nat.succ (List.length b+List.length [UInt8.ofNat (Int.toNat a)])) (2^62)/\c (.tuple [(eu b a),.bool true]) (T.af 18 [(0,(ac.aj ([(eu b a)]) 6 true (some (42,6)))),(2,bx),(12,ac.aj [.int .u8 a] 1 true)]))/\(¬a=110->(a=77->b.length<100/\(0<=a/\a<=255)/\(Option.isSome (dj b (Int.toNat a))=true->c (.tuple [(fz b a),.bool true]) (T.af 19 [(0,(fH b a)),(2,bx)]))/\(Option.isSome (dj b (Int.toNat a))=false->c (.tuple [(fz b a),.bool false]) (T.af 19 [(0,(fH b a)),(2,bx)])))/\(¬a=77->(a=109->b.length<100/\(0<=a/\a<=255)/\(Option.isSome (dj b (Int.toNat a))=true->c (.tuple [(fz b a),.bool true]) (T.af 21 [(0,(fH b a)),(2,bx)]))/\(Option.isSome (dj b (Int.toNat a))=false->c (.tuple [(fz b a),.bool false]) (T.af 21 [(0,(fH b a)),(2,bx)])))/\(¬a=109->numbers b=some [d]/\b.length<100/\(0<fZ a->((d:Int)=1->(a=126->(vX d c)/\(vZ a d c))/\(vY a d c))/\(¬(d:Int)=1->(a=126->(vX d c)/\(vZ a d c))/\(vY a d c)))/\(¬0<fZ a->(a=126->(vX d c)/\(vZ a d c))/\(vY a d c)))))))) :
 bC 130 [.str b,.int .u8 a] (⟨0,.nil⟩) c :=
 oH cP mixed (Pe d) (hs:= .aq 3000 (ag 6004 .nil) (.aq 4000 (ag 6004 .nil) (.aq 5000 (ag 6004 .nil) (.aq 7000 (.aq 9004 .nil .nil) (.aq 8000 (.aq 9004 .nil .nil) (.aq 31002 (.aq 31007 sT sT) sT)))))) ar e
abbrev Ae(a:Int)(b:Nat):J:=J.agg [.int .i8 2,.int .i32 (fZ a),.int .u8 ((b:Int)-1),.int .i64 0,.int .i64 0,.str []]
abbrev oZ(a b:Nat):ac:=⟨[.int .i64 (a:Int),.int .i64 (b:Int)],1,false,false,1,0,1,some (3,0)⟩
abbrev Af(a b:Nat):J:=J.agg [.int .i8 2,.int .i32 (hq (a:Int)),.int .u8 ((b:Int)-1),.int .i64 0,.int .i64 0,.str []]
abbrev v7(a b:Nat):J:=J.agg [.int .i8 (aP.kind (Option.getD (cT a ((b:Int)-1)) dR)),.int .i32 (aP.code (Option.getD (cT a ((b:Int)-1)) dR)),.int .u8 (aP.eJ (Option.getD (cT a ((b:Int)-1)) dR)),.int .i64 (aP.x (Option.getD (cT a ((b:Int)-1)) dR)),.int .i64 (aP.y (Option.getD (cT a ((b:Int)-1)) dR)),.str (Option.getD (cT a ((b:Int)-1)) dR).6]
abbrev FA(a b:Nat):ac:=(ac.aj ([(v7 a b)]) 6 true (some (42,6)))
abbrev FB(a b:Nat):T:=(T.af 83 [(0,(ac.aj ([(Af a b)]) 6 true (some (42,6)))),(2,bx),(21,(oZ a b))])
abbrev v8(a b:Nat):T:=(T.af 81 [(0,df),(2,bx),(21,(oZ a b))])
abbrev Ag(a b:Nat):T:=(T.af 87 [(0,(FA a b)),(2,bx),(21,(oZ a b))])
abbrev v'(a b:Nat)(c:bm):Prop:=(Option.isSome (cT a ((b:Int)-1))=true->c (.tuple [(v7 a b),.bool true]) (Ag a b))
abbrev wa(a b:Nat)(c:bm):Prop:=(Option.isSome (cT a ((b:Int)-1))=false->c (.tuple [(v7 a b),.bool false]) (Ag a b))
abbrev Ah(d:Int)(a b:Nat)(c:bm):Prop:=(d=126->(0<hq (a:Int)->c (.tuple [(Af a b),.bool true]) (FB a b))/\(¬0<hq (a:Int)->(d=117->0<=(a:Int)/\(v' a b c)/\(wa a b c))/\(¬d=117->c (ds) (v8 a b))))
theorem Pm(b:Bytes)(a:Int)(e c:Nat)(d:bm)(f:(a=82->Nat.le (Nat.succ (List.length b+List.length [UInt8.ofNat (Int.toNat a)])) (2^62)/\d (.tuple [(eu b a),.bool true]) (T.af 14 [(0,(ac.aj ([(eu b a)]) 6 true (some (42,6)))),(2,bx),(8,ac.aj [.int .u8 a] 1 true)]))/\(¬a=82->(a=99->Nat.le (Nat.succ (List.length b+List.length [UInt8.ofNat (Int.toNat a)])) (2^62)/\d (.tuple [(eu b a),.bool true]) (T.af 16 [(0,(ac.aj ([(eu b a)]) 6 true (some (42,6)))),(2,bx),(10,ac.aj [.int .u8 a] 1 true)]))/\(¬a=99->(a=110->Nat.le (Nat.succ (List.length b+List.length [UInt8.ofNat (Int.toNat a)])) (2^62)/\d (.tuple [(eu b a),.bool true]) (T.af 18 [(0,(ac.aj ([(eu b a)]) 6 true (some (42,6)))),(2,bx),(12,ac.aj [.int .u8 a] 1 true)]))/\(¬a=110->(a=77->b.length<100/\(0<=a/\a<=255)/\(Option.isSome (dj b (Int.toNat a))=true->d (.tuple [(fz b a),.bool true]) (T.af 19 [(0,(fH b a)),(2,bx)]))/\(Option.isSome (dj b (Int.toNat a))=false->d (.tuple [(fz b a),.bool false]) (T.af 19 [(0,(fH b a)),(2,bx)])))/\(¬a=77->(a=109->b.length<100/\(0<=a/\a<=255)/\(Option.isSome (dj b (Int.toNat a))=true->d (.tuple [(fz b a),.bool true]) (T.af 21 [(0,(fH b a)),(2,bx)]))/\(Option.isSome (dj b (Int.toNat a))=false->d (.tuple [(fz b a),.bool false]) (T.af 21 [(0,(fH b a)),(2,bx)])))/\(¬a=109->numbers b=some [e,c]/\b.length<100/\((c:Int)<1->d (ds) (T.af 49 [(0,df),(2,bx),(21,(oZ e c))]))/\(¬(c:Int)<1->(8<(c:Int)->d (ds) (T.af 49 [(0,df),(2,bx),(21,(oZ e c))]))/\(¬8<(c:Int)->(-9223372036854775808<=(c:Int)-1/\(c:Int)-1<=9223372036854775807)/\(0<=(c:Int)-1/\(c:Int)-1<=255)/\(0<fZ a->((e:Int)=1->d (.tuple [(Ae a c),.bool true]) (T.af 71 [(0,(ac.aj ([(Ae a c)]) 6 true (some (42,6)))),(2,bx),(21,(oZ e c))]))/\(¬(e:Int)=1->(Ah a e c d)/\(¬a=126->(a=117->0<=(e:Int)/\(v' e c d)/\(wa e c d))/\(¬a=117->d (ds) (v8 e c)))))/\(¬0<fZ a->(Ah a e c d)/\(¬a=126->(a=117->0<=(e:Int)/\(v' e c d)/\(wa e c d))/\(¬a=117->d (ds) (v8 e c)))))))))))) :
 bC 130 [.str b,.int .u8 a] (⟨0,.nil⟩) d :=
 oH cP mixed (Pf e c) (hs:= .aq 3000 (ag 6004 .nil) (.aq 4000 (ag 6004 .nil) (.aq 5000 (ag 6004 .nil) (.aq 7000 (.aq 9004 .nil .nil) (.aq 8000 (.aq 9004 .nil .nil) (.aq 28005 .nil (.aq 28009 .nil (ag 30001 (ag 30002 (.aq 31002 (.aq 31007 .nil sT) sT)))))))))) ar f
abbrev FC:ch:=(ag 36001 (ag 36002 (.aq 36006 .nil .nil)))
abbrev Ai(a:List Nat):J:=J.agg [.int .i8 2,.int .i32 (hq (aL (bb a) 0)),.int .u8 0,.int .i64 0,.int .i64 0,.str []]
abbrev Aj(a:Int)(b:List Nat):J:=J.agg [.int .i8 2,.int .i32 (fZ a),.int .u8 (aL (bb b) 1-1),.int .i64 0,.int .i64 0,.str []]
abbrev Ak(a:List Nat):J:=J.agg [.int .i8 2,.int .i32 (hq (aL (bb a) 0)),.int .u8 (aL (bb a) 1-1),.int .i64 0,.int .i64 0,.str []]
abbrev wb(a:List Nat):J:=J.agg [.int .i8 (aP.kind (Option.getD (cT (Int.toNat (aL (bb a) 0)) 0) dR)),.int .i32 (aP.code (Option.getD (cT (Int.toNat (aL (bb a) 0)) 0) dR)),.int .u8 (aP.eJ (Option.getD (cT (Int.toNat (aL (bb a) 0)) 0) dR)),.int .i64 (aP.x (Option.getD (cT (Int.toNat (aL (bb a) 0)) 0) dR)),.int .i64 (aP.y (Option.getD (cT (Int.toNat (aL (bb a) 0)) 0) dR)),.str (Option.getD (cT (Int.toNat (aL (bb a) 0)) (0)) dR).6]
abbrev wc(a:List Nat):J:=J.agg [.int .i8 (aP.kind (Option.getD (cT (Int.toNat (aL (bb a) 0)) (aL (bb a) 1-1)) dR)),.int .i32 (aP.code (Option.getD (cT (Int.toNat (aL (bb a) 0)) (aL (bb a) 1-1)) dR)),.int .u8 (aP.eJ (Option.getD (cT (Int.toNat (aL (bb a) 0)) (aL (bb a) 1-1)) dR)),.int .i64 (aP.x (Option.getD (cT (Int.toNat (aL (bb a) 0)) (aL (bb a) 1-1)) dR)),.int .i64 (aP.y (Option.getD (cT (Int.toNat (aL (bb a) 0)) (aL (bb a) 1-1)) dR)),.str (Option.getD (cT (Int.toNat (aL (bb a) 0)) (aL (bb a) 1-1)) dR).6]
abbrev FD(a:List Nat):J:=J.tuple [(wb a),.bool true]
abbrev FE(a:List Nat):J:=J.tuple [(wc a),.bool true]
abbrev FF(a:List Nat):J:=J.tuple [(wb a),.bool false]
abbrev FG(a:List Nat):J:=J.tuple [(wc a),.bool false]
abbrev FH(a:List Nat):ac:=(ac.aj ([(wb a)]) 6 true (some (42,6)))
abbrev FI(a:List Nat):ac:=(ac.aj ([(wc a)]) 6 true (some (42,6)))
abbrev Pn:ch:=(.aq 33007 (ag 34001 (ag 34002 .nil)) (.aq 35001 FC .nil))
abbrev FJ(a:List Nat):T:=(T.af 79 [(0,(ac.aj ([(Ai a)]) 6 true (some (42,6)))),(2,bx),(21,(fy a))])
abbrev FK(a:List Nat):T:=(T.af 83 [(0,(ac.aj ([(Ak a)]) 6 true (some (42,6)))),(2,bx),(21,(fy a))])
abbrev Al:ch:=(.aq 33001 (ag 33004 (ag 33005 Pn)) (.aq 35001 FC .nil))
abbrev we(a:List Nat):T:=(T.af 49 [(0,df),(2,bx),(21,(fy a))])
abbrev sU(a:List Nat):T:=(T.af 77 [(0,df),(2,bx),(21,(fy a))])
abbrev sV(a:List Nat):T:=(T.af 81 [(0,df),(2,bx),(21,(fy a))])
abbrev Am(a:List Nat):T:=(T.af 83 [(0,(FH a)),(2,bx),(21,(fy a))])
abbrev An(a:List Nat):T:=(T.af 87 [(0,(FI a)),(2,bx),(21,(fy a))])
abbrev wg(a:List Nat)(b:bm):Prop:=(0<hq (aL (bb a) 0)->((0:Int)<=0/\0<(↑(List.length a):Int))/\List.length a-1=List.length a-1/\(bb a)[0]? =some (.int .i64 (aL (bb a) 0))/\b (.tuple [(Ai a),.bool true]) (FJ a))
abbrev wh(a:List Nat)(b:bm):Prop:=(0<hq (aL (bb a) 0)->((0:Int)<=0/\0<(↑(List.length a):Int))/\List.length a-1=List.length a-1/\(bb a)[0]? =some (.int .i64 (aL (bb a) 0))/\b (.tuple [(Ak a),.bool true]) (FK a))
abbrev FL:ch:=(.aq 31002 (ag 31005 (ag 31006 (.aq 31007 (.aq 31012 .nil Al) Al))) Al)
abbrev sW(c:Int)(a:List Nat)(b:bm):Prop:=(c=117->((0:Int)<=0/\0<(↑(List.length a):Int))/\List.length a-1=List.length a-1/\(bb a)[0]? =some (.int .i64 (aL (bb a) 0))/\0<=aL (bb a) 0/\(Option.isSome (cT (Int.toNat (aL (bb a) 0)) 0)=true->b ((FD a)) (Am a))/\(Option.isSome (cT (Int.toNat (aL (bb a) 0)) 0)=false->b ((FF a)) (Am a)))
abbrev sX(c:Int)(a:List Nat)(b:bm):Prop:=(c=117->((0:Int)<=0/\0<(↑(List.length a):Int))/\List.length a-1=List.length a-1/\(bb a)[0]? =some (.int .i64 (aL (bb a) 0))/\0<=aL (bb a) 0/\(Option.isSome (cT (Int.toNat (aL (bb a) 0)) (aL (bb a) 1-1))=true->b ((FE a)) (An a))/\(Option.isSome (cT (Int.toNat (aL (bb a) 0)) (aL (bb a) 1-1))=false->b ((FG a)) (An a)))
abbrev wi(c:Int)(a:List Nat)(b:bm):Prop:=(¬0<hq (aL (bb a) 0)->(sW c a b)/\(¬c=117->b (ds) (sU a)))
abbrev wj(c:Int)(a:List Nat)(b:bm):Prop:=(¬0<hq (aL (bb a) 0)->(sX c a b)/\(¬c=117->b (ds) (sV a)))
theorem Po(d:Bytes)(b:Int)(a:List Nat)(c:bm)(e:(b=82->Nat.le (Nat.succ (List.length d+List.length [UInt8.ofNat (Int.toNat b)])) (2^62)/\c (.tuple [(eu d b),.bool true]) (T.af 14 [(0,(ac.aj ([(eu d b)]) 6 true (some (42,6)))),(2,bx),(8,ac.aj [.int .u8 b] 1 true)]))/\(¬b=82->(b=99->Nat.le (Nat.succ (List.length d+List.length [UInt8.ofNat (Int.toNat b)])) (2^62)/\c (.tuple [(eu d b),.bool true]) (T.af 16 [(0,(ac.aj ([(eu d b)]) 6 true (some (42,6)))),(2,bx),(10,ac.aj [.int .u8 b] 1 true)]))/\(¬b=99->(b=110->Nat.le (Nat.succ (List.length d+List.length [UInt8.ofNat (Int.toNat b)])) (2^62)/\c (.tuple [(eu d b),.bool true]) (T.af 18 [(0,(ac.aj ([(eu d b)]) 6 true (some (42,6)))),(2,bx),(12,ac.aj [.int .u8 b] 1 true)]))/\(¬b=110->(b=77->d.length<100/\(0<=b/\b<=255)/\(Option.isSome (dj d (Int.toNat b))=true->c (.tuple [(fz d b),.bool true]) (T.af 19 [(0,(fH d b)),(2,bx)]))/\(Option.isSome (dj d (Int.toNat b))=false->c (.tuple [(fz d b),.bool false]) (T.af 19 [(0,(fH d b)),(2,bx)])))/\(¬b=77->(b=109->d.length<100/\(0<=b/\b<=255)/\(Option.isSome (dj d (Int.toNat b))=true->c (.tuple [(fz d b),.bool true]) (T.af 21 [(0,(fH d b)),(2,bx)]))/\(Option.isSome (dj d (Int.toNat b))=false->c (.tuple [(fz d b),.bool false]) (T.af 21 [(0,(fH d b)),(2,bx)])))/\(¬b=109->numbers d=some a/\(a=[]->False)/\d.length<100/\((↑a.length:Int)=0->(b=90->c (.tuple [lm,.bool true]) (T.af 33 [(0,(ac.aj ([lm]) 6 true (some (42,6)))),(2,bx),(21,(fy a))]))/\(¬b=90->(b=73->c (.tuple [lo,.bool true]) (T.af 35 [(0,(ac.aj ([lo]) 6 true (some (42,6)))),(2,bx),(21,(fy a))]))/\(¬b=73->(b=79->c (.tuple [ln,.bool true]) (T.af 37 [(0,(ac.aj ([ln]) 6 true (some (42,6)))),(2,bx),(21,(fy a))]))/\(¬b=79->(0<fZ b->c (.tuple [(kI b),.bool true]) (T.af 43 [(0,(ac.aj ([(kI b)]) 6 true (some (42,6)))),(2,bx),(21,(fy a))]))/\(¬0<fZ b->c (ds) (T.af 42 [(0,df),(2,bx),(21,(fy a))]))))))/\(¬(↑a.length:Int)=0->((↑a.length:Int)=2->((0:Int)<=1/\1<(↑a.length:Int))/\a.length-1=a.length-1/\(bb a)[1]? =some (.int .i64 (aL (bb a) 1))/\(2<(↑a.length:Int)->c (ds) (we a))/\(¬2<(↑a.length:Int)->(aL (bb a) 1<1->c (ds) (we a))/\(¬aL (bb a) 1<1->(8<aL (bb a) 1->c (ds) (we a))/\(¬8<aL (bb a) 1->(-9223372036854775808<=aL (bb a) 1-1/\aL (bb a) 1-1<=9223372036854775807)/\(0<=aL (bb a) 1-1/\aL (bb a) 1-1<=255)/\(0<fZ b->((0:Int)<=0/\0<(↑a.length:Int))/\a.length-1=a.length-1/\(bb a)[0]? =some (.int .i64 (aL (bb a) 0))/\(aL (bb a) 0=1->((↑a.length:Int)=2->c (.tuple [(Aj b a),.bool true]) (T.af 71 [(0,(ac.aj ([(Aj b a)]) 6 true (some (42,6)))),(2,bx),(21,(fy a))]))/\(¬(↑a.length:Int)=2->(b=126->((0:Int)<=0/\0<(↑a.length:Int))/\a.length-1=a.length-1/\(bb a)[0]? =some (.int .i64 (aL (bb a) 0))/\(wh a c)/\(wj b a c))/\(¬b=126->(sX b a c)/\(¬b=117->c (ds) (sV a)))))/\(¬aL (bb a) 0=1->(b=126->((0:Int)<=0/\0<(↑a.length:Int))/\a.length-1=a.length-1/\(bb a)[0]? =some (.int .i64 (aL (bb a) 0))/\(wh a c)/\(wj b a c))/\(¬b=126->(sX b a c)/\(¬b=117->c (ds) (sV a)))))/\(¬0<fZ b->(b=126->((0:Int)<=0/\0<(↑a.length:Int))/\a.length-1=a.length-1/\(bb a)[0]? =some (.int .i64 (aL (bb a) 0))/\(wh a c)/\(wj b a c))/\(¬b=126->(sX b a c)/\(¬b=117->c (ds) (sV a))))))))/\(¬(↑a.length:Int)=2->(2<(↑a.length:Int)->c (ds) (T.af 45 [(0,df),(2,bx),(21,(fy a))]))/\(¬2<(↑a.length:Int)->(0<fZ b->((0:Int)<=0/\0<(↑a.length:Int))/\a.length-1=a.length-1/\(bb a)[0]? =some (.int .i64 (aL (bb a) 0))/\(aL (bb a) 0=1->((↑a.length:Int)=2->c (.tuple [(kI b),.bool true]) (T.af 67 [(0,(ac.aj ([(kI b)]) 6 true (some (42,6)))),(2,bx),(21,(fy a))]))/\(¬(↑a.length:Int)=2->(b=126->((0:Int)<=0/\0<(↑a.length:Int))/\a.length-1=a.length-1/\(bb a)[0]? =some (.int .i64 (aL (bb a) 0))/\(wg a c)/\(wi b a c))/\(¬b=126->(sW b a c)/\(¬b=117->c (ds) (sU a)))))/\(¬aL (bb a) 0=1->(b=126->((0:Int)<=0/\0<(↑a.length:Int))/\a.length-1=a.length-1/\(bb a)[0]? =some (.int .i64 (aL (bb a) 0))/\(wg a c)/\(wi b a c))/\(¬b=126->(sW b a c)/\(¬b=117->c (ds) (sU a)))))/\(¬0<fZ b->(b=126->((0:Int)<=0/\0<(↑a.length:Int))/\a.length-1=a.length-1/\(bb a)[0]? =some (.int .i64 (aL (bb a) 0))/\(wg a c)/\(wi b a c))/\(¬b=126->(sW b a c)/\(¬b=117->c (ds) (sU a))))))))))))) :
 bC 130 [.str d,.int .u8 b] (⟨0,.nil⟩) c :=
 oH cP mixed (Ph a) (hs:= .aq 3000 (ag 6004 .nil) (.aq 4000 (ag 6004 .nil) (.aq 5000 (ag 6004 .nil) (.aq 7000 (.aq 9004 .nil .nil) (.aq 8000 (.aq 9004 .nil .nil) (.aq 13002 (.aq 15000 .nil (.aq 17000 .nil (.aq 19000 .nil (.aq 22001 .nil .nil)))) (.aq 26002 (ag 27001 (ag 27002 (.aq 28002 .nil (.aq 28005 .nil (.aq 28009 .nil (ag 30001 (ag 30002 FL))))))) (.aq 28002 .nil FL)))))))) ar e
set_option maxHeartbeats 4000000
theorem fP{c k:UInt8}(h:c.toNat=k.toNat):c=k:=fq.1 h
theorem o0{o:Option aP}{b:Bool}(h:o.isSome=b):J.tuple [bi (o.getD dR),.bool b]=fm o:=by subst h;rfl
theorem Pp{w:Bytes}{c:UInt8}(h:Keys.numbers w=none)(hw:w.length<100)(H:T):bu 130 [.str w,.int .u8 c.toNat] H (fm (Keys.told w c)) H:=by
 refine bl.cm (Pj w c.toNat (λv _=>v=fm (Keys.told w c)) ?_) rfl rfl H
 delta fF df ds fH fz eu
 have al:=c.toNat_lt;rw [lj,show Int.toNat (c.toNat:Int)=c.toNat by simp];have i:(c.toNat:Int)=82->c=82:=λe=>fP (by show c.toNat=82;omega)
 have j:(c.toNat:Int)=99->c=99:=λe=>fP (by show c.toNat=99;omega)
 have d:(c.toNat:Int)=110->c=110:=λe=>fP (by show c.toNat=110;omega)
 have g:(c.toNat:Int)=77->c=77:=λe=>fP (by show c.toNat=77;omega)
 have b:(c.toNat:Int)=109->c=109:=λe=>fP (by show c.toNat=109;omega)
 have m:c=82\/c=99\/c=110->Keys.told w c=some {kind:=6,text:=w++[c]} :=λe=>by simp only [Keys.told,aE e]
 have k:¬(c=82\/c=99\/c=110)->c=77\/c=109->Keys.told w c=Keys.dj w c.toNat:=λe aO=>by simp only [Keys.told,ap e,aE aO]
 have l:¬(c=82\/c=99\/c=110)-> ¬(c=77\/c=109)->Keys.told w c=none:=λe aO=>by simp only [Keys.told,ap e,ap aO,h]
 have a:¬(c.toNat:Int)=82->c≠82:=λe f=>e (by rw [f];rfl)
 have n99:¬(c.toNat:Int)=99->c≠99:=λe f=>e (by rw [f];rfl)
 have n110:¬(c.toNat:Int)=110->c≠110:=λe f=>e (by rw [f];rfl)
 have n:¬(c.toNat:Int)=77->c≠77:=λe f=>e (by rw [f];rfl)
 have n109:¬(c.toNat:Int)=109->c≠109:=λe f=>e (by rw [f];rfl)
 have lw:List.length w+List.length [c]<2^62:=by simp;omega
 repeat' (first|assumption|exact mK lw|apply And.intro|intro _)
 all_goals first
  |omega
  |(rw [m (by first|exact .inl (i ‹_›)|exact .inr (.inl (j ‹_›))|exact .inr (.inr (d ‹_›)))];rfl)
  |(rw [k (by simp only [a ‹_›,n99 ‹_›,n110 ‹_›,kV,kY]) (by first|exact .inl (g ‹_›)|exact .inr (b ‹_›))];exact o0 ‹_›)
  |(rw [l (by simp only [a ‹_›,n99 ‹_›,n110 ‹_›,kV,kY]) (by simp only [n ‹_›,n109 ‹_›,kV,kY])];rfl)
theorem Pq{w:Bytes}{c:UInt8}(h:Keys.numbers w=some [])(hw:w.length<100)(H:T):bu 130 [.str w,.int .u8 c.toNat] H (fm (Keys.told w c)) H:=by
 refine bl.cm (Pk w c.toNat (λv _=>v=fm (Keys.told w c)) ?_) rfl rfl H
 delta fF df ds kI ln lo lm fH fz eu
 have al:=c.toNat_lt;rw [lj,show Int.toNat (c.toNat:Int)=c.toNat by simp,sk];have s:(c.toNat:Int)=82->c=82:=λe=>fP (by show c.toNat=82;omega)
 have u:(c.toNat:Int)=99->c=99:=λe=>fP (by show c.toNat=99;omega)
 have o:(c.toNat:Int)=110->c=110:=λe=>fP (by show c.toNat=110;omega)
 have q:(c.toNat:Int)=77->c=77:=λe=>fP (by show c.toNat=77;omega)
 have n:(c.toNat:Int)=109->c=109:=λe=>fP (by show c.toNat=109;omega)
 have D:c=82\/c=99\/c=110->Keys.told w c=some {kind:=6,text:=w++[c]} :=λe=>by simp only [Keys.told,aE e]
 have B:¬(c=82\/c=99\/c=110)->c=77\/c=109->Keys.told w c=Keys.dj w c.toNat:=λe aO=>by simp only [Keys.told,ap e,aE aO]
 have t:(c.toNat:Int)=90->c=90:=λe=>fP (by show c.toNat=90;omega)
 have p:(c.toNat:Int)=73->c=73:=λe=>fP (by show c.toNat=73;omega)
 have r:(c.toNat:Int)=79->c=79:=λe=>fP (by show c.toNat=79;omega)
 have m:¬(c.toNat:Int)=90->c≠90:=λe f=>e (by rw [f];rfl)
 have j:¬(c.toNat:Int)=73->c≠73:=λe f=>e (by rw [f];rfl)
 have l:¬(c.toNat:Int)=79->c≠79:=λe f=>e (by rw [f];rfl)
 have z:c=90->Keys.told w c=some (cY 2 1):=λe=>by subst e;simp [Keys.told,h]
 have x:c=73->Keys.told w c=some {kind:=5,code:=1} :=λe=>by subst e;simp [Keys.told,h]
 have y:c=79->Keys.told w c=some {kind:=5} :=λe=>by subst e;simp [Keys.told,h]
 have A:¬(c=82\/c=99\/c=110)-> ¬(c=77\/c=109)->c≠90->c≠73->c≠79->0<dC c.toNat->Keys.told w c=some (cY (dC c.toNat)):=λe aO a b d g=>by simp only [Keys.told,ap e,ap aO,h,ap a,ap b,ap d,aE g]
 have C:¬(c=82\/c=99\/c=110)-> ¬(c=77\/c=109)->c≠90->c≠73->c≠79-> ¬0<dC c.toNat->Keys.told w c=none:=λe aO a b d g=>by simp only [Keys.told,ap e,ap aO,h,ap a,ap b,ap d,ap g]
 have i:¬(c.toNat:Int)=82->c≠82:=λe f=>e (by rw [f];rfl)
 have n99:¬(c.toNat:Int)=99->c≠99:=λe f=>e (by rw [f];rfl)
 have n110:¬(c.toNat:Int)=110->c≠110:=λe f=>e (by rw [f];rfl)
 have k:¬(c.toNat:Int)=77->c≠77:=λe f=>e (by rw [f];rfl)
 have n109:¬(c.toNat:Int)=109->c≠109:=λe f=>e (by rw [f];rfl)
 have lw:List.length w+List.length [c]<2^62:=by simp;omega
 repeat' (first|assumption|exact mK lw|apply And.intro|intro _)
 all_goals first
  |omega
  |(rw [D (by first|exact .inl (s ‹_›)|exact .inr (.inl (u ‹_›))|exact .inr (.inr (o ‹_›)))];rfl)
  |(rw [B (by simp only [i ‹_›,n99 ‹_›,n110 ‹_›,kV,kY]) (by first|exact .inl (q ‹_›)|exact .inr (n ‹_›))];exact o0 ‹_›)
  |(rw [z (t ‹_›)];rfl)
  |(rw [x (p ‹_›)];rfl)
  |(rw [y (r ‹_›)];rfl)
  |(rw [A (by simp only [i ‹_›,n99 ‹_›,n110 ‹_›,kV,kY]) (by simp only [k ‹_›,n109 ‹_›,kV,kY]) (m ‹_›) (j ‹_›) (l ‹_›) ‹_›];rfl)
  |(rw [C (by simp only [i ‹_›,n99 ‹_›,n110 ‹_›,kV,kY]) (by simp only [k ‹_›,n109 ‹_›,kV,kY]) (m ‹_›) (j ‹_›) (l ‹_›) ‹_›];rfl)
end Go.Proofs.YtddnafghiejcoaaGreatDoor
namespace Go.Keys
theorem qu{c k:UInt8}(h:(c.toNat:Int)=(k.toNat:Int)):c=k:=fq.1 V
theorem FM(c k:UInt8):(c=k)=((c.toNat:Int)=(k.toNat:Int)):=propext ⟨λe=>by rw [e],qu⟩
structure wk(c:UInt8):Prop where
 cq:¬(c.toNat:Int)=82
 cn:¬(c.toNat:Int)=99
 ei:¬(c.toNat:Int)=110
 hE:¬(c.toNat:Int)=77
 lg:¬(c.toNat:Int)=109
def Ao(r:List Nat):Int:=match r with | [x]=>(x:Int)|_=>1
theorem told_other{w:Bytes}{c:UInt8}(o:wk c){b:Nat}{r:List Nat}(h:numbers w=some (b::r)):told w c =
 (let m:Int:=Ao r
  if 1<r.length\/m<1\/8<m then none
  else if 0<dC c.toNat/\b=1/\r.length=1 then some (cY (dC c.toNat) (m-1))
  else if(c.toNat:Int)=126/\0<hc b then some (cY (hc b) (m-1))
  else if(c.toNat:Int)=117 then cT b (m-1)
  else none):=by
 have aa:¬(c=82\/c=99\/c=110):=by
  rintro (e|e|e)
  .exact o.cq (by rw [e];rfl)
  .exact o.cn (by rw [e];rfl)
  .exact o.ei (by rw [e];rfl)
 have h2:¬(c=77\/c=109):=by
  rintro (e|e)
  .exact o.hE (by rw [e];rfl)
  .exact o.lg (by rw [e];rfl)
 have f:(c=126)=((c.toNat:Int)=126):=FM c 126;have d:(c=117)=((c.toNat:Int)=117):=FM c 117;simp only [told,ap aa,ap h2,h,f,d];cases r with
 |nil=>rfl
 |cons a t=>cases t<;>rfl
theorem Ap{w:Bytes}{c:UInt8}(o:wk c){a:Nat}(h:numbers w=some [a]):told w c=if(c.toNat:Int)=126/\0<hc a then some (cY (hc a) 0)else if(c.toNat:Int)=117 then cT a 0 else none:=by rw [told_other o h];simp [show Ao []=1 from rfl]
theorem sY{w:Bytes}{c:UInt8}(o:wk c){b a:Nat}(h:numbers w=some [b,a]):told w c=if(a:Int)<1\/8<(a:Int)then none else if 0<dC c.toNat/\b=1 then some (cY (dC c.toNat) ((a:Int)-1))else if(c.toNat:Int)=126/\0<hc b then some (cY (hc b) ((a:Int)-1))else if(c.toNat:Int)=117 then cT b ((a:Int)-1)else none:=by have aI:(1< [a].length\/(a:Int)<1\/8<(a:Int))=((a:Int)<1\/8<(a:Int)):=propext an;have aO:(0<dC c.toNat/\b=1/\ [a].length=1)=(0<dC c.toNat/\b=1):=propext an;rw [told_other o h];simp only [show Ao [a]=(a:Int)from rfl,aI,aO]
theorem Pr{w:Bytes}{c:UInt8}(o:wk c){l:List Nat}(h:numbers w=some l)(b:2<l.length):told w c=none:=by
 cases l with
 |nil=>simp at b
 |cons a r =>
  rw [told_other o h];simp only [b']at b;have d:1<r.length:= V;simp [d]
theorem Aq{w:Bytes}{c:UInt8}(h:(c.toNat:Int)=82\/(c.toNat:Int)=99\/(c.toNat:Int)=110):told w c=some {kind:=6,text:=w++[c]} :=by
 have aa:c=82\/c=99\/c=110:=by
  rcases h with h|h|h
  .exact .inl (qu h)
  .exact .inr (.inl (qu h))
  .exact .inr (.inr (qu h))
 simp only [told,aE aa]
theorem Ar{w:Bytes}{c:UInt8}(h:(c.toNat:Int)=77\/(c.toNat:Int)=109):told w c=dj w c.toNat:=by
 have h2:c=77\/c=109:=by
  rcases h with h|h
  .exact .inl (qu h)
  .exact .inr (qu h)
 have aa:¬(c=82\/c=99\/c=110):=by rcases h2 with rfl|rfl<;>decide
 simp only [told,ap aa,aE h2]
end Go.Keys
namespace Go.Proofs.YtddnafghiejcoaaGreatDoor
open Go.bh Go.Keys
set_option maxRecDepth 1000000
set_option maxHeartbeats 4000000
theorem FN(n:Nat):hq (n:Int)=hc n:=by unfold hq hc;have ao:((n:Int)=1\/(n:Int)=7)=(n=1\/n=7):=propext V;have a2:((n:Int)=4\/(n:Int)=8)=(n=4\/n=8):=propext V;have a3:((n:Int)=2\/(n:Int)=3)=(n=2\/n=3):=propext V;have a4:((n:Int)=5\/(n:Int)=6)=(n=5\/n=6):=propext V;have a5:(11<=(n:Int)/\(n:Int)<=15)=(11<=n/\n<=15):=propext V;have a:(17<=(n:Int)/\(n:Int)<=21)=(17<=n/\n<=21):=propext V;have b:((n:Int)=23\/(n:Int)=24)=(n=23\/n=24):=propext V;simp only [ao,a2,a3,a4,a5,a,b]
theorem Ps{w:Bytes}{c:UInt8}{a:Nat}(h:Keys.numbers w=some [a])(hw:w.length<100)(H:T):bu 130 [.str w,.int .u8 c.toNat] H (fm (Keys.told w c)) H:=by
 refine bl.cm (Pl w c.toNat a (λv _=>v=fm (Keys.told w c)) ?_) rfl rfl H
 delta vY Aa vV fF df ds Ad Ab Fy vW Fx Ac Fw vZ vX Fz z' fH fz eu
 have al:=c.toNat_lt;rw [lj,show Int.toNat (c.toNat:Int)=c.toNat by simp,sk,FN];have lw:List.length w+List.length [c]<2^62:=by simp;omega
 have b:(0:Int)<=(a:Int):= V
 repeat' (first|assumption|exact mK lw|apply And.intro|intro _)
 all_goals first
  |omega
  |(rw [Aq V];rfl)
  |(rw [Ar V];exact o0 ‹_›)
  |(rw [Ap ⟨V,V,V,V,V⟩ h,aE V];rfl)
  |(rw [Ap ⟨V,V,V,V,V⟩ h,ap V,aE V];exact o0 ‹_›)
  |(rw [Ap ⟨V,V,V,V,V⟩ h,ap V,ap V];rfl)
theorem Pt{w:Bytes}{c:UInt8}{a b:Nat}(h:Keys.numbers w=some [a,b])(hw:w.length<100)(H:T):bu 130 [.str w,.int .u8 c.toNat] H (fm (Keys.told w c)) H:=by
 have d:=sP h;have e:=d a an;have f:=d b an;refine bl.cm (Pm w c.toNat a b (λv _=>v=fm (Keys.told w c)) ?_) rfl rfl H
 delta v8 oZ fF df ds wa Ag FA v7 v' Ah FB Af Ae fH fz eu
 have al:=c.toNat_lt;rw [lj,show Int.toNat (c.toNat:Int)=c.toNat by simp,sk,FN];have lw:List.length w+List.length [c]<2^62:=by simp;omega
 have g:(0:Int)<=(a:Int):= V
 repeat' (first|assumption|exact mK lw|apply And.intro|intro _)
 all_goals first
  |omega
  |(rw [Aq V];rfl)
  |(rw [Ar V];exact o0 ‹_›)
  |(rw [sY ⟨V,V,V,V,V⟩ h,aE V];rfl)
  |(rw [sY ⟨V,V,V,V,V⟩ h,ap V,aE V];rfl)
  |(rw [sY ⟨V,V,V,V,V⟩ h,ap V,ap V,aE V];rfl)
  |(rw [sY ⟨V,V,V,V,V⟩ h,ap V,ap V,ap V,aE V];exact o0 ‹_›)
  |(rw [sY ⟨V,V,V,V,V⟩ h,ap V,ap V,ap V,ap V];rfl)
theorem Pu{w:Bytes}{c:UInt8}{l:List Nat}(h:Keys.numbers w=some l)(a:2<l.length)(hw:w.length<100)(H:T):bu 130 [.str w,.int .u8 c.toNat] H (fm (Keys.told w c)) H:=by
 refine bl.cm (Po w c.toNat l (λv _=>v=fm (Keys.told w c)) ?_) rfl rfl H
 delta sU fy fF df ds sW Am FH wb FF FD wi wg FJ Ai kI sV sX An FI wc FG FE wj wh FK Ak Aj we ln lo lm fH fz eu
 have al:=c.toNat_lt;rw [lj,show Int.toNat (c.toNat:Int)=c.toNat by simp,sk];have lw:List.length w+List.length [c]<2^62:=by simp;omega
 have b:l=[]->False:=by rintro rfl;simp at a
 repeat' (first|assumption|exact mK lw|apply And.intro|intro _)
 all_goals first
  |(exfalso;omega)
  |omega
  |(rw [Aq V];rfl)
  |(rw [Ar V];exact o0 ‹_›)
  |(rw [Pr ⟨V,V,V,V,V⟩ h a];rfl)
theorem Pv(w:Bytes)(c:UInt8)(hw:w.length<100)(H:T):bu 130 [.str w,.int .u8 c.toNat] H (fm (Keys.told w c)) H:=by
 cases h:Keys.numbers w with
 |none=>exact Pp h hw H
 |some l =>
  match l,h with
  |[],h=>exact Pq h hw H
  |[a],h=>exact Ps h hw H
  |[a,b],h=>exact Pt h hw H
  |a::b::d::t,h=>exact Pu h (by simp only [b'];omega) hw H
noncomputable def trimS:List J->T->Option dm:=hN λa=>match a with | [.str s,.str k]=>some (.str (s.dropWhile (· == 48)),[k=[48],s.length<2^40])|_=>none
noncomputable def FO:List J->T->Option dm:=hN λa=>match a with | [.str w,.int .u8 c]=>some (.tuple [bi ((Keys.told w (dk c)).getD dR),.bool (Keys.told w (dk c)).isSome],[w.length<100,0<=c/\c<=255])|_=>none
theorem Pw:∀args h a,trimS args h=some a->a.cx Tryz.prog ck 128 args h:=by
 refine iz ?_;intro args v ps e ae H;split at e<;>first|(cases e;done)|skip
 simp only [a6,bo]at e;obtain⟨rfl,rfl⟩:=e;rw [ae.head];exact NZ _ H
theorem Px:∀args h a,FO args h=some a->a.cx Tryz.prog ck 130 args h:=by
 refine iz ?_;intro args v ps e ae H;split at e<;>first|(cases e;done)|skip
 rename_i w c;simp only [a6,bo]at e;obtain⟨rfl,rfl⟩:=e;have:=Pv w (dk c) ae.head H
 rwa [nw ae.tail.head]at this
noncomputable def FP:dB:=(Ez.add 128 trimS).add 130 FO
theorem FQ:dv Tryz.prog ck FP:=(NQ.add Pw).add Px
abbrev FR:J:= .func (.func 129) [.ptr (ba 0)] []
abbrev FT:ch:=(.aq 12 (.aq 17 .nil (.aq 4005 .nil (ag 6004 .nil))) (.aq 4005 .nil (ag 6004 .nil)))
abbrev iD(a:List J)(b:Nat):J:=J.agg [.int .i8 7,.int .i32 0,.int .u8 0,.int .i64 0,.int .i64 0,.str (strOf (List.take b a))]
abbrev iE(a:Int)(b:Bytes):J:=J.agg [.int .i8 (aP.kind (Option.getD (told b (dk a)) dR)),.int .i32 (aP.code (Option.getD (told b (dk a)) dR)),.int .u8 (aP.eJ (Option.getD (told b (dk a)) dR)),.int .i64 (aP.x (Option.getD (told b (dk a)) dR)),.int .i64 (aP.y (Option.getD (told b (dk a)) dR)),.str (Option.getD (told b (dk a)) dR).6]
abbrev FU(a:Int)(b:Bytes):ac:=(ac.aj ([(iE a b)]) 6 true (some (42,6)))
abbrev FV(a:List J)(b:Nat):ac:=(ac.aj ([(iD a b)]) 6 true (some (42,6)))
abbrev FW(b a:J):J:=J.agg [FR,.slice none 0 0,b,.bool true,.ptr (some ⟨1,0,0,0,5⟩),a]
abbrev wm(c b:J)(a:bj)(d:Nat):ac:=⟨[(FW c b)],6,true,false,0,0,0,a⟩
abbrev jn(g:Nat)(m l:J)(f:bj)(d c b:ac)(i:List J)(a k h j:Nat)(e:Int)(n:Bytes):T:=(T.af 39 [(0,(fw g m l f a j)),(1,d),(2,(dd i a k h)),(3,c),(4,b),(31,(FU e n))])
abbrev jo(h:Nat)(l k:J)(g:bj)(f e d:ac)(a:List J)(c j i b:Nat):T:=(T.af 46 [(0,(fw h l k g c b)),(1,f),(2,(dd a c j i)),(3,e),(4,d),(31,(FV a b))])
theorem Py(o:Nat)(n m:J)(l:bj)(k j i:ac)(d:List J)(a h g e:Nat)(b:Int)(c:Bytes)(p:bm)(r:(b=126->(c=[(50:UInt8),(48:UInt8),(48:UInt8)]->p (.tuple []) (T.af 39 [(0,(wm n m l a)),(1,k),(2,(dd d a h g)),(3,j),(4,i)]))/\(¬c=[(50:UInt8),(48:UInt8),(48:UInt8)]->(b=126-> [(48:UInt8)]=[(48:UInt8)]/\c.length<1099511627776/\(List.dropWhile (λx=>x == 48) c=[(50:UInt8),(48:UInt8),(48:UInt8)]->((↑c.length:Int)<=9->p (.tuple []) (T.af 39 [(0,(wm n m l a)),(1,k),(2,(dd d a h g)),(3,j),(4,i)]))/\(¬(↑c.length:Int)<=9->c.length<100/\(0<=b/\b<=255)/\(Option.isSome (told c (dk b))=true->bU (jn o n m l k j i d a h g e b c) ⟨0,0,0,0,6⟩ ((iE b c))/\∀(f:T),bV (jn o n m l k j i d a h g e b c) ⟨0,0,0,0,6⟩ ((iE b c)) f->bk 5 (f.Y) (p (.tuple []) f))/\(Option.isSome (told c (dk b))=false->a=a/\0+e<=d.length/\(∃q,List.take e (List.drop (aT.idx ⟨2,a,0,0,1⟩) (ac.aQ (dd d a h g)))=aG q)/\bU (jo o n m l k j i d a h g e) ⟨0,0,0,0,6⟩ ((iD d e))/\∀(f:T),bV (jo o n m l k j i d a h g e) ⟨0,0,0,0,6⟩ ((iD d e)) f->bk 5 (f.Y) (p (.tuple []) f))))/\(¬List.dropWhile (λx=>x == 48) c=[(50:UInt8),(48:UInt8),(48:UInt8)]->c.length<100/\(0<=b/\b<=255)/\(Option.isSome (told c (dk b))=true->bU (jn o n m l k j i d a h g e b c) ⟨0,0,0,0,6⟩ ((iE b c))/\∀(f:T),bV (jn o n m l k j i d a h g e b c) ⟨0,0,0,0,6⟩ ((iE b c)) f->bk 5 (f.Y) (p (.tuple []) f))/\(Option.isSome (told c (dk b))=false->a=a/\0+e<=d.length/\(∃q,List.take e (List.drop (aT.idx ⟨2,a,0,0,1⟩) (ac.aQ (dd d a h g)))=aG q)/\bU (jo o n m l k j i d a h g e) ⟨0,0,0,0,6⟩ ((iD d e))/\∀(f:T),bV (jo o n m l k j i d a h g e) ⟨0,0,0,0,6⟩ ((iD d e)) f->bk 5 (f.Y) (p (.tuple []) f))))/\(¬b=126->c.length<100/\(0<=b/\b<=255)/\(Option.isSome (told c (dk b))=true->bU (jn o n m l k j i d a h g e b c) ⟨0,0,0,0,6⟩ ((iE b c))/\∀(f:T),bV (jn o n m l k j i d a h g e b c) ⟨0,0,0,0,6⟩ ((iE b c)) f->bk 5 (f.Y) (p (.tuple []) f))/\(Option.isSome (told c (dk b))=false->a=a/\0+e<=d.length/\(∃q,List.take e (List.drop (aT.idx ⟨2,a,0,0,1⟩) (ac.aQ (dd d a h g)))=aG q)/\bU (jo o n m l k j i d a h g e) ⟨0,0,0,0,6⟩ ((iD d e))/\∀(f:T),bV (jo o n m l k j i d a h g e) ⟨0,0,0,0,6⟩ ((iD d e)) f->bk 5 (f.Y) (p (.tuple []) f)))))/\(¬b=126->(b=126-> [(48:UInt8)]=[(48:UInt8)]/\c.length<1099511627776/\(List.dropWhile (λx=>x == 48) c=[(50:UInt8),(48:UInt8),(48:UInt8)]->((↑c.length:Int)<=9->p (.tuple []) (T.af 39 [(0,(wm n m l a)),(1,k),(2,(dd d a h g)),(3,j),(4,i)]))/\(¬(↑c.length:Int)<=9->c.length<100/\(0<=b/\b<=255)/\(Option.isSome (told c (dk b))=true->bU (jn o n m l k j i d a h g e b c) ⟨0,0,0,0,6⟩ ((iE b c))/\∀(f:T),bV (jn o n m l k j i d a h g e b c) ⟨0,0,0,0,6⟩ ((iE b c)) f->bk 5 (f.Y) (p (.tuple []) f))/\(Option.isSome (told c (dk b))=false->a=a/\0+e<=d.length/\(∃q,List.take e (List.drop (aT.idx ⟨2,a,0,0,1⟩) (ac.aQ (dd d a h g)))=aG q)/\bU (jo o n m l k j i d a h g e) ⟨0,0,0,0,6⟩ ((iD d e))/\∀(f:T),bV (jo o n m l k j i d a h g e) ⟨0,0,0,0,6⟩ ((iD d e)) f->bk 5 (f.Y) (p (.tuple []) f))))/\(¬List.dropWhile (λx=>x == 48) c=[(50:UInt8),(48:UInt8),(48:UInt8)]->c.length<100/\(0<=b/\b<=255)/\(Option.isSome (told c (dk b))=true->bU (jn o n m l k j i d a h g e b c) ⟨0,0,0,0,6⟩ ((iE b c))/\∀(f:T),bV (jn o n m l k j i d a h g e b c) ⟨0,0,0,0,6⟩ ((iE b c)) f->bk 5 (f.Y) (p (.tuple []) f))/\(Option.isSome (told c (dk b))=false->a=a/\0+e<=d.length/\(∃q,List.take e (List.drop (aT.idx ⟨2,a,0,0,1⟩) (ac.aQ (dd d a h g)))=aG q)/\bU (jo o n m l k j i d a h g e) ⟨0,0,0,0,6⟩ ((iD d e))/\∀(f:T),bV (jo o n m l k j i d a h g e) ⟨0,0,0,0,6⟩ ((iD d e)) f->bk 5 (f.Y) (p (.tuple []) f))))/\(¬b=126->c.length<100/\(0<=b/\b<=255)/\(Option.isSome (told c (dk b))=true->bU (jn o n m l k j i d a h g e b c) ⟨0,0,0,0,6⟩ ((iE b c))/\∀(f:T),bV (jn o n m l k j i d a h g e b c) ⟨0,0,0,0,6⟩ ((iE b c)) f->bk 5 (f.Y) (p (.tuple []) f))/\(Option.isSome (told c (dk b))=false->a=a/\0+e<=d.length/\(∃q,List.take e (List.drop (aT.idx ⟨2,a,0,0,1⟩) (ac.aQ (dd d a h g)))=aG q)/\bU (jo o n m l k j i d a h g e) ⟨0,0,0,0,6⟩ ((iD d e))/\∀(f:T),bV (jo o n m l k j i d a h g e) ⟨0,0,0,0,6⟩ ((iD d e)) f->bk 5 (f.Y) (p (.tuple []) f))))) :
 bC 105 [.ptr (ba 0),.str c,.int .u8 b] (T.of [bB 0 o 1 (.slice (some ⟨2,a,0,0,1⟩) e e) n false m l,k,bL d 1 a h g bZ,j,i]) p :=
 bI FQ (.aq 1 (.aq 4 .nil (.aq 8 FT (.aq 4005 .nil (ag 6004 .nil)))) (.aq 8 FT (.aq 4005 .nil (ag 6004 .nil)))) r
set_option maxHeartbeats 4000000
structure As(N:Nat)(h:T)(a:aT)(w:Bytes)(c:Int):Prop where
 at':a=⟨a.id,0,0,0,6⟩
 ex:∃I s es,bS h a.id I s es/\es.length<N/\s.ax=[]/\s.nx=.sequence
 c:0<=c/\c<=255
 w:w.length<100
structure At(h:T)(a:aT)(w:Bytes)(c:Int)(ad:T):Prop where
 all:∀I s es,bS h a.id I s es->s.ax.length<=4-> ∃aC,bS ad a.id aC (Keys.done s w (dk c)).1 (es++(Keys.done s w (dk c)).2)/\Fr h ad a.id I aC
 Y:h.Y<=ad.Y
def Au(N:Nat):List J->T->Option dm:=λargs h =>
 match args with
 |[.ptr (some a),.str w,.int .u8 c]=>some (.some (.tuple []) [As N h a w c] (At h a w c))
 |_=>none
theorem Pz{ai aw w:Bytes}{c:UInt8}(al:c.toNat=126)(hw:h' w=true):Keys.done ⟨.sequence,ai,[],aw⟩ w c=(⟨.cb,[],[],aw⟩,[]):=by have:c=126:=fq.1 (by show c.toNat=126;exact al);simp [Keys.done,this,hw]
theorem FX{ai aw w:Bytes}{c:UInt8}(h:¬(c.toNat=126/\h' w=true)):Keys.done ⟨.sequence,ai,[],aw⟩ w c=(⟨.ground,[],[],aw⟩,[(Keys.told w c).getD (cQ ai)]):=by
 have:¬(c=126/\h' w=true):=λe=>h ⟨by rw [e.1];rfl,e.2⟩
 simp only [Keys.done,this,ey,tell]
theorem PA{w ai:Bytes}{c:UInt8}(h:(Keys.told w c).isSome=true):(Keys.told w c).getD (cQ ai)=(Keys.told w c).getD dR:=by
 cases a:Keys.told w c with
 |none=>rw [a]at h;cases h
 |some e=>rfl
theorem told_none{w ai:Bytes}{c:UInt8}(h:(Keys.told w c).isSome=false):(Keys.told w c).getD (cQ ai)=cQ ai:=by
 cases a:Keys.told w c with
 |none=>rfl
 |some e=>rw [a]at h;cases h
set_option hygiene false in
theorem PB{H:T}{d:Nat}{I:bO}{s:bq}{es:List aP}{c:UInt8}{w:Bytes}(g:bS H d I s es)(E:es.length<2^30)(aa:s.ax=[])(h2:s.nx=.sequence)(hw:w.length<100):∃H',bu 105 [.ptr (some ⟨d,0,0,0,6⟩),.str w,.int .u8 c.toNat] H (.tuple []) H' /\
 ∃aC,bS H' d aC (Keys.done s w c).1 (es++(Keys.done s w c).2)/\Fr H H' d I aC:=by
 obtain⟨ks,g,hs⟩:=g
 refine g.lift (Q:=λh d I=>bS h d I (Keys.done s w c).1 (es++(Keys.done s w c).2)) (rest:=[.str w,.int .u8 c.toNat]) (λa L=>by
  rcases cM.1 L with e|e
  .rw [e];exact ci.of rfl
  .rw [cC.1 e];exact ci.int _ _) (ci.of rfl) (λad H' r d I X R U q=>q.l' X R U) ?_
 intro kv pv ov ty uty j0 j1 j2 j3 K P O n gs B;obtain⟨F,ae,l⟩:=kH gs;obtain⟨nx,ai,ax,aw⟩:=s;simp only at aa h2 hs gs F ae l⊢;subst aa h2
 have S:ks=.grown []:=by
  cases ks with
  |grown j=>cases j with
   |nil=>rfl
   |cons a b=>exact hs.elim
  |_=>exact hs.elim
 subst S;obtain⟨a3,ab,m,f,rfl,C⟩:=F;have z:n.k=2:= V;rw [z,T.dG]at C;simp only [fe,hj,a6,eg]at C;subst C;rw [z]at ae l⊢;simp only [dx]at ae l⊢;have a0:=c.toNat_lt;have av:=kJ ai
 suffices N:∃v ad,bu 105 [.ptr (some ⟨0,0,0,0,6⟩),.str w,.int .u8 c.toNat] (T.of [bB 0 (b1 .sequence) 1 (.slice (some ⟨2,ab,0,0,1⟩) ai.length ai.length) pv false ov ty,bJ [] j0 j1 j2 j3 uty,bL (aG ai) 1 ab m f bZ,P,O]) v ad /\
  (v=.tuple []/\∃aC,bS ad 0 aC (Keys.done ⟨.sequence,ai,[],aw⟩ w c).1 (es++(Keys.done ⟨.sequence,ai,[],aw⟩ w c).2)/\Fr (T.of [bB 0 (b1 .sequence) 1 (.slice (some ⟨2,ab,0,0,1⟩) ai.length ai.length) pv false ov ty,bJ [] j0 j1 j2 j3 uty,bL (aG ai) 1 ab m f bZ,P,O]) ad 0 n aC)by
  obtain⟨v,ad,M,rfl,q⟩:=N;exact⟨ad,M,q⟩
 refine Py (b1 .sequence) pv ov ty (bJ [] j0 j1 j2 j3 uty) P O (aG ai) ab m f ai.length c.toNat w _ ?_
 delta iD jo FV dd fw qo qn dw iE jn FU wm FW FR
 rw [show dk (c.toNat:Int)=c from qp c,show strOf (List.take ai.length (aG ai))=ai by rw [si,hb]];by_cases A:c.toNat=126/\h' w=true
 .obtain⟨al,D⟩:=A
  have t:∀{h:T},h.get 0=some (bB 0 (b1 .cb) 1 (.slice none 0 0) pv true ov ty)->h.get 1=some (bJ [] j0 j1 j2 j3 uty)->h.get 3=some P->h.get 4=some O->Nat.ble 5 h.Y=true->J.tuple []=.tuple []/\∃aC,bS h 0 aC (Keys.done ⟨.sequence,ai,[],aw⟩ w c).1 (es++(Keys.done ⟨.sequence,ai,[],aw⟩ w c).2)/\Fr (T.of [bB 0 (b1 .sequence) 1 (.slice (some ⟨2,ab,0,0,1⟩) ai.length ai.length) pv false ov ty,bJ [] j0 j1 j2 j3 uty,bL (aG ai) 1 ab m f bZ,P,O]) h 0 n aC:=by intro h e0 aI o p i;have i:=hC i;refine⟨rfl,?_⟩;rw [Pz al D,fV];exact li (s:=⟨.cb,[],[],aw⟩) (ks:= .nil) (gq (k:=0) rfl i e0 aI (.inr z) o p (vt _) V ae l B (.inl rfl)) trivial
  have a2:(c.toNat:Int)=126:= V
  have W:w=[(50:UInt8),(48:UInt8),(48:UInt8)]\/(List.dropWhile (λx=>x == 48) w=[(50:UInt8),(48:UInt8),(48:UInt8)]/\(w.length:Int)<=9):=by
   simp only [h',fI,kh,cS,gx]at D;rcases D with e|⟨e,aO⟩
   .exact .inl e
   .exact .inr ⟨e,V⟩
  rcases W with aI|⟨aI,aO⟩
  .repeat' (first
    |exact True.intro
    |assumption
    |contradiction
    |exact t ar ar ar ar ar
    |exact y (by assumption) ar ar ar ar ar ar rfl
    |exact u (by assumption) ar ar ar ar ar ar rfl
    |intro _
    |refine And.intro ?_ ?_
    |rfl
    |omega
    |exact ll _ _ _)
  .repeat' (first
    |exact True.intro
    |assumption
    |contradiction
    |exact t ar ar ar ar ar
    |exact y (by assumption) ar ar ar ar ar ar rfl
    |exact u (by assumption) ar ar ar ar ar ar rfl
    |intro _
    |refine And.intro ?_ ?_
    |rfl
    |omega
    |exact ll _ _ _)
 .have y:∀{h:T}{b3:J},(Keys.told w c).isSome=true->Nat.ble 5 h.Y=true->h.get 0=some (bB 0 (b1 .sequence) 1 (.slice (some ⟨2,ab,0,0,1⟩) ai.length ai.length) pv false ov ty)->h.get 1=some (bJ [] j0 j1 j2 j3 uty)->h.get 2=some (bL (aG ai) 1 ab m f bZ)->h.get 3=some P->h.get 4=some O->b3=bi ((Keys.told w c).getD dR) ->
   bU h ⟨0,0,0,0,6⟩ b3/\∀ad,bV h ⟨0,0,0,0,6⟩ b3 ad->_root_.cond (Nat.ble 5 ad.Y) (J.tuple []=.tuple []/\∃aC,bS ad 0 aC (Keys.done ⟨.sequence,ai,[],aw⟩ w c).1 (es++(Keys.done ⟨.sequence,ai,[],aw⟩ w c).2)/\Fr (T.of [bB 0 (b1 .sequence) 1 (.slice (some ⟨2,ab,0,0,1⟩) ai.length ai.length) pv false ov ty,bJ [] j0 j1 j2 j3 uty,bL (aG ai) 1 ab m f bZ,P,O]) ad 0 n aC) False:=by
   intro h b3 hs i e0 aI aO o p he;exact oU i e0 aI aO o p rfl rfl ae l B z he E an λad aC g b6=>⟨rfl,aC,by rw [FX A,PA hs];exact g,b6⟩
  have u:∀{h:T}{b3:J},(Keys.told w c).isSome=false->Nat.ble 5 h.Y=true->h.get 0=some (bB 0 (b1 .sequence) 1 (.slice (some ⟨2,ab,0,0,1⟩) ai.length ai.length) pv false ov ty)->h.get 1=some (bJ [] j0 j1 j2 j3 uty)->h.get 2=some (bL (aG ai) 1 ab m f bZ)->h.get 3=some P->h.get 4=some O->b3=bi (cQ ai) ->
   bU h ⟨0,0,0,0,6⟩ b3/\∀ad,bV h ⟨0,0,0,0,6⟩ b3 ad->_root_.cond (Nat.ble 5 ad.Y) (J.tuple []=.tuple []/\∃aC,bS ad 0 aC (Keys.done ⟨.sequence,ai,[],aw⟩ w c).1 (es++(Keys.done ⟨.sequence,ai,[],aw⟩ w c).2)/\Fr (T.of [bB 0 (b1 .sequence) 1 (.slice (some ⟨2,ab,0,0,1⟩) ai.length ai.length) pv false ov ty,bJ [] j0 j1 j2 j3 uty,bL (aG ai) 1 ab m f bZ,P,O]) ad 0 n aC) False:=by
   intro h b3 hs i e0 aI aO o p he;exact oU i e0 aI aO o p rfl rfl ae l B z he E an λad aC g b6=>⟨rfl,aC,by rw [FX A,told_none hs];exact g,b6⟩
  by_cases al:(c.toNat:Int)=126
  .have G:h' w=false:=by
    cases ah:h' w with
    |false=>rfl
    |true=>exact absurd ⟨V,ah⟩ A
   simp only [h',Bool.or_eq_false_iff,Bool.and_eq_false_iff,od,pg]at G;obtain⟨Z,n2⟩:=G;have a4:¬w=[(50:UInt8),(48:UInt8),(48:UInt8)]:=Z;rcases n2 with n2|n2
   .have am:¬List.dropWhile (λx=>x == 48) w=[(50:UInt8),(48:UInt8),(48:UInt8)]:=n2
    repeat' (first
     |exact True.intro
     |assumption
     |contradiction
     |exact t ar ar ar ar ar
     |exact y (by assumption) ar ar ar ar ar ar rfl
     |exact u (by assumption) ar ar ar ar ar ar rfl
     |intro _
     |refine And.intro ?_ ?_
     |rfl
     |omega
     |exact ll _ _ _)
   .have am:¬(w.length:Int)<=9:= V
    repeat' (first
     |exact True.intro
     |assumption
     |contradiction
     |exact t ar ar ar ar ar
     |exact y (by assumption) ar ar ar ar ar ar rfl
     |exact u (by assumption) ar ar ar ar ar ar rfl
     |intro _
     |refine And.intro ?_ ?_
     |rfl
     |omega
     |exact ll _ _ _)
  .repeat' (first
    |exact True.intro
    |assumption
    |contradiction
    |exact t ar ar ar ar ar
    |exact y (by assumption) ar ar ar ar ar ar rfl
    |exact u (by assumption) ar ar ar ar ar ar rfl
    |intro _
    |refine And.intro ?_ ?_
    |rfl
    |omega
    |exact ll _ _ _)
theorem PC:∀args h a,Au (2^30) args h=some a->a.cx Tryz.prog ck 105 args h:=by
 intro args h a e;unfold Au at e;split at e<;>first|(cases e;done)|skip
 rename_i a w c;simp only [a6]at e;subst e;intro ae;have i:=ae.head.at';obtain⟨_,⟨I,s,es,g,j,d,az⟩,al,hw⟩:=ae.head;obtain⟨ad,b,aC,f,b6⟩:=PB (c:=dk c) g j d az hw;rw [<-i,D2 al]at b;refine⟨ad,b,⟨?_,b6.Y⟩⟩;intro k s2 l g2 m;obtain⟨rfl,rfl,rfl⟩:=g.na g2 (by rw [d];simp);exact⟨aC,f,b6⟩
noncomputable def FY:dB:=FP.add 105 (Au (2^30))
theorem FZ:dv Tryz.prog ck FY:=FQ.add PC
abbrev F0:ch:=(.aq 5001 (.aq 5004 .nil (ag 7007 (.aq 8005 (ag 9005 .nil) .nil))) (ag 7007 (.aq 8005 (ag 9005 .nil) .nil)))
abbrev mr(f:Nat)(l k:J)(e:bj)(d c b:ac)(h:List J)(a j g i:Nat):T:=(T.af 35 [(0,(fw f l k e a i)),(1,d),(2,(dd h a j g)),(3,c),(4,b)])
abbrev sZ(g:Nat)(m l:J)(f:bj)(e d c:ac)(i:List J)(b k h j:Nat)(a:Int):T:=(T.af 56 [(0,(fx g m l f b j)),(1,e),(2,(cw i b k h a)),(3,d),(4,c),(45,ac.aj [.int .u8 a] 1 true)])
abbrev ms(g:Nat)(m l:J)(f:bj)(e d c:ac)(i:List J)(b k h j:Nat)(a:Int):T:=(T.af 64 [(0,(fx g m l f b j)),(1,e),(2,(cw i b k h a)),(3,d),(4,c),(45,ac.aj [.int .u8 a] 1 true)])
theorem PD(j:Nat)(l k:J)(i:bj)(h g f:ac)(c:List J)(ab e d a:Nat)(b:Int)(n:bm)(r:(-9223372036854775808<=(a:Int)-1/\(a:Int)-1<=9223372036854775807)/\(0<=(a:Int)-1/\(a:Int)-1<(a:Int))/\ab=ab/\c[0+Int.toNat ((a:Int)-1)]? =some (.int .u8 (aL c (0+Int.toNat ((a:Int)-1))))/\(64<=b->(b<=126->(ab=ab/\0+a=c.length/\a<a+1/\(a+1+(a+1)/4+512)*1<=281474976710656/\a+1<4611686018427387904)/\(-9223372036854775808<=(↑(a+1):Int)-1/\(↑(a+1):Int)-1<=9223372036854775807)/\((0:Int)<=2/\2<=(↑(a+1):Int)-1/\(↑(a+1):Int)-1<=(↑(a+1):Int))/\ab+1=ab+1/\2+(Int.toNat ((↑(a+1):Int)-1)-2)<=List.length (c++[.int .u8 b])/\(∃p,List.take (Int.toNat ((↑(a+1):Int)-1)-2) (List.drop (aT.idx {id:=2,ab:=ab+1,idx:=2,fld:=0,es:=1}) (ac.aQ (cw c ab e d b)))=aG p)/\As (2^30) (T.af 51 [(0,(fx j l k i ab a)),(1,h),(2,(cw c ab e d b)),(3,g),(4,f),(31,ac.aj [.int .u8 b] 1 true)]) ⟨0,0,0,0,6⟩ (strOf (List.take (Int.toNat ((↑(a+1):Int)-1)-2) (List.drop 2 (List.append c [.int .u8 b])))) b/\∀(q:T),At (T.af 51 [(0,(fx j l k i ab a)),(1,h),(2,(cw c ab e d b)),(3,g),(4,f),(31,ac.aj [.int .u8 b] 1 true)]) ⟨0,0,0,0,6⟩ (strOf (List.take (Int.toNat ((↑(a+1):Int)-1)-2) (List.drop 2 (List.append c [.int .u8 b])))) b q->bk 5 (q.Y) (n (.tuple []) q))/\(¬b<=126->(b<32->cF (2^30-8) dr (mr j l k i h g f c ab e d a) ⟨0,0,0,0,6⟩ b/\∀(m:T),cG bad (mr j l k i h g f c ab e d a) ⟨0,0,0,0,6⟩ b m->bk 5 (m.Y) (n (.tuple []) m))/\(¬b<32->(63<b->cF (2^30-8) dr (mr j l k i h g f c ab e d a) ⟨0,0,0,0,6⟩ b/\∀(m:T),cG bad (mr j l k i h g f c ab e d a) ⟨0,0,0,0,6⟩ b m->bk 5 (m.Y) (n (.tuple []) m))/\(¬63<b->(48<=b->(aL c (0+Int.toNat ((a:Int)-1))<48->cF (2^30-8) dr (T.af 42 [(0,(fw j l k i ab a)),(1,h),(2,(dd c ab e d)),(3,g),(4,f)]) ⟨0,0,0,0,6⟩ b/\∀(m:T),cG bad (T.af 42 [(0,(fw j l k i ab a)),(1,h),(2,(dd c ab e d)),(3,g),(4,f)]) ⟨0,0,0,0,6⟩ b m->bk 5 (m.Y) (n (.tuple []) m))/\(¬aL c (0+Int.toNat ((a:Int)-1))<48->(ab=ab/\0+a=c.length/\a<a+1/\(a+1+(a+1)/4+512)*1<=281474976710656/\a+1<4611686018427387904)/\((↑(a+1):Int)=64->ab+1=ab+1/\0+(a+1)<=List.length (c++[.int .u8 b])/\(∃p,List.take (a+1) (List.drop (aT.idx {id:=2,ab:=ab+1,idx:=0,fld:=0,es:=1}) (ac.aQ (cw c ab e d b)))=aG p)/\bU (ms j l k i h g f c ab e d a b) ⟨0,0,0,0,6⟩ ((de c a b))/\∀(o:T),bV (ms j l k i h g f c ab e d a b) ⟨0,0,0,0,6⟩ ((de c a b)) o->bk 5 (o.Y) (n (.tuple []) o))/\(¬(↑(a+1):Int)=64->n (.tuple []) (sZ j l k i h g f c ab e d a b))))/\(¬48<=b->(ab=ab/\0+a=c.length/\a<a+1/\(a+1+(a+1)/4+512)*1<=281474976710656/\a+1<4611686018427387904)/\((↑(a+1):Int)=64->ab+1=ab+1/\0+(a+1)<=List.length (c++[.int .u8 b])/\(∃p,List.take (a+1) (List.drop (aT.idx {id:=2,ab:=ab+1,idx:=0,fld:=0,es:=1}) (ac.aQ (cw c ab e d b)))=aG p)/\bU (ms j l k i h g f c ab e d a b) ⟨0,0,0,0,6⟩ ((de c a b))/\∀(o:T),bV (ms j l k i h g f c ab e d a b) ⟨0,0,0,0,6⟩ ((de c a b)) o->bk 5 (o.Y) (n (.tuple []) o))/\(¬(↑(a+1):Int)=64->n (.tuple []) (sZ j l k i h g f c ab e d a b)))))))/\(¬64<=b->(b<32->cF (2^30-8) dr (mr j l k i h g f c ab e d a) ⟨0,0,0,0,6⟩ b/\∀(m:T),cG bad (mr j l k i h g f c ab e d a) ⟨0,0,0,0,6⟩ b m->bk 5 (m.Y) (n (.tuple []) m))/\(¬b<32->(63<b->cF (2^30-8) dr (mr j l k i h g f c ab e d a) ⟨0,0,0,0,6⟩ b/\∀(m:T),cG bad (mr j l k i h g f c ab e d a) ⟨0,0,0,0,6⟩ b m->bk 5 (m.Y) (n (.tuple []) m))/\(¬63<b->(48<=b->(aL c (0+Int.toNat ((a:Int)-1))<48->cF (2^30-8) dr (T.af 42 [(0,(fw j l k i ab a)),(1,h),(2,(dd c ab e d)),(3,g),(4,f)]) ⟨0,0,0,0,6⟩ b/\∀(m:T),cG bad (T.af 42 [(0,(fw j l k i ab a)),(1,h),(2,(dd c ab e d)),(3,g),(4,f)]) ⟨0,0,0,0,6⟩ b m->bk 5 (m.Y) (n (.tuple []) m))/\(¬aL c (0+Int.toNat ((a:Int)-1))<48->(ab=ab/\0+a=c.length/\a<a+1/\(a+1+(a+1)/4+512)*1<=281474976710656/\a+1<4611686018427387904)/\((↑(a+1):Int)=64->ab+1=ab+1/\0+(a+1)<=List.length (c++[.int .u8 b])/\(∃p,List.take (a+1) (List.drop (aT.idx {id:=2,ab:=ab+1,idx:=0,fld:=0,es:=1}) (ac.aQ (cw c ab e d b)))=aG p)/\bU (ms j l k i h g f c ab e d a b) ⟨0,0,0,0,6⟩ ((de c a b))/\∀(o:T),bV (ms j l k i h g f c ab e d a b) ⟨0,0,0,0,6⟩ ((de c a b)) o->bk 5 (o.Y) (n (.tuple []) o))/\(¬(↑(a+1):Int)=64->n (.tuple []) (sZ j l k i h g f c ab e d a b))))/\(¬48<=b->(ab=ab/\0+a=c.length/\a<a+1/\(a+1+(a+1)/4+512)*1<=281474976710656/\a+1<4611686018427387904)/\((↑(a+1):Int)=64->ab+1=ab+1/\0+(a+1)<=List.length (c++[.int .u8 b])/\(∃p,List.take (a+1) (List.drop (aT.idx {id:=2,ab:=ab+1,idx:=0,fld:=0,es:=1}) (ac.aQ (cw c ab e d b)))=aG p)/\bU (ms j l k i h g f c ab e d a b) ⟨0,0,0,0,6⟩ ((de c a b))/\∀(o:T),bV (ms j l k i h g f c ab e d a b) ⟨0,0,0,0,6⟩ ((de c a b)) o->bk 5 (o.Y) (n (.tuple []) o))/\(¬(↑(a+1):Int)=64->n (.tuple []) (sZ j l k i h g f c ab e d a b))))))) :
 bC 87 [.ptr (ba 0),.int .u8 b] (T.of [bB 0 j 1 (.slice (some ⟨2,ab,0,0,1⟩) a a) l false k i,h,bL c 1 ab e d bZ,g,f]) n :=
 bI FZ (ag 9 (ag 10 (ag 11 (.aq 1001 (.aq 1004 (ag 2007 (ag 3010 (ag 3011 (ag 3012 .nil)))) (.aq 4001 .nil (.aq 4004 .nil F0))) (.aq 4001 .nil (.aq 4004 .nil F0)))))) r
end Go.Proofs.YtddnafghiejcoaaGreatDoor
