/-
  Parts of the proof of KeysTold.
-/
import Derived.Lib.Bytealg
import Derived.Shelf.Strings.OnBuilder
import Derived.Shelf.Strings.Repeat
import Derived.Lib.Atoi
import Derived.Lib.SlTrimSet
import Derived.Shelf.Strings.SlTrimAscii
import Derived.Shelf.Strconv.Atoi
import Derived.Lib.AtoiErrMem
import Derived.Shelf.Strings.Count
import Derived.Shelf.Strings.Search3
import Derived.Test.YtddnafghiejcoaaGreatDoorKKeysToldD
set_option linter.unusedVariables false
set_option linter.unusedSimpArgs false
namespace Go.Proofs.YtddnafghiejcoaaGreatDoor
open Go.cH Go.Keys
set_option maxRecDepth 1000000
abbrev pX(R:Nat)(a0:Int)(ap:Int)(a2:Int)(a3:Int)(n:Int)(c:Int):J:=⟨[.int .i32 (↑(List.getD (Prod.fst (b9 a0 ap a2 a3 n c)) 0 0):Int),.int .i32 (↑(List.getD (Prod.fst (b9 a0 ap a2 a3 n c)) 1 0):Int)],1,false,false,1,0,1,some (21,0)⟩
abbrev MX:dh:=(.aN 4005 (ah 6019 (ah 6023 FZ)) (ah 6019 (ah 6023 FZ)))
abbrev pY(f:Nat)(ag:o)(ad:o)(ax:Option (TypeId×Nat))(aE:Option (TypeId×Nat))(P:J)(O:J)(l:List o)(R:Nat)(m:Nat)(aG:Nat)(len:Nat)(a0:Int)(ap:Int)(a2:Int)(a3:Int)(n:Int)(c:Int):j:=(j.au 95 [(0,(hx f ag ad ax R len)),(1,(gQ aE R a0 ap a2 a3 n c)),(2,(ed l R m aG)),(3,P),(4,O),(27,(c8 c)),(30,(pX R a0 ap a2 a3 n c)),(71,J.made [.int .u8 c] 1 true)])
abbrev xu(f:Nat)(ag:o)(ad:o)(ax:Option (TypeId×Nat))(aE:Option (TypeId×Nat))(P:J)(O:J)(l:List o)(R:Nat)(m:Nat)(aG:Nat)(len:Nat)(a0:Int)(ap:Int)(a2:Int)(a3:Int)(n:Int)(c:Int):j:=(j.au 97 [(0,(hx f ag ad ax R len)),(1,(gQ aE R a0 ap a2 a3 n c)),(2,(ed l R m aG)),(3,P),(4,O),(29,(c8 c)),(32,(pX R a0 ap a2 a3 n c)),(73,J.made [.int .u8 c] 1 true)])
abbrev pZ(f:Nat)(ag:o)(ad:o)(ax:Option (TypeId×Nat))(aE:Option (TypeId×Nat))(P:J)(O:J)(l:List o)(R:Nat)(m:Nat)(aG:Nat)(len:Nat)(a0:Int)(ap:Int)(a2:Int)(a3:Int)(n:Int)(c:Int):j:=(j.au 104 [(0,(hy f ag ad ax R len)),(1,(gQ aE R a0 ap a2 a3 n c)),(2,(dp l R m aG c)),(3,P),(4,O),(27,(c8 c)),(30,(pX R a0 ap a2 a3 n c)),(71,J.made [.int .u8 c] 1 true),(82,J.made [.int .u8 c] 1 true)])
abbrev p0(f:Nat)(ag:o)(ad:o)(ax:Option (TypeId×Nat))(aE:Option (TypeId×Nat))(P:J)(O:J)(l:List o)(R:Nat)(m:Nat)(aG:Nat)(len:Nat)(a0:Int)(ap:Int)(a2:Int)(a3:Int)(n:Int)(c:Int):j:=(j.au 105 [(0,(hy f ag ad ax R len)),(1,(gQ aE R a0 ap a2 a3 n c)),(2,(dp l R m aG c)),(3,P),(4,O),(27,(c8 c)),(30,(pX R a0 ap a2 a3 n c)),(71,J.made [.int .u8 c] 1 true),(82,J.made [.int .u8 c] 1 true)])
abbrev xv(f:Nat)(ag:o)(ad:o)(ax:Option (TypeId×Nat))(aE:Option (TypeId×Nat))(P:J)(O:J)(l:List o)(R:Nat)(m:Nat)(aG:Nat)(len:Nat)(a0:Int)(ap:Int)(a2:Int)(a3:Int)(n:Int)(c:Int):j:=(j.au 106 [(0,(hy f ag ad ax R len)),(1,(gQ aE R a0 ap a2 a3 n c)),(2,(dp l R m aG c)),(3,P),(4,O),(29,(c8 c)),(32,(pX R a0 ap a2 a3 n c)),(73,J.made [.int .u8 c] 1 true),(84,J.made [.int .u8 c] 1 true)])
abbrev xw(f:Nat)(ag:o)(ad:o)(ax:Option (TypeId×Nat))(aE:Option (TypeId×Nat))(P:J)(O:J)(l:List o)(R:Nat)(m:Nat)(aG:Nat)(len:Nat)(a0:Int)(ap:Int)(a2:Int)(a3:Int)(n:Int)(c:Int):j:=(j.au 107 [(0,(hy f ag ad ax R len)),(1,(gQ aE R a0 ap a2 a3 n c)),(2,(dp l R m aG c)),(3,P),(4,O),(29,(c8 c)),(32,(pX R a0 ap a2 a3 n c)),(73,J.made [.int .u8 c] 1 true),(84,J.made [.int .u8 c] 1 true)])
abbrev p1(f:Nat)(ag:o)(ad:o)(ax:Option (TypeId×Nat))(aE:Option (TypeId×Nat))(P:J)(O:J)(l:List o)(R:Nat)(m:Nat)(aG:Nat)(len:Nat)(a0:Int)(ap:Int)(a2:Int)(a3:Int)(n:Int)(c:Int):j:=(j.au 100 [(0,(hx f ag ad ax R len)),(1,(oR aE R a0 ap a2 a3 n c)),(2,(ed l R m aG)),(3,P),(4,O),(27,(c8 c)),(30,(pX R a0 ap a2 a3 n c)),(71,J.made [.int .u8 c] 1 true),(95,J.made [.int .i32 65533] 1 true)])
abbrev xx(f:Nat)(ag:o)(ad:o)(ax:Option (TypeId×Nat))(aE:Option (TypeId×Nat))(P:J)(O:J)(l:List o)(R:Nat)(m:Nat)(aG:Nat)(len:Nat)(a0:Int)(ap:Int)(a2:Int)(a3:Int)(n:Int)(c:Int):j:=(j.au 102 [(0,(hx f ag ad ax R len)),(1,(oR aE R a0 ap a2 a3 n c)),(2,(ed l R m aG)),(3,P),(4,O),(29,(c8 c)),(32,(pX R a0 ap a2 a3 n c)),(73,J.made [.int .u8 c] 1 true),(97,J.made [.int .i32 65533] 1 true)])
theorem Xc(f:Nat)(ag ad:o)(ax aE:Option (TypeId×Nat))(P O:J)(l:List o)(R m aG len:Nat)(a0 ap a2 a3 n c:Int)(ab:o→j→Prop)(aY:(0<(len:Int)→((0:Int)≤0∧0<(len:Int))∧R=R∧l[0]? =some (.int .u8 (a8 l 0))∧(a8 l 0=27→ ¬(b9 a0 ap a2 a3 n c).1=[]∧¬List.length (Prod.fst (b9 a0 ap a2 a3 n c))=1∧ir a0 ap a2 a3 n c∧(0<(↑(List.length (Prod.snd (b9 a0 ap a2 a3 n c))):Int)→((0:Int)≤1∧1≤(len:Int)∧len≤len)∧R=R∧1+(len-1)≤List.length l∧(∃b3,List.take (len-1) (List.drop (bH.idx ⟨2,R,1,0,1⟩) (J.bi (ed l R m aG)))=aJ b3)∧Nat.le (Nat.succ (List.length (strOf (List.take (len-1) (List.drop 1 l)))+List.length [UInt8.ofNat (Int.toNat c)])) (2^62)∧List.length (strOf (List.take (len-1) (List.drop 1 l))++[UInt8.ofNat (Int.toNat c)])<1099511627776∧(valid (strOf (List.take (len-1) (List.drop 1 l))++[UInt8.ofNat (Int.toNat c)])=true→(R=R∧0+len=List.length l∧len<len+1∧(len+1+(len+1)/4+512)*1≤281474976710656∧len+1<4611686018427387904)∧((0:Int)≤1∧1≤(↑(len+1):Int)∧len+1≤len+1)∧R+1=R+1∧1+(len+1-1)≤List.length (l++[.int .u8 c])∧(∃b3,List.take (len+1-1) (List.drop (bH.idx {id:=2,R:=R+1,idx:=1,bP:=0,es:=1}) (J.bi (dp l R m aG c)))=aJ b3)∧List.length (strOf (List.take (len+1-1) (List.drop 1 (List.append l [.int .u8 c]))))<1099511627776∧(valid (strOf (List.take (len+1-1) (List.drop 1 (List.append l [.int .u8 c]))))=true→cx (xv f ag ad ax aE P O l R m aG len a0 ap a2 a3 n c) ⟨0,0,0,0,6⟩ ((ic a0 ap a2 a3 n c))∧∀(cu:j),cy (xv f ag ad ax aE P O l R m aG len a0 ap a2 a3 n c) ⟨0,0,0,0,6⟩ ((ic a0 ap a2 a3 n c)) cu→bN 5 (cu.next) (ab (.tuple []) cu))∧(valid (strOf (List.take (len+1-1) (List.drop 1 (List.append l [.int .u8 c]))))=false→R+1=R+1∧0+(len+1)≤List.length (l++[.int .u8 c])∧(∃b3,List.take (len+1) (List.drop (bH.idx {id:=2,R:=R+1,idx:=0,bP:=0,es:=1}) (J.bi (dp l R m aG c)))=aJ b3)∧cx (xw f ag ad ax aE P O l R m aG len a0 ap a2 a3 n c) ⟨0,0,0,0,6⟩ ((ee l len c))∧∀(b6:j),cy (xw f ag ad ax aE P O l R m aG len a0 ap a2 a3 n c) ⟨0,0,0,0,6⟩ ((ee l len c)) b6→bN 5 (b6.next) (ab (.tuple []) b6)))∧(valid (strOf (List.take (len-1) (List.drop 1 l))++[UInt8.ofNat (Int.toNat c)])=false→((↑(List.length (Prod.snd (b9 a0 ap a2 a3 n c))):Int)=0→dy (2^30-8) ey (xu f ag ad ax aE P O l R m aG len a0 ap a2 a3 n c) ⟨0,0,0,0,6⟩ c∧∀(cn:j),dz bad (xu f ag ad ax aE P O l R m aG len a0 ap a2 a3 n c) ⟨0,0,0,0,6⟩ c cn→bN 5 (cn.next) (ab (.tuple []) cn))∧(¬(↑(List.length (Prod.snd (b9 a0 ap a2 a3 n c))):Int)=0→dy (2^30-8) ey (xx f ag ad ax aE P O l R m aG len a0 ap a2 a3 n c) ⟨0,0,0,0,6⟩ c∧∀(cn:j),dz bad (xx f ag ad ax aE P O l R m aG len a0 ap a2 a3 n c) ⟨0,0,0,0,6⟩ c cn→bN 5 (cn.next) (ab (.tuple []) cn))))∧(¬0<(↑(List.length (Prod.snd (b9 a0 ap a2 a3 n c))):Int)→((0:Int)≤1∧1≤(len:Int)∧len≤len)∧R=R∧1+(len-1)≤List.length l∧(∃b3,List.take (len-1) (List.drop (bH.idx ⟨2,R,1,0,1⟩) (J.bi (ed l R m aG)))=aJ b3)∧Nat.le (Nat.succ (List.length (strOf (List.take (len-1) (List.drop 1 l)))+List.length [UInt8.ofNat (Int.toNat c)])) (2^62)∧List.length (strOf (List.take (len-1) (List.drop 1 l))++[UInt8.ofNat (Int.toNat c)])<1099511627776∧(valid (strOf (List.take (len-1) (List.drop 1 l))++[UInt8.ofNat (Int.toNat c)])=true→(R=R∧0+len=List.length l∧len<len+1∧(len+1+(len+1)/4+512)*1≤281474976710656∧len+1<4611686018427387904)∧((0:Int)≤1∧1≤(↑(len+1):Int)∧len+1≤len+1)∧R+1=R+1∧1+(len+1-1)≤List.length (l++[.int .u8 c])∧(∃b3,List.take (len+1-1) (List.drop (bH.idx {id:=2,R:=R+1,idx:=1,bP:=0,es:=1}) (J.bi (dp l R m aG c)))=aJ b3)∧List.length (strOf (List.take (len+1-1) (List.drop 1 (List.append l [.int .u8 c]))))<1099511627776∧(valid (strOf (List.take (len+1-1) (List.drop 1 (List.append l [.int .u8 c]))))=true→cx (xv f ag ad ax aE P O l R m aG len a0 ap a2 a3 n c) ⟨0,0,0,0,6⟩ ((ic a0 ap a2 a3 n c))∧∀(cu:j),cy (xv f ag ad ax aE P O l R m aG len a0 ap a2 a3 n c) ⟨0,0,0,0,6⟩ ((ic a0 ap a2 a3 n c)) cu→bN 5 (cu.next) (ab (.tuple []) cu))∧(valid (strOf (List.take (len+1-1) (List.drop 1 (List.append l [.int .u8 c]))))=false→R+1=R+1∧0+(len+1)≤List.length (l++[.int .u8 c])∧(∃b3,List.take (len+1) (List.drop (bH.idx {id:=2,R:=R+1,idx:=0,bP:=0,es:=1}) (J.bi (dp l R m aG c)))=aJ b3)∧cx (xw f ag ad ax aE P O l R m aG len a0 ap a2 a3 n c) ⟨0,0,0,0,6⟩ ((ee l len c))∧∀(b6:j),cy (xw f ag ad ax aE P O l R m aG len a0 ap a2 a3 n c) ⟨0,0,0,0,6⟩ ((ee l len c)) b6→bN 5 (b6.next) (ab (.tuple []) b6)))∧(valid (strOf (List.take (len-1) (List.drop 1 l))++[UInt8.ofNat (Int.toNat c)])=false→((↑(List.length (Prod.snd (b9 a0 ap a2 a3 n c))):Int)=0→dy (2^30-8) ey (xu f ag ad ax aE P O l R m aG len a0 ap a2 a3 n c) ⟨0,0,0,0,6⟩ c∧∀(cn:j),dz bad (xu f ag ad ax aE P O l R m aG len a0 ap a2 a3 n c) ⟨0,0,0,0,6⟩ c cn→bN 5 (cn.next) (ab (.tuple []) cn))∧(¬(↑(List.length (Prod.snd (b9 a0 ap a2 a3 n c))):Int)=0→dy (2^30-8) ey (xx f ag ad ax aE P O l R m aG len a0 ap a2 a3 n c) ⟨0,0,0,0,6⟩ c∧∀(cn:j),dz bad (xx f ag ad ax aE P O l R m aG len a0 ap a2 a3 n c) ⟨0,0,0,0,6⟩ c cn→bN 5 (cn.next) (ab (.tuple []) cn)))))∧(¬a8 l 0=27→ ¬(b9 a0 ap a2 a3 n c).1=[]∧¬List.length (Prod.fst (b9 a0 ap a2 a3 n c))=1∧ir a0 ap a2 a3 n c∧(0<(↑(List.length (Prod.snd (b9 a0 ap a2 a3 n c))):Int)→R=R∧0+(len-0)≤List.length l∧(∃b3,List.take (len-0) (List.drop (bH.idx ⟨2,R,0,0,1⟩) (J.bi (ed l R m aG)))=aJ b3)∧Nat.le (Nat.succ (List.length (strOf (List.take (len-0) l))+List.length [UInt8.ofNat (Int.toNat c)])) (2^62)∧List.length (strOf (List.take (len-0) l)++[UInt8.ofNat (Int.toNat c)])<1099511627776∧(valid (strOf (List.take (len-0) l)++[UInt8.ofNat (Int.toNat c)])=true→(R=R∧0+len=List.length l∧len<len+1∧(len+1+(len+1)/4+512)*1≤281474976710656∧len+1<4611686018427387904)∧R+1=R+1∧0+(len+1-0)≤List.length (l++[.int .u8 c])∧(∃b3,List.take (len+1-0) (List.drop (bH.idx {id:=2,R:=R+1,idx:=0,bP:=0,es:=1}) (J.bi (dp l R m aG c)))=aJ b3)∧List.length (strOf (List.take (len+1-0) (List.drop 0 (List.append l [.int .u8 c]))))<1099511627776∧(valid (strOf (List.take (len+1-0) (List.drop 0 (List.append l [.int .u8 c]))))=true→cx (pZ f ag ad ax aE P O l R m aG len a0 ap a2 a3 n c) ⟨0,0,0,0,6⟩ ((fO a0 ap a2 a3 n c))∧∀(cu:j),cy (pZ f ag ad ax aE P O l R m aG len a0 ap a2 a3 n c) ⟨0,0,0,0,6⟩ ((fO a0 ap a2 a3 n c)) cu→bN 5 (cu.next) (ab (.tuple []) cu))∧(valid (strOf (List.take (len+1-0) (List.drop 0 (List.append l [.int .u8 c]))))=false→R+1=R+1∧0+(len+1)≤List.length (l++[.int .u8 c])∧(∃b3,List.take (len+1) (List.drop (bH.idx {id:=2,R:=R+1,idx:=0,bP:=0,es:=1}) (J.bi (dp l R m aG c)))=aJ b3)∧cx (p0 f ag ad ax aE P O l R m aG len a0 ap a2 a3 n c) ⟨0,0,0,0,6⟩ ((ee l len c))∧∀(b6:j),cy (p0 f ag ad ax aE P O l R m aG len a0 ap a2 a3 n c) ⟨0,0,0,0,6⟩ ((ee l len c)) b6→bN 5 (b6.next) (ab (.tuple []) b6)))∧(valid (strOf (List.take (len-0) l)++[UInt8.ofNat (Int.toNat c)])=false→((↑(List.length (Prod.snd (b9 a0 ap a2 a3 n c))):Int)=0→dy (2^30-8) ey (pY f ag ad ax aE P O l R m aG len a0 ap a2 a3 n c) ⟨0,0,0,0,6⟩ c∧∀(cn:j),dz bad (pY f ag ad ax aE P O l R m aG len a0 ap a2 a3 n c) ⟨0,0,0,0,6⟩ c cn→bN 5 (cn.next) (ab (.tuple []) cn))∧(¬(↑(List.length (Prod.snd (b9 a0 ap a2 a3 n c))):Int)=0→dy (2^30-8) ey (p1 f ag ad ax aE P O l R m aG len a0 ap a2 a3 n c) ⟨0,0,0,0,6⟩ c∧∀(cn:j),dz bad (p1 f ag ad ax aE P O l R m aG len a0 ap a2 a3 n c) ⟨0,0,0,0,6⟩ c cn→bN 5 (cn.next) (ab (.tuple []) cn))))∧(¬0<(↑(List.length (Prod.snd (b9 a0 ap a2 a3 n c))):Int)→R=R∧0+(len-0)≤List.length l∧(∃b3,List.take (len-0) (List.drop (bH.idx ⟨2,R,0,0,1⟩) (J.bi (ed l R m aG)))=aJ b3)∧Nat.le (Nat.succ (List.length (strOf (List.take (len-0) l))+List.length [UInt8.ofNat (Int.toNat c)])) (2^62)∧List.length (strOf (List.take (len-0) l)++[UInt8.ofNat (Int.toNat c)])<1099511627776∧(valid (strOf (List.take (len-0) l)++[UInt8.ofNat (Int.toNat c)])=true→(R=R∧0+len=List.length l∧len<len+1∧(len+1+(len+1)/4+512)*1≤281474976710656∧len+1<4611686018427387904)∧R+1=R+1∧0+(len+1-0)≤List.length (l++[.int .u8 c])∧(∃b3,List.take (len+1-0) (List.drop (bH.idx {id:=2,R:=R+1,idx:=0,bP:=0,es:=1}) (J.bi (dp l R m aG c)))=aJ b3)∧List.length (strOf (List.take (len+1-0) (List.drop 0 (List.append l [.int .u8 c]))))<1099511627776∧(valid (strOf (List.take (len+1-0) (List.drop 0 (List.append l [.int .u8 c]))))=true→cx (pZ f ag ad ax aE P O l R m aG len a0 ap a2 a3 n c) ⟨0,0,0,0,6⟩ ((fO a0 ap a2 a3 n c))∧∀(cu:j),cy (pZ f ag ad ax aE P O l R m aG len a0 ap a2 a3 n c) ⟨0,0,0,0,6⟩ ((fO a0 ap a2 a3 n c)) cu→bN 5 (cu.next) (ab (.tuple []) cu))∧(valid (strOf (List.take (len+1-0) (List.drop 0 (List.append l [.int .u8 c]))))=false→R+1=R+1∧0+(len+1)≤List.length (l++[.int .u8 c])∧(∃b3,List.take (len+1) (List.drop (bH.idx {id:=2,R:=R+1,idx:=0,bP:=0,es:=1}) (J.bi (dp l R m aG c)))=aJ b3)∧cx (p0 f ag ad ax aE P O l R m aG len a0 ap a2 a3 n c) ⟨0,0,0,0,6⟩ ((ee l len c))∧∀(b6:j),cy (p0 f ag ad ax aE P O l R m aG len a0 ap a2 a3 n c) ⟨0,0,0,0,6⟩ ((ee l len c)) b6→bN 5 (b6.next) (ab (.tuple []) b6)))∧(valid (strOf (List.take (len-0) l)++[UInt8.ofNat (Int.toNat c)])=false→((↑(List.length (Prod.snd (b9 a0 ap a2 a3 n c))):Int)=0→dy (2^30-8) ey (pY f ag ad ax aE P O l R m aG len a0 ap a2 a3 n c) ⟨0,0,0,0,6⟩ c∧∀(cn:j),dz bad (pY f ag ad ax aE P O l R m aG len a0 ap a2 a3 n c) ⟨0,0,0,0,6⟩ c cn→bN 5 (cn.next) (ab (.tuple []) cn))∧(¬(↑(List.length (Prod.snd (b9 a0 ap a2 a3 n c))):Int)=0→dy (2^30-8) ey (p1 f ag ad ax aE P O l R m aG len a0 ap a2 a3 n c) ⟨0,0,0,0,6⟩ c∧∀(cn:j),dz bad (p1 f ag ad ax aE P O l R m aG len a0 ap a2 a3 n c) ⟨0,0,0,0,6⟩ c cn→bN 5 (cn.next) (ab (.tuple []) cn))))))∧(¬0<(len:Int)→ ¬(b9 a0 ap a2 a3 n c).1=[]∧¬List.length (Prod.fst (b9 a0 ap a2 a3 n c))=1∧ir a0 ap a2 a3 n c∧(0<(↑(List.length (Prod.snd (b9 a0 ap a2 a3 n c))):Int)→R=R∧0+(len-0)≤List.length l∧(∃b3,List.take (len-0) (List.drop (bH.idx ⟨2,R,0,0,1⟩) (J.bi (ed l R m aG)))=aJ b3)∧Nat.le (Nat.succ (List.length (strOf (List.take (len-0) l))+List.length [UInt8.ofNat (Int.toNat c)])) (2^62)∧List.length (strOf (List.take (len-0) l)++[UInt8.ofNat (Int.toNat c)])<1099511627776∧(valid (strOf (List.take (len-0) l)++[UInt8.ofNat (Int.toNat c)])=true→(R=R∧0+len=List.length l∧len<len+1∧(len+1+(len+1)/4+512)*1≤281474976710656∧len+1<4611686018427387904)∧R+1=R+1∧0+(len+1-0)≤List.length (l++[.int .u8 c])∧(∃b3,List.take (len+1-0) (List.drop (bH.idx {id:=2,R:=R+1,idx:=0,bP:=0,es:=1}) (J.bi (dp l R m aG c)))=aJ b3)∧List.length (strOf (List.take (len+1-0) (List.drop 0 (List.append l [.int .u8 c]))))<1099511627776∧(valid (strOf (List.take (len+1-0) (List.drop 0 (List.append l [.int .u8 c]))))=true→cx (pZ f ag ad ax aE P O l R m aG len a0 ap a2 a3 n c) ⟨0,0,0,0,6⟩ ((fO a0 ap a2 a3 n c))∧∀(cu:j),cy (pZ f ag ad ax aE P O l R m aG len a0 ap a2 a3 n c) ⟨0,0,0,0,6⟩ ((fO a0 ap a2 a3 n c)) cu→bN 5 (cu.next) (ab (.tuple []) cu))∧(valid (strOf (List.take (len+1-0) (List.drop 0 (List.append l [.int .u8 c]))))=false→R+1=R+1∧0+(len+1)≤List.length (l++[.int .u8 c])∧(∃b3,List.take (len+1) (List.drop (bH.idx {id:=2,R:=R+1,idx:=0,bP:=0,es:=1}) (J.bi (dp l R m aG c)))=aJ b3)∧cx (p0 f ag ad ax aE P O l R m aG len a0 ap a2 a3 n c) ⟨0,0,0,0,6⟩ ((ee l len c))∧∀(b6:j),cy (p0 f ag ad ax aE P O l R m aG len a0 ap a2 a3 n c) ⟨0,0,0,0,6⟩ ((ee l len c)) b6→bN 5 (b6.next) (ab (.tuple []) b6)))∧(valid (strOf (List.take (len-0) l)++[UInt8.ofNat (Int.toNat c)])=false→((↑(List.length (Prod.snd (b9 a0 ap a2 a3 n c))):Int)=0→dy (2^30-8) ey (pY f ag ad ax aE P O l R m aG len a0 ap a2 a3 n c) ⟨0,0,0,0,6⟩ c∧∀(cn:j),dz bad (pY f ag ad ax aE P O l R m aG len a0 ap a2 a3 n c) ⟨0,0,0,0,6⟩ c cn→bN 5 (cn.next) (ab (.tuple []) cn))∧(¬(↑(List.length (Prod.snd (b9 a0 ap a2 a3 n c))):Int)=0→dy (2^30-8) ey (p1 f ag ad ax aE P O l R m aG len a0 ap a2 a3 n c) ⟨0,0,0,0,6⟩ c∧∀(cn:j),dz bad (p1 f ag ad ax aE P O l R m aG len a0 ap a2 a3 n c) ⟨0,0,0,0,6⟩ c cn→bN 5 (cn.next) (ab (.tuple []) cn))))∧(¬0<(↑(List.length (Prod.snd (b9 a0 ap a2 a3 n c))):Int)→R=R∧0+(len-0)≤List.length l∧(∃b3,List.take (len-0) (List.drop (bH.idx ⟨2,R,0,0,1⟩) (J.bi (ed l R m aG)))=aJ b3)∧Nat.le (Nat.succ (List.length (strOf (List.take (len-0) l))+List.length [UInt8.ofNat (Int.toNat c)])) (2^62)∧List.length (strOf (List.take (len-0) l)++[UInt8.ofNat (Int.toNat c)])<1099511627776∧(valid (strOf (List.take (len-0) l)++[UInt8.ofNat (Int.toNat c)])=true→(R=R∧0+len=List.length l∧len<len+1∧(len+1+(len+1)/4+512)*1≤281474976710656∧len+1<4611686018427387904)∧R+1=R+1∧0+(len+1-0)≤List.length (l++[.int .u8 c])∧(∃b3,List.take (len+1-0) (List.drop (bH.idx {id:=2,R:=R+1,idx:=0,bP:=0,es:=1}) (J.bi (dp l R m aG c)))=aJ b3)∧List.length (strOf (List.take (len+1-0) (List.drop 0 (List.append l [.int .u8 c]))))<1099511627776∧(valid (strOf (List.take (len+1-0) (List.drop 0 (List.append l [.int .u8 c]))))=true→cx (pZ f ag ad ax aE P O l R m aG len a0 ap a2 a3 n c) ⟨0,0,0,0,6⟩ ((fO a0 ap a2 a3 n c))∧∀(cu:j),cy (pZ f ag ad ax aE P O l R m aG len a0 ap a2 a3 n c) ⟨0,0,0,0,6⟩ ((fO a0 ap a2 a3 n c)) cu→bN 5 (cu.next) (ab (.tuple []) cu))∧(valid (strOf (List.take (len+1-0) (List.drop 0 (List.append l [.int .u8 c]))))=false→R+1=R+1∧0+(len+1)≤List.length (l++[.int .u8 c])∧(∃b3,List.take (len+1) (List.drop (bH.idx {id:=2,R:=R+1,idx:=0,bP:=0,es:=1}) (J.bi (dp l R m aG c)))=aJ b3)∧cx (p0 f ag ad ax aE P O l R m aG len a0 ap a2 a3 n c) ⟨0,0,0,0,6⟩ ((ee l len c))∧∀(b6:j),cy (p0 f ag ad ax aE P O l R m aG len a0 ap a2 a3 n c) ⟨0,0,0,0,6⟩ ((ee l len c)) b6→bN 5 (b6.next) (ab (.tuple []) b6)))∧(valid (strOf (List.take (len-0) l)++[UInt8.ofNat (Int.toNat c)])=false→((↑(List.length (Prod.snd (b9 a0 ap a2 a3 n c))):Int)=0→dy (2^30-8) ey (pY f ag ad ax aE P O l R m aG len a0 ap a2 a3 n c) ⟨0,0,0,0,6⟩ c∧∀(cn:j),dz bad (pY f ag ad ax aE P O l R m aG len a0 ap a2 a3 n c) ⟨0,0,0,0,6⟩ c cn→bN 5 (cn.next) (ab (.tuple []) cn))∧(¬(↑(List.length (Prod.snd (b9 a0 ap a2 a3 n c))):Int)=0→dy (2^30-8) ey (p1 f ag ad ax aE P O l R m aG len a0 ap a2 a3 n c) ⟨0,0,0,0,6⟩ c∧∀(cn:j),dz bad (p1 f ag ad ax aE P O l R m aG len a0 ap a2 a3 n c) ⟨0,0,0,0,6⟩ c cn→bN 5 (cn.next) (ab (.tuple []) cn)))))) :
 ∃v p,aI Tryz.prog aw 90 [.ptr (some ⟨0,0,0,0,6⟩),.int .u8 c] (j.of [b1 0 f 1 (.slice (some ⟨2,R,0,0,1⟩) len len) ag false ad ax,hb a0 ap a2 a3 n aE,ct l 1 R m aG cF,P,O]) v p∧ab v p :=
 cf bU mixed W9 (aq:= .aN 1005 (ah 1011 (ah 1012 (.aN 1013 (he 4004 (.aN 4005 (ah 6018 (ah 6019 AJ)) (ah 6018 (ah 6019 AJ)))) (he 4004 MX)))) (he 4004 MX)) (by kernel_rfl) aY
theorem uL(b:UInt8):ek (b.toNat:Int)=b:=by unfold ek;simp
theorem MY:∀(hold:Bytes)(bx bt bk bz:Int),hold.length≤4→nG (ca hold 0 bx) (ca hold 1 bt) (ca hold 2 bk) (ca hold 3 bz) hold.length=hold
 |[],_,_,_,_,_=>rfl
 |[a],_,_,_,_,_=>by simp [nG,ca,uL]
 |[a,b],_,_,_,_,_=>by simp [nG,ca,uL]
 |[a,b,c],_,_,_,_,_=>by simp [nG,ca,uL]
 |[a,b,c,d],_,_,_,_,_=>by simp [nG,ca,uL]
 |_::_::_::_::_::_,_,_,_,_,h=>by simp at h
theorem F0(hold:Bytes)(bx bt bk bz:Int)(c:UInt8)(h:hold.length≤4):b9 (ca hold 0 bx) (ca hold 1 bt) (ca hold 2 bk) (ca hold 3 bz) hold.length c.toNat=cg hold c:=by unfold b9;rw [MY hold _ _ _ _ h,uL]
theorem F1(hold:Bytes)(i:Nat)(C:Int)(h:i<hold.length):0≤ca hold i C∧ca hold i C≤255:=by
 have:∃b:UInt8,ca hold i C=(b.toNat:Int):=by unfold ca;rw [List.getElem?_eq_getElem h];exact⟨_,rfl⟩
 obtain⟨b,e⟩:=this;have:=b.toNat_lt;rw [e];omega
theorem F2(hold:Bytes)(bx bt bk bz:Int)(c:UInt8)(h:hold.length≤3)(ai:(first hold).2.2=true):ir (ca hold 0 bx) (ca hold 1 bt) (ca hold 2 bk) (ca hold 3 bz) hold.length c.toNat where
 aM:=by omega
 ay:=fun k=>F1 _ _ _ (by omega)
 ba:=fun k=>F1 _ _ _ (by omega)
 bW:=fun k=>F1 _ _ _ (by omega)
 ar:=by have:=c.toNat_lt;omega
 op:= .inr (by rw [MY hold _ _ _ _ (by omega)];exact ai)
theorem oS(x:Bytes)(n k:Nat):∃l,List.take n (List.drop k (aJ x))=aJ l:=⟨(x.drop k).take n,by simp [aJ,List.map_drop,List.map_take]⟩
theorem mR(x:Bytes)(c:UInt8):aJ x++[o.int .u8 c.toNat]=aJ (x++[c]):=by simp [aJ]
theorem AL(x:Bytes)(c:UInt8)(n k:Nat):∃l,List.take n (List.drop k (aJ x++[o.int .u8 c.toNat]))=aJ l:=by rw [mR];exact oS _ _ _
theorem nN(x:Bytes):(aJ x).length=x.length:=by simp [aJ]
theorem AM(x:Bytes)(c:UInt8):(aJ x++[o.int .u8 c.toNat]).length=x.length+1:=by simp [aJ]
theorem F3(x:Bytes)(n k:Nat)(h:n=(x.drop k).length):List.take n (List.drop k (aJ x))=aJ (x.drop k):=by
 subst h;have:=xd (x.drop k)
 rwa [show aJ (List.drop k x)=List.drop k (aJ x)by simp [aJ,List.map_drop]]at this⊢
theorem F4(x:Bytes):strOf (List.take (x.length-1) (List.drop 1 (aJ x)))=x.drop 1:=by rw [F3 _ _ _ (by simp),iZ]
theorem F5(x:Bytes):strOf (List.take (x.length-0) (aJ x))=x:=by rw [Nat.sub_zero,xd,iZ]
theorem F6(x:Bytes)(c:UInt8):strOf (List.take (x.length+1-1) (List.drop 1 (List.append (aJ x) [o.int .u8 c.toNat])))=(x++[c]).drop 1:=by show strOf (List.take _ (List.drop 1 (aJ x++_)))=_;rw [mR,F3 _ _ _ (by simp),iZ]
theorem AN(x:Bytes)(c:UInt8):strOf (List.take (x.length+1-0) (List.drop 0 (List.append (aJ x) [o.int .u8 c.toNat])))=x++[c]:=by show strOf (List.take _ (List.drop 0 (aJ x++_)))=_;rw [mR,F3 _ _ _ (by simp),iZ];rfl
theorem AO(x:Bytes)(c:UInt8):strOf (List.take (x.length+1) (List.drop 0 (List.append (aJ x) [o.int .u8 c.toNat])))=x++[c]:=AN x c
theorem sQ{D bj K P O:J}{h:j}{f:Nat}{ag ad cJ:o}{an aE:Option (TypeId×Nat)}{R m aG len:Nat}{l:List o}{kept hold az:Bytes}{es:List bw}{e:bw}{aZ:cB}{bx bt bk bz:Int}(bJ:Nat.ble 5 h.next=true)(b':h.get 0=some (b1 0 f 1 (.slice (some ⟨2,R,0,0,1⟩) len len) ag false ad an))(bu:h.get 1=some (ch hold bx bt bk bz aE))
 (bC:h.get 2=some (ct l 1 R m aG cF)) (b2:h.get 3=some P) (cp:h.get 4=some O) (hlen:len=kept.length) (hle:l=aJ kept) (ac:jc (j.of [D,bj,K,P,O]) 0 aZ.I ag az) (ai:jd (j.of [D,bj,K,P,O]) 0 aZ.U ad es) (cQ:aZ.u=1∧(aZ.k=0∨aZ.k=2)∧(aZ.I=0∨aZ.I=3)∧(aZ.U=0∨aZ.U=4)) (cw:aZ.k=2)
 (he:cJ=di e) (cs:es.length<2^30) (aB:hold.length≤4) {cX:j→Prop} (d':∀aa aO,cm aa 0 aO ⟨.ground,[],hold,az⟩ (es++[e])→Fr (j.of [D,bj,K,P,O]) aa 0 aZ aO→cX aa) :
 cx h ⟨0,0,0,0,6⟩ cJ∧∀aa,cy h ⟨0,0,0,0,6⟩ cJ aa→_root_.cond (Nat.ble 5 aa.next) (cX aa) False:=by
 have bJ:=Nat.le_of_ble_eq_true bJ;exact sM rfl bJ (iu rfl bJ b' bu (.inr cw) b2 cp (nJ (by decide) hlen hle bC) (by omega) ac ai cQ (.inr (.inr ⟨rfl,cw⟩))) he cs aB fun aa aO g cL=>d' aa aO (w6 g) cL
theorem rp{D bj K P O:J}{h:j}{ag ad:o}{an aE:Option (TypeId×Nat)}{R m aG:Nat}{kept az:Bytes}{es:List bw}{aZ:cB}{bx bt bk bz:Int}{c:UInt8}(bJ:Nat.ble 5 h.next=true)(b':h.get 0=some (b1 0 (cD .dc) 1 (.slice (some ⟨2,R,0,0,1⟩) kept.length kept.length) ag false ad an))(bu:h.get 1=some (ch [] bx bt bk bz aE))
 (bC:h.get 2=some (ct (aJ kept) 1 R m aG cF)) (b2:h.get 3=some P) (cp:h.get 4=some O) (gw:kept≠[]) (ac:jc (j.of [D,bj,K,P,O]) 0 aZ.I ag az) (ai:jd (j.of [D,bj,K,P,O]) 0 aZ.U ad es) (cQ:aZ.u=1∧(aZ.k=0∨aZ.k=2)∧(aZ.I=0∨aZ.I=3)∧(aZ.U=0∨aZ.U=4)) (cw:aZ.k=2)
 (cs:es.length<2^30-8) {cX:j→Prop} (d':∀aa aO,cm aa 0 aO (Keys.bad ⟨.dc,kept,[],az⟩ c).1 (es++(Keys.bad ⟨.dc,kept,[],az⟩ c).2)→Fr (j.of [D,bj,K,P,O]) aa 0 aZ aO→cX aa) :
 dy (2^30-8) ey h ⟨0,0,0,0,6⟩ c.toNat∧∀aa,dz Keys.bad h ⟨0,0,0,0,6⟩ c.toNat aa→_root_.cond (Nat.ble 5 aa.next) (cX aa) False:=by
 have bJ:=Nat.le_of_ble_eq_true bJ;exact w' (s:=⟨.dc,kept,[],az⟩) rfl bJ (AF (bl:= .grown []) (iu rfl bJ b' bu (.inr cw) b2 cp (nJ (by decide) rfl rfl bC) (by omega) ac ai cQ (.inr (.inr ⟨rfl,cw⟩))) gw) cs (by simp) ⟨rfl,.inl rfl⟩ d'
theorem Xd{D bj K P O:J}{h:j}{ag ad:o}{an aE:Option (TypeId×Nat)}{R m aG len:Nat}{l:List o}{kept hold az:Bytes}{es:List bw}{aZ:cB}{bx bt bk bz:Int}(bJ:Nat.ble 5 h.next=true)(b':h.get 0=some (b1 0 (cD .dc) 1 (.slice (some ⟨2,R,0,0,1⟩) len len) ag false ad an))(bu:h.get 1=some (ch hold bx bt bk bz aE))
 (bC:h.get 2=some (ct l 1 R m aG cF)) (b2:h.get 3=some P) (cp:h.get 4=some O) (hlen:len=kept.length) (hle:l=aJ kept) (gw:kept≠[]) (ac:jc (j.of [D,bj,K,P,O]) 0 aZ.I ag az) (ai:jd (j.of [D,bj,K,P,O]) 0 aZ.U ad es) (cQ:aZ.u=1∧(aZ.k=0∨aZ.k=2)∧(aZ.I=0∨aZ.I=3)∧(aZ.U=0∨aZ.U=4)) (cw:aZ.k=2) :
 ∃aO,cm h 0 aO ⟨.dc,kept,hold,az⟩ es∧Fr (j.of [D,bj,K,P,O]) h 0 aZ aO:=by
 have bJ:=Nat.le_of_ble_eq_true bJ;exact oO (s:=⟨.dc,kept,hold,az⟩) (bl:= .grown []) (iu rfl bJ b' bu (.inr cw) b2 cp (nJ (by decide) hlen hle bC) (by omega) ac ai cQ (.inr (.inr ⟨rfl,cw⟩))) gw
set_option maxHeartbeats 4000000
theorem gA{b:Bool}(h:b=true)(k:b=false):False:=by rw [h]at k;cases k
set_option hygiene false in
theorem Xe{ag ad:o}{an aE:Option (TypeId×Nat)}{P O:J}{kept hold:Bytes}{c:UInt8}{bx bt bk bz:Int}{R m aG:Nat}{x:UInt8}{t:Bytes}(iM:kept=x::t)(bQ:hold.length≤3)(gZ:(first hold).2.2=true)(aC:(cg hold c).1=[])(hlen:kept.length=at' kept+hold.length)(bZ:0<hold.length)(bm:¬(0:Int)<(cg hold c).2.length→False)(ab:o→j→Prop)
 (oT:∀{h:j},Nat.ble 5 h.next=true→h.get 0=some (b1 0 (cD .dc) 1 (.slice (some ⟨2,R+1,0,0,1⟩) (kept.length+1) (kept.length+1)) ag false ad an)→h.get 1=some (ch (cg hold c).2 (ca hold 0 bx) (ca hold 1 bt) (ca hold 2 bk) (ca hold 3 bz) aE)→h.get 2=some (ct (aJ kept++[.int .u8 c.toNat]) 1 (R+1) m (if m=R then(aJ kept).length else min aG (aJ kept).length) cF)→h.get 3=some P→h.get 4=some O→ab (.tuple []) h) :
 ∃v aa,aI Tryz.prog aw 90 [.ptr (some ⟨0,0,0,0,6⟩),.int .u8 c.toNat] (j.of [b1 0 (cD .dc) 1 (.slice (some ⟨2,R,0,0,1⟩) kept.length kept.length) ag false ad an,ch hold bx bt bk bz aE,ct (aJ kept) 1 R m aG cF,P,O]) v aa∧ab v aa:=by
 refine Xa (cD .dc) ag ad an aE P O (aJ kept) R m aG kept.length (ca hold 0 bx) (ca hold 1 bt) (ca hold 2 bk) (ca hold 3 bz) hold.length c.toNat ab ?_
 delta xm c8 ed oR AI hx uK uJ eG xk gQ sJ ee xl dp hy xj xi
 have al:a8 (aJ kept) 0=x.toNat:=by rw [iM];rfl
 have MZ:(aJ kept)[0]? =some (o.int .u8 x.toNat):=by rw [iM];rfl
 have zd:kept.length≤4:=by
  have:at' kept≤1:=by unfold at';split<;>(try split)<;>omega
  omega
 have jG:0<kept.length:=by omega
 have nv:(kept++[c]).drop 1=kept.drop 1++[c]:=by rw [iM];rfl
 have hE:=nN kept;have jJ:=AM kept c;have vX:=F2 hold bx bt bk bz c bQ gZ
 have AP:(x.toNat:Int)=27→(kept.length:Int)=1→False:=fun e bu=>by
  have af:x=27:=UInt8.toNat_inj.1 (by show x.toNat=27;omega);have:at' kept=1:=by rw [iM,af];rfl
  omega
 have AQ:(kept.length:Int)=0→False:=fun e=>by omega
 have nO:¬(0:Int)<kept.length→False:=fun e=>by omega
 rw [F0 hold bx bt bk bz c (by omega)];simp only [F4,F5,F6,AN,AO,oP,nv,al];refine⟨?_,fun e=>(nO e).elim⟩
 repeat' (first
  |assumption
  |exact oT (by kernel_rfl) (by kernel_rfl) (by kernel_rfl) (by kernel_rfl) (by kernel_rfl) (by kernel_rfl)
  |exact(bm (by assumption)).elim
  |intro _
  |refine And.intro ?_ ?_
  |exact True.intro
  |assumption
  |rfl
  |omega
  |exact oS _ _ _
  |exact AL _ _ _ _
  |(simp only [List.length_append,List.length_drop,List.length_cons,List.length_nil,nN];omega)
  |(refine Nat.succ_le_of_lt ?_;simp only [List.length_append,List.length_drop,List.length_cons,List.length_nil,nN];omega))
set_option maxHeartbeats 4000000
set_option hygiene false in
theorem Xf{ag ad:o}{an aE:Option (TypeId×Nat)}{P O:J}{kept hold:Bytes}{c:UInt8}{bx bt bk bz:Int}{R m aG:Nat}{x:UInt8}{t:Bytes}(iM:kept=x::t)(bQ:hold.length≤3)(gZ:(first hold).2.2=true)(aC:(cg hold c).1.length=1)(hlen:kept.length=at' kept+hold.length)(bZ:0<hold.length)(ab:o→j→Prop)
 (F7:∀{h:j}{cJ:o},x.toNat=27→valid (kept.drop 1++[c])=true→Nat.ble 5 h.next=true→h.get 0=some (b1 0 (cD .dc) 1 (.slice (some ⟨2,R+1,0,0,1⟩) (kept.length+1) (kept.length+1)) ag false ad an)→h.get 1=some (ch (cg hold c).2 (ca hold 0 bx) (ca hold 1 bt) (ca hold 2 bk) (ca hold 3 bz) aE)→h.get 2=some (ct (aJ kept++[.int .u8 c.toNat]) 1 (R+1) m (if m=R then(aJ kept).length else min aG (aJ kept).length) cF)→h.get 3=some P→h.get 4=some O→cJ=di (gk ((cg hold c).1.getD 0 0) 2)→cx h ⟨0,0,0,0,6⟩ cJ∧∀aa,cy h ⟨0,0,0,0,6⟩ cJ aa→_root_.cond (Nat.ble 5 aa.next) (ab (.tuple []) aa) False)
 (F8:∀{h:j},x.toNat=27→valid (kept.drop 1++[c])=false→((cg hold c).2.length:Int)=0→Nat.ble 5 h.next=true→h.get 0=some (b1 0 (cD .dc) 1 (.slice (some ⟨2,R,0,0,1⟩) kept.length kept.length) ag false ad an)→h.get 1=some (ch (cg hold c).2 (ca hold 0 bx) (ca hold 1 bt) (ca hold 2 bk) (ca hold 3 bz) aE)→h.get 2=some (ct (aJ kept) 1 R m aG cF)→h.get 3=some P→h.get 4=some O→dy (2^30-8) ey h ⟨0,0,0,0,6⟩ c.toNat∧∀aa,dz Keys.bad h ⟨0,0,0,0,6⟩ c.toNat aa→_root_.cond (Nat.ble 5 aa.next) (ab (.tuple []) aa) False)
 (F9:∀{h:j},x.toNat=27→valid (kept.drop 1++[c])=false→ ¬((cg hold c).2.length:Int)=0→Nat.ble 5 h.next=true→h.get 0=some (b1 0 (cD .dc) 1 (.slice (some ⟨2,R,0,0,1⟩) kept.length kept.length) ag false ad an)→h.get 1=some (ch [] (ca (cg hold c).2 0 (ca hold 0 bx)) (ca (cg hold c).2 1 (ca hold 1 bt)) (ca (cg hold c).2 2 (ca hold 2 bk)) (ca (cg hold c).2 3 (ca hold 3 bz)) aE)→h.get 2=some (ct (aJ kept) 1 R m aG cF)→h.get 3=some P→h.get 4=some O→dy (2^30-8) ey h ⟨0,0,0,0,6⟩ c.toNat∧∀aa,dz Keys.bad h ⟨0,0,0,0,6⟩ c.toNat aa→_root_.cond (Nat.ble 5 aa.next) (ab (.tuple []) aa) False)
 (F':∀{h:j}{cJ:o},x.toNat≠27→valid (kept++[c])=true→Nat.ble 5 h.next=true→h.get 0=some (b1 0 (cD .dc) 1 (.slice (some ⟨2,R+1,0,0,1⟩) (kept.length+1) (kept.length+1)) ag false ad an)→h.get 1=some (ch (cg hold c).2 (ca hold 0 bx) (ca hold 1 bt) (ca hold 2 bk) (ca hold 3 bz) aE)→h.get 2=some (ct (aJ kept++[.int .u8 c.toNat]) 1 (R+1) m (if m=R then(aJ kept).length else min aG (aJ kept).length) cF)→h.get 3=some P→h.get 4=some O→cJ=di (gk ((cg hold c).1.getD 0 0) 0)→cx h ⟨0,0,0,0,6⟩ cJ∧∀aa,cy h ⟨0,0,0,0,6⟩ cJ aa→_root_.cond (Nat.ble 5 aa.next) (ab (.tuple []) aa) False)
 (Ga:∀{h:j},x.toNat≠27→valid (kept++[c])=false→((cg hold c).2.length:Int)=0→Nat.ble 5 h.next=true→h.get 0=some (b1 0 (cD .dc) 1 (.slice (some ⟨2,R,0,0,1⟩) kept.length kept.length) ag false ad an)→h.get 1=some (ch (cg hold c).2 (ca hold 0 bx) (ca hold 1 bt) (ca hold 2 bk) (ca hold 3 bz) aE)→h.get 2=some (ct (aJ kept) 1 R m aG cF)→h.get 3=some P→h.get 4=some O→dy (2^30-8) ey h ⟨0,0,0,0,6⟩ c.toNat∧∀aa,dz Keys.bad h ⟨0,0,0,0,6⟩ c.toNat aa→_root_.cond (Nat.ble 5 aa.next) (ab (.tuple []) aa) False)
 (Gb:∀{h:j},x.toNat≠27→valid (kept++[c])=false→ ¬((cg hold c).2.length:Int)=0→Nat.ble 5 h.next=true→h.get 0=some (b1 0 (cD .dc) 1 (.slice (some ⟨2,R,0,0,1⟩) kept.length kept.length) ag false ad an)→h.get 1=some (ch [] (ca (cg hold c).2 0 (ca hold 0 bx)) (ca (cg hold c).2 1 (ca hold 1 bt)) (ca (cg hold c).2 2 (ca hold 2 bk)) (ca (cg hold c).2 3 (ca hold 3 bz)) aE)→h.get 2=some (ct (aJ kept) 1 R m aG cF)→h.get 3=some P→h.get 4=some O→dy (2^30-8) ey h ⟨0,0,0,0,6⟩ c.toNat∧∀aa,dz Keys.bad h ⟨0,0,0,0,6⟩ c.toNat aa→_root_.cond (Nat.ble 5 aa.next) (ab (.tuple []) aa) False) :
 ∃v aa,aI Tryz.prog aw 90 [.ptr (some ⟨0,0,0,0,6⟩),.int .u8 c.toNat] (j.of [b1 0 (cD .dc) 1 (.slice (some ⟨2,R,0,0,1⟩) kept.length kept.length) ag false ad an,ch hold bx bt bk bz aE,ct (aJ kept) 1 R m aG cF,P,O]) v aa∧ab v aa:=by
 refine Xb (cD .dc) ag ad an aE P O (aJ kept) R m aG kept.length (ca hold 0 bx) (ca hold 1 bt) (ca hold 2 bk) (ca hold 3 bz) hold.length c.toNat ab ?_
 delta pW jv c8 ed oR AI hx uK uJ eG pR gQ sJ ee pV dp hy xj xi fO pU pT pS xt xn xr ic xq xp xo
 have al:a8 (aJ kept) 0=x.toNat:=by rw [iM];rfl
 have MZ:(aJ kept)[0]? =some (o.int .u8 x.toNat):=by rw [iM];rfl
 have zd:kept.length≤4:=by
  have:at' kept≤1:=by unfold at';split<;>(try split)<;>omega
  omega
 have jG:0<kept.length:=by omega
 have nv:(kept++[c]).drop 1=kept.drop 1++[c]:=by rw [iM];rfl
 have hE:=nN kept;have jJ:=AM kept c;have vX:=F2 hold bx bt bk bz c bQ gZ;have Xg:¬(cg hold c).1=[]:=fun e=>by rw [e]at aC;simp at aC
 have AP:(x.toNat:Int)=27→(kept.length:Int)=1→False:=fun e bu=>by
  have af:x=27:=UInt8.toNat_inj.1 (by show x.toNat=27;omega);have:at' kept=1:=by rw [iM,af];rfl
  omega
 have AQ:(kept.length:Int)=0→False:=fun e=>by omega
 have nO:¬(0:Int)<kept.length→False:=fun e=>by omega
 rw [F0 hold bx bt bk bz c (by omega)];simp only [F4,F5,F6,AN,AO,oP,nv,al];refine⟨?_,fun e=>(nO e).elim⟩
 repeat' (first
  |assumption
  |exact F7 (by omega) (by assumption) (by kernel_rfl) (by kernel_rfl) (by kernel_rfl) (by kernel_rfl) (by kernel_rfl) (by kernel_rfl) rfl
  |exact F8 (by omega) (by assumption) (by assumption) (by kernel_rfl) (by kernel_rfl) (by kernel_rfl) (by kernel_rfl) (by kernel_rfl) (by kernel_rfl)
  |exact F9 (by omega) (by assumption) (by assumption) (by kernel_rfl) (by kernel_rfl) (by kernel_rfl) (by kernel_rfl) (by kernel_rfl) (by kernel_rfl)
  |exact(gA ‹valid (kept.drop 1++[c])=true› ‹valid (kept.drop 1++[c])=false›).elim
  |exact F' (by omega) (by assumption) (by kernel_rfl) (by kernel_rfl) (by kernel_rfl) (by kernel_rfl) (by kernel_rfl) (by kernel_rfl) rfl
  |exact Ga (by omega) (by assumption) (by assumption) (by kernel_rfl) (by kernel_rfl) (by kernel_rfl) (by kernel_rfl) (by kernel_rfl) (by kernel_rfl)
  |exact Gb (by omega) (by assumption) (by assumption) (by kernel_rfl) (by kernel_rfl) (by kernel_rfl) (by kernel_rfl) (by kernel_rfl) (by kernel_rfl)
  |exact(gA ‹valid (kept++[c])=true› ‹valid (kept++[c])=false›).elim
  |exact(AP (by assumption) (by assumption)).elim
  |exact(AQ (by assumption)).elim
  |intro _
  |refine And.intro ?_ ?_
  |exact True.intro
  |assumption
  |rfl
  |omega
  |exact oS _ _ _
  |exact AL _ _ _ _
  |(simp only [List.length_append,List.length_drop,List.length_cons,List.length_nil,nN];omega)
  |(refine Nat.succ_le_of_lt ?_;simp only [List.length_append,List.length_drop,List.length_cons,List.length_nil,nN];omega))
set_option maxHeartbeats 4000000
set_option hygiene false in
theorem Xh{ag ad:o}{an aE:Option (TypeId×Nat)}{P O:J}{kept hold:Bytes}{c:UInt8}{bx bt bk bz:Int}{R m aG:Nat}{x:UInt8}{t:Bytes}(iM:kept=x::t)(bQ:hold.length≤3)(gZ:(first hold).2.2=true)(Xg:(cg hold c).1≠[])(aC:(cg hold c).1.length≠1)(hlen:kept.length=at' kept+hold.length)(bZ:0<hold.length)(ab:o→j→Prop)
 (F7:∀{h:j}{cJ:o},x.toNat=27→valid (kept.drop 1++[c])=true→Nat.ble 5 h.next=true→h.get 0=some (b1 0 (cD .dc) 1 (.slice (some ⟨2,R+1,0,0,1⟩) (kept.length+1) (kept.length+1)) ag false ad an)→h.get 1=some (ch (cg hold c).2 (ca hold 0 bx) (ca hold 1 bt) (ca hold 2 bk) (ca hold 3 bz) aE)→h.get 2=some (ct (aJ kept++[.int .u8 c.toNat]) 1 (R+1) m (if m=R then(aJ kept).length else min aG (aJ kept).length) cF)→h.get 3=some P→h.get 4=some O→cJ=di (gk ((cg hold c).1.getD 0 0) 2)→cx h ⟨0,0,0,0,6⟩ cJ∧∀aa,cy h ⟨0,0,0,0,6⟩ cJ aa→_root_.cond (Nat.ble 5 aa.next) (ab (.tuple []) aa) False)
 (F8:∀{h:j},x.toNat=27→valid (kept.drop 1++[c])=false→((cg hold c).2.length:Int)=0→Nat.ble 5 h.next=true→h.get 0=some (b1 0 (cD .dc) 1 (.slice (some ⟨2,R,0,0,1⟩) kept.length kept.length) ag false ad an)→h.get 1=some (ch (cg hold c).2 (ca hold 0 bx) (ca hold 1 bt) (ca hold 2 bk) (ca hold 3 bz) aE)→h.get 2=some (ct (aJ kept) 1 R m aG cF)→h.get 3=some P→h.get 4=some O→dy (2^30-8) ey h ⟨0,0,0,0,6⟩ c.toNat∧∀aa,dz Keys.bad h ⟨0,0,0,0,6⟩ c.toNat aa→_root_.cond (Nat.ble 5 aa.next) (ab (.tuple []) aa) False)
 (F9:∀{h:j},x.toNat=27→valid (kept.drop 1++[c])=false→ ¬((cg hold c).2.length:Int)=0→Nat.ble 5 h.next=true→h.get 0=some (b1 0 (cD .dc) 1 (.slice (some ⟨2,R,0,0,1⟩) kept.length kept.length) ag false ad an)→h.get 1=some (ch [] (ca (cg hold c).2 0 (ca hold 0 bx)) (ca (cg hold c).2 1 (ca hold 1 bt)) (ca (cg hold c).2 2 (ca hold 2 bk)) (ca (cg hold c).2 3 (ca hold 3 bz)) aE)→h.get 2=some (ct (aJ kept) 1 R m aG cF)→h.get 3=some P→h.get 4=some O→dy (2^30-8) ey h ⟨0,0,0,0,6⟩ c.toNat∧∀aa,dz Keys.bad h ⟨0,0,0,0,6⟩ c.toNat aa→_root_.cond (Nat.ble 5 aa.next) (ab (.tuple []) aa) False)
 (F':∀{h:j}{cJ:o},x.toNat≠27→valid (kept++[c])=true→Nat.ble 5 h.next=true→h.get 0=some (b1 0 (cD .dc) 1 (.slice (some ⟨2,R+1,0,0,1⟩) (kept.length+1) (kept.length+1)) ag false ad an)→h.get 1=some (ch (cg hold c).2 (ca hold 0 bx) (ca hold 1 bt) (ca hold 2 bk) (ca hold 3 bz) aE)→h.get 2=some (ct (aJ kept++[.int .u8 c.toNat]) 1 (R+1) m (if m=R then(aJ kept).length else min aG (aJ kept).length) cF)→h.get 3=some P→h.get 4=some O→cJ=di (gk ((cg hold c).1.getD 0 0) 0)→cx h ⟨0,0,0,0,6⟩ cJ∧∀aa,cy h ⟨0,0,0,0,6⟩ cJ aa→_root_.cond (Nat.ble 5 aa.next) (ab (.tuple []) aa) False)
 (Ga:∀{h:j},x.toNat≠27→valid (kept++[c])=false→((cg hold c).2.length:Int)=0→Nat.ble 5 h.next=true→h.get 0=some (b1 0 (cD .dc) 1 (.slice (some ⟨2,R,0,0,1⟩) kept.length kept.length) ag false ad an)→h.get 1=some (ch (cg hold c).2 (ca hold 0 bx) (ca hold 1 bt) (ca hold 2 bk) (ca hold 3 bz) aE)→h.get 2=some (ct (aJ kept) 1 R m aG cF)→h.get 3=some P→h.get 4=some O→dy (2^30-8) ey h ⟨0,0,0,0,6⟩ c.toNat∧∀aa,dz Keys.bad h ⟨0,0,0,0,6⟩ c.toNat aa→_root_.cond (Nat.ble 5 aa.next) (ab (.tuple []) aa) False)
 (Gb:∀{h:j},x.toNat≠27→valid (kept++[c])=false→ ¬((cg hold c).2.length:Int)=0→Nat.ble 5 h.next=true→h.get 0=some (b1 0 (cD .dc) 1 (.slice (some ⟨2,R,0,0,1⟩) kept.length kept.length) ag false ad an)→h.get 1=some (ch [] (ca (cg hold c).2 0 (ca hold 0 bx)) (ca (cg hold c).2 1 (ca hold 1 bt)) (ca (cg hold c).2 2 (ca hold 2 bk)) (ca (cg hold c).2 3 (ca hold 3 bz)) aE)→h.get 2=some (ct (aJ kept) 1 R m aG cF)→h.get 3=some P→h.get 4=some O→dy (2^30-8) ey h ⟨0,0,0,0,6⟩ c.toNat∧∀aa,dz Keys.bad h ⟨0,0,0,0,6⟩ c.toNat aa→_root_.cond (Nat.ble 5 aa.next) (ab (.tuple []) aa) False) :
 ∃v aa,aI Tryz.prog aw 90 [.ptr (some ⟨0,0,0,0,6⟩),.int .u8 c.toNat] (j.of [b1 0 (cD .dc) 1 (.slice (some ⟨2,R,0,0,1⟩) kept.length kept.length) ag false ad an,ch hold bx bt bk bz aE,ct (aJ kept) 1 R m aG cF,P,O]) v aa∧ab v aa:=by
 refine Xc (cD .dc) ag ad an aE P O (aJ kept) R m aG kept.length (ca hold 0 bx) (ca hold 1 bt) (ca hold 2 bk) (ca hold 3 bz) hold.length c.toNat ab ?_
 delta p1 pX c8 ed oR AI hx uK uJ eG pY gQ sJ ee p0 dp hy xj xi fO pZ xx xu xw ic xv
 have al:a8 (aJ kept) 0=x.toNat:=by rw [iM];rfl
 have MZ:(aJ kept)[0]? =some (o.int .u8 x.toNat):=by rw [iM];rfl
 have zd:kept.length≤4:=by
  have:at' kept≤1:=by unfold at';split<;>(try split)<;>omega
  omega
 have jG:0<kept.length:=by omega
 have nv:(kept++[c]).drop 1=kept.drop 1++[c]:=by rw [iM];rfl
 have hE:=nN kept;have jJ:=AM kept c;have vX:=F2 hold bx bt bk bz c bQ gZ
 have AP:(x.toNat:Int)=27→(kept.length:Int)=1→False:=fun e bu=>by
  have af:x=27:=UInt8.toNat_inj.1 (by show x.toNat=27;omega);have:at' kept=1:=by rw [iM,af];rfl
  omega
 have AQ:(kept.length:Int)=0→False:=fun e=>by omega
 have nO:¬(0:Int)<kept.length→False:=fun e=>by omega
 rw [F0 hold bx bt bk bz c (by omega)];simp only [F4,F5,F6,AN,AO,oP,nv,al];refine⟨?_,fun e=>(nO e).elim⟩
 repeat' (first
  |assumption
  |exact F7 (by omega) (by assumption) (by kernel_rfl) (by kernel_rfl) (by kernel_rfl) (by kernel_rfl) (by kernel_rfl) (by kernel_rfl) rfl
  |exact F8 (by omega) (by assumption) (by assumption) (by kernel_rfl) (by kernel_rfl) (by kernel_rfl) (by kernel_rfl) (by kernel_rfl) (by kernel_rfl)
  |exact F9 (by omega) (by assumption) (by assumption) (by kernel_rfl) (by kernel_rfl) (by kernel_rfl) (by kernel_rfl) (by kernel_rfl) (by kernel_rfl)
  |exact(gA ‹valid (kept.drop 1++[c])=true› ‹valid (kept.drop 1++[c])=false›).elim
  |exact F' (by omega) (by assumption) (by kernel_rfl) (by kernel_rfl) (by kernel_rfl) (by kernel_rfl) (by kernel_rfl) (by kernel_rfl) rfl
  |exact Ga (by omega) (by assumption) (by assumption) (by kernel_rfl) (by kernel_rfl) (by kernel_rfl) (by kernel_rfl) (by kernel_rfl) (by kernel_rfl)
  |exact Gb (by omega) (by assumption) (by assumption) (by kernel_rfl) (by kernel_rfl) (by kernel_rfl) (by kernel_rfl) (by kernel_rfl) (by kernel_rfl)
  |exact(gA ‹valid (kept++[c])=true› ‹valid (kept++[c])=false›).elim
  |exact(AP (by assumption) (by assumption)).elim
  |exact(AQ (by assumption)).elim
  |intro _
  |refine And.intro ?_ ?_
  |exact True.intro
  |assumption
  |rfl
  |omega
  |exact oS _ _ _
  |exact AL _ _ _ _
  |(simp only [List.length_append,List.length_drop,List.length_cons,List.length_nil,nN];omega)
  |(refine Nat.succ_le_of_lt ?_;simp only [List.length_append,List.length_drop,List.length_cons,List.length_nil,nN];omega))
theorem M0:∀(k:Nat)(s:Bytes),(ht k s).2.length≤s.length
 |0,s=>by simp [ht]
 |k+1,[]=>by simp [ht]
 |k +1,b::r=>by
  unfold ht;split
  ·exact Nat.le_refl _
  ·refine Nat.le_trans (M0 k _) ?_;rw [List.length_drop];omega
theorem Xi(hold:Bytes)(c:UInt8):(cg hold c).2.length≤hold.length+1:=by have:=M0 (hold.length+1) (hold++[c]);rw [List.length_append]at this;exact this
theorem M1(hold:Bytes)(c:UInt8)(h:(cg hold c).1=[]):0<(cg hold c).2.length:=by
 unfold cg at h⊢;cases aq:hold++[c]with
 |nil=>simp at aq
 |cons b r =>
  rw [aq]at h;unfold ht at h⊢;split
  ·simp
  ·rename_i e;rw [if_neg e]at h;simp at h
theorem Xj{kept hold az:Bytes}{c:UInt8}(h:(cg hold c).1=[]):Keys.dc ⟨.dc,kept,hold,az⟩ c=(⟨.dc,kept++[c],(cg hold c).2,az⟩,[]):=by
 have ae:=M1 hold c h;have bg:(cg hold c).2≠[]:=fun e=>by rw [e]at ae;simp at ae
 simp [Keys.dc,hJ,h,bg]
theorem M2{kept hold az:Bytes}{c:UInt8}{a:Nat}(aS:at' kept=a)(h:(cg hold c).1≠[])(a':valid (kept.drop a++[c])=true)(aD:(kept++[c]).drop a=kept.drop a++[c]):Keys.dc ⟨.dc,kept,hold,az⟩ c=(⟨.ground,[],(cg hold c).2,az⟩,[gk ((cg hold c).1.getD 0 0) (2*a)]):=by
 subst aS;have e:(cg hold c).1.headD 0=(cg hold c).1.getD 0 0:=by cases (cg hold c).1<;>rfl
 unfold Keys.dc hJ;simp only [h,and_false,if_false,a',or_true,if_true,aD,tell,e]
theorem M3{kept hold az:Bytes}{c:UInt8}{a:Nat}(aS:at' kept=a)(h:(cg hold c).1≠[])(aB:kept.length≠a)(a':valid (kept.drop a++[c])=false):Keys.dc ⟨.dc,kept,hold,az⟩ c=Keys.bad ⟨.dc,kept,[],az⟩ c:=by subst aS;unfold Keys.dc hJ;simp [h,a',aB]
def xy(s:bI)(c:UInt8):Prop:=s.b8=.dc∧s.hold=s.kept.drop (at' s.kept)∧0<s.hold.length∧s.hold.length≤3∧(first s.hold).2.2=true
theorem Xk{H:j}{d:Nat}{aF:cB}{s:bI}{es:List bw}{c:UInt8}(g:cm H d aF s es)(cs:es.length<2^30-8)(d':xy s c):∃aR,aI Tryz.prog aw 90 [.ptr (some ⟨d,0,0,0,6⟩),.int .u8 c.toNat] H (.tuple []) aR ∧
 ∃aO,cm aR d aO (Keys.dc s c).1 (es++(Keys.dc s c).2)∧Fr H aR d aF aO:=by
 refine sO ?_ g;intro bl aV ag ad an aE bx bt bk bz K P O aZ aq gs cQ;obtain⟨ao,ac,ai⟩:=mQ gs;obtain⟨b8,kept,hold,az⟩:=s;obtain⟨p,aD,bZ,bQ,gZ⟩:=d';simp only at p aD bZ bQ gZ aq gs ao ac ai⊢;subst p
 have my:bl=.grown []:=by
  cases bl with
  |grown C=>cases C with
   |nil=>rfl
   |cons a b=>exact aq.elim
  |_=>exact aq.elim
 subst my;have gw:kept≠[]:=aq
 obtain⟨x,t,iM⟩:∃x t,kept=x::t:=by
  cases kept with
  |nil=>exact absurd rfl gw
  |cons x t=>exact⟨x,t,rfl⟩
 obtain⟨kz,R,m,aG,rfl,df⟩:=ao;have cw:aZ.k=2:=by omega
 rw [cw,j.eX]at df;simp only [List.getElem?_cons_zero,List.getElem?_cons_succ,Option.some.injEq,List.nil_append]at df;subst df;rw [cw]at ac ai⊢;simp only [List.length_nil]at ac ai⊢;have qD:at' kept≤1:=by unfold at';split<;>(try split)<;>omega
 have oo:at' kept=if x=27 then 1 else 0:=by rw [iM];rfl
 have hlen:kept.length=at' kept+hold.length:=by
  rw [aD,List.length_drop];have:0<kept.length:=by rw [iM];simp
  omega
 have tr:(cg hold c).2.length≤4:=by have:=Xi hold c;omega
 have Gc:x.toNat=27→at' kept=1:=fun e=>by have:x=27:=UInt8.toNat_inj.1 (by show x.toNat=27;exact e);rw [oo,if_pos this]
 have Gd:x.toNat≠27→at' kept=0:=fun e=>by rw [oo,if_neg (by rintro rfl;exact e rfl)]
 have nv:(kept++[c]).drop 1=kept.drop 1++[c]:=by rw [iM];rfl
 have AR:((cg hold c).2.length:Int)=0→(cg hold c).2=[]:=fun e=>List.eq_nil_of_length_eq_zero (by omega)
 have fin:∀{bK:bI×List bw},(∃v aa,aI Tryz.prog aw 90 [.ptr (some ⟨0,0,0,0,6⟩),.int .u8 c.toNat] (j.of [b1 0 (cD .dc) 1 (.slice (some ⟨2,R,0,0,1⟩) kept.length kept.length) ag false ad an,ch hold bx bt bk bz aE,ct (aJ kept) 1 R m aG cF,P,O]) v aa ∧
  (v=.tuple []∧∃aO,cm aa 0 aO bK.1 (es++bK.2)∧Fr (j.of [b1 0 (cD .dc) 1 (.slice (some ⟨2,R,0,0,1⟩) kept.length kept.length) ag false ad an,ch hold bx bt bk bz aE,ct (aJ kept) 1 R m aG cF,P,O]) aa 0 aZ aO)) →
  ∃aa,aI Tryz.prog aw 90 [.ptr (some ⟨0,0,0,0,6⟩),.int .u8 c.toNat] (j.of [b1 0 (cD .dc) 1 (.slice (some ⟨2,R,0,0,1⟩) kept.length kept.length) ag false ad an,ch hold bx bt bk bz aE,ct (aJ kept) 1 R m aG cF,P,O]) (.tuple []) aa∧∃aO,cm aa 0 aO bK.1 (es++bK.2)∧Fr (j.of [b1 0 (cD .dc) 1 (.slice (some ⟨2,R,0,0,1⟩) kept.length kept.length) ag false ad an,ch hold bx bt bk bz aE,ct (aJ kept) 1 R m aG cF,P,O]) aa 0 aZ aO:=by
  rintro bK ⟨v,aa,aD,rfl,q⟩;exact⟨aa,aD,q⟩
 by_cases aC:(cg hold c).1=[]
 ·rw [Xj (kept:=kept) (az:=az) aC];refine fin (Xe iM bQ gZ aC hlen bZ (fun e=>e (by have:=M1 hold c aC;omega)) (fun v aa=>v=.tuple []∧∃aO,cm aa 0 aO _ (es++_)∧Fr _ aa 0 aZ aO) ?_);intro h bJ b' bu bC b2 cp;refine⟨rfl,?_⟩;rw [List.append_nil];exact Xd (kept:=kept++[c]) bJ b' bu bC b2 cp (by simp) (mR _ _) (by simp) ac ai cQ cw
 ·have uM:x.toNat=27→valid (kept.drop 1++[c])=true→_:=fun af a'=>M2 (az:=az) (hold:=hold) (Gc af) aC a' nv
  have M4:x.toNat≠27→valid (kept++[c])=true→_:=fun af a'=>M2 (az:=az) (hold:=hold) (Gd af) aC a' rfl
  have kW:x.toNat=27→valid (kept.drop 1++[c])=false→_:=fun af a'=>M3 (az:=az) (hold:=hold) (Gc af) aC (by have:=Gc af;omega) a'
  have hX:x.toNat≠27→valid (kept++[c])=false→_:=fun af a'=>M3 (az:=az) (hold:=hold) (Gd af) aC (by have:=Gd af;omega) a'
  by_cases Cy:(cg hold c).1.length=1
  ·refine fin (Xf iM bQ gZ Cy hlen bZ (fun v aa=>v=.tuple []∧∃aO,cm aa 0 aO (Keys.dc ⟨.dc,kept,hold,az⟩ c).1 (es++(Keys.dc ⟨.dc,kept,hold,az⟩ c).2)∧Fr _ aa 0 aZ aO) ?_ ?_ ?_ ?_ ?_ ?_)
   ·intro h cJ af a' bJ b' bu bC b2 cp he;exact sQ (kept:=kept++[c]) bJ b' bu bC b2 cp (by simp) (mR _ _) ac ai cQ cw he (by omega) tr fun aa aO g cL=>⟨rfl,aO,by rw [uM af a'];exact g,cL⟩
   ·intro h af a' eO bJ b' bu bC b2 cp;rw [AR eO]at bu;exact rp bJ b' bu bC b2 cp gw ac ai cQ cw cs fun aa aO g cL=>⟨rfl,aO,by rw [kW af a'];exact g,cL⟩
   ·intro h af a' eO bJ b' bu bC b2 cp;exact rp bJ b' bu bC b2 cp gw ac ai cQ cw cs fun aa aO g cL=>⟨rfl,aO,by rw [kW af a'];exact g,cL⟩
   ·intro h cJ af a' bJ b' bu bC b2 cp he;exact sQ (kept:=kept++[c]) bJ b' bu bC b2 cp (by simp) (mR _ _) ac ai cQ cw he (by omega) tr fun aa aO g cL=>⟨rfl,aO,by rw [M4 af a'];exact g,cL⟩
   ·intro h af a' eO bJ b' bu bC b2 cp;rw [AR eO]at bu;exact rp bJ b' bu bC b2 cp gw ac ai cQ cw cs fun aa aO g cL=>⟨rfl,aO,by rw [hX af a'];exact g,cL⟩
   ·intro h af a' eO bJ b' bu bC b2 cp;exact rp bJ b' bu bC b2 cp gw ac ai cQ cw cs fun aa aO g cL=>⟨rfl,aO,by rw [hX af a'];exact g,cL⟩
  ·refine fin (Xh iM bQ gZ aC Cy hlen bZ (fun v aa=>v=.tuple []∧∃aO,cm aa 0 aO (Keys.dc ⟨.dc,kept,hold,az⟩ c).1 (es++(Keys.dc ⟨.dc,kept,hold,az⟩ c).2)∧Fr _ aa 0 aZ aO) ?_ ?_ ?_ ?_ ?_ ?_)
   ·intro h cJ af a' bJ b' bu bC b2 cp he;exact sQ (kept:=kept++[c]) bJ b' bu bC b2 cp (by simp) (mR _ _) ac ai cQ cw he (by omega) tr fun aa aO g cL=>⟨rfl,aO,by rw [uM af a'];exact g,cL⟩
   ·intro h af a' eO bJ b' bu bC b2 cp;rw [AR eO]at bu;exact rp bJ b' bu bC b2 cp gw ac ai cQ cw cs fun aa aO g cL=>⟨rfl,aO,by rw [kW af a'];exact g,cL⟩
   ·intro h af a' eO bJ b' bu bC b2 cp;exact rp bJ b' bu bC b2 cp gw ac ai cQ cw cs fun aa aO g cL=>⟨rfl,aO,by rw [kW af a'];exact g,cL⟩
   ·intro h cJ af a' bJ b' bu bC b2 cp he;exact sQ (kept:=kept++[c]) bJ b' bu bC b2 cp (by simp) (mR _ _) ac ai cQ cw he (by omega) tr fun aa aO g cL=>⟨rfl,aO,by rw [M4 af a'];exact g,cL⟩
   ·intro h af a' eO bJ b' bu bC b2 cp;rw [AR eO]at bu;exact rp bJ b' bu bC b2 cp gw ac ai cQ cw cs fun aa aO g cL=>⟨rfl,aO,by rw [hX af a'];exact g,cL⟩
   ·intro h af a' eO bJ b' bu bC b2 cp;exact rp bJ b' bu bC b2 cp gw ac ai cQ cw cs fun aa aO g cL=>⟨rfl,aO,by rw [hX af a'];exact g,cL⟩
theorem Xl:∀args h a,jV (2^30-8) xy Keys.dc args h=some a→a.dr Tryz.prog aw 90 args h:=ri fun H d aF s es c g cs aB d'=>Xk g cs d'
noncomputable def M5:e9:=xg.add 90 (jV (2^30-8) xy Keys.dc)
theorem Xm:eP Tryz.prog aw M5:=AH.add Xl
abbrev M6:o:=o.agg [.int .i64 13,.int .i64 9,.int .i64 127,.int .i64 27]
abbrev Ge(n:Int)(m:Int):o:=o.agg [.int .i8 1,.int .i32 n,.int .u8 m,.int .i64 0,.int .i64 0,.str []]
abbrev Gf(m:Int):o:=o.agg [.int .i8 2,.int .i32 1,.int .u8 m,.int .i64 0,.int .i64 0,.str []]
abbrev Gg(m:Int):o:=o.agg [.int .i8 2,.int .i32 2,.int .u8 m,.int .i64 0,.int .i64 0,.str []]
abbrev Gh(m:Int):o:=o.agg [.int .i8 2,.int .i32 3,.int .u8 m,.int .i64 0,.int .i64 0,.str []]
abbrev Gi(m:Int):o:=o.agg [.int .i8 2,.int .i32 4,.int .u8 m,.int .i64 0,.int .i64 0,.str []]
abbrev da:o:=o.agg [.int .i8 0,.int .i32 0,.int .u8 0,.int .i64 0,.int .i64 0,.str []]
abbrev rq:J:=(J.made ([M6]) 4 true (some (109,4)))
theorem Xn(n m:Int)(ab:o→j→Prop)(aY:(13=n→ab (.tuple [(Gf m),.bool true]) (j.au 22 [(0,(J.made ([(Gf m)]) 6 true (some (42,6)))),(4,rq)]))∧(¬13=n→(9=n→ab (.tuple [(Gg m),.bool true]) (j.au 32 [(0,(J.made ([(Gg m)]) 6 true (some (42,6)))),(4,rq)]))∧(¬9=n→(127=n→ab (.tuple [(Gh m),.bool true]) (j.au 42 [(0,(J.made ([(Gh m)]) 6 true (some (42,6)))),(4,rq)]))∧(¬127=n→(27=n→ab (.tuple [(Gi m),.bool true]) (j.au 52 [(0,(J.made ([(Gi m)]) 6 true (some (42,6)))),(4,rq)]))∧(¬27=n→(2097152<n→ab (.tuple [da,.bool false]) (j.au 59 [(0,(J.made ([da]) 6 true (some (42,6)))),(4,rq)]))∧(¬2097152<n→(-2147483648≤n∧n≤2147483647)∧(shown n=true→(-2147483648≤n∧n≤2147483647)∧ab (.tuple [(Ge n m),.bool true]) (j.au 62 [(0,(J.made ([(Ge n m)]) 6 true (some (42,6)))),(4,rq)]))∧(shown n=false→ab (.tuple [da,.bool false]) (j.au 59 [(0,(J.made ([da]) 6 true (some (42,6)))),(4,rq)])))))))) :
 ∃v p,aI Tryz.prog aw 149 [.int .i64 n,.int .u8 m] (⟨0,.nil⟩) v p∧ab v p :=
 cf bU mixed c7 (aq:=he 1000 (.aA (.rounds 300) (.aN 4002 .nil (.aN 4002 .nil (.aN 4002 .nil (.aN 4002 .nil (.aN 7001 .nil (ah 7004 (.aN 7005 (ah 9001 .nil) .nil))))))))) (by kernel_rfl) aY
def fm:bw:= {kind:=0}
def hf(U:Option bw):o:= .tuple [di (U.getD fm),.bool U.isSome]
theorem Xo(n:Nat)(m:Int)(H:j):aI Tryz.prog aw 149 [.int .i64 n,.int .u8 m] H (hf (Keys.eb n m)) H:=by
 refine aI.fk (Xn n m (fun v _=>v=hf (Keys.eb n m)) ?_) rfl rfl H
 delta rq M6 da Ge Gi Gh Gg Gf
 refine⟨fun e=> ?_,fun p=>⟨fun e=> ?_,fun ae=>⟨fun e=> ?_,fun bg=>⟨fun e=> ?_,fun bO=>⟨fun e=> ?_,fun bJ=>⟨by omega,fun e=>⟨by omega,?_⟩,fun e=> ?_⟩⟩⟩⟩⟩⟩
 ·have e:n=13:=by omega
  rw [show Keys.eb n m=some (e4 1 m)by simp [Keys.eb,e]];rfl
 ·have e:n=9:=by omega
  rw [show Keys.eb n m=some (e4 2 m)by simp [Keys.eb,e]];rfl
 ·have e:n=127:=by omega
  rw [show Keys.eb n m=some (e4 3 m)by simp [Keys.eb,e]];rfl
 ·have e:n=27:=by omega
  rw [show Keys.eb n m=some (e4 4 m)by simp [Keys.eb,e]];rfl
 all_goals
  have a1:n≠13:=by omega
  have aP:n≠9:=by omega
  have fi:n≠127:=by omega
  have iD:n≠27:=by omega
 ·have hn:2097152<n:=by omega
  rw [show Keys.eb n m=none by simp [Keys.eb,a1,aP,fi,iD,hn]];rfl
 ·have hn:¬2097152<n:=by omega
  rw [show Keys.eb n m=some (gk n m)by simp [Keys.eb,a1,aP,fi,iD,hn,e]];rfl
 ·have hn:¬2097152<n:=by omega
  rw [show Keys.eb n m=none by simp [Keys.eb,a1,aP,fi,iD,hn,e]];rfl
theorem M7(x:UInt8)(r:Bytes)(c:Int)(ab:dj→bT→j→Prop)(aY:(0<(↑(List.length (x::r)):Int)→((↑(UInt8.toNat x):Int)=c→((0:Int)≤1∧1≤(↑(List.length (x::r)):Int))∧ab .normal [(0,.str r),(1,.int .u8 c)] (j.au 12 []))∧(¬(↑(UInt8.toNat x):Int)=c→ab (.exit 0) [(0,.str (x::r)),(1,.int .u8 c)] (j.au 9 [])))∧(¬0<(↑(List.length (x::r)):Int)→ab (.exit 0) [(0,.str (x::r)),(1,.int .u8 c)] (j.au 9 []))) :
 ∃e bb p,cP Tryz.prog aw 0 17 (c4 Tryz.prog 142 0) [(0,.str (x::r)),(1,.int .u8 c)] (⟨0,.nil⟩) e bb p∧ab e bb p :=
 hI bU mixed gL (aq:= .aN 1002 (.aN 1007 (ah 2001 .nil) .nil) .nil) (cN:=[0,1]) (by kernel_rfl) aY
theorem Xp(c:Int)(ab:dj→bT→j→Prop)(aY:ab (.exit 0) [(0,.str []),(1,.int .u8 c)] (j.au 9 [])) :
 ∃e bb p,cP Tryz.prog aw 0 17 (c4 Tryz.prog 142 0) [(0,.str []),(1,.int .u8 c)] (⟨0,.nil⟩) e bb p∧ab e bb p :=
 hI bU mixed gL (aq:= .nil) (cN:=[0,1]) (by kernel_rfl) aY
theorem Xq(s t:Bytes)(c:Int)(aa:j)(ab:o→j→Prop)(aY:cP Tryz.prog aw 0 17 (Code.loop (c4 Tryz.prog 142 0)) [(0,.str s),(1,.int .u8 c)] (j.au 1 []) (.exit 0) [(0,.str t),(1,.int .u8 c)] aa∧ab (.str t) (j.mk (aa.next+2) (j.aT aa))) :
 ∃v p,aI Tryz.prog aw 142 [.str s,.int .u8 c] (⟨0,.nil⟩) v p∧ab v p :=
 cf bU mixed gL (aq:= .aA (.cN [0,1]) (.aA (.loop [(0,.str t),(1,.int .u8 c)] aa (.exit 0)) .nil)) (by kernel_rfl) aY
theorem Xr(s:Bytes)(ab:o→j→Prop)(aY:(s=[]→ab (.str s) (j.au 9 []))∧(¬s=[]→cW Tryz.prog aw 142 [.str s,.int .u8 48] (j.au 20 []) (.str (List.dropWhile (fun x=>x == 48) s)) (j.au 20 [])∧ab (.str (List.dropWhile (fun x=>x == 48) s)) (j.au 20 []))) :
 ∃v p,aI Tryz.prog aw 128 [.str s,.str [48]] (⟨0,.nil⟩) v p∧ab v p :=
 cf bU mixed gL (aq:= .aN 1001 .nil (.aA (.val 4003 (.str (List.dropWhile (fun x=>x == 48) s))) .nil)) (by kernel_rfl) aY
theorem Xs(s I:Bytes)(ab:o→j→Prop)(aY:((↑(List.length I):Int)≤(↑(List.length s):Int)→(0≤(↑(List.length I):Int)∧(↑(List.length I):Int)≤(↑(List.length s):Int))∧(List.take (Int.toNat (↑(List.length I):Int)) s=I→ab (.bool true) (j.au 20 []))∧(¬List.take (Int.toNat (↑(List.length I):Int)) s=I→ab (.bool false) (j.au 20 [])))∧(¬(↑(List.length I):Int)≤(↑(List.length s):Int)→ab (.bool false) (j.au 20 []))) :
 ∃v p,aI Tryz.prog aw 146 [.str s,.str I] (⟨0,.nil⟩) v p∧ab v p :=
 cf bU mixed gL (aq:=he 1002 (.aN 1004 (ah 1009 (.aN 1011 .nil .nil)) .nil)) (by kernel_rfl) aY
theorem Xt(s I:Bytes)(ab:o→j→Prop)(aY:((↑(List.length I):Int)≤(↑(List.length s):Int)→(0≤(↑(List.length I):Int)∧(↑(List.length I):Int)≤(↑(List.length s):Int))∧(List.take (Int.toNat (↑(List.length I):Int)) s=I→(0≤(↑(List.length I):Int)∧(↑(List.length I):Int)≤(↑(List.length s):Int))∧ab (.tuple [.str (List.drop (Int.toNat (↑(List.length I):Int)) s),.bool true]) (j.au 36 []))∧(¬List.take (Int.toNat (↑(List.length I):Int)) s=I→ab (.tuple [.str s,.bool false]) (j.au 33 [])))∧(¬(↑(List.length I):Int)≤(↑(List.length s):Int)→ab (.tuple [.str s,.bool false]) (j.au 33 []))) :
 ∃v p,aI Tryz.prog aw 53 [.str s,.str I] (⟨0,.nil⟩) v p∧ab v p :=
 cf bU mixed gL (aq:=he 1002 (he 1002 (.aN 1004 (ah 1009 (.aN 1011 (ah 3003 .nil) .nil)) .nil))) (by kernel_rfl) aY
abbrev sR(s:Bytes)(c:UInt8):bT:=[(0,.str s),(1,.int .u8 c.toNat)]
theorem M8(s:Bytes)(c:UInt8)(h:j):e0 0 17 (sR s c) h (sR s c) ⟨0,.nil⟩ :=
 e0.drop (K:=0) (l:=[]) rfl rfl rfl rfl (b0.cons trivial (b0.cons trivial b0.nil)) b0.nil
theorem M9(c:UInt8):∀s:Bytes,∃aa,db Tryz.prog aw 0 17 (c4 Tryz.prog 142 0) (sR s c) ⟨0,.nil⟩ (.exit 0) (sR (s.dropWhile (· == c)) c) aa
 |[]=>by obtain⟨e,bb,p,be,rfl,rfl⟩:=Xp c.toNat (fun e bb p=>e=.exit 0∧bb=sR [] c) ⟨rfl,rfl⟩;exact⟨p,db.last (by simp) be⟩
 |x ::r=>by
  by_cases af:x=c
  ·subst af;obtain⟨e,bb,p,be,rfl,rfl⟩:=M7 x r x.toNat (fun e bb p=>e=.normal∧bb=sR r x) ⟨fun _=>⟨fun _=>⟨⟨by decide,by simp only [List.length_cons];omega⟩,rfl,rfl⟩,fun h=>absurd rfl h⟩,fun h=>by simp at h⟩;obtain⟨aa,aB⟩:=M9 x r;refine⟨aa,?_⟩;rw [List.dropWhile_cons_of_pos (by simp)];exact db.step (be.post (M8 r x p)) aB
  ·have bZ:¬(x.toNat:Int)=(c.toNat:Int):=fun h=>af (UInt8.toNat_inj.1 (by omega))
   obtain⟨e,bb,p,be,rfl,rfl⟩:=M7 x r c.toNat (fun e bb p=>e=.exit 0∧bb=sR (x::r) c) ⟨fun _=>⟨fun h=>absurd h bZ,fun _=>⟨rfl,rfl⟩⟩,fun h=>by simp at h⟩;refine⟨p,?_⟩;rw [List.dropWhile_cons_of_neg (by simpa using af)];exact db.last (by simp) be
theorem Xu(s:Bytes)(c:UInt8)(H:j):aI Tryz.prog aw 142 [.str s,.int .u8 c.toNat] H (.str (s.dropWhile (· == c))) H:=by obtain⟨aa,aB⟩:=M9 c s;exact aI.fk (Xq s (s.dropWhile (· == c)) c.toNat aa (fun v _=>v=.str (s.dropWhile (· == c))) ⟨cP.h' (aB.pre (M8 s c _)),rfl⟩) rfl rfl H
theorem Xv(s:Bytes)(H:j):aI Tryz.prog aw 128 [.str s,.str [48]] H (.str (s.dropWhile (· == 48))) H :=
 aI.fk (Xr s (fun v _=>v=.str (s.dropWhile (· == 48))) ⟨fun h=>by subst h;rfl,fun h=>⟨⟨Xu s 48 _⟩,rfl⟩⟩) rfl rfl H
theorem pre_true{s I:Bytes}(h:s.take I.length=I):I.isPrefixOf s=true:=by rw [List.isPrefixOf_iff_prefix,List.prefix_iff_eq_take];exact h.symm
theorem AS{s I:Bytes}(h:¬s.take I.length=I):I.isPrefixOf s=false:=by
 cases aC:I.isPrefixOf s with
 |false=>rfl
 |true=>rw [List.isPrefixOf_iff_prefix,List.prefix_iff_eq_take]at aC;exact absurd aC.symm h
theorem take_len{s I:Bytes}(h:¬I.length≤s.length):¬s.take I.length=I:=fun e=>h (by have:=congrArg List.length e;simp at this;omega)
theorem Xw(s I:Bytes)(H:j):aI Tryz.prog aw 146 [.str s,.str I] H (.bool (I.isPrefixOf s)) H:=by
 refine aI.fk (Xs s I (fun v _=>v=.bool (I.isPrefixOf s)) ⟨fun h=>⟨⟨by omega,h⟩,fun e=> ?_,fun e=> ?_⟩,fun h=> ?_⟩) rfl rfl H
 ·rw [pre_true (by simpa using e)]
 ·rw [AS (by simpa using e)]
 ·rw [AS (take_len (by omega))]
def sS(s I:Bytes):o:= .tuple [.str (if I.isPrefixOf s then s.drop I.length else s),.bool (I.isPrefixOf s)]
theorem M'(s I:Bytes)(H:j):aI Tryz.prog aw 53 [.str s,.str I] H (sS s I) H:=by
 refine aI.fk (Xt s I (fun v _=>v=sS s I) ⟨fun h=>⟨⟨by omega,h⟩,fun e=>⟨⟨by omega,h⟩,?_⟩,fun e=> ?_⟩,fun h=> ?_⟩) rfl rfl H
 ·unfold sS;rw [pre_true (by simpa using e)];simp
 ·unfold sS;rw [AS (by simpa using e)];simp
 ·unfold sS;rw [AS (take_len (by omega))];simp
end Go.Proofs.YtddnafghiejcoaaGreatDoor
namespace Go.Keys
theorem Gj(c:UInt8):∀s:Bytes,splitAt c s≠[]
 |[]=>by simp [splitAt]
 |b ::r=>by
  unfold splitAt;split
  ·simp
  ·cases h:splitAt c r with
   |nil=>exact absurd h (Gj c r)
   |cons w t=>simp
theorem Gk(c:UInt8):∀s:Bytes,(splitAt c s).length=s.count c+1
 |[]=>rfl
 |b ::r=>by
  have ih:=Gk c r;unfold splitAt;split
  ·rename_i h;subst h;simp [ih]
  ·rename_i h;cases aq:splitAt c r with
   |nil=>exact absurd aq (Gj c r)
   |cons w t =>
    rw [aq]at ih;simp only [List.length_cons]at ih⊢;rw [List.count_cons_of_ne (by simpa using h)];omega
theorem Na{c:UInt8} :∀{s:Bytes},s.count c=0→splitAt c s=[s]
 |[],_=>rfl
 |b ::r,h=>by
  have av:¬b=c:=by intro e;subst e;simp at h
  rw [List.count_cons_of_ne (by simpa using av)]at h;unfold splitAt;rw [if_neg av,Na h]
theorem Nb{c:UInt8} :∀{s:Bytes},s.count c≠0→ ∃m:Nat,Go.Lib.indexByte s c=m∧m<s.length∧splitAt c s=s.take m::splitAt c (s.drop (m+1))∧s.count c=(s.drop (m+1)).count c+1
 |[],h=>by simp at h
 |b ::r,h=>by
  by_cases av:b=c
  ·subst av;refine⟨0,by simp [Go.Lib.indexByte],by simp,?_,by simp⟩;rw [splitAt,if_pos rfl];simp
  ·rw [List.count_cons_of_ne (by simpa using av)]at h⊢;obtain⟨m,bu,bC,b2,cp⟩:=Nb h;refine⟨m+1,?_,by simp;omega,?_,by simpa using cp⟩
   ·unfold Go.Lib.indexByte;rw [if_neg (by simpa using av),bu,if_neg (by rw [beq_iff_eq];omega)];rfl
   ·rw [splitAt,if_neg av,b2];simp
def jW(w:Bytes):Bool:= !(decide (w=[]) || decide (9<w.length) || w.all digit == false)
theorem Nc:∀{l:List Bytes},(∀w∈l,jW w=true)→mG l=some (l.map number)
 |[],_=>rfl
 |w ::r,h=>by
  have bm:=h w List.mem_cons_self
  have hw:¬(w=[]∨9<w.length∨w.all digit=false):=by intro q;unfold jW at bm;rcases q with q|q|q<;>simp [q]at bm
  rw [mG,if_neg hw,Nc fun x af=>h x (List.mem_cons_of_mem _ af)];rfl
theorem Nd:∀{a b:List Bytes}{w:Bytes},jW w=false→mG (a++w::b)=none
 |[],b,w,h=>by
  have hw:w=[]∨9<w.length∨w.all digit=false:=by
   unfold jW at h;simp only [Bool.not_eq_false',Bool.or_eq_true,decide_eq_true_eq,beq_iff_eq]at h;rcases h with (h|h)|h
   ·exact .inl h
   ·exact .inr (.inl h)
   ·exact .inr (.inr h)
  rw [List.nil_append,mG,if_pos hw]
 |x::a,b,w,h=>by rw [List.cons_append,mG,Nd h];split<;>rfl
theorem Xx:∀(w:Bytes),w.all digit=true→number w<10^w.length:=by
 suffices h:∀(w:Bytes)(n k:Nat),w.all digit=true→n<10^k→w.foldl (fun n b=>10*n+(b.toNat-48)) n<10^(k+w.length)from fun w hw=>by
  have:=h w 0 0 hw (by decide)
  rwa [Nat.zero_add]at this
 intro w;induction w with
 |nil=>intro n k _ h;exact h
 |cons b r ih =>
  intro n k hw h;simp only [List.all_cons,Bool.and_eq_true,digit,decide_eq_true_eq]at hw;rw [List.foldl_cons,List.length_cons,show k+(r.length+1)=k+1+r.length by omega];refine ih _ _ hw.2 ?_;rw [Nat.pow_succ];omega
theorem Nf:∀{l:List Bytes}{r:List Nat},mG l=some r→ ∀n∈r,n<1000000000
 |[],r,h=>by simp [mG]at h;subst h;simp
 |w :: t, r,h=>by
  rw [mG]at h;split at h
  ·cases h
  ·rename_i hw;cases b7:mG t with
   |none=>rw [b7]at h;cases h
   |some x =>
    rw [b7]at h;simp only [Option.map_some,Option.some.injEq]at h;subst h;intro n aM;rcases List.mem_cons.1 aM with rfl|aM
    ·have gi:w.all digit=true:=by
      cases aC:w.all digit with
      |true=>rfl
      |false=>exact absurd (.inr (.inr aC)) hw
     have:=Xx w gi;have aB:w.length≤9:=by omega
     exact Nat.lt_of_lt_of_le this (Nat.pow_le_pow_right (by decide) aB)
    ·exact Nf b7 n aM
end Go.Keys
namespace Go.cH
noncomputable section
open Go.RowKit Go.Shelf
section
variable {P:Program}{ak:Map}
theorem Xy{w bA:World}{a:Addr}(e:bA.heap[a.block]? =w.heap[a.block]?):bA.frozen? a=w.frozen? a:=by unfold World.frozen?;rw [e]
theorem Alike.below{w bA:World}(k:Below w.heap.size w bA):Alike w bA where
 size:=k.size
 cell a aS:=k.cell aS
 frozen a aS:=Xy (k.block _ aS)
 mark b av:=rT (k.block _ av)
theorem Safe.Ng{bd:Nat→Prop}{bo w bA:World}(h:Safe bd bo w)(dl:fv bd bo.heap.size)(k:Below w.heap.size w bA):Safe bd bo bA :=
 h.trans ⟨k.os,k.tape,k.output,k.size,fun i al=>k.block i (Nat.lt_of_lt_of_le (dl i al) h.size)⟩
theorem Xz{bd:Nat→Prop}{bo w:World}{h:j}{f:FuncId}{dD:Array Value}{s:List UInt8}(dl:fv bd bo.heap.size)(ep:c2 ak bd h w)(c1:Safe bd bo w)
 (ar:Calls P f dD w fun e bA=>e=.returned (.string ⟨s.toArray⟩)∧Below w.heap.size w bA) :
 Calls P f dD w fun e bA=> ∃bp bM,e=.returned bp∧fh ak bM h.next∧aK bM (.str s) bp∧c2 bM bd h bA∧Safe bd bo bA∧h.next≤h.next :=
 ar.mono fun e bA ⟨he,av⟩=>⟨_,ak,he,fh.refl _ _,by simp only [aK];exact⟨_,rfl,by simp⟩,ep.alike (Alike.below av),c1.Ng dl av,Nat.le_refl _⟩
end
end
end Go.cH
namespace Go.Keys
theorem Nh:∀(w:Bytes)(n:Nat),w.all digit=true→Go.Lib.decFrom n w=some (w.foldl (fun n b=>10*n+(b.toNat-48)) n)
 |[],n,_=>rfl
 |b::r,n,h=>by
  simp only [List.all_cons,Bool.and_eq_true,digit,decide_eq_true_eq]at h;have aD:Go.Lib.digitVal b=some (b.toNat-48):=by unfold Go.Lib.digitVal;rw [if_pos h.1]
  unfold Go.Lib.decFrom;rw [aD];show Go.Lib.decFrom (n*10+(b.toNat-48)) r=_;rw [Nh r _ h.2,List.foldl_cons,Nat.mul_comm]
theorem Ni{w:Bytes}(bm:w≠[])(h:w.all digit=true):Go.Lib.atoi w=some (number w:Int):=by
 cases w with
 |nil=>exact absurd rfl bm
 |cons b r =>
  have av:48≤b.toNat∧b.toNat≤57:=by simp only [List.all_cons,Bool.and_eq_true,digit,decide_eq_true_eq]at h;exact h.1
  have XA:(b == 45)=false:=by rw [beq_eq_false_iff_ne];rintro rfl;revert av;decide
  have XB:(b == 43)=false:=by rw [beq_eq_false_iff_ne];rintro rfl;revert av;decide
  unfold Go.Lib.atoi;simp only [XA,XB,Bool.false_eq_true,if_false];unfold Go.Lib.decNat;rw [List.isEmpty_cons];simp only [Bool.false_eq_true,if_false];rw [Nh _ _ h];rfl
def mS:Bytes:=[48,49,50,51,52,53,54,55,56,57]
set_option maxRecDepth 100000 in
theorem XC(b:UInt8):mS.contains b=digit b:=by
 have h:∀n:Fin 256,mS.contains (UInt8.ofNat n.val)=digit (UInt8.ofNat n.val):=by decide
 have:=h ⟨b.toNat,b.toNat_lt⟩;simpa using this
theorem AT(w:Bytes):Go.Lib.trimS w mS=[]↔w.all digit=true:=by
 have e:(fun b=>mS.contains b)=digit:=funext XC
 have Gl:∀l:Bytes,l.dropWhile digit=[]↔l.all digit=true:=by
  intro l;induction l with
  |nil=>simp
  |cons b r ih =>
   rw [List.dropWhile_cons];cases av:digit b with
   |true=>simp [ih,av]
   |false=>simp [av]
 unfold Go.Lib.trimS Go.Lib.trimLeftS Go.Lib.trimRightS;rw [e,Gl];constructor
 ·intro h;have ae:((w.reverse.dropWhile digit)).all digit=true:=by simpa using h
  cases aC:w.reverse.dropWhile digit with
  |nil =>
   have:=(Gl _).1 aC;simpa using this
  |cons b r =>
   have XD:digit b=false:=by have:=List.head?_dropWhile_not digit w.reverse;rw [aC]at this;simpa using this
   rw [aC]at ae;simp [XD]at ae
 ·intro h;have:w.reverse.dropWhile digit=[]:=(Gl _).2 (by simpa using h);rw [this];rfl
end Go.Keys
namespace Go.Proofs.YtddnafghiejcoaaGreatDoor
open Go.cH Go.Shelf Go.RowKit Go.Keys
set_option maxRecDepth 1000000
def XE:Ren where
 f:=fun x=>if x=119 then 165 else if x=120 then 171 else if x=137 then 164 else if x=151 then 155 else if x=152 then 159 else if x=160 then 157 else if x=197 then 154 else if x=217 then 115 else if x=224 then 117 else if x=225 then 116 else if x=227 then 143 else if x=228 then 153 else if x=231 then 142 else if x=232 then 161 else if x=233 then 144 else if x=234 then 162 else if x=235 then 145 else if x=236 then 163 else if x=260 then 158 else if x=266 then 133 else if x=271 then 168 else 0
 t:=fun x=>if x=0 then 0 else if x=3 then 3 else if x=4 then 4 else if x=5 then 5 else if x=9 then 9 else if x=21 then 21 else if x=46 then 108 else if x=105 then 85 else if x=116 then 192 else if x=117 then 193 else if x=119 then 113 else if x=124 then 196 else if x=138 then 208 else if x=139 then 209 else 0
 g:=fun x=>if x=3 then 8 else if x=4 then 9 else 0
theorem XF:Lays.n160 Tryz.prog XE:=by constructor;all_goals first|kernel_rfl|(intro w;kernel_rfl)
def XG:Ren where
 f:=fun x=>if x=129 then 136 else if x=171 then 49 else if x=172 then 55 else if x=205 then 127 else if x=243 then 75 else if x=244 then 84 else if x=245 then 85 else if x=246 then 96 else if x=247 then 100 else if x=279 then 101 else if x=280 then 102 else if x=281 then 103 else if x=282 then 104 else if x=283 then 119 else if x=284 then 120 else if x=285 then 121 else if x=286 then 122 else if x=287 then 125 else if x=316 then 126 else if x=317 then 135 else if x=318 then 137 else if x=319 then 138 else if x=320 then 139 else if x=321 then 140 else if x=322 then 141 else if x=337 then 151 else if x=338 then 152 else 0
 t:=fun x=>if x=0 then 0 else if x=2 then 2 else if x=3 then 3 else if x=4 then 4 else if x=5 then 5 else if x=9 then 9 else if x=20 then 20 else if x=21 then 21 else if x=37 then 34 else if x=46 then 108 else if x=51 then 132 else if x=53 then 151 else if x=75 then 89 else if x=76 then 90 else if x=80 then 212 else if x=85 then 138 else if x=127 then 186 else if x=143 then 187 else if x=145 then 189 else if x=167 then 137 else if x=168 then 140 else if x=171 then 154 else if x=173 then 157 else if x=175 then 170 else if x=210 then 173 else if x=212 then 179 else if x=213 then 180 else if x=232 then 203 else if x=233 then 204 else 0
 g:=fun x=>if x=15 then 3 else if x=16 then 4 else if x=17 then 5 else if x=18 then 6 else if x=19 then 7 else 0
theorem XH:Lays.n172 Tryz.prog XG:=by constructor;all_goals first|kernel_rfl|(intro w;kernel_rfl)
theorem XI(s:Bytes)(aq:s.length<2^40)(H:j):aI Tryz.prog aw 157 [.str s,.str mS] H (.str (Lib.trimS s mS)) H:=by
 intro bd bo dl fK ak w dD ep c1 eA;obtain⟨l⟩:=dD;simp only [bG,aK]at eA;obtain⟨a,t,rfl,⟨u,rfl,rfl⟩,b,t2,rfl,⟨c,rfl,ar⟩,rfl⟩:=eA;refine⟨⟨Tryz.f157,_,by kernel_rfl,rfl⟩,Xz dl ep c1 ?_⟩;have eQ:u.size<2^40:=by simpa using aq
 have pe:c.size=10:=(congrArg List.length ar).trans rfl;have k:=Any.strings_Trim_laid XF (by kernel_rfl) u c w (by omega) (by omega) (by rw [ar];exact ascii_of_all (by decide));rw [ar]at k;exact k
theorem Nj(s:Bytes)(aq:s.length≤18)(n:Int)(aM:Lib.atoi s=some n)(H:j):aI Tryz.prog aw 55 [.str s] H (.tuple [.int .i64 n,.nilIface]) H:=by
 intro bd bo dl fK ak w dD ep c1 eA;obtain⟨l⟩:=dD;simp only [bG,aK]at eA;obtain⟨a,t,rfl,⟨u,rfl,rfl⟩,rfl⟩:=eA;refine⟨⟨Tryz.f55,_,by kernel_rfl,rfl⟩,?_⟩;have k:=Any.strconv_Atoi XH u n (by simpa using aq) aM w;refine k.mono fun e bA ⟨he,t,hw⟩=> ?_
 have av:Below w.heap.size w bA:=by rw [hw];exact Lib.bytesWorld_below _ _ _
 exact⟨_,ak,he,fh.refl _ _,by simp only [aK,bG];exact⟨_,rfl,_,_,rfl,rfl,_,_,rfl,rfl,rfl⟩,ep.alike (Alike.below av),c1.Ng dl av,Nat.le_refl _⟩
end Go.Proofs.YtddnafghiejcoaaGreatDoor
namespace Go.Proofs.YtddnafghiejcoaaGreatDoor
open Go.cH Go.Shelf Go.RowKit Go.Keys
set_option maxRecDepth 1000000
def Nk:Ren where
 f:=fun x=>if x=138 then 167 else if x=143 then 74 else if x=195 then 169 else if x=217 then 115 else if x=218 then 170 else if x=219 then 95 else if x=224 then 117 else if x=225 then 116 else if x=266 then 133 else if x=267 then 118 else if x=314 then 134 else 0
 t:=fun x=>if x=0 then 0 else if x=3 then 3 else if x=4 then 4 else if x=5 then 5 else if x=9 then 9 else if x=46 then 108 else if x=51 then 132 else if x=146 then 176 else 0
 g:=fun x=>if x=1 then 2 else 0
theorem XJ:Lays.n138 Tryz.prog Nk:=by constructor;all_goals first|kernel_rfl|(intro w;kernel_rfl)
theorem XK:Lays.n143 Tryz.prog Nk:=by constructor;all_goals first|kernel_rfl|(intro w;kernel_rfl)
theorem Nl{c:UInt8}{b:ByteArray}(h:b.data.toList=[c]):b=⟨#[c]⟩:=by
 obtain⟨d⟩:=b;simp only at h
 congr 1
 exact Array.toList_inj.1 (by simpa using h)
theorem XL(s:Bytes)(c:UInt8)(H:j):aI Tryz.prog aw 167 [.str s,.str [c]] H (.int .i64 (Lib.countByte s c)) H:=by
 intro bd bo dl fK ak w dD ep c1 eA;obtain⟨l⟩:=dD;simp only [bG,aK]at eA;obtain⟨a,t,rfl,⟨u,rfl,rfl⟩,b,t2,rfl,⟨d,rfl,aD⟩,rfl⟩:=eA;refine⟨⟨Tryz.f167,_,by kernel_rfl,rfl⟩,?_⟩;have k:=Any.strings_Count_one XJ u c w;rw [←Nl aD]at k
 exact k.mono fun e bA ⟨he,hw⟩=>by subst hw;exact⟨_,ak,he,fh.refl _ _,by simp only [aK],ep,c1,Nat.le_refl _⟩
theorem XM(s:Bytes)(c:UInt8)(H:j):aI Tryz.prog aw 74 [.str s,.str [c]] H (.int .i64 (Lib.indexByte s c)) H:=by
 intro bd bo dl fK ak w dD ep c1 eA;obtain⟨l⟩:=dD;simp only [bG,aK]at eA;obtain⟨a,t,rfl,⟨u,rfl,rfl⟩,b,t2,rfl,⟨d,rfl,aD⟩,rfl⟩:=eA;refine⟨⟨Tryz.f74,_,by kernel_rfl,rfl⟩,?_⟩;have k:=Any.strings_Index_one XK u c w;rw [←Nl aD]at k
 exact k.mono fun e bA ⟨he,hw⟩=>by subst hw;exact⟨_,ak,he,fh.refl _ _,by simp only [aK],ep,c1,Nat.le_refl _⟩
end Go.Proofs.YtddnafghiejcoaaGreatDoor
namespace Go.Proofs.YtddnafghiejcoaaGreatDoor
open Go.cH Go.Keys
set_option maxRecDepth 1000000
abbrev eH(l:List o)(fp:Nat):J:= {bi:=l,es:=1,exact:=true,ro:=false,R:=0,fQ:=fp,gF:=0,an:=none}
theorem XN(s t:Bytes)(m i k:Nat)(l:List o)(ab:o→j→Prop)(aY:cW Tryz.prog aw 167 [.str s,.str [59]] (j.au 12 []) (.int .i64 (k:Int)) (j.au 12 [])∧(-9223372036854775808≤(k:Int)+1∧(k:Int)+1≤9223372036854775807)∧(-9223372036854775808≤(↑(List.length s):Int)+1∧(↑(List.length s):Int)+1≤9223372036854775807)∧((0≤if(↑(List.length s):Int)+1<(k:Int)+1 then(↑(List.length s):Int)+1 else(k:Int)+1)∧((if(↑(List.length s):Int)+1<(k:Int)+1 then(↑(List.length s):Int)+1 else(k:Int)+1)≤if(↑(List.length s):Int)+1<(k:Int)+1 then(↑(List.length s):Int)+1 else(k:Int)+1)∧(if(↑(List.length s):Int)+1<(k:Int)+1 then(↑(List.length s):Int)+1 else(k:Int)+1)<4611686018427387904∧(16*if(↑(List.length s):Int)+1<(k:Int)+1 then(↑(List.length s):Int)+1 else(k:Int)+1)≤281474976710656)∧(-9223372036854775808≤(if(↑(List.length s):Int)+1<(k:Int)+1 then(↑(List.length s):Int)+1 else(k:Int)+1)-1∧(if(↑(List.length s):Int)+1<(k:Int)+1 then(↑(List.length s):Int)+1 else(k:Int)+1)-1≤9223372036854775807)∧cP Tryz.prog aw 0 66 (Code.loop (c4 Tryz.prog 160 0)) [(0,.str s),(1,.str [59]),(2,.int .i64 0),(3,.int .i64 ((if(↑(List.length s):Int)+1<(k:Int)+1 then(↑(List.length s):Int)+1 else(k:Int)+1)-1)),(9,.slice (some ⟨19,0,0,0,1⟩) (Int.toNat (if(↑(List.length s):Int)+1<(k:Int)+1 then(↑(List.length s):Int)+1 else(k:Int)+1)) (Int.toNat (if(↑(List.length s):Int)+1<(k:Int)+1 then(↑(List.length s):Int)+1 else(k:Int)+1))),(10,.int .i64 0)] (j.au 25 [(19,J.made (List.replicate (Int.toNat (if(↑(List.length s):Int)+1<(k:Int)+1 then(↑(List.length s):Int)+1 else(k:Int)+1)) (.str [])) 1 true)]) (.exit 0) [(0,.str t),(9,.slice (some ⟨50,0,0,0,1⟩) m m),(10,.int .i64 (i:Int))] (j.au 60 [(50,eH l 0)])∧(0≤(i:Int)∧(i:Int)<(m:Int))∧(0=0∧l[0+Int.toNat (i:Int)]? =some (o.str []))∧(-9223372036854775808≤(i:Int)+1∧(i:Int)+1≤9223372036854775807)∧(0≤(i:Int)+1∧(i:Int)+1≤(m:Int))∧ab (.slice (some ⟨50,0,0,0,1⟩) (i+1) m) (j.au 70 [(50,(J.made (List.set l (0+Int.toNat (i:Int)) (.str t)) 1 true))])) :
 ∃v p,aI Tryz.prog aw 160 [.str s,.str [59],.int .i64 0,.int .i64 (-1)] (⟨0,.nil⟩) v p∧ab v p :=
 cf bU mixed gL (aq:= .aA (.val 6002 (.int .i64 (k:Int))) (ah 6003 (ah 7003 (ah 8001 (ah 9001 (.aA (.cN [0,1,2,3,9,10]) (.aA (.loop [(0,.str t),(9,.slice (some ⟨50,0,0,0,1⟩) m m),(10,.int .i64 (i:Int))] (j.au 60 [(50,eH l 0)]) (.exit 0)) (ah 17003 (.aA (.ks 17004 (.str [])) (ah 18002 (ah 18003 .nil))))))))))) (by kernel_rfl) aY
theorem Nn(s:Bytes)(m n i k:Nat)(l:List o)(ab:dj→bT→j→Prop)(aY:((i:Int)<(n:Int)→cW Tryz.prog aw 74 [.str s,.str [59]] (j.au 67 [(50,(J.made (l) 1 true))]) (.int .i64 (k:Int)) (j.au 67 [(50,(J.made (l) 1 true))])∧(-9223372036854775808≤(k:Int)+0∧(k:Int)+0≤9223372036854775807)∧(0≤(k:Int)+0∧(k:Int)+0≤(↑(List.length s):Int))∧(0≤(i:Int)∧(i:Int)<(m:Int))∧(0=0∧l[0+Int.toNat (i:Int)]? =some (o.str []))∧(-9223372036854775808≤(k:Int)+1∧(k:Int)+1≤9223372036854775807)∧(0≤(k:Int)+1∧(k:Int)+1≤(↑(List.length s):Int))∧(-9223372036854775808≤(i:Int)+1∧(i:Int)+1≤9223372036854775807)∧ab .normal [(0,.str (List.drop (k+1) s)),(1,.str [59]),(2,.int .i64 0),(3,.int .i64 (n:Int)),(9,.slice (some ⟨50,0,0,0,1⟩) m m),(10,.int .i64 ((i:Int)+1))] (j.au 88 [(50,(J.made (List.set l (0+Int.toNat (i:Int)) (.str (List.take (k+0) s))) 1 true))]))∧(¬(i:Int)<(n:Int)→ab (.exit 0) [(0,.str s),(1,.str [59]),(2,.int .i64 0),(3,.int .i64 (n:Int)),(9,.slice (some ⟨50,0,0,0,1⟩) m m),(10,.int .i64 (i:Int))] (j.au 63 [(50,(J.made (l) 1 true))]))) :
 ∃e bb p,cP Tryz.prog aw 0 66 (c4 Tryz.prog 160 0) [(0,.str s),(1,.str [59]),(2,.int .i64 0),(3,.int .i64 n),(9,.slice (some ⟨50,0,0,0,1⟩) m m),(10,.int .i64 i)] (j.rows 60 [(50,eH l 0)]) e bb p∧ab e bb p :=
 hI bU mixed gL (aq:= .aN 11002 (.aA (.val 12002 (.int .i64 (k:Int))) (ah 14005 (ah 14006 (ah 14007 (.aA (.ks 14008 (.str [])) (ah 15004 (ah 15005 (ah 16001 .nil)))))))) .nil) (cN:=[0,1,2,3,9,10]) (by kernel_rfl) aY
def hO(d:List Bytes)(k:Nat):List o:=d.map o.str++List.replicate k (.str [])
theorem Gm(d:List Bytes)(k:Nat):∀e∈hO d k,cT e:=by
 intro e he;rcases List.mem_append.1 he with h|h
 ·obtain⟨w,_,rfl⟩:=List.mem_map.1 h;exact cT.str w
 ·rw [(List.mem_replicate.1 h).2];exact cT.str []
theorem No(d:List Bytes)(k:Nat):(hO d (k+1))[d.length]? =some (.str []):=by unfold hO;rw [List.getElem?_append_right (by simp)];simp
theorem Np(d:List Bytes)(k:Nat)(w:Bytes):(hO d (k+1)).set d.length (.str w)=hO (d++[w]) k:=by unfold hO;rw [List.set_append_right _ _ (by simp),List.replicate_succ];simp
abbrev rr(s:Bytes)(n i:Nat):bT:=[(0,.str s),(1,.str [59]),(2,.int .i64 0),(3,.int .i64 (n:Nat)),(9,.slice (some ⟨50,0,0,0,1⟩) (n+1) (n+1)),(10,.int .i64 (i:Nat))]
theorem Nq{l c:Nat} :cv (Go.cH.cB [50]) (.slice (some ⟨50,0,0,0,1⟩) l c):=(by show(50:Nat)∈ [50];simp)
theorem Nr{s:Bytes}{n i:Nat}{h:j}{d:List Bytes}{k:Nat}(ah:h.get 50=some (eH (hO d k) 0)):e0 0 66 (rr s n i) h (rr s n i) (j.rows 60 [(50,eH (hO d k) 0)]) :=
 e0.drop (K:=60) (l:=[(50,eH (hO d k) 0)]) (by simp [ah]) rfl rfl rfl (b0.cons trivial (b0.cons trivial (b0.cons trivial (b0.cons trivial (b0.cons Nq (b0.cons trivial b0.nil)))))) (b0.cons (fun e he=>(Gm d k e he).e2 _) b0.nil)
theorem XO(n:Nat)(aM:n<2^40):∀(k:Nat)(s:Bytes)(d:List Bytes),s.count 59=k→d.length+k=n→s.length<2^40→ ∃(t:Bytes)(mT:List Bytes),mT++[t]=d++splitAt 59 s∧mT.length=n ∧
 db Tryz.prog aw 0 66 (c4 Tryz.prog 160 0) (rr s n d.length) (j.rows 60 [(50,eH (hO d (k+1)) 0)]) (.exit 0) (rr t n n) (j.rows 60 [(50,eH (hO mT 1) 0)]):=by
 intro k;induction k with
 |zero =>
  intro s d ao aD aq;obtain rfl:n=d.length:=by omega
  obtain⟨e,bb,p,be,rfl,rfl,ah⟩:=Nn s (d.length+1) d.length d.length 0 (hO d 1) (fun e bb p=>e=.exit 0∧bb=rr s d.length d.length∧p.get 50=some (eH (hO d 1) 0)) ⟨fun h=>by omega,fun _=>⟨rfl,rfl,rfl⟩⟩;exact⟨s,d,by rw [Na ao],rfl,(db.last (by simp) be).post (Nr ah)⟩
 |succ k ih =>
  intro s d ao aD aq;obtain⟨m,bu,bC,b2,cp⟩:=Nb (c:=59) (s:=s) (by omega)
  obtain⟨e,bb,p,be,rfl,rfl,ah⟩:=Nn s (n+1) n d.length m (hO d (k+1+1)) (fun e bb p=>e=.normal∧bb=rr (s.drop (m+1)) n (d.length+1)∧p.get 50=some (eH (hO (d++[s.take m]) (k+1)) 0)) (by
   have hF:((d.length:Int)+1)=((d.length+1:Nat):Int):=by omega
   have ks:0+Int.toNat (d.length:Int)=d.length:=by simp
   refine⟨fun _=>⟨⟨?_⟩,⟨by omega,by omega⟩,⟨by omega,by omega⟩,⟨by omega,by omega⟩,⟨rfl,by rw [ks];exact No d (k+1)⟩,⟨by omega,by omega⟩,⟨by omega,by omega⟩,⟨by omega,by omega⟩,rfl,by rw [hF],?_⟩,fun h=>by omega⟩
   ·have:=XM s 59 (j.au 67 [(50,J.made (hO d (k+1+1)) 1 true)]);rw [bu]at this;exact this
   ·rw [←Np d (k+1) (s.take m),ks,Nat.add_zero];rfl)
  obtain⟨t,mT,lM,ae,bg⟩:=ih (s.drop (m+1)) (d++[s.take m]) (by omega) (by simp;omega) (by rw [List.length_drop];omega);refine⟨t,mT,?_,ae,?_⟩
  ·rw [lM,b2];simp
  ·have el:(d++[s.take m]).length=d.length+1:=by simp
   rw [show rr (s.drop (m+1)) n (d++[s.take m]).length=rr (s.drop (m+1)) n (d.length+1)by rw [el]]at bg;exact db.round be (Nr ah) bg
theorem XP(s:Bytes)(aq:s.length<2^40)(H:j):aI Tryz.prog aw 160 [.str s,.str [59],.int .i64 0,.int .i64 (-1)] H
 (.slice (some ⟨H.next,0,0,0,1⟩) (splitAt 59 s).length (splitAt 59 s).length) (H.hp [] [eH ((splitAt 59 s).map o.str) 0]):=by
 have ao:s.count 59≤s.length:=List.count_le_length;obtain⟨t,mT,p,ae,bg⟩:=XO (s.count 59) (by omega) (s.count 59) s [] rfl (by simp) aq;have ar:¬((s.length:Int)+1<(s.count 59:Int)+1):=by omega
 have aM:Int.toNat ((s.count 59:Int)+1)=s.count 59+1:=by omega
 have bm:=XL s 59 (j.au 12 [])
 obtain ⟨v,bO,aD,a',ah⟩:=XN s t (s.count 59+1) (s.count 59) (s.count 59) (hO mT 1) (fun v bO=>v=.slice (some ⟨50,0,0,0,1⟩) (s.count 59+1) (s.count 59+1)∧bO.get 50=some (eH ((splitAt 59 s).map o.str) 0)) (by
  rw [if_neg ar,aM];refine⟨⟨bm⟩,⟨by omega,by omega⟩,⟨by omega,by omega⟩,⟨by omega,by omega,by omega,by omega⟩,⟨by omega,by omega⟩,?_,⟨by omega,by omega⟩,⟨rfl,?_⟩,⟨by omega,by omega⟩,⟨by omega,by omega⟩,rfl,?_⟩
  ·have dG :=cP.h' (bg.pre (e0.move (F:=[(0,o.str s),(1,o.str [59]),(2,o.int .i64 0),(3,o.int .i64 ((s.count 59:Int)+1-1)),(9,o.slice (some ⟨19,0,0,0,1⟩) (s.count 59+1) (s.count 59+1)),(10,o.int .i64 0)]) (h:=j.au 25 [(19,J.made (List.replicate (s.count 59+1) (o.str [])) 1 true)]) (K:=60) (l:=[(50,eH (hO [] (s.count 59+1)) 0)]) (fun _=>19) ?_ rfl (by simp) rfl rfl ?_ rfl (b0.cons trivial (b0.cons trivial (b0.cons trivial (b0.cons trivial (b0.cons Nq (b0.cons trivial b0.nil)))))) (b0.cons (fun e he=>(Gm [] _ e he).e2 _) b0.nil)))
   ·exact (dG.post (e0.facts (G:=[(0,o.str t),(9,o.slice (some ⟨50,0,0,0,1⟩) (s.count 59+1) (s.count 59+1)),(10,o.int .i64 (s.count 59:Nat))]) (by
     intro C u hu;rw [kS]at hu;split at hu
     ·rename_i aX;subst aX;rw [←hu];rfl
     ·rw [kS]at hu;split at hu
      ·rename_i aX;subst aX;rw [←hu];rfl
      ·rw [kS]at hu;split at hu
       ·rename_i aX;subst aX;rw [←hu];rfl
       ·cases hu))).post (by
      have:j.rows 60 [(50,eH (hO mT 1) 0)]=j.au 60 [(50,eH (hO mT 1) 0)]:=by kernel_rfl
      rw [this];exact e0.refl _ _ _ _)
   ·simp only [List.map_cons,List.map_nil];rw [show(eH (hO [] (s.count 59+1)) 0).bc (fun _=>19)=eH (hO [] (s.count 59+1)) 0 from dt.bc (b:=eH (hO [] (s.count 59+1)) 0) (Gm [] _) _];rfl
   ·simp [o.bc,bH.bc]
  ·have:=No mT 0;rw [ae]at this;simpa using this
  ·have:=Np mT 0 t;rw [ae,p]at this;show some (J.made (List.set (hO mT 1) (0+Int.toNat (s.count 59:Int)) (o.str t)) 1 true)=_;rw [show 0+Int.toNat (s.count 59:Int)=s.count 59 by simp,this]
   simp [hO,J.made])
 subst a';rw [Gk]
 exact aI.Eo (l:=[]) (gv:=eH ((splitAt 59 s).map o.str) 0) aD (fun b av=>by cases av) (by
  intro e he;obtain⟨w,_,rfl⟩:=List.mem_map.1 he
  exact cT.str w) rfl ah (by simp) (by exact⟨trivial,trivial,trivial,trivial,trivial⟩) [] List.nodup_nil (fun C aX=>by cases aX) rfl
noncomputable def Gn:List o→j→Option ev:=fun args h=>match args with
 |[.str s,.str k,.int .i64 a,.int .i64 b]=>some (.one (.slice (some ⟨h.next,0,0,0,1⟩) (splitAt 59 s).length (splitAt 59 s).length) (h.hp [] [eH ((splitAt 59 s).map o.str) 0]) [k=[59],a=0,b= -1,s.length<2^40])
 |_=>none
theorem XQ:∀args h a,Gn args h=some a→a.dr Tryz.prog aw 160 args h:=by
 intro args h a e;unfold Gn at e;split at e<;>first|(cases e;done)|skip
 simp only [Option.some.injEq]at e;subst e;intro ac;rw [ac.head,ac.tail.head,ac.tail.tail.head];exact XP _ ac.tail.tail.tail.head h
noncomputable def XR:e9:=pE.add 160 Gn
theorem XS:eP Tryz.prog aw XR:=c7.add XQ
theorem XT(s:Bytes)(ab:o→j→Prop)(aY: [(59:UInt8)]=[(59:UInt8)]∧(0:Int)=0∧(-1:Int)= -1∧List.length s<1099511627776∧ab (.slice (some ⟨5,0,0,0,1⟩) (List.length (splitAt 59 s)) (List.length (splitAt 59 s))) (j.hp (j.au 5 []) [] [(J.made (List.map .str (splitAt 59 s)) 1 true)])) :
 ∃v p,aI Tryz.prog aw 156 [.str s,.str [59]] (⟨0,.nil⟩) v p∧ab v p :=
 cf bU mixed XS (aq:= .nil) (by kernel_rfl) aY
theorem XU(s:Bytes)(aq:s.length<2^40)(H:j):aI Tryz.prog aw 156 [.str s,.str [59]] H (.slice (some ⟨H.next,0,0,0,1⟩) (splitAt 59 s).length (splitAt 59 s).length) (H.hp [] [eH ((splitAt 59 s).map o.str) 0]):=by
 obtain⟨v,p,aD,C,rfl,ah⟩:=XT s (fun v p=> ∃C,v=.slice (some ⟨C,0,0,0,1⟩) (splitAt 59 s).length (splitAt 59 s).length∧p.get C=some (eH ((splitAt 59 s).map o.str) 0)) ⟨rfl,rfl,rfl,aq,_,rfl,rfl⟩
 exact aI.Eo (l:=[]) (gv:=eH ((splitAt 59 s).map o.str) 0) aD (fun b av=>by cases av) (by
  intro e he;obtain⟨w,_,rfl⟩:=List.mem_map.1 he
  exact cT.str w) rfl ah (by simp) (by exact⟨trivial,trivial,trivial⟩) [] List.nodup_nil (fun C aX=>by cases aX) rfl
abbrev AU(l:List o)(v f:Nat):J:= {bi:=l,es:=1,exact:=false,ro:=false,R:=v,fQ:=0,gF:=f,an:=some (3,0)}
def Ns:List o→j→Option ev:=kw fun a=>match a with | [.str s,.str k]=>some (.str (Go.Lib.trimS s mS),[k=mS,s.length<2^40])|_=>none
theorem XV:∀args h a,Ns args h=some a→a.dr Tryz.prog aw 157 args h:=by
 refine ls ?_;intro args v eL e ac H;split at e<;>first|(cases e;done)|skip
 simp only [Option.some.injEq,Prod.mk.injEq]at e;obtain⟨rfl,rfl⟩:=e;rw [ac.head];exact XI _ ac.tail.head H
noncomputable def Gp:List o→j→Option ev:=fun args h=>match args with
 |[.str s,.str k]=>some (.one (.slice (some ⟨h.next,0,0,0,1⟩) (splitAt 59 s).length (splitAt 59 s).length) (h.hp [] [eH ((splitAt 59 s).map o.str) 0]) [k=[59],s.length<2^40])
 |_=>none
noncomputable def XW:e9:=(pE.add 157 Ns).add 156 Gp
theorem XX:∀args h a,Gp args h=some a→a.dr Tryz.prog aw 156 args h:=by
 intro args h a e;unfold Gp at e;split at e<;>first|(cases e;done)|skip
 simp only [Option.some.injEq]at e;subst e;intro ac;rw [ac.head];exact XU _ ac.tail.head h
theorem xz:eP Tryz.prog aw XW:=(c7.add XV).add XX
abbrev l4(m:Nat):o:=o.slice (some ⟨9,0,0,0,1⟩) m m
theorem Nt(w:Bytes)(m C x:Nat)(ws:List o)(ab:dj→bT→j→Prop)(aY:((C:Int)<(m:Int)→(0≤(C:Int)∧(C:Int)<(m:Int))∧cj env.D 9 ⟨9,0,0+Int.toNat (C:Int),0,1⟩ (j.au 14 [(9,(J.made (ws) 1 true))])=some (o.str w)∧(w=[]→ab .ret [(2,.slice none 0 0),(3,.bool false),(4,.slice none 0 0),(12,(l4 m)),(13,.int .i64 (m:Int)),(14,.int .i64 (C:Int))] (j.au 28 [(9,(J.made (ws) 1 true))]))∧(¬w=[]→(9<(↑(List.length w):Int)→ab .ret [(2,.slice none 0 0),(3,.bool false),(4,.slice none 0 0),(12,(l4 m)),(13,.int .i64 (m:Int)),(14,.int .i64 (C:Int))] (j.au 28 [(9,(J.made (ws) 1 true))]))∧(¬9<(↑(List.length w):Int)→ [(48:UInt8),(49:UInt8),(50:UInt8),(51:UInt8),(52:UInt8),(53:UInt8),(54:UInt8),(55:UInt8),(56:UInt8),(57:UInt8)]=[(48:UInt8),(49:UInt8),(50:UInt8),(51:UInt8),(52:UInt8),(53:UInt8),(54:UInt8),(55:UInt8),(56:UInt8),(57:UInt8)]∧List.length w<1099511627776∧(Lib.trimS w mS=[]→cW Tryz.prog aw 55 [.str w] (j.au 33 [(9,(J.made (ws) 1 true))]) (.tuple [.int .i64 (x:Int),o.nilIface]) (j.au 33 [(9,(J.made (ws) 1 true))])∧(-9223372036854775808≤(C:Int)+1∧(C:Int)+1≤9223372036854775807)∧ab .normal [(4,.slice (some ⟨36,0,0,0,1⟩) 1 1),(12,(l4 m)),(13,.int .i64 (m:Int)),(14,.int .i64 ((C:Int)+1))] (j.au 40 [(9,(J.made (ws) 1 true)),(35,J.made [.int .i64 (x:Int)] 1 true),(36,J.made [.int .i64 (x:Int)] 1 false (some (3,0)))]))∧(¬Lib.trimS w mS=[]→ab .ret [(2,.slice none 0 0),(3,.bool false),(4,.slice none 0 0),(12,(l4 m)),(13,.int .i64 (m:Int)),(14,.int .i64 (C:Int))] (j.au 28 [(9,(J.made (ws) 1 true))])))))∧(¬(C:Int)<(m:Int)→ab (.exit 0) [(4,.slice none 0 0),(12,(l4 m)),(13,.int .i64 (m:Int)),(14,.int .i64 (C:Int))] (j.au 11 [(9,(J.made (ws) 1 true))]))) :
 ∃e bb p,cP Tryz.prog aw 0 41 (c4 Tryz.prog 148 0) [(4,.slice none 0 0),(12,.slice (some ⟨9,0,0,0,1⟩) m m),(13,.int .i64 m),(14,.int .i64 C)] (j.rows 10 [(9,eH ws 0)]) e bb p∧ab e bb p :=
 hI bU mixed xz (aq:= .aN 5000 (ah 6000 (.aA (.val 6001 (.str w)) (.aN 7001 .nil (.aN 7005 .nil (.aN 7010 (.aA (.val 9001 (.tuple [.int .i64 (x:Int),o.nilIface])) (ah 11000 .nil)) .nil))))) .nil) (cN:=[2,3,4,12,13,14]) (by kernel_rfl) aY
abbrev p2(v:Nat)(f:Nat)(l:List o):J:=⟨l,1,false,false,v,0,f,some (3,0)⟩
theorem Gq(w:Bytes)(m C x v f n:Nat)(ws l:List o)(ab:dj→bT→j→Prop)(aY:((C:Int)<(m:Int)→(0≤(C:Int)∧(C:Int)<(m:Int))∧cj env.D 9 ⟨9,0,0+Int.toNat (C:Int),0,1⟩ (j.au 64 [(9,(J.made (ws) 1 true)),(50,(p2 v f l))])=some (o.str w)∧(w=[]→ab .ret [(2,.slice none 0 0),(3,.bool false),(4,.slice (some ⟨50,v,0,0,1⟩) n n),(12,(l4 m)),(13,.int .i64 (m:Int)),(14,.int .i64 (C:Int))] (j.au 78 [(9,(J.made (ws) 1 true)),(50,(p2 v f l))]))∧(¬w=[]→(9<(↑(List.length w):Int)→ab .ret [(2,.slice none 0 0),(3,.bool false),(4,.slice (some ⟨50,v,0,0,1⟩) n n),(12,(l4 m)),(13,.int .i64 (m:Int)),(14,.int .i64 (C:Int))] (j.au 78 [(9,(J.made (ws) 1 true)),(50,(p2 v f l))]))∧(¬9<(↑(List.length w):Int)→ [(48:UInt8),(49:UInt8),(50:UInt8),(51:UInt8),(52:UInt8),(53:UInt8),(54:UInt8),(55:UInt8),(56:UInt8),(57:UInt8)]=[(48:UInt8),(49:UInt8),(50:UInt8),(51:UInt8),(52:UInt8),(53:UInt8),(54:UInt8),(55:UInt8),(56:UInt8),(57:UInt8)]∧List.length w<1099511627776∧(Lib.trimS w mS=[]→cW Tryz.prog aw 55 [.str w] (j.au 83 [(9,(J.made (ws) 1 true)),(50,(p2 v f l))]) (.tuple [.int .i64 (x:Int),o.nilIface]) (j.au 83 [(9,(J.made (ws) 1 true)),(50,(p2 v f l))])∧(v=v∧0+n=List.length l∧n<n+1∧(n+1+(n+1)/4+512)*8≤281474976710656∧n+1<4611686018427387904)∧(-9223372036854775808≤(C:Int)+1∧(C:Int)+1≤9223372036854775807)∧ab .normal [(4,.slice (some {id:=50,R:=v+1,idx:=0,bP:=0,es:=1}) (n+1) (n+1)),(12,(l4 m)),(13,.int .i64 (m:Int)),(14,.int .i64 ((C:Int)+1))] (j.au 90 [(9,(J.made (ws) 1 true)),(50,⟨l++[.int .i64 (x:Int)],1,false,false,v+1,0,if 0=v then List.length l else min f (List.length l),some (3,0)⟩),(85,J.made [.int .i64 (x:Int)] 1 true)]))∧(¬Lib.trimS w mS=[]→ab .ret [(2,.slice none 0 0),(3,.bool false),(4,.slice (some ⟨50,v,0,0,1⟩) n n),(12,(l4 m)),(13,.int .i64 (m:Int)),(14,.int .i64 (C:Int))] (j.au 78 [(9,(J.made (ws) 1 true)),(50,(p2 v f l))])))))∧(¬(C:Int)<(m:Int)→ab (.exit 0) [(4,.slice (some ⟨50,v,0,0,1⟩) n n),(12,(l4 m)),(13,.int .i64 (m:Int)),(14,.int .i64 (C:Int))] (j.au 61 [(9,(J.made (ws) 1 true)),(50,(p2 v f l))]))) :
 ∃e bb p,cP Tryz.prog aw 0 41 (c4 Tryz.prog 148 0) [(4,.slice (some ⟨50,v,0,0,1⟩) n n),(12,.slice (some ⟨9,0,0,0,1⟩) m m),(13,.int .i64 m),(14,.int .i64 C)] (j.rows 60 [(9,eH ws 0),(50,AU l v f)]) e bb p∧ab e bb p :=
 hI bU mixed xz (aq:= .aN 5000 (ah 6000 (.aA (.val 6001 (.str w)) (.aN 7001 .nil (.aN 7005 .nil (.aN 7010 (.aA (.val 9001 (.tuple [.int .i64 (x:Int),o.nilIface])) (ah 10003 (ah 11000 .nil))) .nil))))) .nil) (cN:=[2,3,4,12,13,14]) (by kernel_rfl) aY
theorem XY(ab:o→j→Prop)(aY:ab (.tuple [.slice none 0 0,.bool true]) (j.au 6 [])) :
 ∃v p,aI Tryz.prog aw 148 [.str []] (⟨0,.nil⟩) v p∧ab v p :=
 cf bU mixed xz (aq:= .nil) (by kernel_rfl) aY
theorem XZ(s:Bytes)(dS e' fp Nu:o)(aa:j)(ab:o→j→Prop)(aY:(s=[]→ab (.tuple [.slice none 0 0,.bool true]) (j.au 6 []))∧(¬s=[]→ [(59:UInt8)]=[(59:UInt8)]∧List.length s<1099511627776∧cP Tryz.prog aw 0 41 (Code.loop (c4 Tryz.prog 148 0)) [(4,.slice none 0 0),(12,.slice (some ⟨9,0,0,0,1⟩) (List.length (splitAt 59 s)) (List.length (splitAt 59 s))),(13,.int .i64 (↑(List.length (splitAt 59 s)):Int)),(14,.int .i64 0)] (j.hp (j.au 9 []) [] [(J.made (List.map .str (splitAt 59 s)) 1 true)]) (.exit 0) [(4,dS),(12,Nu),(13,fp),(14,e')] aa∧ab (.tuple [dS,.bool true]) (j.mk (aa.next+3) (j.aT aa)))) :
 ∃v p,aI Tryz.prog aw 148 [.str s] (⟨0,.nil⟩) v p∧ab v p :=
 cf bU mixed xz (aq:= .aN 1001 .nil (.aA (.cN [4,12,13,14]) (.aA (.loop [(4,dS),(12,Nu),(13,fp),(14,e')] aa (.exit 0)) .nil))) (by kernel_rfl) aY
theorem X0(s:Bytes)(aa:j)(ab:o→j→Prop)(aY:(s=[]→ab (.tuple [.slice none 0 0,.bool true]) (j.au 6 []))∧(¬s=[]→ [(59:UInt8)]=[(59:UInt8)]∧List.length s<1099511627776∧cP Tryz.prog aw 0 41 (Code.loop (c4 Tryz.prog 148 0)) [(4,.slice none 0 0),(12,.slice (some ⟨9,0,0,0,1⟩) (List.length (splitAt 59 s)) (List.length (splitAt 59 s))),(13,.int .i64 (↑(List.length (splitAt 59 s)):Int)),(14,.int .i64 0)] (j.hp (j.au 9 []) [] [(J.made (List.map .str (splitAt 59 s)) 1 true)]) .ret [(2,.slice none 0 0),(3,.bool false)] aa∧ab (.tuple [.slice none 0 0,.bool false]) aa)) :
 ∃v p,aI Tryz.prog aw 148 [.str s] (⟨0,.nil⟩) v p∧ab v p :=
 cf bU mixed xz (aq:= .aN 1001 .nil (.aA (.cN [4,12,13,14]) (.aA (.loop [(2,.slice none 0 0),(3,.bool false)] aa .ret) .nil))) (by kernel_rfl) aY
theorem Nv{h:j}{b:J}{id i:Nat}{w:Bytes}(ah:h.get id=some b)(he:b.elem? 0 i=some (.str w)):cj (b4.D env) 9 ⟨id,0,i,0,1⟩ h=some (.str w):=by
 have b5:(b4.D env 9).map (fun d=>d.kind.isAgg)=some false:=by kernel_rfl
 obtain⟨d,p,ae⟩:=Option.map_eq_some_iff.1 b5;unfold cj;rw [p,ah];simp only [he,iR,ae,Bool.false_eq_true,if_false,if_true]
theorem Nw{ws:List Bytes}{C:Nat}(h:C<ws.length):(eH (ws.map o.str) 0).elem? 0 C=some (.str ws[C]):=by simp [J.elem?,J.cE,h]
def bL(l:List Nat):List o:=l.map fun(n:Nat)=>o.int .i64 n
theorem Nx(l:List Nat):(bL l).length=l.length:=by simp [bL]
theorem Gr(l:List Nat):∀e∈bL l,cT e:=cT.ints l .i64 fun(n:Nat)=>(n:Int)
theorem Gs(ws:List Bytes):dt (eH (ws.map o.str) 0):=by intro e he;obtain⟨w,_,rfl⟩:=List.mem_map.1 he;exact cT.str w
abbrev jx(l:List Nat):J:=AU (bL l) (l.length-1) (jS l.length)
abbrev kY(l m C:Nat):bT:=[(4,.slice (some ⟨50,l-1,0,0,1⟩) l l),(12,.slice (some ⟨9,0,0,0,1⟩) m m),(13,.int .i64 (m:Nat)),(14,.int .i64 (C:Nat))]
theorem Gt{K:List Nat}{i v U l c e:Nat}(h:i∈K):cv (Go.cH.cB K) (.slice (some ⟨i,v,U,0,e⟩) l c):=h
theorem Ny{l m C k:Nat}{h:j}{cX B:J}(ao:k≠9)(d':dt cX)(c1:dt B)(bm:h.get 9=some cX)(ah:h.get k=some B) :
 e0 0 41 [(4,.slice (some ⟨k,l-1,0,0,1⟩) l l),(12,.slice (some ⟨9,0,0,0,1⟩) m m),(13,.int .i64 (m:Nat)),(14,.int .i64 (C:Nat))] h (kY l m C) (j.rows 60 [(9,cX),(50,B)]):=by
 refine e0.move (K:=60) (l:=[(9,cX),(50,B)]) (fun i=>if i=9 then 9 else k) ?_ rfl ?_ rfl rfl ?_ rfl ?_ ?_
 ·simp [bm,ah,d'.bc,c1.bc]
 ·simp;exact fun e=>ao e.symm
 ·simp [o.bc,bH.bc]
 ·exact b0.cons (Gt (by simp)) (b0.cons (Gt (by simp)) (b0.cons trivial (b0.cons trivial b0.nil)))
 ·exact b0.cons (fun e he=>(d' e he).e2 _) (b0.cons (fun e he=>(c1 e he).e2 _) b0.nil)
abbrev xA:bT:=[(2,.slice none 0 0),(3,.bool false)]
theorem AV(w:Bytes):jW w=true↔w≠[]∧w.length≤9∧w.all digit=true:=by unfold jW;simp only [Bool.not_eq_true',Bool.or_eq_false_iff,decide_eq_false_iff_not,beq_eq_false_iff_ne,ne_eq,Bool.not_eq_false,Nat.not_lt,and_assoc]
theorem Nz{a b c d:o}{n:Nat}{h:j} :e0 0 n [(2,o.slice none 0 0),(3,o.bool false),(4,a),(12,b),(13,c),(14,d)] h xA h :=
 e0.facts (by
  intro C u hu;rw [kS]at hu;split at hu
  ·rename_i aX;subst aX;rw [←hu];rfl
  ·rw [kS]at hu;split at hu
   ·rename_i aX;subst aX;rw [←hu];rfl
   ·cases hu)
theorem X1(ws:List Bytes)(L:List Nat)(C:Nat)(aX:C<ws.length)(aB:L.length<2^40)(p:1≤L.length)(hw:ws[C].length<2^40)(hm:ws.length<2^40) :
 (jW ws[C]=true→ ∃aa,cP Tryz.prog aw 0 41 (c4 Tryz.prog 148 0) (kY L.length ws.length C) (j.rows 60 [(9,eH (ws.map o.str) 0),(50,jx L)]) .normal (kY (L++[number ws[C]]).length ws.length (C+1)) aa∧aa.get 9=some (eH (ws.map o.str) 0)∧aa.get 50=some (jx (L++[number ws[C]]))) ∧
 (jW ws[C]=false→ ∃aa,cP Tryz.prog aw 0 41 (c4 Tryz.prog 148 0) (kY L.length ws.length C) (j.rows 60 [(9,eH (ws.map o.str) 0),(50,jx L)]) .ret xA aa):=by
 have ks:0+Int.toNat (C:Int)=C:=by simp
 have hF:((C:Int)+1)=((C+1:Nat):Int):=by omega
 have mu:∀n:Nat,cj (b4.D env) 9 ⟨9,0,0+Int.toNat (C:Int),0,1⟩ (j.au n [(9,eH (ws.map o.str) 0),(50,AU (bL L) (L.length-1) (jS L.length))])=some (.str ws[C]):=fun n=>by rw [ks];exact Nv (b:=eH (ws.map o.str) 0) (by kernel_rfl) (Nw aX)
 refine⟨fun ok=> ?_,fun bad=> ?_⟩
 ·obtain⟨bo,Gu,wd⟩:=(AV _).1 ok;have ia:(L++[number ws[C]]).length=L.length+1:=by simp
  obtain⟨e,bb,ae,be,rfl,rfl,bE,l2⟩:=Gq ws[C] ws.length C (number ws[C]) (L.length-1) (jS L.length) L.length (ws.map o.str) (bL L) (fun e bb ae=>e=.normal∧bb=kY (L.length+1) ws.length (C+1)∧ae.get 9=some (eH (ws.map o.str) 0)∧ae.get 50=some (jx (L++[number ws[C]]))) (by
   delta p2 l4
   refine⟨fun _=>⟨⟨by omega,by omega⟩,mu _,fun h=>absurd h bo,fun _=>⟨fun h=>by omega,fun _=>⟨rfl,hw,fun _=>⟨⟨Nj _ (by omega) _ (Ni bo wd) _⟩,⟨rfl,by rw [Nx];omega,by omega,by omega,by omega⟩,⟨by omega,by omega⟩,rfl,?_,rfl,?_⟩,fun h=>absurd ((AT _).2 wd) h⟩⟩⟩,fun h=>by omega⟩
   ·unfold kY;rw [hF,show L.length+1-1=L.length-1+1 by omega]
   ·have bu:bL (L++[number ws[C]])=bL L++[o.int .i64 (number ws[C]:Nat)]:=by simp [bL]
    have bC:(L++[number ws[C]]).length-1=L.length-1+1:=by simp;omega
    have b2:jS (L++[number ws[C]]).length=if 0=L.length-1 then(bL L).length else min (jS L.length) (bL L).length:=by
     rw [Nx,ia];unfold jS;by_cases dJ:L.length=1
     ·rw [if_neg (by omega),if_pos (by omega)];omega
     ·rw [if_neg (by omega),if_neg (by omega),if_neg dJ];omega
    show some _=some (AU _ _ _)
    rw [bu,bC,b2])
  exact⟨ae,by rw [ia];exact be,bE,l2⟩
 ·obtain⟨e,bb,ae,be,rfl,a6⟩:=Gq ws[C] ws.length C (number ws[C]) (L.length-1) (jS L.length) L.length (ws.map o.str) (bL L) (fun e bb ae=>e=.ret∧bb=[(2,o.slice none 0 0),(3,o.bool false),(4,o.slice (some ⟨50,L.length-1,0,0,1⟩) L.length L.length),(12,o.slice (some ⟨9,0,0,0,1⟩) ws.length ws.length),(13,o.int .i64 ws.length),(14,o.int .i64 C)]) (by
   delta p2 l4
   refine⟨fun _=>⟨⟨by omega,by omega⟩,mu _,fun h=>⟨rfl,rfl⟩,fun bo=>⟨fun h=>⟨rfl,rfl⟩,fun Gu=>⟨rfl,hw,fun h=> ?_,fun h=>⟨rfl,rfl⟩⟩⟩⟩,fun h=>by omega⟩;have:=(AV ws[C]).2 ⟨bo,by omega,(AT _).1 h⟩
   rw [this]at bad;cases bad)
  subst a6;exact⟨ae,be.post Nz⟩
theorem X2(ws:List Bytes)(aX:0<ws.length)(hw:ws[0].length<2^40)(hm:ws.length<2^40) :
 (jW ws[0]=true→ ∃aa k,k≠9∧cP Tryz.prog aw 0 41 (c4 Tryz.prog 148 0) [(4,.slice none 0 0),(12,.slice (some ⟨9,0,0,0,1⟩) ws.length ws.length),(13,.int .i64 ws.length),(14,.int .i64 (0:Nat))] (j.rows 10 [(9,eH (ws.map o.str) 0)]) .normal [(4,.slice (some ⟨k,1-1,0,0,1⟩) 1 1),(12,.slice (some ⟨9,0,0,0,1⟩) ws.length ws.length),(13,.int .i64 ws.length),(14,.int .i64 (0+1:Nat))] aa∧aa.get 9=some (eH (ws.map o.str) 0)∧aa.get k=some (jx [number ws[0]])) ∧
 (jW ws[0]=false→ ∃aa,cP Tryz.prog aw 0 41 (c4 Tryz.prog 148 0) [(4,.slice none 0 0),(12,.slice (some ⟨9,0,0,0,1⟩) ws.length ws.length),(13,.int .i64 ws.length),(14,.int .i64 (0:Nat))] (j.rows 10 [(9,eH (ws.map o.str) 0)]) .ret xA aa):=by
 have ks:0+Int.toNat ((0:Nat):Int)=0:=by simp
 have mu:∀n:Nat,cj (b4.D env) 9 ⟨9,0,0+Int.toNat ((0:Nat):Int),0,1⟩ (j.au n [(9,eH (ws.map o.str) 0)])=some (.str ws[0]):=fun n=>by rw [ks];exact Nv (b:=eH (ws.map o.str) 0) (by kernel_rfl) (Nw aX)
 refine⟨fun ok=> ?_,fun bad=> ?_⟩
 ·obtain⟨bo,Gu,wd⟩:=(AV _).1 ok
  obtain⟨e,bb,ae,be,rfl,k,ao,rfl,bE,l2⟩:=Nt ws[0] ws.length 0 (number ws[0]) (ws.map o.str) (fun e bb ae=>e=.normal∧∃k,k≠9∧bb=[(4,.slice (some ⟨k,1-1,0,0,1⟩) 1 1),(12,.slice (some ⟨9,0,0,0,1⟩) ws.length ws.length),(13,.int .i64 ws.length),(14,.int .i64 (0+1:Nat))]∧ae.get 9=some (eH (ws.map o.str) 0)∧ae.get k=some (jx [number ws[0]]))
   ⟨fun _=>⟨⟨by omega,by omega⟩,mu _,fun h=>absurd h bo,fun _=>⟨fun h=>by omega,fun _=>⟨rfl,hw,fun _=>⟨⟨Nj _ (by omega) _ (Ni bo wd) _⟩,⟨by omega,by omega⟩,rfl,_,(by decide),rfl,rfl,rfl⟩,fun h=>absurd ((AT _).2 wd) h⟩⟩⟩,fun h=>by omega⟩
  exact⟨ae,k,ao,be,bE,l2⟩
 ·obtain⟨e,bb,ae,be,rfl,a6⟩:=Nt ws[0] ws.length 0 (number ws[0]) (ws.map o.str) (fun e bb ae=>e=.ret∧bb=[(2,o.slice none 0 0),(3,o.bool false),(4,o.slice none 0 0),(12,o.slice (some ⟨9,0,0,0,1⟩) ws.length ws.length),(13,o.int .i64 ws.length),(14,o.int .i64 (0:Nat))]) (by
   delta l4
   refine⟨fun _=>⟨⟨by omega,by omega⟩,mu _,fun h=>⟨rfl,rfl⟩,fun bo=>⟨fun h=>⟨rfl,rfl⟩,fun Gu=>⟨rfl,hw,fun h=> ?_,fun h=>⟨rfl,rfl⟩⟩⟩⟩,fun h=>by omega⟩;have:=(AV ws[0]).2 ⟨bo,by omega,(AT _).1 h⟩
   rw [this]at bad;cases bad)
  subst a6;exact⟨ae,be.post Nz⟩
theorem X3(ws:List Bytes)(hw:∀w∈ws,w.length<2^40)(hm:ws.length<2^40):∀(k C:Nat),ws.length-C≤k→C≤ws.length→1≤C →
 ((∀w∈ws.drop C,jW w=true)→ ∃aa,db Tryz.prog aw 0 41 (c4 Tryz.prog 148 0) (kY ((ws.take C).map number).length ws.length C) (j.rows 60 [(9,eH (ws.map o.str) 0),(50,jx ((ws.take C).map number))]) (.exit 0) (kY ws.length ws.length ws.length) aa∧aa.get 50=some (jx (ws.map number))) ∧
 ((∃w∈ws.drop C,jW w=false)→ ∃aa,db Tryz.prog aw 0 41 (c4 Tryz.prog 148 0) (kY ((ws.take C).map number).length ws.length C) (j.rows 60 [(9,eH (ws.map o.str) 0),(50,jx ((ws.take C).map number))]) .ret xA aa):=by
 intro k
 have fin:∀h:(∀w∈ws.drop ws.length,jW w=true),∃aa,db Tryz.prog aw 0 41 (c4 Tryz.prog 148 0) (kY ((ws.take ws.length).map number).length ws.length ws.length) (j.rows 60 [(9,eH (ws.map o.str) 0),(50,jx ((ws.take ws.length).map number))]) (.exit 0) (kY ws.length ws.length ws.length) aa∧aa.get 50=some (jx (ws.map number)):=by intro _;rw [List.take_length];obtain⟨e,bb,ae,be,rfl,rfl,ah⟩:=Gq [] ws.length ws.length 0 ((ws.map number).length-1) (jS (ws.map number).length) (ws.map number).length (ws.map o.str) (bL (ws.map number)) (fun e bb ae=>e=.exit 0∧bb=kY (ws.map number).length ws.length ws.length∧ae.get 50=some (jx (ws.map number))) ⟨fun h=>by omega,fun _=>⟨rfl,rfl,rfl⟩⟩;have el:(ws.map number).length=ws.length:=List.length_map _;refine⟨ae,db.last (by simp) ?_,ah⟩;rw [show kY ws.length ws.length ws.length=kY (ws.map number).length ws.length ws.length by rw [el]];exact be
 induction k with
 |zero =>
  intro C ao aX p;obtain rfl:C=ws.length:=by omega
  exact⟨fin,fun⟨w,hw,_⟩=>by simp at hw⟩
 |succ k ih =>
  intro C ao aX p;by_cases ar:C<ws.length
  ·have b7:(ws.take (C+1)).map number=(ws.take C).map number++[number ws[C]]:=by rw [List.take_succ_eq_append_getElem ar,List.map_append];rfl
   have aD:ws.drop C=ws[C]::ws.drop (C+1):=List.drop_eq_getElem_cons ar;have kl:((ws.take C).map number).length=C:=by rw [List.length_map,List.length_take];omega
   obtain⟨fM,jE⟩:=X1 ws ((ws.take C).map number) C ar (by omega) (by omega) (hw _ (List.getElem_mem ar)) hm;obtain⟨i1,i2⟩:=ih (C+1) (by omega) (by omega) (by omega);rw [b7]at i1 i2;cases aC:jW ws[C]with
   |false =>
    refine⟨fun h=> ?_,fun _=> ?_⟩
    ·have:=h ws[C] (by rw [aD];exact List.mem_cons_self);rw [aC]at this;cases this
    ·obtain⟨aa,be⟩:=jE aC;exact⟨aa,db.last (by simp) be⟩
   |true =>
    obtain⟨ae,be,bE,l2⟩:=fM aC;have xB:=Ny (l:=((ws.take C).map number++[number ws[C]]).length) (m:=ws.length) (C:=C+1) (k:=50) (by decide) (Gs ws) (B:=jx ((ws.take C).map number++[number ws[C]])) (Gr _) bE l2;refine⟨fun h=> ?_,fun⟨w,ov,av⟩=> ?_⟩
    ·obtain⟨aa,aB,ah⟩:=i1 (fun w ov=>h w (by rw [aD];exact List.mem_cons_of_mem _ ov));exact⟨aa,db.step (be.post xB) aB,ah⟩
    ·rw [aD]at ov;rcases List.mem_cons.1 ov with rfl|ov
     ·rw [aC]at av;cases av
     ·obtain⟨aa,aB⟩:=i2 ⟨w,ov,av⟩;exact⟨aa,db.step (be.post xB) aB⟩
  ·obtain rfl:C=ws.length:=by omega
   exact⟨fin,fun⟨w,hw,_⟩=>by simp at hw⟩
theorem Gv(c:UInt8):∀(s:Bytes),∀w∈splitAt c s,w.length≤s.length
 |[],w,h=>by simp [splitAt]at h;simp [h]
 |b ::r,w,h=>by
  unfold splitAt at h;split at h
  ·rcases List.mem_cons.1 h with rfl|h
   ·simp
   ·have:=Gv c r w h;simp only [List.length_cons];omega
  ·cases aq:splitAt c r with
   |nil=>exact absurd aq (Gj c r)
   |cons x t =>
    rw [aq]at h;have ih:=Gv c r;rw [aq]at ih;rcases List.mem_cons.1 h with rfl|h
    ·have:=ih x List.mem_cons_self;simp only [List.length_cons];omega
    ·have:=ih w (List.mem_cons_of_mem _ h);simp only [List.length_cons];omega
theorem aI.X4{f:FuncId}{args:List o}{aa:j}{C es n c R:Nat}{b:Bool}{gv:J}(k:aI Tryz.prog aw f args ⟨0,.nil⟩ (.tuple [.slice (some ⟨C,R,0,0,es⟩) n c,.bool b]) aa)(t':dt gv)(fb:aa.get C=some gv)(aS:∀a∈args,cT a)(H:j) :
 aI Tryz.prog aw f args H (.tuple [.slice (some ⟨H.next,R,0,0,es⟩) n c,.bool b]) (H.hp [] [gv]):=by
 have bE:aI Tryz.prog aw f args (j.of []) (.tuple [.slice (some ⟨C,R,0,0,es⟩) n c,.bool b]) aa:=k;have aL:=bE.fin [C] [gv] (.tuple [.slice (some ⟨0,R,0,0,es⟩) n c,.bool b]) (fun b av=>by rw [List.mem_singleton.1 av];exact t') rfl (by simp [gu,fb]) (by simp [o.bc,o.gz,bH.bc,gu]) (by simp [cv,fo]) (by simp) (by simp);have hl:fo (fun i=>i<([]:List J).length) args:=qK.2 fun a h=>(aS a h).e2 _
 have aQ:=aL.KF (l:=[]) (ci:=[gv]) (fun b av=>by cases av) (fun b av=>by rw [List.mem_singleton.1 av];exact t') hl (H:=H) [] List.nodup_nil (fun C aX=>by cases aX) rfl
 have bu:args.map (o.bc (dH [] H.next))=args:=by
  conv=>rhs;rw [←List.map_id args]
  exact List.map_congr_left fun a h=>(aS a h).1 _
 rw [bu]at aQ;simpa [o.bc,o.gz,bH.bc,dH]using aQ
theorem NA(ws:List Bytes)(n:Nat):e0 0 41 [(4,.slice none 0 0),(12,.slice (some ⟨9,0,0,0,1⟩) n n),(13,.int .i64 n),(14,.int .i64 (0:Nat))] (j.hp (j.au 9 []) [] [eH (ws.map o.str) 0]) [(4,.slice none 0 0),(12,.slice (some ⟨9,0,0,0,1⟩) n n),(13,.int .i64 n),(14,.int .i64 (0:Nat))] (j.rows 10 [(9,eH (ws.map o.str) 0)]) :=
 e0.drop (K:=10) (l:=[(9,eH (ws.map o.str) 0)]) (by kernel_rfl) rfl rfl rfl (b0.cons trivial (b0.cons (Gt (by simp)) (b0.cons trivial (b0.cons trivial b0.nil)))) (b0.cons (fun e he=>(Gs ws e he).e2 _) b0.nil)
theorem uN(w:Bytes)(hw:w.length<2^38)(H:j) :
 (Keys.numbers w=none→aI Tryz.prog aw 148 [.str w] H (.tuple [.slice none 0 0,.bool false]) H) ∧
 (Keys.numbers w=some []→aI Tryz.prog aw 148 [.str w] H (.tuple [.slice none 0 0,.bool true]) H) ∧
 (∀l,l≠[]→Keys.numbers w=some l→aI Tryz.prog aw 148 [.str w] H (.tuple [.slice (some ⟨H.next,l.length-1,0,0,1⟩) l.length l.length,.bool true]) (H.hp [] [jx l])):=by
 by_cases AW:w=[]
 ·subst AW;have aM:Keys.numbers []=some []:=rfl;refine⟨(fun h=>by rw [aM]at h;cases h),fun _=> ?_,(fun l aB h=>by rw [aM]at h;simp only [Option.some.injEq]at h;exact absurd h.symm aB)⟩;exact aI.fk (XY (fun v _=>v=.tuple [.slice none 0 0,.bool true]) rfl) rfl rfl H
 ·have aM :Keys.numbers w=mG (splitAt 59 w):=by unfold Keys.numbers;rw [if_neg AW]
  have hlen:=Gk 59 w;have afb:w.count 59≤w.length:=List.count_le_length;have hT:=Gv 59 w;generalize r8:splitAt 59 w=ws at aM hlen hT;have ii:0<ws.length:=by omega
  have hm:ws.length<2^40:=by omega
  have NB:∀x∈ws,x.length<2^40:=fun x af=>by have:=hT x af;omega
  obtain⟨fM,jE⟩:=X2 ws ii (NB _ (List.getElem_mem ii)) hm;obtain⟨eC,ci⟩:=X3 ws NB hm ws.length 1 (by omega) (by omega) (by omega)
  have t1:(ws.take 1).map number=[number ws[0]]:=by
   cases ws with
   |nil=>simp at ii
   |cons x r=>rfl
  rw [t1]at eC ci
  have X5:ws=ws[0]::ws.drop 1:=by
   cases ws with
   |nil=>simp at ii
   |cons x r=>rfl
  have key:∀(ae:j)(k:Nat),k≠9→ae.get 9=some (eH (ws.map o.str) 0)→ae.get k=some (jx [number ws[0]])→e0 0 41 [(4,.slice (some ⟨k,1-1,0,0,1⟩) 1 1),(12,.slice (some ⟨9,0,0,0,1⟩) ws.length ws.length),(13,.int .i64 ws.length),(14,.int .i64 (0+1:Nat))] ae (kY [number ws[0]].length ws.length 1) (j.rows 60 [(9,eH (ws.map o.str) 0),(50,jx [number ws[0]])]) :=
   fun ae k ao bE l2=>Ny (l:=1) ao (Gs ws) (B:=jx [number ws[0]]) (Gr _) bE l2
  by_cases j5:∀x∈ws,jW x=true
  ·have iN:Keys.numbers w=some (ws.map number):=by rw [aM,Nc j5]
   have bZ:ws.map number≠[]:=by intro h;have:=congrArg List.length h;simp at this;rw [this]at ii;simp at ii
   refine⟨(fun h=>by rw [iN]at h;cases h),(fun h=>by rw [iN]at h;simp only [Option.some.injEq]at h;exact absurd h bZ),fun l aB h=> ?_⟩;rw [iN]at h;simp only [Option.some.injEq]at h;subst h;obtain⟨ae,k,ao,be,bE,l2⟩:=fM (j5 _ (List.getElem_mem ii));obtain⟨aa,ot,ah⟩:=eC (fun x af=>j5 x (List.mem_of_mem_drop af));have dG:=cP.h' ((db.step (be.post (key ae k ao bE l2)) ot).pre (NA ws ws.length));obtain⟨v,bg,aD,rfl,nP⟩:=XZ w (.slice (some ⟨50,ws.length-1,0,0,1⟩) ws.length ws.length) (.int .i64 ws.length) (.int .i64 ws.length) (.slice (some ⟨9,0,0,0,1⟩) ws.length ws.length) aa (fun v bg=>v=.tuple [.slice (some ⟨50,ws.length-1,0,0,1⟩) ws.length ws.length,.bool true]∧bg.get 50=some (jx (ws.map number))) (by rw [r8];exact⟨fun h=>absurd h AW,fun _=>⟨rfl,by omega,dG,rfl,ah⟩⟩);have:=aI.X4 aD (gv:=jx (ws.map number)) (Gr _) nP (fun a aS=>by rw [List.mem_singleton.1 aS];exact cT.str w) H
   rwa [List.length_map]
  ·have dq:∃x∈ws,jW x=false:=by
    apply Classical.byContradiction;intro h;apply j5;intro x af;cases aC:jW x with
    |true=>rfl
    |false=>exact absurd ⟨x,af,aC⟩ h
   have jH:Keys.numbers w=none:=by obtain⟨x,af,av⟩:=dq;obtain⟨a,b,e⟩:=List.append_of_mem af;rw [aM,e,Nd av]
   refine⟨fun _=> ?_,(fun h=>by rw [jH]at h;cases h),(fun l aB h=>by rw [jH]at h;cases h)⟩
   have dG:∃aa,db Tryz.prog aw 0 41 (c4 Tryz.prog 148 0) [(4,.slice none 0 0),(12,.slice (some ⟨9,0,0,0,1⟩) ws.length ws.length),(13,.int .i64 ws.length),(14,.int .i64 (0:Nat))] (j.rows 10 [(9,eH (ws.map o.str) 0)]) .ret xA aa:=by
    cases aC:jW ws[0]with
    |false =>
     obtain⟨aa,be⟩:=jE aC;exact⟨aa,db.last (by simp) be⟩
    |true =>
     obtain⟨ae,k,ao,be,bE,l2⟩:=fM aC;obtain⟨x,af,av⟩:=dq;rw [X5]at af;rcases List.mem_cons.1 af with rfl|af
     ·rw [aC]at av;cases av
     ·obtain⟨aa,ot⟩:=ci ⟨x,af,av⟩;exact⟨aa,db.step (be.post (key ae k ao bE l2)) ot⟩
   obtain⟨aa,dG⟩:=dG;exact aI.fk (X0 w aa (fun v _=>v=.tuple [.slice none 0 0,.bool false]) (by rw [r8];exact⟨fun h=>absurd h AW,fun _=>⟨rfl,by omega,cP.h' (dG.pre (NA ws ws.length)),rfl⟩⟩)) rfl rfl H
abbrev AX(l:List o)(v f:Nat):J:= {bi:=l,es:=1,exact:=false,ro:=false,R:=v,fQ:=0,gF:=f,an:=some (3,0)}
noncomputable def sT(U:Option (List Nat))(v:o)(rows:List J):List o→j→Option ev:=fun args h =>
 match args with
 |[.str w]=>some (.one v (h.hp [] rows) [Keys.numbers w=U,w.length<100])
 |_=>none
noncomputable def AY:List o→j→Option ev:=sT none (.tuple [.slice none 0 0,.bool false]) []
noncomputable def AZ:List o→j→Option ev:=sT (some []) (.tuple [.slice none 0 0,.bool true]) []
noncomputable def NC(a:Nat):List o→j→Option ev:=fun args h=>sT (some [a]) (.tuple [.slice (some ⟨h.next,0,0,0,1⟩) 1 1,.bool true]) [AX [.int .i64 a] 0 0] args h
noncomputable def ND(a b:Nat):List o→j→Option ev:=fun args h=>sT (some [a,b]) (.tuple [.slice (some ⟨h.next,1,0,0,1⟩) 2 2,.bool true]) [AX [.int .i64 a,.int .i64 b] 1 1] args h
noncomputable def NE(a b c:Nat):List o→j→Option ev:=fun args h=>sT (some [a,b,c]) (.tuple [.slice (some ⟨h.next,2,0,0,1⟩) 3 3,.bool true]) [AX [.int .i64 a,.int .i64 b,.int .i64 c] 2 1] args h
def NF:List o→j→Option ev:=kw fun a=>match a with | [.str s,.str k]=>some (.tuple [.str (s.drop 1),.bool (s.head? == some 60)],[k=[60],s.head? =some 60])|_=>none
def NG:List o→j→Option ev:=kw fun a=>match a with | [.str s,.str k]=>some (.tuple [.str s,.bool false],[k=[60],s.head? ≠some 60])|_=>none
noncomputable def A0(num:List o→j→Option ev):e9:=(pE.add 53 NF).add 148 num
noncomputable def X6(a b c:Nat):e9:=A0 (NE a b c)
noncomputable def X7:e9:=A0 AY
theorem A1:∀args h a,NF args h=some a→a.dr Tryz.prog aw 53 args h:=by
 refine ls ?_;intro args v eL e ac H;split at e<;>first|(cases e;done)|skip
 rename_i s k;simp only [Option.some.injEq,Prod.mk.injEq]at e;obtain⟨rfl,rfl⟩:=e;have p:k=[60]:=ac.head;have ae:s.head? =some 60:=ac.tail.head;subst p;have:=M' s [60] H
 have ac:([60]:Bytes).isPrefixOf s=true:=by
  cases s with
  |nil=>cases ae
  |cons b r=>simp only [List.head?_cons,Option.some.injEq]at ae;subst ae;simp [List.isPrefixOf]
 unfold sS at this;rw [ac]at this;simpa [ae]using this
theorem xC{U:Option (List Nat)}{v:j→o}{rows:List J}(k:∀(w:Bytes),w.length<100→Keys.numbers w=U→ ∀H,aI Tryz.prog aw 148 [.str w] H (v H) (H.hp [] rows)):∀args h a,sT U (v h) rows args h=some a→a.dr Tryz.prog aw 148 args h:=by
 intro args h a e;unfold sT at e;split at e<;>first|(cases e;done)|skip
 simp only [Option.some.injEq]at e;subst e;exact fun ac=>k _ ac.tail.head ac.head h
theorem Gw:∀args h a,AY args h=some a→a.dr Tryz.prog aw 148 args h:=xC (v:=fun _=> .tuple [.slice none 0 0,.bool false]) fun w hw h H=>(uN w (by omega) H).1 h
theorem Gx:∀args h a,AZ args h=some a→a.dr Tryz.prog aw 148 args h:=xC (v:=fun _=> .tuple [.slice none 0 0,.bool true]) fun w hw h H=>(uN w (by omega) H).2.1 h
theorem X8(x:Nat):∀args h a,NC x args h=some a→a.dr Tryz.prog aw 148 args h:=xC (v:=fun h=> .tuple [.slice (some ⟨h.next,0,0,0,1⟩) 1 1,.bool true]) fun w hw h H=>(uN w (by omega) H).2.2 [x] (by simp) h
theorem X9(x y:Nat):∀args h a,ND x y args h=some a→a.dr Tryz.prog aw 148 args h:=xC (v:=fun h=> .tuple [.slice (some ⟨h.next,1,0,0,1⟩) 2 2,.bool true]) fun w hw h H=>(uN w (by omega) H).2.2 [x,y] (by simp) h
theorem X'(x y z:Nat):∀args h a,NE x y z args h=some a→a.dr Tryz.prog aw 148 args h:=xC (v:=fun h=> .tuple [.slice (some ⟨h.next,2,0,0,1⟩) 3 3,.bool true]) fun w hw h H=>(uN w (by omega) H).2.2 [x,y,z] (by simp) h
noncomputable def xD(l:List Nat):List o→j→Option ev:=fun args h=>match args with
 |[.str w]=>some (.one (.tuple [.slice (some ⟨h.next,l.length-1,0,0,1⟩) l.length l.length,.bool true]) (h.hp [] [AX (bL l) (l.length-1) (jS l.length)]) [Keys.numbers w=some l,l≠[],w.length<100])
 |_=>none
theorem Gy(l:List Nat):∀args h a,xD l args h=some a→a.dr Tryz.prog aw 148 args h:=by
 intro args h a e;unfold xD at e;split at e<;>first|(cases e;done)|skip
 rename_i w;simp only [Option.some.injEq]at e;subst e;intro ac;exact(uN w (by have:=ac.tail.tail.head;omega) h).2.2 l ac.tail.head ac.head
noncomputable def Ya:e9:=A0 AZ
noncomputable def Yb(l:List Nat):e9:=A0 (xD l)
theorem Yc:eP Tryz.prog aw Ya:=(c7.add A1).add Gx
theorem Yd(l:List Nat):eP Tryz.prog aw (Yb l):=(c7.add A1).add (Gy l)
theorem Ye:eP Tryz.prog aw X7:=(c7.add A1).add Gw
theorem Yf(a b c:Nat):eP Tryz.prog aw (X6 a b c):=(c7.add A1).add (X' a b c)
theorem Gz:∀args h a,NG args h=some a→a.dr Tryz.prog aw 53 args h:=by
 refine ls ?_;intro args v eL e ac H;split at e<;>first|(cases e;done)|skip
 rename_i s k;simp only [Option.some.injEq,Prod.mk.injEq]at e;obtain⟨rfl,rfl⟩:=e;have p:k=[60]:=ac.head;have ae:s.head? ≠some 60:=ac.tail.head;subst p;have:=M' s [60] H
 have ac:([60]:Bytes).isPrefixOf s=false:=by
  cases s with
  |nil=>rfl
  |cons b r =>
   have av:¬(60:UInt8)=b:=fun e=>ae (by rw [←e];rfl)
   simp [List.isPrefixOf,av]
 unfold sS at this;rw [ac]at this;simpa using this
noncomputable def GA(num:List o→j→Option ev):e9:=(pE.add 53 NG).add 148 num
noncomputable def Yg:e9:=GA AY
noncomputable def Yh:e9:=GA AZ
noncomputable def Yi(l:List Nat):e9:=GA (xD l)
theorem Yj:eP Tryz.prog aw Yg:=(c7.add Gz).add Gw
theorem Yk:eP Tryz.prog aw Yh:=(c7.add Gz).add Gx
theorem Yl(l:List Nat):eP Tryz.prog aw (Yi l):=(c7.add Gz).add (Gy l)
theorem Ym(w:Bytes)(c:Int)(ab:o→j→Prop)(aY: [(60:UInt8)]=[(60:UInt8)]∧List.head? w=some (60:UInt8)∧((List.head? w == some 60)=true→numbers (List.drop 1 w)=none∧List.length (List.drop 1 w)<100∧ab (.tuple [da,.bool false]) (j.au 30 [(0,(J.made ([da]) 6 true (some (42,6))))]))∧((List.head? w == some 60)=false→numbers (List.drop 1 w)=none∧List.length (List.drop 1 w)<100∧ab (.tuple [da,.bool false]) (j.au 30 [(0,(J.made ([da]) 6 true (some (42,6))))]))) :
 ∃v p,aI Tryz.prog aw 147 [.str w,.int .u8 c] (⟨0,.nil⟩) v p∧ab v p :=
 cf bU mixed Ye (aq:= .aN 1004 .nil .nil) (by kernel_rfl) aY
abbrev GB:dh:=(.aN 16001 (.aN 16004 .nil (.aN 18001 (.aN 18004 .nil .nil) .nil)) (.aN 18001 (.aN 18004 .nil .nil) .nil))
abbrev p3(aj:Nat)(a1:Nat)(aP:Nat):J:=⟨[.int .i64 (aj:Int),.int .i64 (a1:Int),.int .i64 (aP:Int)],1,false,false,2,0,1,some (3,0)⟩
abbrev NH(aj:Nat)(a1:Nat)(aP:Nat):o:=o.agg [.int .i8 3,.int .i32 0,.int .u8 (bD .i64 (br .i64 (aj:Int) (28)) (2)),.int .i64 ((a1:Int)-1),.int .i64 ((aP:Int)-1),.str []]
abbrev A2(aj:Nat)(a1:Nat)(aP:Nat):o:=o.agg [.int .i8 3,.int .i32 3,.int .u8 (bD .i64 (br .i64 (aj:Int) (28)) (2)),.int .i64 ((a1:Int)-1),.int .i64 ((aP:Int)-1),.str []]
abbrev GC(aj:Nat)(a1:Nat)(aP:Nat):o:=o.agg [.int .i8 3,.int .i32 4,.int .u8 (bD .i64 (br .i64 (aj:Int) (28)) (2)),.int .i64 ((a1:Int)-1),.int .i64 ((aP:Int)-1),.str []]
abbrev GD(aj:Nat)(a1:Nat)(aP:Nat):o:=o.agg [.int .i8 3,.int .i32 5,.int .u8 (bD .i64 (br .i64 (aj:Int) (28)) (2)),.int .i64 ((a1:Int)-1),.int .i64 ((aP:Int)-1),.str []]
abbrev GF(aj:Nat)(a1:Nat)(aP:Nat):o:=o.agg [.int .i8 3,.int .i32 6,.int .u8 (bD .i64 (br .i64 (aj:Int) (28)) (2)),.int .i64 ((a1:Int)-1),.int .i64 ((aP:Int)-1),.str []]
abbrev A3(aj:Nat)(a1:Nat)(aP:Nat):o:=o.agg [.int .i8 3,.int .i32 (dO .i64 (aj:Int) (28)),.int .u8 (bD .i64 (br .i64 (aj:Int) (28)) (2)),.int .i64 ((a1:Int)-1),.int .i64 ((aP:Int)-1),.str []]
abbrev ez:o:=o.tuple [da,.bool false]
abbrev gB:J:=(J.made ([da]) 6 true (some (42,6)))
abbrev NI(aj:Nat)(a1:Nat)(aP:Nat):o:=o.tuple [(GC aj a1 aP),.bool true]
abbrev NJ(aj:Nat)(a1:Nat)(aP:Nat):o:=o.tuple [(GD aj a1 aP),.bool true]
abbrev GG(aj:Nat)(a1:Nat)(aP:Nat):J:=(J.made ([(NH aj a1 aP)]) 6 true (some (42,6)))
abbrev GH(aj:Nat)(a1:Nat)(aP:Nat):J:=(J.made ([(GC aj a1 aP)]) 6 true (some (42,6)))
abbrev GI(aj:Nat)(a1:Nat)(aP:Nat):J:=(J.made ([(GD aj a1 aP)]) 6 true (some (42,6)))
abbrev GJ(aj:Nat)(a1:Nat)(aP:Nat):J:=(J.made ([(GF aj a1 aP)]) 6 true (some (42,6)))
abbrev rs:dh:=(.aN 14001 (.aN 14004 (.aN 14008 .nil GB) GB) GB)
abbrev NK(aj:Nat)(a1:Nat)(aP:Nat):j:=(j.au 90 [(0,(J.made ([(A3 aj a1 aP)]) 6 true (some (42,6)))),(16,(p3 aj a1 aP)),(48,(J.made ([(A3 aj a1 aP)]) 6 true (some (42,6))))])
abbrev xE(aj:Nat)(a1:Nat)(aP:Nat):j:=(j.au 72 [(0,gB),(16,(p3 aj a1 aP)),(48,(GG aj a1 aP))])
abbrev A4(aj:Nat)(a1:Nat)(aP:Nat):j:=(j.au 111 [(0,gB),(16,(p3 aj a1 aP)),(48,(GG aj a1 aP))])
abbrev NL(aj:Nat)(a1:Nat)(aP:Nat):j:=(j.au 99 [(0,(GJ aj a1 aP)),(16,(p3 aj a1 aP)),(48,(GJ aj a1 aP))])
abbrev NM(aj:Nat)(a1:Nat)(aP:Nat):j:=(j.au 106 [(0,(GH aj a1 aP)),(16,(p3 aj a1 aP)),(48,(GH aj a1 aP))])
abbrev NN(aj:Nat)(a1:Nat)(aP:Nat):j:=(j.au 113 [(0,(GI aj a1 aP)),(16,(p3 aj a1 aP)),(48,(GI aj a1 aP))])
abbrev GK(aj:Nat)(a1:Nat)(aP:Nat)(ab:o→j→Prop):Prop:=(dO .i64 (aj:Int) (28)≤2→(-2147483648≤dO .i64 (aj:Int) (28)∧dO .i64 (aj:Int) (28)≤2147483647)∧ab (.tuple [(A3 aj a1 aP),.bool true]) (NK aj a1 aP))
abbrev GL(aj:Nat)(a1:Nat)(aP:Nat)(ab:o→j→Prop):Prop:=(¬dO .i64 (aj:Int) (28)=65→ab (ez) (A4 aj a1 aP))
abbrev l5(aj:Nat)(a1:Nat)(aP:Nat)(ab:o→j→Prop):Prop:=(dO .i64 (aj:Int) (28)=64→ab ((NI aj a1 aP)) (NM aj a1 aP))
abbrev GM(aj:Nat)(a1:Nat)(aP:Nat)(ab:o→j→Prop):Prop:=(dO .i64 (aj:Int) (28)=65→ab ((NJ aj a1 aP)) (NN aj a1 aP))
abbrev xF(aj:Nat)(a1:Nat)(aP:Nat)(ab:o→j→Prop):Prop:=(dO .i64 (aj:Int) (28)≤35→ab (.tuple [(GF aj a1 aP),.bool true]) (NL aj a1 aP))
abbrev l6(c:Int)(aj:Nat)(a1:Nat)(aP:Nat)(ab:o→j→Prop):Prop:=(¬c=77→(c=77→(GM aj a1 aP ab)∧(GL aj a1 aP ab))∧(¬c=77→ab (ez) (A4 aj a1 aP)))
abbrev l7(c:Int)(aj:Nat)(a1:Nat)(aP:Nat)(ab:o→j→Prop):Prop:=(¬dO .i64 (aj:Int) (28)=64→(c=77→(GM aj a1 aP ab)∧(GL aj a1 aP ab))∧(¬c=77→ab (ez) (A4 aj a1 aP)))
theorem Yn(w:Bytes)(c:Int)(aj a1 aP:Nat)(ab:o→j→Prop)(aY: [(60:UInt8)]=[(60:UInt8)]∧List.head? w=some (60:UInt8)∧((List.head? w == some 60)=true→numbers (List.drop 1 w)=some [aj,a1,aP]∧List.length (List.drop 1 w)<100∧True∧True∧Int.NonNeg (2-0)∧(0≤bD .i64 (br .i64 (aj:Int) (28)) (2)∧bD .i64 (br .i64 (aj:Int) (28)) (2)≤255)∧(-9223372036854775808≤(a1:Int)-1∧(a1:Int)-1≤9223372036854775807)∧(-9223372036854775808≤(aP:Int)-1∧(aP:Int)-1≤9223372036854775807)∧((a1:Int)-1<0→ab (ez) (xE aj a1 aP))∧(¬(a1:Int)-1<0→(4096≤(a1:Int)-1→ab (ez) (xE aj a1 aP))∧(¬4096≤(a1:Int)-1→((aP:Int)-1<0→ab (ez) (xE aj a1 aP))∧(¬(aP:Int)-1<0→(4096≤(aP:Int)-1→ab (ez) (xE aj a1 aP))∧(¬4096≤(aP:Int)-1→(c=109→(dO .i64 (aj:Int) (28)≤3→ab (.tuple [(A2 aj a1 aP),.bool true]) (j.au 81 [(0,(J.made ([(A2 aj a1 aP)]) 6 true (some (42,6)))),(16,(p3 aj a1 aP)),(48,(J.made ([(A2 aj a1 aP)]) 6 true (some (42,6))))]))∧(¬dO .i64 (aj:Int) (28)≤3→(c=77→(GK aj a1 aP ab)∧(¬dO .i64 (aj:Int) (28)≤2→(c=77→(32≤dO .i64 (aj:Int) (28)→(xF aj a1 aP ab)∧(¬dO .i64 (aj:Int) (28)≤35→(c=77→(l5 aj a1 aP ab)∧(l7 c aj a1 aP ab))∧(l6 c aj a1 aP ab)))∧(¬32≤dO .i64 (aj:Int) (28)→(c=77→(l5 aj a1 aP ab)∧(l7 c aj a1 aP ab))∧(l6 c aj a1 aP ab)))∧(¬c=77→(c=77→(l5 aj a1 aP ab)∧(l7 c aj a1 aP ab))∧(l6 c aj a1 aP ab))))∧(¬c=77→(c=77→(32≤dO .i64 (aj:Int) (28)→(xF aj a1 aP ab)∧(¬dO .i64 (aj:Int) (28)≤35→(c=77→(l5 aj a1 aP ab)∧(l7 c aj a1 aP ab))∧(l6 c aj a1 aP ab)))∧(¬32≤dO .i64 (aj:Int) (28)→(c=77→(l5 aj a1 aP ab)∧(l7 c aj a1 aP ab))∧(l6 c aj a1 aP ab)))∧(¬c=77→(c=77→(l5 aj a1 aP ab)∧(l7 c aj a1 aP ab))∧(l6 c aj a1 aP ab)))))∧(¬c=109→(c=77→(GK aj a1 aP ab)∧(¬dO .i64 (aj:Int) (28)≤2→(c=77→(32≤dO .i64 (aj:Int) (28)→(xF aj a1 aP ab)∧(¬dO .i64 (aj:Int) (28)≤35→(c=77→(l5 aj a1 aP ab)∧(l7 c aj a1 aP ab))∧(l6 c aj a1 aP ab)))∧(¬32≤dO .i64 (aj:Int) (28)→(c=77→(l5 aj a1 aP ab)∧(l7 c aj a1 aP ab))∧(l6 c aj a1 aP ab)))∧(¬c=77→(c=77→(l5 aj a1 aP ab)∧(l7 c aj a1 aP ab))∧(l6 c aj a1 aP ab))))∧(¬c=77→(c=77→(32≤dO .i64 (aj:Int) (28)→(xF aj a1 aP ab)∧(¬dO .i64 (aj:Int) (28)≤35→(c=77→(l5 aj a1 aP ab)∧(l7 c aj a1 aP ab))∧(l6 c aj a1 aP ab)))∧(¬32≤dO .i64 (aj:Int) (28)→(c=77→(l5 aj a1 aP ab)∧(l7 c aj a1 aP ab))∧(l6 c aj a1 aP ab)))∧(¬c=77→(c=77→(l5 aj a1 aP ab)∧(l7 c aj a1 aP ab))∧(l6 c aj a1 aP ab)))))))))∧((List.head? w == some 60)=false→numbers (List.drop 1 w)=some [aj,a1,aP]∧List.length (List.drop 1 w)<100∧ab (ez) (j.au 31 [(0,gB),(16,(p3 aj a1 aP))]))) :
 ∃v p,aI Tryz.prog aw 147 [.str w,.int .u8 c] (⟨0,.nil⟩) v p∧ab v p :=
 cf bU mixed (Yf aj a1 aP) (aq:= .aN 1004 (ah 5003 (ah 6003 (ah 6004 (ah 6005 (ah 6009 (ah 6013 (.aN 8002 .nil (.aN 8006 .nil (.aN 8011 .nil (.aN 8016 .nil (.aN 10001 (.aN 10004 .nil (.aN 12001 (.aN 12004 (ah 13001 .nil) rs) rs)) (.aN 12001 (.aN 12004 (ah 13001 .nil) rs) rs)))))))))))) .nil) (by kernel_rfl) aY
theorem Yo(w:Bytes)(c:Int)(ab:o→j→Prop)(aY: [(60:UInt8)]=[(60:UInt8)]∧List.head? w=some (60:UInt8)∧((List.head? w == some 60)=true→numbers (List.drop 1 w)=some []∧List.length (List.drop 1 w)<100∧ab (ez) (j.au 30 [(0,gB)]))∧((List.head? w == some 60)=false→numbers (List.drop 1 w)=some []∧List.length (List.drop 1 w)<100∧ab (ez) (j.au 30 [(0,gB)]))) :
 ∃v p,aI Tryz.prog aw 147 [.str w,.int .u8 c] (⟨0,.nil⟩) v p∧ab v p :=
 cf bU mixed Yc (aq:= .aN 1004 .nil .nil) (by kernel_rfl) aY
abbrev hz(l:List Nat):J:=⟨bL l,1,false,false,List.length l-1,0,jS (List.length l),some (3,0)⟩
abbrev Yp(l:List Nat):o:=o.agg [.int .i8 3,.int .i32 0,.int .u8 (bD .i64 (br .i64 (a8 (bL l) 0) (28)) (2)),.int .i64 (a8 (bL l) 1-1),.int .i64 (a8 (bL l) 2-1),.str []]
abbrev GN(l:List Nat):o:=o.agg [.int .i8 3,.int .i32 3,.int .u8 (bD .i64 (br .i64 (a8 (bL l) 0) (28)) (2)),.int .i64 (a8 (bL l) 1-1),.int .i64 (a8 (bL l) 2-1),.str []]
abbrev NO(l:List Nat):o:=o.agg [.int .i8 3,.int .i32 4,.int .u8 (bD .i64 (br .i64 (a8 (bL l) 0) (28)) (2)),.int .i64 (a8 (bL l) 1-1),.int .i64 (a8 (bL l) 2-1),.str []]
abbrev NP(l:List Nat):o:=o.agg [.int .i8 3,.int .i32 5,.int .u8 (bD .i64 (br .i64 (a8 (bL l) 0) (28)) (2)),.int .i64 (a8 (bL l) 1-1),.int .i64 (a8 (bL l) 2-1),.str []]
abbrev NQ(l:List Nat):o:=o.agg [.int .i8 3,.int .i32 6,.int .u8 (bD .i64 (br .i64 (a8 (bL l) 0) (28)) (2)),.int .i64 (a8 (bL l) 1-1),.int .i64 (a8 (bL l) 2-1),.str []]
abbrev NR(l:List Nat):o:=o.agg [.int .i8 3,.int .i32 (dO .i64 (a8 (bL l) 0) (28)),.int .u8 (bD .i64 (br .i64 (a8 (bL l) 0) (28)) (2)),.int .i64 (a8 (bL l) 1-1),.int .i64 (a8 (bL l) 2-1),.str []]
abbrev Yq(l:List Nat):o:=o.tuple [(NO l),.bool true]
abbrev Yr(l:List Nat):o:=o.tuple [(NP l),.bool true]
abbrev NS(l:List Nat):J:=(J.made ([(Yp l)]) 6 true (some (42,6)))
abbrev NT(l:List Nat):J:=(J.made ([(NO l)]) 6 true (some (42,6)))
abbrev NU(l:List Nat):J:=(J.made ([(NP l)]) 6 true (some (42,6)))
abbrev NV(l:List Nat):J:=(J.made ([(NQ l)]) 6 true (some (42,6)))
abbrev NW(l:List Nat):J:=(J.made ([(NR l)]) 6 true (some (42,6)))
abbrev A5(l:List Nat):j:=(j.au 72 [(0,gB),(16,(hz l)),(48,(NS l))])
abbrev GO(l:List Nat):j:=(j.au 111 [(0,gB),(16,(hz l)),(48,(NS l))])
abbrev Ys(l:List Nat):j:=(j.au 99 [(0,(NV l)),(16,(hz l)),(48,(NV l))])
abbrev Yt(l:List Nat):j:=(j.au 106 [(0,(NT l)),(16,(hz l)),(48,(NT l))])
abbrev Yu(l:List Nat):j:=(j.au 113 [(0,(NU l)),(16,(hz l)),(48,(NU l))])
abbrev NX(l:List Nat)(ab:o→j→Prop):Prop:=(dO .i64 (a8 (bL l) 0) (28)≤2→(-2147483648≤dO .i64 (a8 (bL l) 0) (28)∧dO .i64 (a8 (bL l) 0) (28)≤2147483647)∧ab (.tuple [(NR l),.bool true]) (j.au 90 [(0,(NW l)),(16,(hz l)),(48,(NW l))]))
abbrev NY(l:List Nat)(ab:o→j→Prop):Prop:=(¬dO .i64 (a8 (bL l) 0) (28)=65→ab (ez) (GO l))
abbrev mU(l:List Nat)(ab:o→j→Prop):Prop:=(dO .i64 (a8 (bL l) 0) (28)=64→ab ((Yq l)) (Yt l))
abbrev NZ(l:List Nat)(ab:o→j→Prop):Prop:=(dO .i64 (a8 (bL l) 0) (28)=65→ab ((Yr l)) (Yu l))
abbrev A6(l:List Nat)(ab:o→j→Prop):Prop:=(dO .i64 (a8 (bL l) 0) (28)≤35→ab (.tuple [(NQ l),.bool true]) (Ys l))
abbrev mV(c:Int)(l:List Nat)(ab:o→j→Prop):Prop:=(¬c=77→(c=77→(NZ l ab)∧(NY l ab))∧(¬c=77→ab (ez) (GO l)))
abbrev mW(c:Int)(l:List Nat)(ab:o→j→Prop):Prop:=(¬dO .i64 (a8 (bL l) 0) (28)=64→(c=77→(NZ l ab)∧(NY l ab))∧(¬c=77→ab (ez) (GO l)))
theorem GP(w:Bytes)(c:Int)(l:List Nat)(ab:o→j→Prop)(aY: [(60:UInt8)]=[(60:UInt8)]∧List.head? w=some (60:UInt8)∧((List.head? w == some 60)=true→numbers (List.drop 1 w)=some l∧(l=[]→False)∧List.length (List.drop 1 w)<100∧((↑(List.length l):Int)=3→((0:Int)≤0∧0<(↑(List.length l):Int))∧List.length l-1=List.length l-1∧(bL l)[0]? =some (.int .i64 (a8 (bL l) 0))∧True∧((0:Int)≤0∧0<(↑(List.length l):Int))∧List.length l-1=List.length l-1∧(bL l)[0]? =some (.int .i64 (a8 (bL l) 0))∧True∧Int.NonNeg (2-0)∧(0≤bD .i64 (br .i64 (a8 (bL l) 0) (28)) (2)∧bD .i64 (br .i64 (a8 (bL l) 0) (28)) (2)≤255)∧((0:Int)≤1∧1<(↑(List.length l):Int))∧List.length l-1=List.length l-1∧(bL l)[1]? =some (.int .i64 (a8 (bL l) 1))∧(-9223372036854775808≤a8 (bL l) 1-1∧a8 (bL l) 1-1≤9223372036854775807)∧((0:Int)≤2∧2<(↑(List.length l):Int))∧List.length l-1=List.length l-1∧(bL l)[2]? =some (.int .i64 (a8 (bL l) 2))∧(-9223372036854775808≤a8 (bL l) 2-1∧a8 (bL l) 2-1≤9223372036854775807)∧(a8 (bL l) 1-1<0→ab (ez) (A5 l))∧(¬a8 (bL l) 1-1<0→(4096≤a8 (bL l) 1-1→ab (ez) (A5 l))∧(¬4096≤a8 (bL l) 1-1→(a8 (bL l) 2-1<0→ab (ez) (A5 l))∧(¬a8 (bL l) 2-1<0→(4096≤a8 (bL l) 2-1→ab (ez) (A5 l))∧(¬4096≤a8 (bL l) 2-1→(c=109→(dO .i64 (a8 (bL l) 0) (28)≤3→ab (.tuple [(GN l),.bool true]) (j.au 81 [(0,(J.made ([(GN l)]) 6 true (some (42,6)))),(16,(hz l)),(48,(J.made ([(GN l)]) 6 true (some (42,6))))]))∧(¬dO .i64 (a8 (bL l) 0) (28)≤3→(c=77→(NX l ab)∧(¬dO .i64 (a8 (bL l) 0) (28)≤2→(c=77→(32≤dO .i64 (a8 (bL l) 0) (28)→(A6 l ab)∧(¬dO .i64 (a8 (bL l) 0) (28)≤35→(c=77→(mU l ab)∧(mW c l ab))∧(mV c l ab)))∧(¬32≤dO .i64 (a8 (bL l) 0) (28)→(c=77→(mU l ab)∧(mW c l ab))∧(mV c l ab)))∧(¬c=77→(c=77→(mU l ab)∧(mW c l ab))∧(mV c l ab))))∧(¬c=77→(c=77→(32≤dO .i64 (a8 (bL l) 0) (28)→(A6 l ab)∧(¬dO .i64 (a8 (bL l) 0) (28)≤35→(c=77→(mU l ab)∧(mW c l ab))∧(mV c l ab)))∧(¬32≤dO .i64 (a8 (bL l) 0) (28)→(c=77→(mU l ab)∧(mW c l ab))∧(mV c l ab)))∧(¬c=77→(c=77→(mU l ab)∧(mW c l ab))∧(mV c l ab)))))∧(¬c=109→(c=77→(NX l ab)∧(¬dO .i64 (a8 (bL l) 0) (28)≤2→(c=77→(32≤dO .i64 (a8 (bL l) 0) (28)→(A6 l ab)∧(¬dO .i64 (a8 (bL l) 0) (28)≤35→(c=77→(mU l ab)∧(mW c l ab))∧(mV c l ab)))∧(¬32≤dO .i64 (a8 (bL l) 0) (28)→(c=77→(mU l ab)∧(mW c l ab))∧(mV c l ab)))∧(¬c=77→(c=77→(mU l ab)∧(mW c l ab))∧(mV c l ab))))∧(¬c=77→(c=77→(32≤dO .i64 (a8 (bL l) 0) (28)→(A6 l ab)∧(¬dO .i64 (a8 (bL l) 0) (28)≤35→(c=77→(mU l ab)∧(mW c l ab))∧(mV c l ab)))∧(¬32≤dO .i64 (a8 (bL l) 0) (28)→(c=77→(mU l ab)∧(mW c l ab))∧(mV c l ab)))∧(¬c=77→(c=77→(mU l ab)∧(mW c l ab))∧(mV c l ab)))))))))∧(¬(↑(List.length l):Int)=3→ab (ez) (j.au 31 [(0,gB),(16,(hz l))])))∧((List.head? w == some 60)=false→numbers (List.drop 1 w)=some l∧(l=[]→False)∧List.length (List.drop 1 w)<100∧ab (ez) (j.au 31 [(0,gB),(16,(hz l))]))) :
 ∃v p,aI Tryz.prog aw 147 [.str w,.int .u8 c] (⟨0,.nil⟩) v p∧ab v p :=
 cf bU mixed (Yd l) (aq:= .aN 1004 (.aN 3009 (ah 5001 (ah 5002 (ah 5003 (ah 6001 (ah 6002 (ah 6003 (ah 6004 (ah 6005 (ah 6007 (ah 6008 (ah 6009 (ah 6011 (ah 6012 (ah 6013 (.aN 8002 .nil (.aN 8006 .nil (.aN 8011 .nil (.aN 8016 .nil (.aN 10001 (.aN 10004 .nil (.aN 12001 (.aN 12004 (ah 13001 .nil) rs) rs)) (.aN 12001 (.aN 12004 (ah 13001 .nil) rs) rs)))))))))))))))))))) .nil) .nil) (by kernel_rfl) aY
theorem Yv(w:Bytes)(c:Int)(ab:o→j→Prop)(aY: [(60:UInt8)]=[(60:UInt8)]∧(List.head? w=some (60:UInt8)→False)∧numbers w=none∧List.length w<100∧ab (ez) (j.au 30 [(0,gB)])) :
 ∃v p,aI Tryz.prog aw 147 [.str w,.int .u8 c] (⟨0,.nil⟩) v p∧ab v p :=
 cf bU mixed Yj (aq:= .nil) (by kernel_rfl) aY
theorem Yw(w:Bytes)(c:Int)(ab:o→j→Prop)(aY: [(60:UInt8)]=[(60:UInt8)]∧(List.head? w=some (60:UInt8)→False)∧numbers w=some []∧List.length w<100∧ab (ez) (j.au 30 [(0,gB)])) :
 ∃v p,aI Tryz.prog aw 147 [.str w,.int .u8 c] (⟨0,.nil⟩) v p∧ab v p :=
 cf bU mixed Yk (aq:= .nil) (by kernel_rfl) aY
theorem Yx(w:Bytes)(c:Int)(l:List Nat)(ab:o→j→Prop)(aY: [(60:UInt8)]=[(60:UInt8)]∧(List.head? w=some (60:UInt8)→False)∧numbers w=some l∧(l=[]→False)∧List.length w<100∧ab (ez) (j.au 31 [(0,gB),(16,(hz l))])) :
 ∃v p,aI Tryz.prog aw 147 [.str w,.int .u8 c] (⟨0,.nil⟩) v p∧ab v p :=
 cf bU mixed (Yl l) (aq:= .nil) (by kernel_rfl) aY
theorem Yy(n:Nat):n &&& 28=4* (n/4%8):=by
 have h:∀r:Fin 32,(r.val &&& 28)=4* (r.val/4%8):=by decide
 have e:n &&& 28=(n%32) &&& 28:=by rw [show n%32=n &&& 31 from(Nat.and_two_pow_sub_one_eq_mod n 5).symm,Nat.and_assoc];rfl
 have ae:n%32 &&& 28=4* (n%32/4%8):=h ⟨n%32,Nat.mod_lt _ (by decide)⟩;rw [e,ae];omega
theorem Yz(n:Nat)(h:n<2^62):n &&& (2^64-29)=n-4* (n/4%8):=by
 have bu:(n &&& (2^64-29))/2^5=n/2^5:=by rw [Nat.and_div_two_pow,show(2^64-29)/2^5=2^59-1 by decide,Nat.and_two_pow_sub_one_eq_mod];exact Nat.mod_eq_of_lt (by omega)
 have bC:(n &&& (2^64-29))%2^5=n%4:=by rw [Nat.and_mod_two_pow,show(2^64-29)%2^5=2^2-1 by decide,Nat.and_two_pow_sub_one_eq_mod];omega
 omega
theorem YA(n:Nat)(h:n<2^30):br .i64 (n:Int) 28=(4* (n/4%8):Nat):=by
 unfold br;rw [BitVec.toNat_and]
 have a:(BitVec.ofInt IntKind.i64.bits (n:Int)).toNat=n:=by show(BitVec.ofInt 64 (n:Int)).toNat=n;rw [BitVec.toNat_ofInt];omega
 have b:(BitVec.ofInt IntKind.i64.bits 28).toNat=28:=by decide
 rw [a,b,Yy];have:4* (n/4%8)<32:=by omega
 generalize 4* (n/4%8)=k at this;have w:∀k:Fin 32,IntKind.i64.wrap (k.val:Int)=k.val:=by decide
 exact w ⟨k,this⟩
theorem YB(n:Nat)(h:n<2^30):dO .i64 (n:Int) 28=(n-4* (n/4%8):Nat):=by
 unfold dO;rw [BitVec.toNat_and]
 have a:(BitVec.ofInt IntKind.i64.bits (n:Int)).toNat=n:=by show(BitVec.ofInt 64 (n:Int)).toNat=n;rw [BitVec.toNat_ofInt];omega
 have b:(~~~(BitVec.ofInt IntKind.i64.bits 28)).toNat=2^64-29:=by decide
 rw [a,b,Yz n (by omega)];generalize ao:n-4* (n/4%8)=k;have:k<2^30:=by omega
 exact CY (by omega) (by omega) rfl
theorem YC(k:Nat):bD .i64 ((4*k:Nat):Int) 2=k:=by unfold bD;show Int.fdiv ((4*k:Nat):Int) 4=k;rw [Int.fdiv_eq_ediv_of_nonneg _ (by decide)];omega
set_option maxHeartbeats 8000000
def GQ(held b a1 aP c:Nat):Option bw :=
 if a1<1∨4096<a1∨aP<1∨4096<aP then none
 else if c=109∧b≤3 then some {kind:=3,code:=3,dX:=held,x:=(a1:Int)-1,y:=(aP:Int)-1}
 else if c=77∧b≤2 then some {kind:=3,code:=b,dX:=held,x:=(a1:Int)-1,y:=(aP:Int)-1}
 else if c=77∧32≤b∧b≤35 then some {kind:=3,code:=6,dX:=held,x:=(a1:Int)-1,y:=(aP:Int)-1}
 else if c=77∧b=64 then some {kind:=3,code:=4,dX:=held,x:=(a1:Int)-1,y:=(aP:Int)-1}
 else if c=77∧b=65 then some {kind:=3,code:=5,dX:=held,x:=(a1:Int)-1,y:=(aP:Int)-1}
 else none
theorem YD{rest:Bytes}{aj a1 aP c:Nat}(h:Keys.numbers rest=some [aj,a1,aP]):Keys.e5 (60::rest) c=GQ (aj/4%8) (aj-4* (aj/4%8)) a1 aP c:=by simp only [Keys.e5,h,GQ]
theorem YE{rest:Bytes}{aj a1 aP c:Nat}(h:Keys.numbers rest=some [aj,a1,aP])(aB:rest.length<100)(bm:aj<2^30)(p:a1<2^30)(ae:aP<2^30)(H:j):aI Tryz.prog aw 147 [.str (60::rest),.int .u8 c] H (hf (Keys.e5 (60::rest) c)) H:=by
 refine aI.fk (Yn (60::rest) c aj a1 aP (fun v _=>v=hf (Keys.e5 (60::rest) c)) ?_) rfl rfl H
 delta p3 gB da ez l6 A4 GG NH GL GM NN GI GD NJ l7 l5 NM GH GC NI xF NL GJ GF GK NK A3 A2 xE
 rw [YD h,YA aj bm,YB aj bm,YC];have bQ:aj/4%8<8:=by omega
 have av:aj-4* (aj/4%8)<2^30:=by omega
 generalize aj/4%8=held at bQ av⊢;generalize aj-4*held=b at av⊢;refine⟨rfl,rfl,fun _=>⟨h,aB,?_⟩,fun e=>by cases e⟩
 repeat' (first|exact True.intro|apply And.intro|intro _)
 all_goals first
  |omega
  |decide
  |exact(show(0:Int)≤2 by decide)
  |(unfold GQ;(repeat' split)<;>first|rfl|(exfalso;omega))
end Go.Proofs.YtddnafghiejcoaaGreatDoor
namespace Go.Keys
theorem N0{w:Bytes}{l:List Nat}(h:numbers w=some l):∀n∈l,n<1000000000:=by
 unfold numbers at h;split at h
 ·simp only [Option.some.injEq]at h;subst h;intro n aM;cases aM
 ·exact Nf h
theorem YF{w:Bytes}{c:Nat}(h:w.head? ≠some 60):e5 w c=none:=by
 unfold e5;split
 ·simp at h
 ·rfl
theorem YG{r:Bytes}{c:Nat}(h:numbers r=none):e5 (60::r) c=none:=by simp only [e5,h]
theorem A7{r:Bytes}{c:Nat}{l:List Nat}(h:numbers r=some l)(aB:l.length≠3):e5 (60::r) c=none:=by
 simp only [e5,h];split
 ·rename_i zX;simp only [Option.some.injEq]at zX;subst zX;simp at aB
 ·rfl
end Go.Keys
namespace Go.Proofs.YtddnafghiejcoaaGreatDoor
open Go.cH Go.Keys
set_option maxRecDepth 1000000
theorem YH(w:Bytes)(c:Nat)(hw:w.length<100)(H:j):aI Tryz.prog aw 147 [.str w,.int .u8 c] H (hf (Keys.e5 w c)) H:=by
 by_cases sU:w.head? =some 60
 ·cases w with
  |nil=>cases sU
  |cons b r =>
   simp only [List.head?_cons,Option.some.injEq]at sU;subst sU;have be:r.length<100:=by simp only [List.length_cons]at hw;omega
   cases aM:Keys.numbers r with
   |none =>
    rw [YG aM];exact aI.fk (Ym (60::r) c (fun v _=>v=hf none) ⟨rfl,rfl,fun _=>⟨aM,be,rfl⟩,fun e=>by cases e⟩) rfl rfl H
   |some l =>
    match l,aM with
    |[],aM =>
     rw [A7 aM (by simp)];exact aI.fk (Yo (60::r) c (fun v _=>v=hf none) ⟨rfl,rfl,fun _=>⟨aM,be,rfl⟩,fun e=>by cases e⟩) rfl rfl H
    |[a,b,d],aM =>
     have cM:=N0 aM;exact YE aM be (by have:=cM a (by simp);omega) (by have:=cM b (by simp);omega) (by have:=cM d (by simp);omega) H
    |[a],aM =>
     rw [A7 aM (by simp)];exact aI.fk (GP (60::r) c [a] (fun v _=>v=hf none) ⟨rfl,rfl,fun _=>⟨aM,by simp,be,(fun h=>by simp only [List.length_cons,List.length_nil]at h;omega),fun _=>rfl⟩,fun e=>by cases e⟩) rfl rfl H
    |[a,b],aM =>
     rw [A7 aM (by simp)];exact aI.fk (GP (60::r) c [a,b] (fun v _=>v=hf none) ⟨rfl,rfl,fun _=>⟨aM,by simp,be,(fun h=>by simp only [List.length_cons,List.length_nil]at h;omega),fun _=>rfl⟩,fun e=>by cases e⟩) rfl rfl H
    |a::b::d::e::t,aM =>
     rw [A7 aM (by simp)];exact aI.fk (GP (60::r) c (a::b::d::e::t) (fun v _=>v=hf none) ⟨rfl,rfl,fun _=>⟨aM,by simp,be,(fun h=>by simp only [List.length_cons]at h;omega),fun _=>rfl⟩,fun e=>by cases e⟩) rfl rfl H
 ·rw [YF sU];cases aM:Keys.numbers w with
  |none=>exact aI.fk (Yv w c (fun v _=>v=hf none) ⟨rfl,sU,aM,hw,rfl⟩) rfl rfl H
  |some l =>
   cases l with
   |nil=>exact aI.fk (Yw w c (fun v _=>v=hf none) ⟨rfl,sU,aM,hw,rfl⟩) rfl rfl H
   |cons a t=>exact aI.fk (Yx w c (a::t) (fun v _=>v=hf none) ⟨rfl,sU,aM,by simp,hw,rfl⟩) rfl rfl H
noncomputable def N1:List o→j→Option ev:=kw fun a=>match a with | [.str w,.int .u8 c]=>some (hf (Keys.e5 w c.toNat),[w.length<100,0≤c∧c≤255])|_=>none
theorem xG:∀args h a,N1 args h=some a→a.dr Tryz.prog aw 147 args h:=by
 refine ls ?_;intro args v eL e ac H;split at e<;>first|(cases e;done)|skip
 rename_i w c;simp only [Option.some.injEq,Prod.mk.injEq]at e;obtain⟨rfl,rfl⟩:=e;have bm:=ac.tail.head.1;have:=YH w c.toNat ac.head H
 rwa [Int.toNat_of_nonneg bm]at this
noncomputable def N2:List o→j→Option ev:=kw fun a=>match a with | [.int .i64 n,.int .u8 m]=>some (hf (Keys.eb n.toNat m),[0≤n])|_=>none
theorem xH:∀args h a,N2 args h=some a→a.dr Tryz.prog aw 149 args h:=by
 refine ls ?_;intro args v eL e ac H;split at e<;>first|(cases e;done)|skip
 rename_i n m;simp only [Option.some.injEq,Prod.mk.injEq]at e;obtain⟨rfl,rfl⟩:=e;have bm:0≤n:=ac _ List.mem_cons_self;have:=Xo n.toNat m H
 rwa [Int.toNat_of_nonneg bm]at this
noncomputable def xI(num:List o→j→Option ev):e9:=((pE.add 147 N1).add 149 N2).add 148 num
noncomputable def YI:e9:=xI AY
noncomputable def YJ:e9:=xI AZ
noncomputable def YK(a:Nat):e9:=xI (NC a)
noncomputable def YL(a b:Nat):e9:=xI (ND a b)
theorem YM:eP Tryz.prog aw YI:=((c7.add xG).add xH).add Gw
theorem YN:eP Tryz.prog aw YJ:=((c7.add xG).add xH).add Gx
theorem YO(a:Nat):eP Tryz.prog aw (YK a):=((c7.add xG).add xH).add (X8 a)
theorem YP(a b:Nat):eP Tryz.prog aw (YL a b):=((c7.add xG).add xH).add (X9 a b)
noncomputable def YQ(l:List Nat):e9:=xI (xD l)
theorem YR(l:List Nat):eP Tryz.prog aw (YQ l):=((c7.add xG).add xH).add (Gy l)
abbrev fP(w:Bytes)(c:Int):o:=o.agg [.int .i8 6,.int .i32 0,.int .u8 0,.int .i64 0,.int .i64 0,.str (w++[UInt8.ofNat (Int.toNat c)])]
abbrev hA(w:Bytes)(c:Int):o:=o.agg [.int .i8 (bw.kind (Option.getD (e5 w (Int.toNat c)) fm)),.int .i32 (bw.code (Option.getD (e5 w (Int.toNat c)) fm)),.int .u8 (bw.dX (Option.getD (e5 w (Int.toNat c)) fm)),.int .i64 (bw.x (Option.getD (e5 w (Int.toNat c)) fm)),.int .i64 (bw.y (Option.getD (e5 w (Int.toNat c)) fm)),.str (Option.getD (e5 w (Int.toNat c)) fm).6]
abbrev hP(w:Bytes)(c:Int):J:=(J.made ([(hA w c)]) 6 true (some (42,6)))
theorem YS(w:Bytes)(c:Int)(ab:o→j→Prop)(aY:(c=82→Nat.le (Nat.succ (List.length w+List.length [UInt8.ofNat (Int.toNat c)])) (2^62)∧ab (.tuple [(fP w c),.bool true]) (j.au 14 [(0,(J.made ([(fP w c)]) 6 true (some (42,6)))),(2,J.made [da] 6 true (some (42,6))),(8,J.made [.int .u8 c] 1 true)]))∧(¬c=82→(c=99→Nat.le (Nat.succ (List.length w+List.length [UInt8.ofNat (Int.toNat c)])) (2^62)∧ab (.tuple [(fP w c),.bool true]) (j.au 16 [(0,(J.made ([(fP w c)]) 6 true (some (42,6)))),(2,J.made [da] 6 true (some (42,6))),(10,J.made [.int .u8 c] 1 true)]))∧(¬c=99→(c=110→Nat.le (Nat.succ (List.length w+List.length [UInt8.ofNat (Int.toNat c)])) (2^62)∧ab (.tuple [(fP w c),.bool true]) (j.au 18 [(0,(J.made ([(fP w c)]) 6 true (some (42,6)))),(2,J.made [da] 6 true (some (42,6))),(12,J.made [.int .u8 c] 1 true)]))∧(¬c=110→(c=77→List.length w<100∧(0≤c∧c≤255)∧(Option.isSome (e5 w (Int.toNat c))=true→ab (.tuple [(hA w c),.bool true]) (j.au 19 [(0,(hP w c)),(2,J.made [da] 6 true (some (42,6)))]))∧(Option.isSome (e5 w (Int.toNat c))=false→ab (.tuple [(hA w c),.bool false]) (j.au 19 [(0,(hP w c)),(2,J.made [da] 6 true (some (42,6)))])))∧(¬c=77→(c=109→List.length w<100∧(0≤c∧c≤255)∧(Option.isSome (e5 w (Int.toNat c))=true→ab (.tuple [(hA w c),.bool true]) (j.au 21 [(0,(hP w c)),(2,J.made [da] 6 true (some (42,6)))]))∧(Option.isSome (e5 w (Int.toNat c))=false→ab (.tuple [(hA w c),.bool false]) (j.au 21 [(0,(hP w c)),(2,J.made [da] 6 true (some (42,6)))])))∧(¬c=109→numbers w=none∧List.length w<100∧ab (ez) (j.au 26 [(0,gB),(2,J.made [da] 6 true (some (42,6)))]))))))) :
 ∃v p,aI Tryz.prog aw 130 [.str w,.int .u8 c] (⟨0,.nil⟩) v p∧ab v p :=
 cf bU mixed YM (aq:= .aN 3000 (ah 6004 .nil) (.aN 4000 (ah 6004 .nil) (.aN 5000 (ah 6004 .nil) (.aN 7000 (.aN 9004 .nil .nil) (.aN 8000 (.aN 9004 .nil .nil) .nil))))) (by kernel_rfl) aY
abbrev uO:o:=o.agg [.int .i8 2,.int .i32 2,.int .u8 1,.int .i64 0,.int .i64 0,.str []]
abbrev p4:o:=o.agg [.int .i8 5,.int .i32 0,.int .u8 0,.int .i64 0,.int .i64 0,.str []]
abbrev sV:o:=o.agg [.int .i8 5,.int .i32 1,.int .u8 0,.int .i64 0,.int .i64 0,.str []]
theorem YT(w:Bytes)(c:Int)(ab:o→j→Prop)(aY:(c=82→Nat.le (Nat.succ (List.length w+List.length [UInt8.ofNat (Int.toNat c)])) (2^62)∧ab (.tuple [(fP w c),.bool true]) (j.au 14 [(0,(J.made ([(fP w c)]) 6 true (some (42,6)))),(2,J.made [da] 6 true (some (42,6))),(8,J.made [.int .u8 c] 1 true)]))∧(¬c=82→(c=99→Nat.le (Nat.succ (List.length w+List.length [UInt8.ofNat (Int.toNat c)])) (2^62)∧ab (.tuple [(fP w c),.bool true]) (j.au 16 [(0,(J.made ([(fP w c)]) 6 true (some (42,6)))),(2,J.made [da] 6 true (some (42,6))),(10,J.made [.int .u8 c] 1 true)]))∧(¬c=99→(c=110→Nat.le (Nat.succ (List.length w+List.length [UInt8.ofNat (Int.toNat c)])) (2^62)∧ab (.tuple [(fP w c),.bool true]) (j.au 18 [(0,(J.made ([(fP w c)]) 6 true (some (42,6)))),(2,J.made [da] 6 true (some (42,6))),(12,J.made [.int .u8 c] 1 true)]))∧(¬c=110→(c=77→List.length w<100∧(0≤c∧c≤255)∧(Option.isSome (e5 w (Int.toNat c))=true→ab (.tuple [(hA w c),.bool true]) (j.au 19 [(0,(hP w c)),(2,J.made [da] 6 true (some (42,6)))]))∧(Option.isSome (e5 w (Int.toNat c))=false→ab (.tuple [(hA w c),.bool false]) (j.au 19 [(0,(hP w c)),(2,J.made [da] 6 true (some (42,6)))])))∧(¬c=77→(c=109→List.length w<100∧(0≤c∧c≤255)∧(Option.isSome (e5 w (Int.toNat c))=true→ab (.tuple [(hA w c),.bool true]) (j.au 21 [(0,(hP w c)),(2,J.made [da] 6 true (some (42,6)))]))∧(Option.isSome (e5 w (Int.toNat c))=false→ab (.tuple [(hA w c),.bool false]) (j.au 21 [(0,(hP w c)),(2,J.made [da] 6 true (some (42,6)))])))∧(¬c=109→numbers w=some []∧List.length w<100∧(c=90→ab (.tuple [uO,.bool true]) (j.au 32 [(0,(J.made ([uO]) 6 true (some (42,6)))),(2,J.made [da] 6 true (some (42,6)))]))∧(¬c=90→(c=73→ab (.tuple [sV,.bool true]) (j.au 34 [(0,(J.made ([sV]) 6 true (some (42,6)))),(2,J.made [da] 6 true (some (42,6)))]))∧(¬c=73→(c=79→ab (.tuple [p4,.bool true]) (j.au 36 [(0,(J.made ([p4]) 6 true (some (42,6)))),(2,J.made [da] 6 true (some (42,6)))]))∧(¬c=79→(0<ha c→ab (.tuple [(nM c),.bool true]) (j.au 42 [(0,(J.made ([(nM c)]) 6 true (some (42,6)))),(2,J.made [da] 6 true (some (42,6)))]))∧(¬0<ha c→ab (ez) (j.au 41 [(0,gB),(2,J.made [da] 6 true (some (42,6)))]))))))))))) :
 ∃v p,aI Tryz.prog aw 130 [.str w,.int .u8 c] (⟨0,.nil⟩) v p∧ab v p :=
 cf bU mixed YN (aq:= .aN 3000 (ah 6004 .nil) (.aN 4000 (ah 6004 .nil) (.aN 5000 (ah 6004 .nil) (.aN 7000 (.aN 9004 .nil .nil) (.aN 8000 (.aN 9004 .nil .nil) (.aN 15000 .nil (.aN 17000 .nil (.aN 19000 .nil (.aN 22001 .nil .nil))))))))) (by kernel_rfl) aY
abbrev A8(aj:Nat):J:=(J.made ([.int .i64 (aj:Int)]) 1 false (some (3,0)))
abbrev xJ:dh:=(.aN 33001 (.aN 33007 .nil (.aN 35001 (.aN 36006 .nil .nil) .nil)) (.aN 35001 (.aN 36006 .nil .nil) .nil))
abbrev GR(aj:Nat):o:=o.agg [.int .i8 2,.int .i32 (hL (aj:Int)),.int .u8 0,.int .i64 0,.int .i64 0,.str []]
abbrev A9(aj:Nat):o:=o.agg [.int .i8 (bw.kind (Option.getD (eb aj 0) fm)),.int .i32 (bw.code (Option.getD (eb aj 0) fm)),.int .u8 (bw.dX (Option.getD (eb aj 0) fm)),.int .i64 (bw.x (Option.getD (eb aj 0) fm)),.int .i64 (bw.y (Option.getD (eb aj 0) fm)),.str (Option.getD (eb aj (0)) fm).6]
abbrev N3(aj:Nat):o:=o.tuple [(A9 aj),.bool true]
abbrev N4(aj:Nat):o:=o.tuple [(A9 aj),.bool false]
abbrev N5(aj:Nat):J:=(J.made ([(A9 aj)]) 6 true (some (42,6)))
abbrev N6(aj:Nat):j:=(j.au 79 [(0,(J.made ([(GR aj)]) 6 true (some (42,6)))),(2,J.made [da] 6 true (some (42,6))),(21,(A8 aj))])
abbrev A'(aj:Nat)(ab:o→j→Prop):Prop:=(0<hL (aj:Int)→ab (.tuple [(GR aj),.bool true]) (N6 aj))
abbrev GS(aj:Nat):j:=(j.au 77 [(0,gB),(2,J.made [da] 6 true (some (42,6))),(21,(A8 aj))])
abbrev GU(aj:Nat):j:=(j.au 83 [(0,(N5 aj)),(2,J.made [da] 6 true (some (42,6))),(21,(A8 aj))])
abbrev GV(aj:Nat)(ab:o→j→Prop):Prop:=(Option.isSome (eb aj 0)=true→ab ((N3 aj)) (GU aj))
abbrev GW(aj:Nat)(ab:o→j→Prop):Prop:=(Option.isSome (eb aj 0)=false→ab ((N4 aj)) (GU aj))
abbrev Ba(c:Int)(aj:Nat)(ab:o→j→Prop):Prop:=(¬c=126→(c=117→0≤(aj:Int)∧(GV aj ab)∧(GW aj ab))∧(¬c=117→ab (ez) (GS aj)))
abbrev Bb(c:Int)(aj:Nat)(ab:o→j→Prop):Prop:=(¬0<hL (aj:Int)→(c=117→0≤(aj:Int)∧(GV aj ab)∧(GW aj ab))∧(¬c=117→ab (ez) (GS aj)))
theorem YU(w:Bytes)(c:Int)(aj:Nat)(ab:o→j→Prop)(aY:(c=82→Nat.le (Nat.succ (List.length w+List.length [UInt8.ofNat (Int.toNat c)])) (2^62)∧ab (.tuple [(fP w c),.bool true]) (j.au 14 [(0,(J.made ([(fP w c)]) 6 true (some (42,6)))),(2,J.made [da] 6 true (some (42,6))),(8,J.made [.int .u8 c] 1 true)]))∧(¬c=82→(c=99→Nat.le (Nat.succ (List.length w+List.length [UInt8.ofNat (Int.toNat c)])) (2^62)∧ab (.tuple [(fP w c),.bool true]) (j.au 16 [(0,(J.made ([(fP w c)]) 6 true (some (42,6)))),(2,J.made [da] 6 true (some (42,6))),(10,J.made [.int .u8 c] 1 true)]))∧(¬c=99→(c=110→Nat.le (Nat.succ (List.length w+List.length [UInt8.ofNat (Int.toNat c)])) (2^62)∧ab (.tuple [(fP w c),.bool true]) (j.au 18 [(0,(J.made ([(fP w c)]) 6 true (some (42,6)))),(2,J.made [da] 6 true (some (42,6))),(12,J.made [.int .u8 c] 1 true)]))∧(¬c=110→(c=77→List.length w<100∧(0≤c∧c≤255)∧(Option.isSome (e5 w (Int.toNat c))=true→ab (.tuple [(hA w c),.bool true]) (j.au 19 [(0,(hP w c)),(2,J.made [da] 6 true (some (42,6)))]))∧(Option.isSome (e5 w (Int.toNat c))=false→ab (.tuple [(hA w c),.bool false]) (j.au 19 [(0,(hP w c)),(2,J.made [da] 6 true (some (42,6)))])))∧(¬c=77→(c=109→List.length w<100∧(0≤c∧c≤255)∧(Option.isSome (e5 w (Int.toNat c))=true→ab (.tuple [(hA w c),.bool true]) (j.au 21 [(0,(hP w c)),(2,J.made [da] 6 true (some (42,6)))]))∧(Option.isSome (e5 w (Int.toNat c))=false→ab (.tuple [(hA w c),.bool false]) (j.au 21 [(0,(hP w c)),(2,J.made [da] 6 true (some (42,6)))])))∧(¬c=109→numbers w=some [aj]∧List.length w<100∧(0<ha c→((aj:Int)=1→(c=126→(A' aj ab)∧(Bb c aj ab))∧(Ba c aj ab))∧(¬(aj:Int)=1→(c=126→(A' aj ab)∧(Bb c aj ab))∧(Ba c aj ab)))∧(¬0<ha c→(c=126→(A' aj ab)∧(Bb c aj ab))∧(Ba c aj ab)))))))) :
 ∃v p,aI Tryz.prog aw 130 [.str w,.int .u8 c] (⟨0,.nil⟩) v p∧ab v p :=
 cf bU mixed (YO aj) (aq:= .aN 3000 (ah 6004 .nil) (.aN 4000 (ah 6004 .nil) (.aN 5000 (ah 6004 .nil) (.aN 7000 (.aN 9004 .nil .nil) (.aN 8000 (.aN 9004 .nil .nil) (.aN 31002 (.aN 31007 xJ xJ) xJ)))))) (by kernel_rfl) aY
abbrev GX(c:Int)(a1:Nat):o:=o.agg [.int .i8 2,.int .i32 (ha c),.int .u8 ((a1:Int)-1),.int .i64 0,.int .i64 0,.str []]
abbrev sW(aj:Nat)(a1:Nat):J:=⟨[.int .i64 (aj:Int),.int .i64 (a1:Int)],1,false,false,1,0,1,some (3,0)⟩
abbrev GY(aj:Nat)(a1:Nat):o:=o.agg [.int .i8 2,.int .i32 (hL (aj:Int)),.int .u8 ((a1:Int)-1),.int .i64 0,.int .i64 0,.str []]
abbrev Bc(aj:Nat)(a1:Nat):o:=o.agg [.int .i8 (bw.kind (Option.getD (eb aj ((a1:Int)-1)) fm)),.int .i32 (bw.code (Option.getD (eb aj ((a1:Int)-1)) fm)),.int .u8 (bw.dX (Option.getD (eb aj ((a1:Int)-1)) fm)),.int .i64 (bw.x (Option.getD (eb aj ((a1:Int)-1)) fm)),.int .i64 (bw.y (Option.getD (eb aj ((a1:Int)-1)) fm)),.str (Option.getD (eb aj ((a1:Int)-1)) fm).6]
abbrev N7(aj:Nat)(a1:Nat):J:=(J.made ([(Bc aj a1)]) 6 true (some (42,6)))
abbrev N8(aj:Nat)(a1:Nat):j:=(j.au 83 [(0,(J.made ([(GY aj a1)]) 6 true (some (42,6)))),(2,J.made [da] 6 true (some (42,6))),(21,(sW aj a1))])
abbrev Bd(aj:Nat)(a1:Nat):j:=(j.au 81 [(0,gB),(2,J.made [da] 6 true (some (42,6))),(21,(sW aj a1))])
abbrev GZ(aj:Nat)(a1:Nat):j:=(j.au 87 [(0,(N7 aj a1)),(2,J.made [da] 6 true (some (42,6))),(21,(sW aj a1))])
abbrev Be(aj:Nat)(a1:Nat)(ab:o→j→Prop):Prop:=(Option.isSome (eb aj ((a1:Int)-1))=true→ab (.tuple [(Bc aj a1),.bool true]) (GZ aj a1))
abbrev Bf(aj:Nat)(a1:Nat)(ab:o→j→Prop):Prop:=(Option.isSome (eb aj ((a1:Int)-1))=false→ab (.tuple [(Bc aj a1),.bool false]) (GZ aj a1))
abbrev G0(c:Int)(aj:Nat)(a1:Nat)(ab:o→j→Prop):Prop:=(c=126→(0<hL (aj:Int)→ab (.tuple [(GY aj a1),.bool true]) (N8 aj a1))∧(¬0<hL (aj:Int)→(c=117→0≤(aj:Int)∧(Be aj a1 ab)∧(Bf aj a1 ab))∧(¬c=117→ab (ez) (Bd aj a1))))
theorem YV(w:Bytes)(c:Int)(aj a1:Nat)(ab:o→j→Prop)(aY:(c=82→Nat.le (Nat.succ (List.length w+List.length [UInt8.ofNat (Int.toNat c)])) (2^62)∧ab (.tuple [(fP w c),.bool true]) (j.au 14 [(0,(J.made ([(fP w c)]) 6 true (some (42,6)))),(2,J.made [da] 6 true (some (42,6))),(8,J.made [.int .u8 c] 1 true)]))∧(¬c=82→(c=99→Nat.le (Nat.succ (List.length w+List.length [UInt8.ofNat (Int.toNat c)])) (2^62)∧ab (.tuple [(fP w c),.bool true]) (j.au 16 [(0,(J.made ([(fP w c)]) 6 true (some (42,6)))),(2,J.made [da] 6 true (some (42,6))),(10,J.made [.int .u8 c] 1 true)]))∧(¬c=99→(c=110→Nat.le (Nat.succ (List.length w+List.length [UInt8.ofNat (Int.toNat c)])) (2^62)∧ab (.tuple [(fP w c),.bool true]) (j.au 18 [(0,(J.made ([(fP w c)]) 6 true (some (42,6)))),(2,J.made [da] 6 true (some (42,6))),(12,J.made [.int .u8 c] 1 true)]))∧(¬c=110→(c=77→List.length w<100∧(0≤c∧c≤255)∧(Option.isSome (e5 w (Int.toNat c))=true→ab (.tuple [(hA w c),.bool true]) (j.au 19 [(0,(hP w c)),(2,J.made [da] 6 true (some (42,6)))]))∧(Option.isSome (e5 w (Int.toNat c))=false→ab (.tuple [(hA w c),.bool false]) (j.au 19 [(0,(hP w c)),(2,J.made [da] 6 true (some (42,6)))])))∧(¬c=77→(c=109→List.length w<100∧(0≤c∧c≤255)∧(Option.isSome (e5 w (Int.toNat c))=true→ab (.tuple [(hA w c),.bool true]) (j.au 21 [(0,(hP w c)),(2,J.made [da] 6 true (some (42,6)))]))∧(Option.isSome (e5 w (Int.toNat c))=false→ab (.tuple [(hA w c),.bool false]) (j.au 21 [(0,(hP w c)),(2,J.made [da] 6 true (some (42,6)))])))∧(¬c=109→numbers w=some [aj,a1]∧List.length w<100∧((a1:Int)<1→ab (ez) (j.au 49 [(0,gB),(2,J.made [da] 6 true (some (42,6))),(21,(sW aj a1))]))∧(¬(a1:Int)<1→(8<(a1:Int)→ab (ez) (j.au 49 [(0,gB),(2,J.made [da] 6 true (some (42,6))),(21,(sW aj a1))]))∧(¬8<(a1:Int)→(-9223372036854775808≤(a1:Int)-1∧(a1:Int)-1≤9223372036854775807)∧(0≤(a1:Int)-1∧(a1:Int)-1≤255)∧(0<ha c→((aj:Int)=1→ab (.tuple [(GX c a1),.bool true]) (j.au 71 [(0,(J.made ([(GX c a1)]) 6 true (some (42,6)))),(2,J.made [da] 6 true (some (42,6))),(21,(sW aj a1))]))∧(¬(aj:Int)=1→(G0 c aj a1 ab)∧(¬c=126→(c=117→0≤(aj:Int)∧(Be aj a1 ab)∧(Bf aj a1 ab))∧(¬c=117→ab (ez) (Bd aj a1)))))∧(¬0<ha c→(G0 c aj a1 ab)∧(¬c=126→(c=117→0≤(aj:Int)∧(Be aj a1 ab)∧(Bf aj a1 ab))∧(¬c=117→ab (ez) (Bd aj a1)))))))))))) :
 ∃v p,aI Tryz.prog aw 130 [.str w,.int .u8 c] (⟨0,.nil⟩) v p∧ab v p :=
 cf bU mixed (YP aj a1) (aq:= .aN 3000 (ah 6004 .nil) (.aN 4000 (ah 6004 .nil) (.aN 5000 (ah 6004 .nil) (.aN 7000 (.aN 9004 .nil .nil) (.aN 8000 (.aN 9004 .nil .nil) (.aN 28005 .nil (.aN 28009 .nil (ah 30001 (ah 30002 (.aN 31002 (.aN 31007 .nil xJ) xJ)))))))))) (by kernel_rfl) aY
abbrev N9:dh:=(ah 36001 (ah 36002 (.aN 36006 .nil .nil)))
abbrev G1(l:List Nat):o:=o.agg [.int .i8 2,.int .i32 (hL (a8 (bL l) 0)),.int .u8 0,.int .i64 0,.int .i64 0,.str []]
abbrev G2(c:Int)(l:List Nat):o:=o.agg [.int .i8 2,.int .i32 (ha c),.int .u8 (a8 (bL l) 1-1),.int .i64 0,.int .i64 0,.str []]
abbrev G3(l:List Nat):o:=o.agg [.int .i8 2,.int .i32 (hL (a8 (bL l) 0)),.int .u8 (a8 (bL l) 1-1),.int .i64 0,.int .i64 0,.str []]
abbrev Bg(l:List Nat):o:=o.agg [.int .i8 (bw.kind (Option.getD (eb (Int.toNat (a8 (bL l) 0)) 0) fm)),.int .i32 (bw.code (Option.getD (eb (Int.toNat (a8 (bL l) 0)) 0) fm)),.int .u8 (bw.dX (Option.getD (eb (Int.toNat (a8 (bL l) 0)) 0) fm)),.int .i64 (bw.x (Option.getD (eb (Int.toNat (a8 (bL l) 0)) 0) fm)),.int .i64 (bw.y (Option.getD (eb (Int.toNat (a8 (bL l) 0)) 0) fm)),.str (Option.getD (eb (Int.toNat (a8 (bL l) 0)) (0)) fm).6]
abbrev Bh(l:List Nat):o:=o.agg [.int .i8 (bw.kind (Option.getD (eb (Int.toNat (a8 (bL l) 0)) (a8 (bL l) 1-1)) fm)),.int .i32 (bw.code (Option.getD (eb (Int.toNat (a8 (bL l) 0)) (a8 (bL l) 1-1)) fm)),.int .u8 (bw.dX (Option.getD (eb (Int.toNat (a8 (bL l) 0)) (a8 (bL l) 1-1)) fm)),.int .i64 (bw.x (Option.getD (eb (Int.toNat (a8 (bL l) 0)) (a8 (bL l) 1-1)) fm)),.int .i64 (bw.y (Option.getD (eb (Int.toNat (a8 (bL l) 0)) (a8 (bL l) 1-1)) fm)),.str (Option.getD (eb (Int.toNat (a8 (bL l) 0)) (a8 (bL l) 1-1)) fm).6]
abbrev N'(l:List Nat):o:=o.tuple [(Bg l),.bool true]
abbrev Oa(l:List Nat):o:=o.tuple [(Bh l),.bool true]
abbrev Ob(l:List Nat):o:=o.tuple [(Bg l),.bool false]
abbrev Oc(l:List Nat):o:=o.tuple [(Bh l),.bool false]
abbrev Od(l:List Nat):J:=(J.made ([(Bg l)]) 6 true (some (42,6)))
abbrev Oe(l:List Nat):J:=(J.made ([(Bh l)]) 6 true (some (42,6)))
abbrev YW:dh:=(.aN 33007 (ah 34001 (ah 34002 .nil)) (.aN 35001 N9 .nil))
abbrev Of(l:List Nat):j:=(j.au 79 [(0,(J.made ([(G1 l)]) 6 true (some (42,6)))),(2,J.made [da] 6 true (some (42,6))),(21,(hz l))])
abbrev Og(l:List Nat):j:=(j.au 83 [(0,(J.made ([(G3 l)]) 6 true (some (42,6)))),(2,J.made [da] 6 true (some (42,6))),(21,(hz l))])
abbrev G4:dh:=(.aN 33001 (ah 33004 (ah 33005 YW)) (.aN 35001 N9 .nil))
abbrev Bi(l:List Nat):j:=(j.au 49 [(0,gB),(2,J.made [da] 6 true (some (42,6))),(21,(hz l))])
abbrev xK(l:List Nat):j:=(j.au 77 [(0,gB),(2,J.made [da] 6 true (some (42,6))),(21,(hz l))])
abbrev xL(l:List Nat):j:=(j.au 81 [(0,gB),(2,J.made [da] 6 true (some (42,6))),(21,(hz l))])
abbrev G5(l:List Nat):j:=(j.au 83 [(0,(Od l)),(2,J.made [da] 6 true (some (42,6))),(21,(hz l))])
abbrev G6(l:List Nat):j:=(j.au 87 [(0,(Oe l)),(2,J.made [da] 6 true (some (42,6))),(21,(hz l))])
abbrev Bj(l:List Nat)(ab:o→j→Prop):Prop:=(0<hL (a8 (bL l) 0)→((0:Int)≤0∧0<(↑(List.length l):Int))∧List.length l-1=List.length l-1∧(bL l)[0]? =some (.int .i64 (a8 (bL l) 0))∧ab (.tuple [(G1 l),.bool true]) (Of l))
abbrev Bk(l:List Nat)(ab:o→j→Prop):Prop:=(0<hL (a8 (bL l) 0)→((0:Int)≤0∧0<(↑(List.length l):Int))∧List.length l-1=List.length l-1∧(bL l)[0]? =some (.int .i64 (a8 (bL l) 0))∧ab (.tuple [(G3 l),.bool true]) (Og l))
abbrev Oh:dh:=(.aN 31002 (ah 31005 (ah 31006 (.aN 31007 (.aN 31012 .nil G4) G4))) G4)
abbrev xM(c:Int)(l:List Nat)(ab:o→j→Prop):Prop:=(c=117→((0:Int)≤0∧0<(↑(List.length l):Int))∧List.length l-1=List.length l-1∧(bL l)[0]? =some (.int .i64 (a8 (bL l) 0))∧0≤a8 (bL l) 0∧(Option.isSome (eb (Int.toNat (a8 (bL l) 0)) 0)=true→ab ((N' l)) (G5 l))∧(Option.isSome (eb (Int.toNat (a8 (bL l) 0)) 0)=false→ab ((Ob l)) (G5 l)))
abbrev xN(c:Int)(l:List Nat)(ab:o→j→Prop):Prop:=(c=117→((0:Int)≤0∧0<(↑(List.length l):Int))∧List.length l-1=List.length l-1∧(bL l)[0]? =some (.int .i64 (a8 (bL l) 0))∧0≤a8 (bL l) 0∧(Option.isSome (eb (Int.toNat (a8 (bL l) 0)) (a8 (bL l) 1-1))=true→ab ((Oa l)) (G6 l))∧(Option.isSome (eb (Int.toNat (a8 (bL l) 0)) (a8 (bL l) 1-1))=false→ab ((Oc l)) (G6 l)))
abbrev Bl(c:Int)(l:List Nat)(ab:o→j→Prop):Prop:=(¬0<hL (a8 (bL l) 0)→(xM c l ab)∧(¬c=117→ab (ez) (xK l)))
abbrev Bm(c:Int)(l:List Nat)(ab:o→j→Prop):Prop:=(¬0<hL (a8 (bL l) 0)→(xN c l ab)∧(¬c=117→ab (ez) (xL l)))
theorem YX(w:Bytes)(c:Int)(l:List Nat)(ab:o→j→Prop)(aY:(c=82→Nat.le (Nat.succ (List.length w+List.length [UInt8.ofNat (Int.toNat c)])) (2^62)∧ab (.tuple [(fP w c),.bool true]) (j.au 14 [(0,(J.made ([(fP w c)]) 6 true (some (42,6)))),(2,J.made [da] 6 true (some (42,6))),(8,J.made [.int .u8 c] 1 true)]))∧(¬c=82→(c=99→Nat.le (Nat.succ (List.length w+List.length [UInt8.ofNat (Int.toNat c)])) (2^62)∧ab (.tuple [(fP w c),.bool true]) (j.au 16 [(0,(J.made ([(fP w c)]) 6 true (some (42,6)))),(2,J.made [da] 6 true (some (42,6))),(10,J.made [.int .u8 c] 1 true)]))∧(¬c=99→(c=110→Nat.le (Nat.succ (List.length w+List.length [UInt8.ofNat (Int.toNat c)])) (2^62)∧ab (.tuple [(fP w c),.bool true]) (j.au 18 [(0,(J.made ([(fP w c)]) 6 true (some (42,6)))),(2,J.made [da] 6 true (some (42,6))),(12,J.made [.int .u8 c] 1 true)]))∧(¬c=110→(c=77→List.length w<100∧(0≤c∧c≤255)∧(Option.isSome (e5 w (Int.toNat c))=true→ab (.tuple [(hA w c),.bool true]) (j.au 19 [(0,(hP w c)),(2,J.made [da] 6 true (some (42,6)))]))∧(Option.isSome (e5 w (Int.toNat c))=false→ab (.tuple [(hA w c),.bool false]) (j.au 19 [(0,(hP w c)),(2,J.made [da] 6 true (some (42,6)))])))∧(¬c=77→(c=109→List.length w<100∧(0≤c∧c≤255)∧(Option.isSome (e5 w (Int.toNat c))=true→ab (.tuple [(hA w c),.bool true]) (j.au 21 [(0,(hP w c)),(2,J.made [da] 6 true (some (42,6)))]))∧(Option.isSome (e5 w (Int.toNat c))=false→ab (.tuple [(hA w c),.bool false]) (j.au 21 [(0,(hP w c)),(2,J.made [da] 6 true (some (42,6)))])))∧(¬c=109→numbers w=some l∧(l=[]→False)∧List.length w<100∧((↑(List.length l):Int)=0→(c=90→ab (.tuple [uO,.bool true]) (j.au 33 [(0,(J.made ([uO]) 6 true (some (42,6)))),(2,J.made [da] 6 true (some (42,6))),(21,(hz l))]))∧(¬c=90→(c=73→ab (.tuple [sV,.bool true]) (j.au 35 [(0,(J.made ([sV]) 6 true (some (42,6)))),(2,J.made [da] 6 true (some (42,6))),(21,(hz l))]))∧(¬c=73→(c=79→ab (.tuple [p4,.bool true]) (j.au 37 [(0,(J.made ([p4]) 6 true (some (42,6)))),(2,J.made [da] 6 true (some (42,6))),(21,(hz l))]))∧(¬c=79→(0<ha c→ab (.tuple [(nM c),.bool true]) (j.au 43 [(0,(J.made ([(nM c)]) 6 true (some (42,6)))),(2,J.made [da] 6 true (some (42,6))),(21,(hz l))]))∧(¬0<ha c→ab (ez) (j.au 42 [(0,gB),(2,J.made [da] 6 true (some (42,6))),(21,(hz l))]))))))∧(¬(↑(List.length l):Int)=0→((↑(List.length l):Int)=2→((0:Int)≤1∧1<(↑(List.length l):Int))∧List.length l-1=List.length l-1∧(bL l)[1]? =some (.int .i64 (a8 (bL l) 1))∧(2<(↑(List.length l):Int)→ab (ez) (Bi l))∧(¬2<(↑(List.length l):Int)→(a8 (bL l) 1<1→ab (ez) (Bi l))∧(¬a8 (bL l) 1<1→(8<a8 (bL l) 1→ab (ez) (Bi l))∧(¬8<a8 (bL l) 1→(-9223372036854775808≤a8 (bL l) 1-1∧a8 (bL l) 1-1≤9223372036854775807)∧(0≤a8 (bL l) 1-1∧a8 (bL l) 1-1≤255)∧(0<ha c→((0:Int)≤0∧0<(↑(List.length l):Int))∧List.length l-1=List.length l-1∧(bL l)[0]? =some (.int .i64 (a8 (bL l) 0))∧(a8 (bL l) 0=1→((↑(List.length l):Int)=2→ab (.tuple [(G2 c l),.bool true]) (j.au 71 [(0,(J.made ([(G2 c l)]) 6 true (some (42,6)))),(2,J.made [da] 6 true (some (42,6))),(21,(hz l))]))∧(¬(↑(List.length l):Int)=2→(c=126→((0:Int)≤0∧0<(↑(List.length l):Int))∧List.length l-1=List.length l-1∧(bL l)[0]? =some (.int .i64 (a8 (bL l) 0))∧(Bk l ab)∧(Bm c l ab))∧(¬c=126→(xN c l ab)∧(¬c=117→ab (ez) (xL l)))))∧(¬a8 (bL l) 0=1→(c=126→((0:Int)≤0∧0<(↑(List.length l):Int))∧List.length l-1=List.length l-1∧(bL l)[0]? =some (.int .i64 (a8 (bL l) 0))∧(Bk l ab)∧(Bm c l ab))∧(¬c=126→(xN c l ab)∧(¬c=117→ab (ez) (xL l)))))∧(¬0<ha c→(c=126→((0:Int)≤0∧0<(↑(List.length l):Int))∧List.length l-1=List.length l-1∧(bL l)[0]? =some (.int .i64 (a8 (bL l) 0))∧(Bk l ab)∧(Bm c l ab))∧(¬c=126→(xN c l ab)∧(¬c=117→ab (ez) (xL l))))))))∧(¬(↑(List.length l):Int)=2→(2<(↑(List.length l):Int)→ab (ez) (j.au 45 [(0,gB),(2,J.made [da] 6 true (some (42,6))),(21,(hz l))]))∧(¬2<(↑(List.length l):Int)→(0<ha c→((0:Int)≤0∧0<(↑(List.length l):Int))∧List.length l-1=List.length l-1∧(bL l)[0]? =some (.int .i64 (a8 (bL l) 0))∧(a8 (bL l) 0=1→((↑(List.length l):Int)=2→ab (.tuple [(nM c),.bool true]) (j.au 67 [(0,(J.made ([(nM c)]) 6 true (some (42,6)))),(2,J.made [da] 6 true (some (42,6))),(21,(hz l))]))∧(¬(↑(List.length l):Int)=2→(c=126→((0:Int)≤0∧0<(↑(List.length l):Int))∧List.length l-1=List.length l-1∧(bL l)[0]? =some (.int .i64 (a8 (bL l) 0))∧(Bj l ab)∧(Bl c l ab))∧(¬c=126→(xM c l ab)∧(¬c=117→ab (ez) (xK l)))))∧(¬a8 (bL l) 0=1→(c=126→((0:Int)≤0∧0<(↑(List.length l):Int))∧List.length l-1=List.length l-1∧(bL l)[0]? =some (.int .i64 (a8 (bL l) 0))∧(Bj l ab)∧(Bl c l ab))∧(¬c=126→(xM c l ab)∧(¬c=117→ab (ez) (xK l)))))∧(¬0<ha c→(c=126→((0:Int)≤0∧0<(↑(List.length l):Int))∧List.length l-1=List.length l-1∧(bL l)[0]? =some (.int .i64 (a8 (bL l) 0))∧(Bj l ab)∧(Bl c l ab))∧(¬c=126→(xM c l ab)∧(¬c=117→ab (ez) (xK l))))))))))))) :
 ∃v p,aI Tryz.prog aw 130 [.str w,.int .u8 c] (⟨0,.nil⟩) v p∧ab v p :=
 cf bU mixed (YR l) (aq:= .aN 3000 (ah 6004 .nil) (.aN 4000 (ah 6004 .nil) (.aN 5000 (ah 6004 .nil) (.aN 7000 (.aN 9004 .nil .nil) (.aN 8000 (.aN 9004 .nil .nil) (.aN 13002 (.aN 15000 .nil (.aN 17000 .nil (.aN 19000 .nil (.aN 22001 .nil .nil)))) (.aN 26002 (ah 27001 (ah 27002 (.aN 28002 .nil (.aN 28005 .nil (.aN 28009 .nil (ah 30001 (ah 30002 Oh))))))) (.aN 28002 .nil Oh)))))))) (by kernel_rfl) aY
set_option maxHeartbeats 4000000
theorem l8{c:UInt8}{k:UInt8}(h:c.toNat=k.toNat):c=k:=UInt8.toNat_inj.1 h
theorem sX{U:Option bw}{b:Bool}(h:U.isSome=b):o.tuple [di (U.getD fm),.bool b]=hf U:=by subst h;rfl
theorem YY{w:Bytes}{c:UInt8}(h:Keys.numbers w=none)(hw:w.length<100)(H:j):aI Tryz.prog aw 130 [.str w,.int .u8 c.toNat] H (hf (Keys.told w c)) H:=by
 refine aI.fk (YS w c.toNat (fun v _=>v=hf (Keys.told w c)) ?_) rfl rfl H
 delta da gB ez hP hA fP
 have ar:=c.toNat_lt;rw [oP,show Int.toNat (c.toNat:Int)=c.toNat by simp];have G7:(c.toNat:Int)=82→c=82:=fun e=>l8 (by show c.toNat=82;omega)
 have G8:(c.toNat:Int)=99→c=99:=fun e=>l8 (by show c.toNat=99;omega)
 have G9:(c.toNat:Int)=110→c=110:=fun e=>l8 (by show c.toNat=110;omega)
 have G':(c.toNat:Int)=77→c=77:=fun e=>l8 (by show c.toNat=77;omega)
 have Ha:(c.toNat:Int)=109→c=109:=fun e=>l8 (by show c.toNat=109;omega)
 have Hb:c=82∨c=99∨c=110→Keys.told w c=some {kind:=6,text:=w++[c]} :=fun e=>by simp only [Keys.told,if_pos e]
 have Hc:¬(c=82∨c=99∨c=110)→c=77∨c=109→Keys.told w c=Keys.e5 w c.toNat:=fun e bC=>by simp only [Keys.told,if_neg e,if_pos bC]
 have Hd:¬(c=82∨c=99∨c=110)→ ¬(c=77∨c=109)→Keys.told w c=none:=fun e bC=>by simp only [Keys.told,if_neg e,if_neg bC,h]
 have uP:¬(c.toNat:Int)=82→c≠82:=fun e f=>e (by rw [f];rfl)
 have n99:¬(c.toNat:Int)=99→c≠99:=fun e f=>e (by rw [f];rfl)
 have n110:¬(c.toNat:Int)=110→c≠110:=fun e f=>e (by rw [f];rfl)
 have Bn:¬(c.toNat:Int)=77→c≠77:=fun e f=>e (by rw [f];rfl)
 have n109:¬(c.toNat:Int)=109→c≠109:=fun e f=>e (by rw [f];rfl)
 have lw:List.length w+List.length [c]<2^62:=by simp;omega
 repeat' (first|assumption|exact Nat.succ_le_of_lt lw|apply And.intro|intro _)
 all_goals first
  |omega
  |(rw [Hb (by first|exact .inl (G7 ‹_›)|exact .inr (.inl (G8 ‹_›))|exact .inr (.inr (G9 ‹_›)))];rfl)
  |(rw [Hc (by simp only [uP ‹_›,n99 ‹_›,n110 ‹_›,or_self,not_false_eq_true]) (by first|exact .inl (G' ‹_›)|exact .inr (Ha ‹_›))];exact sX ‹_›)
  |(rw [Hd (by simp only [uP ‹_›,n99 ‹_›,n110 ‹_›,or_self,not_false_eq_true]) (by simp only [Bn ‹_›,n109 ‹_›,or_self,not_false_eq_true])];rfl)
theorem YZ{w:Bytes}{c:UInt8}(h:Keys.numbers w=some [])(hw:w.length<100)(H:j):aI Tryz.prog aw 130 [.str w,.int .u8 c.toNat] H (hf (Keys.told w c)) H:=by
 refine aI.fk (YT w c.toNat (fun v _=>v=hf (Keys.told w c)) ?_) rfl rfl H
 delta da gB ez nM p4 sV uO hP hA fP
 have ar:=c.toNat_lt;rw [oP,show Int.toNat (c.toNat:Int)=c.toNat by simp,xf];have G7:(c.toNat:Int)=82→c=82:=fun e=>l8 (by show c.toNat=82;omega)
 have G8:(c.toNat:Int)=99→c=99:=fun e=>l8 (by show c.toNat=99;omega)
 have G9:(c.toNat:Int)=110→c=110:=fun e=>l8 (by show c.toNat=110;omega)
 have G':(c.toNat:Int)=77→c=77:=fun e=>l8 (by show c.toNat=77;omega)
 have Ha:(c.toNat:Int)=109→c=109:=fun e=>l8 (by show c.toNat=109;omega)
 have Hb:c=82∨c=99∨c=110→Keys.told w c=some {kind:=6,text:=w++[c]} :=fun e=>by simp only [Keys.told,if_pos e]
 have Hc:¬(c=82∨c=99∨c=110)→c=77∨c=109→Keys.told w c=Keys.e5 w c.toNat:=fun e bC=>by simp only [Keys.told,if_neg e,if_pos bC]
 have Y0:(c.toNat:Int)=90→c=90:=fun e=>l8 (by show c.toNat=90;omega)
 have Y1:(c.toNat:Int)=73→c=73:=fun e=>l8 (by show c.toNat=73;omega)
 have Y2:(c.toNat:Int)=79→c=79:=fun e=>l8 (by show c.toNat=79;omega)
 have Oi:¬(c.toNat:Int)=90→c≠90:=fun e f=>e (by rw [f];rfl)
 have Oj:¬(c.toNat:Int)=73→c≠73:=fun e f=>e (by rw [f];rfl)
 have Ok:¬(c.toNat:Int)=79→c≠79:=fun e f=>e (by rw [f];rfl)
 have Y3:c=90→Keys.told w c=some (e4 2 1):=fun e=>by subst e;simp [Keys.told,h]
 have Y4:c=73→Keys.told w c=some {kind:=5,code:=1} :=fun e=>by subst e;simp [Keys.told,h]
 have Y5:c=79→Keys.told w c=some {kind:=5} :=fun e=>by subst e;simp [Keys.told,h]
 have xO:¬(c=82∨c=99∨c=110)→ ¬(c=77∨c=109)→c≠90→c≠73→c≠79→0<hK c.toNat→Keys.told w c=some (e4 (hK c.toNat)):=fun e bC b2 cp ia p5=>by simp only [Keys.told,if_neg e,if_neg bC,h,if_neg b2,if_neg cp,if_neg ia,if_pos p5]
 have Hd:¬(c=82∨c=99∨c=110)→ ¬(c=77∨c=109)→c≠90→c≠73→c≠79→ ¬0<hK c.toNat→Keys.told w c=none:=fun e bC b2 cp ia p5=>by simp only [Keys.told,if_neg e,if_neg bC,h,if_neg b2,if_neg cp,if_neg ia,if_neg p5]
 have uP:¬(c.toNat:Int)=82→c≠82:=fun e f=>e (by rw [f];rfl)
 have n99:¬(c.toNat:Int)=99→c≠99:=fun e f=>e (by rw [f];rfl)
 have n110:¬(c.toNat:Int)=110→c≠110:=fun e f=>e (by rw [f];rfl)
 have Bn:¬(c.toNat:Int)=77→c≠77:=fun e f=>e (by rw [f];rfl)
 have n109:¬(c.toNat:Int)=109→c≠109:=fun e f=>e (by rw [f];rfl)
 have lw:List.length w+List.length [c]<2^62:=by simp;omega
 repeat' (first|assumption|exact Nat.succ_le_of_lt lw|apply And.intro|intro _)
 all_goals first
  |omega
  |(rw [Hb (by first|exact .inl (G7 ‹_›)|exact .inr (.inl (G8 ‹_›))|exact .inr (.inr (G9 ‹_›)))];rfl)
  |(rw [Hc (by simp only [uP ‹_›,n99 ‹_›,n110 ‹_›,or_self,not_false_eq_true]) (by first|exact .inl (G' ‹_›)|exact .inr (Ha ‹_›))];exact sX ‹_›)
  |(rw [Y3 (Y0 ‹_›)];rfl)
  |(rw [Y4 (Y1 ‹_›)];rfl)
  |(rw [Y5 (Y2 ‹_›)];rfl)
  |(rw [xO (by simp only [uP ‹_›,n99 ‹_›,n110 ‹_›,or_self,not_false_eq_true]) (by simp only [Bn ‹_›,n109 ‹_›,or_self,not_false_eq_true]) (Oi ‹_›) (Oj ‹_›) (Ok ‹_›) ‹_›];rfl)
  |(rw [Hd (by simp only [uP ‹_›,n99 ‹_›,n110 ‹_›,or_self,not_false_eq_true]) (by simp only [Bn ‹_›,n109 ‹_›,or_self,not_false_eq_true]) (Oi ‹_›) (Oj ‹_›) (Ok ‹_›) ‹_›];rfl)
end Go.Proofs.YtddnafghiejcoaaGreatDoor
namespace Go.Keys
theorem uQ{c k:UInt8}(h:(c.toNat:Int)=(k.toNat:Int)):c=k:=UInt8.toNat_inj.1 (by omega)
theorem Ol(c k:UInt8):(c=k)=((c.toNat:Int)=(k.toNat:Int)):=propext ⟨fun e=>by rw [e],uQ⟩
structure Bo(c:UInt8):Prop where
 dK:¬(c.toNat:Int)=82
 dL:¬(c.toNat:Int)=99
 gd:¬(c.toNat:Int)=110
 mB:¬(c.toNat:Int)=77
 pM:¬(c.toNat:Int)=109
def He(r:List Nat):Int:=match r with | [x]=>(x:Int)|_=>1
theorem told_other{w:Bytes}{c:UInt8}(U:Bo c){aj:Nat}{r:List Nat}(h:numbers w=some (aj::r)):told w c =
 (let m:Int:=He r
  if 1<r.length∨m<1∨8<m then none
  else if 0<hK c.toNat∧aj=1∧r.length=1 then some (e4 (hK c.toNat) (m-1))
  else if(c.toNat:Int)=126∧0<j8 aj then some (e4 (j8 aj) (m-1))
  else if(c.toNat:Int)=117 then eb aj (m-1)
  else none):=by
 have p:¬(c=82∨c=99∨c=110):=by
  rintro (e|e|e)
  ·exact U.dK (by rw [e];rfl)
  ·exact U.dL (by rw [e];rfl)
  ·exact U.gd (by rw [e];rfl)
 have ae:¬(c=77∨c=109):=by
  rintro (e|e)
  ·exact U.mB (by rw [e];rfl)
  ·exact U.pM (by rw [e];rfl)
 have Y6:(c=126)=((c.toNat:Int)=126):=Ol c 126;have Y7:(c=117)=((c.toNat:Int)=117):=Ol c 117;simp only [told,if_neg p,if_neg ae,h,Y6,Y7];cases r with
 |nil=>rfl
 |cons a t=>cases t<;>rfl
theorem Hf{w:Bytes}{c:UInt8}(U:Bo c){aj:Nat}(h:numbers w=some [aj]):told w c=if(c.toNat:Int)=126∧0<j8 aj then some (e4 (j8 aj) 0)else if(c.toNat:Int)=117 then eb aj 0 else none:=by rw [told_other U h];simp [show He []=1 from rfl]
theorem xP{w:Bytes}{c:UInt8}(U:Bo c){aj a1:Nat}(h:numbers w=some [aj,a1]):told w c=if(a1:Int)<1∨8<(a1:Int)then none else if 0<hK c.toNat∧aj=1 then some (e4 (hK c.toNat) ((a1:Int)-1))else if(c.toNat:Int)=126∧0<j8 aj then some (e4 (j8 aj) ((a1:Int)-1))else if(c.toNat:Int)=117 then eb aj ((a1:Int)-1)else none:=by have bu:(1< [a1].length∨(a1:Int)<1∨8<(a1:Int))=((a1:Int)<1∨8<(a1:Int)):=propext (by simp);have bC:(0<hK c.toNat∧aj=1∧ [a1].length=1)=(0<hK c.toNat∧aj=1):=propext (by simp);rw [told_other U h];simp only [show He [a1]=(a1:Int)from rfl,bu,bC]
theorem Y8{w:Bytes}{c:UInt8}(U:Bo c){l:List Nat}(h:numbers w=some l)(aB:2<l.length):told w c=none:=by
 cases l with
 |nil=>simp at aB
 |cons a r =>
  rw [told_other U h];simp only [List.length_cons]at aB;have aC:1<r.length:=by omega
  simp [aC]
theorem Hg{w:Bytes}{c:UInt8}(h:(c.toNat:Int)=82∨(c.toNat:Int)=99∨(c.toNat:Int)=110):told w c=some {kind:=6,text:=w++[c]} :=by
 have p:c=82∨c=99∨c=110:=by
  rcases h with h|h|h
  ·exact .inl (uQ h)
  ·exact .inr (.inl (uQ h))
  ·exact .inr (.inr (uQ h))
 simp only [told,if_pos p]
theorem Hh{w:Bytes}{c:UInt8}(h:(c.toNat:Int)=77∨(c.toNat:Int)=109):told w c=e5 w c.toNat:=by
 have ae:c=77∨c=109:=by
  rcases h with h|h
  ·exact .inl (uQ h)
  ·exact .inr (uQ h)
 have p:¬(c=82∨c=99∨c=110):=by rcases ae with rfl|rfl<;>decide
 simp only [told,if_neg p,if_pos ae]
end Go.Keys
namespace Go.Proofs.YtddnafghiejcoaaGreatDoor
open Go.cH Go.Keys
set_option maxRecDepth 1000000
set_option maxHeartbeats 4000000
theorem Om(n:Nat):hL (n:Int)=j8 n:=by unfold hL j8;have ap:((n:Int)=1∨(n:Int)=7)=(n=1∨n=7):=propext (by omega);have a2:((n:Int)=4∨(n:Int)=8)=(n=4∨n=8):=propext (by omega);have a3:((n:Int)=2∨(n:Int)=3)=(n=2∨n=3):=propext (by omega);have a4:((n:Int)=5∨(n:Int)=6)=(n=5∨n=6):=propext (by omega);have a5:(11≤(n:Int)∧(n:Int)≤15)=(11≤n∧n≤15):=propext (by omega);have su:(17≤(n:Int)∧(n:Int)≤21)=(17≤n∧n≤21):=propext (by omega);have EQ:((n:Int)=23∨(n:Int)=24)=(n=23∨n=24):=propext (by omega);simp only [ap,a2,a3,a4,a5,su,EQ]
theorem Y9{w:Bytes}{c:UInt8}{aj:Nat}(h:Keys.numbers w=some [aj])(hw:w.length<100)(H:j):aI Tryz.prog aw 130 [.str w,.int .u8 c.toNat] H (hf (Keys.told w c)) H:=by
 refine aI.fk (YU w c.toNat aj (fun v _=>v=hf (Keys.told w c)) ?_) rfl rfl H
 delta Ba GS A8 da gB ez GW GU N5 A9 N4 GV N3 Bb A' N6 GR hP hA fP
 have ar:=c.toNat_lt;rw [oP,show Int.toNat (c.toNat:Int)=c.toNat by simp,xf,Om];have lw:List.length w+List.length [c]<2^62:=by simp;omega
 have Y':(0:Int)≤(aj:Int):=by omega
 repeat' (first|assumption|exact Nat.succ_le_of_lt lw|apply And.intro|intro _)
 all_goals first
  |omega
  |(rw [Hg (by omega)];rfl)
  |(rw [Hh (by omega)];exact sX ‹_›)
  |(rw [Hf ⟨by omega,by omega,by omega,by omega,by omega⟩ h,if_pos (by omega)];rfl)
  |(rw [Hf ⟨by omega,by omega,by omega,by omega,by omega⟩ h,if_neg (by omega),if_pos (by omega)];exact sX ‹_›)
  |(rw [Hf ⟨by omega,by omega,by omega,by omega,by omega⟩ h,if_neg (by omega),if_neg (by omega)];rfl)
theorem Za{w:Bytes}{c:UInt8}{aj a1:Nat}(h:Keys.numbers w=some [aj,a1])(hw:w.length<100)(H:j):aI Tryz.prog aw 130 [.str w,.int .u8 c.toNat] H (hf (Keys.told w c)) H:=by
 have cM:=N0 h;have afc:=cM aj (by simp);have eC:=cM a1 (by simp);refine aI.fk (YV w c.toNat aj a1 (fun v _=>v=hf (Keys.told w c)) ?_) rfl rfl H
 delta Bd sW da gB ez Bf GZ N7 Bc Be G0 N8 GY GX hP hA fP
 have ar:=c.toNat_lt;rw [oP,show Int.toNat (c.toNat:Int)=c.toNat by simp,xf,Om];have lw:List.length w+List.length [c]<2^62:=by simp;omega
 have Y':(0:Int)≤(aj:Int):=by omega
 repeat' (first|assumption|exact Nat.succ_le_of_lt lw|apply And.intro|intro _)
 all_goals first
  |omega
  |(rw [Hg (by omega)];rfl)
  |(rw [Hh (by omega)];exact sX ‹_›)
  |(rw [xP ⟨by omega,by omega,by omega,by omega,by omega⟩ h,if_pos (by omega)];rfl)
  |(rw [xP ⟨by omega,by omega,by omega,by omega,by omega⟩ h,if_neg (by omega),if_pos (by omega)];rfl)
  |(rw [xP ⟨by omega,by omega,by omega,by omega,by omega⟩ h,if_neg (by omega),if_neg (by omega),if_pos (by omega)];rfl)
  |(rw [xP ⟨by omega,by omega,by omega,by omega,by omega⟩ h,if_neg (by omega),if_neg (by omega),if_neg (by omega),if_pos (by omega)];exact sX ‹_›)
  |(rw [xP ⟨by omega,by omega,by omega,by omega,by omega⟩ h,if_neg (by omega),if_neg (by omega),if_neg (by omega),if_neg (by omega)];rfl)
theorem Zb{w:Bytes}{c:UInt8}{l:List Nat}(h:Keys.numbers w=some l)(aB:2<l.length)(hw:w.length<100)(H:j):aI Tryz.prog aw 130 [.str w,.int .u8 c.toNat] H (hf (Keys.told w c)) H:=by
 refine aI.fk (YX w c.toNat l (fun v _=>v=hf (Keys.told w c)) ?_) rfl rfl H
 delta xK hz da gB ez xM G5 Od Bg Ob N' Bl Bj Of G1 nM xL xN G6 Oe Bh Oc Oa Bm Bk Og G3 G2 Bi p4 sV uO hP hA fP
 have ar:=c.toNat_lt;rw [oP,show Int.toNat (c.toNat:Int)=c.toNat by simp,xf];have lw:List.length w+List.length [c]<2^62:=by simp;omega
 have bZ:l=[]→False:=by rintro rfl;simp at aB
 repeat' (first|assumption|exact Nat.succ_le_of_lt lw|apply And.intro|intro _)
 all_goals first
  |(exfalso;omega)
  |omega
  |(rw [Hg (by omega)];rfl)
  |(rw [Hh (by omega)];exact sX ‹_›)
  |(rw [Y8 ⟨by omega,by omega,by omega,by omega,by omega⟩ h aB];rfl)
theorem Zc(w:Bytes)(c:UInt8)(hw:w.length<100)(H:j):aI Tryz.prog aw 130 [.str w,.int .u8 c.toNat] H (hf (Keys.told w c)) H:=by
 cases h:Keys.numbers w with
 |none=>exact YY h hw H
 |some l =>
  match l,h with
  |[],h=>exact YZ h hw H
  |[a],h=>exact Y9 h hw H
  |[a,b],h=>exact Za h hw H
  |a::b::d::t,h=>exact Zb h (by simp only [List.length_cons];omega) hw H
noncomputable def trimS:List o→j→Option ev:=kw fun a=>match a with | [.str s,.str k]=>some (.str (s.dropWhile (· == 48)),[k=[48],s.length<2^40])|_=>none
noncomputable def On:List o→j→Option ev:=kw fun a=>match a with | [.str w,.int .u8 c]=>some (.tuple [di ((Keys.told w (ek c)).getD fm),.bool (Keys.told w (ek c)).isSome],[w.length<100,0≤c∧c≤255])|_=>none
theorem Zd:∀args h a,trimS args h=some a→a.dr Tryz.prog aw 128 args h:=by
 refine ls ?_;intro args v eL e ac H;split at e<;>first|(cases e;done)|skip
 simp only [Option.some.injEq,Prod.mk.injEq]at e;obtain⟨rfl,rfl⟩:=e;rw [ac.head];exact Xv _ H
theorem Ze:∀args h a,On args h=some a→a.dr Tryz.prog aw 130 args h:=by
 refine ls ?_;intro args v eL e ac H;split at e<;>first|(cases e;done)|skip
 rename_i w c;simp only [Option.some.injEq,Prod.mk.injEq]at e;obtain⟨rfl,rfl⟩:=e;have:=Zc w (ek c) ac.head H
 rwa [q7 ac.tail.head]at this
noncomputable def Oo:e9:=(M5.add 128 trimS).add 130 On
theorem Oq:eP Tryz.prog aw Oo:=(Xm.add Zd).add Ze
abbrev Ot:o:= .func (.func 129) [.ptr (some ⟨0,0,0,0,6⟩)] []
abbrev Ou:dh:=(.aN 12 (.aN 17 .nil (.aN 4005 .nil (ah 6004 .nil))) (.aN 4005 .nil (ah 6004 .nil)))
abbrev lB(l:List o)(len:Nat):o:=o.agg [.int .i8 7,.int .i32 0,.int .u8 0,.int .i64 0,.int .i64 0,.str (strOf (List.take len l))]
abbrev lC(c:Int)(w:Bytes):o:=o.agg [.int .i8 (bw.kind (Option.getD (told w (ek c)) fm)),.int .i32 (bw.code (Option.getD (told w (ek c)) fm)),.int .u8 (bw.dX (Option.getD (told w (ek c)) fm)),.int .i64 (bw.x (Option.getD (told w (ek c)) fm)),.int .i64 (bw.y (Option.getD (told w (ek c)) fm)),.str (Option.getD (told w (ek c)) fm).6]
abbrev Ov(c:Int)(w:Bytes):J:=(J.made ([(lC c w)]) 6 true (some (42,6)))
abbrev Ow(l:List o)(len:Nat):J:=(J.made ([(lB l len)]) 6 true (some (42,6)))
abbrev Ox(ag:o)(ad:o):o:=o.agg [Ot,.slice none 0 0,ag,.bool true,.ptr (some ⟨1,0,0,0,5⟩),ad]
abbrev Bp(ag:o)(ad:o)(ax:Option (TypeId×Nat))(R:Nat):J:=⟨[(Ox ag ad)],6,true,false,0,0,0,ax⟩
abbrev l9(f:Nat)(ag:o)(ad:o)(ax:Option (TypeId×Nat))(bj:J)(P:J)(O:J)(l:List o)(R:Nat)(m:Nat)(aG:Nat)(len:Nat)(c:Int)(w:Bytes):j:=(j.au 39 [(0,(hx f ag ad ax R len)),(1,bj),(2,(ed l R m aG)),(3,P),(4,O),(31,(Ov c w))])
abbrev l'(f:Nat)(ag:o)(ad:o)(ax:Option (TypeId×Nat))(bj:J)(P:J)(O:J)(l:List o)(R:Nat)(m:Nat)(aG:Nat)(len:Nat):j:=(j.au 46 [(0,(hx f ag ad ax R len)),(1,bj),(2,(ed l R m aG)),(3,P),(4,O),(31,(Ow l len))])
theorem Zf(f:Nat)(ag ad:o)(ax:Option (TypeId×Nat))(bj P O:J)(l:List o)(R m aG len:Nat)(c:Int)(w:Bytes)(ab:o→j→Prop)(aY:(c=126→(w=[(50:UInt8),(48:UInt8),(48:UInt8)]→ab (.tuple []) (j.au 39 [(0,(Bp ag ad ax R)),(1,bj),(2,(ed l R m aG)),(3,P),(4,O)]))∧(¬w=[(50:UInt8),(48:UInt8),(48:UInt8)]→(c=126→ [(48:UInt8)]=[(48:UInt8)]∧List.length w<1099511627776∧(List.dropWhile (fun x=>x == 48) w=[(50:UInt8),(48:UInt8),(48:UInt8)]→((↑(List.length w):Int)≤9→ab (.tuple []) (j.au 39 [(0,(Bp ag ad ax R)),(1,bj),(2,(ed l R m aG)),(3,P),(4,O)]))∧(¬(↑(List.length w):Int)≤9→List.length w<100∧(0≤c∧c≤255)∧(Option.isSome (told w (ek c))=true→cx (l9 f ag ad ax bj P O l R m aG len c w) ⟨0,0,0,0,6⟩ ((lC c w))∧∀(dF:j),cy (l9 f ag ad ax bj P O l R m aG len c w) ⟨0,0,0,0,6⟩ ((lC c w)) dF→bN 5 (dF.next) (ab (.tuple []) dF))∧(Option.isSome (told w (ek c))=false→R=R∧0+len≤List.length l∧(∃b3,List.take len (List.drop (bH.idx ⟨2,R,0,0,1⟩) (J.bi (ed l R m aG)))=aJ b3)∧cx (l' f ag ad ax bj P O l R m aG len) ⟨0,0,0,0,6⟩ ((lB l len))∧∀(dF:j),cy (l' f ag ad ax bj P O l R m aG len) ⟨0,0,0,0,6⟩ ((lB l len)) dF→bN 5 (dF.next) (ab (.tuple []) dF))))∧(¬List.dropWhile (fun x=>x == 48) w=[(50:UInt8),(48:UInt8),(48:UInt8)]→List.length w<100∧(0≤c∧c≤255)∧(Option.isSome (told w (ek c))=true→cx (l9 f ag ad ax bj P O l R m aG len c w) ⟨0,0,0,0,6⟩ ((lC c w))∧∀(dF:j),cy (l9 f ag ad ax bj P O l R m aG len c w) ⟨0,0,0,0,6⟩ ((lC c w)) dF→bN 5 (dF.next) (ab (.tuple []) dF))∧(Option.isSome (told w (ek c))=false→R=R∧0+len≤List.length l∧(∃b3,List.take len (List.drop (bH.idx ⟨2,R,0,0,1⟩) (J.bi (ed l R m aG)))=aJ b3)∧cx (l' f ag ad ax bj P O l R m aG len) ⟨0,0,0,0,6⟩ ((lB l len))∧∀(dF:j),cy (l' f ag ad ax bj P O l R m aG len) ⟨0,0,0,0,6⟩ ((lB l len)) dF→bN 5 (dF.next) (ab (.tuple []) dF))))∧(¬c=126→List.length w<100∧(0≤c∧c≤255)∧(Option.isSome (told w (ek c))=true→cx (l9 f ag ad ax bj P O l R m aG len c w) ⟨0,0,0,0,6⟩ ((lC c w))∧∀(dF:j),cy (l9 f ag ad ax bj P O l R m aG len c w) ⟨0,0,0,0,6⟩ ((lC c w)) dF→bN 5 (dF.next) (ab (.tuple []) dF))∧(Option.isSome (told w (ek c))=false→R=R∧0+len≤List.length l∧(∃b3,List.take len (List.drop (bH.idx ⟨2,R,0,0,1⟩) (J.bi (ed l R m aG)))=aJ b3)∧cx (l' f ag ad ax bj P O l R m aG len) ⟨0,0,0,0,6⟩ ((lB l len))∧∀(dF:j),cy (l' f ag ad ax bj P O l R m aG len) ⟨0,0,0,0,6⟩ ((lB l len)) dF→bN 5 (dF.next) (ab (.tuple []) dF)))))∧(¬c=126→(c=126→ [(48:UInt8)]=[(48:UInt8)]∧List.length w<1099511627776∧(List.dropWhile (fun x=>x == 48) w=[(50:UInt8),(48:UInt8),(48:UInt8)]→((↑(List.length w):Int)≤9→ab (.tuple []) (j.au 39 [(0,(Bp ag ad ax R)),(1,bj),(2,(ed l R m aG)),(3,P),(4,O)]))∧(¬(↑(List.length w):Int)≤9→List.length w<100∧(0≤c∧c≤255)∧(Option.isSome (told w (ek c))=true→cx (l9 f ag ad ax bj P O l R m aG len c w) ⟨0,0,0,0,6⟩ ((lC c w))∧∀(dF:j),cy (l9 f ag ad ax bj P O l R m aG len c w) ⟨0,0,0,0,6⟩ ((lC c w)) dF→bN 5 (dF.next) (ab (.tuple []) dF))∧(Option.isSome (told w (ek c))=false→R=R∧0+len≤List.length l∧(∃b3,List.take len (List.drop (bH.idx ⟨2,R,0,0,1⟩) (J.bi (ed l R m aG)))=aJ b3)∧cx (l' f ag ad ax bj P O l R m aG len) ⟨0,0,0,0,6⟩ ((lB l len))∧∀(dF:j),cy (l' f ag ad ax bj P O l R m aG len) ⟨0,0,0,0,6⟩ ((lB l len)) dF→bN 5 (dF.next) (ab (.tuple []) dF))))∧(¬List.dropWhile (fun x=>x == 48) w=[(50:UInt8),(48:UInt8),(48:UInt8)]→List.length w<100∧(0≤c∧c≤255)∧(Option.isSome (told w (ek c))=true→cx (l9 f ag ad ax bj P O l R m aG len c w) ⟨0,0,0,0,6⟩ ((lC c w))∧∀(dF:j),cy (l9 f ag ad ax bj P O l R m aG len c w) ⟨0,0,0,0,6⟩ ((lC c w)) dF→bN 5 (dF.next) (ab (.tuple []) dF))∧(Option.isSome (told w (ek c))=false→R=R∧0+len≤List.length l∧(∃b3,List.take len (List.drop (bH.idx ⟨2,R,0,0,1⟩) (J.bi (ed l R m aG)))=aJ b3)∧cx (l' f ag ad ax bj P O l R m aG len) ⟨0,0,0,0,6⟩ ((lB l len))∧∀(dF:j),cy (l' f ag ad ax bj P O l R m aG len) ⟨0,0,0,0,6⟩ ((lB l len)) dF→bN 5 (dF.next) (ab (.tuple []) dF))))∧(¬c=126→List.length w<100∧(0≤c∧c≤255)∧(Option.isSome (told w (ek c))=true→cx (l9 f ag ad ax bj P O l R m aG len c w) ⟨0,0,0,0,6⟩ ((lC c w))∧∀(dF:j),cy (l9 f ag ad ax bj P O l R m aG len c w) ⟨0,0,0,0,6⟩ ((lC c w)) dF→bN 5 (dF.next) (ab (.tuple []) dF))∧(Option.isSome (told w (ek c))=false→R=R∧0+len≤List.length l∧(∃b3,List.take len (List.drop (bH.idx ⟨2,R,0,0,1⟩) (J.bi (ed l R m aG)))=aJ b3)∧cx (l' f ag ad ax bj P O l R m aG len) ⟨0,0,0,0,6⟩ ((lB l len))∧∀(dF:j),cy (l' f ag ad ax bj P O l R m aG len) ⟨0,0,0,0,6⟩ ((lB l len)) dF→bN 5 (dF.next) (ab (.tuple []) dF))))) :
 ∃v p,aI Tryz.prog aw 105 [.ptr (some ⟨0,0,0,0,6⟩),.str w,.int .u8 c] (j.of [b1 0 f 1 (.slice (some ⟨2,R,0,0,1⟩) len len) ag false ad ax,bj,ct l 1 R m aG cF,P,O]) v p∧ab v p :=
 cf bU mixed Oq (aq:= .aN 1 (.aN 4 .nil (.aN 8 Ou (.aN 4005 .nil (ah 6004 .nil)))) (.aN 8 Ou (.aN 4005 .nil (ah 6004 .nil)))) (by kernel_rfl) aY
set_option maxHeartbeats 4000000
structure Hi(N:Nat)(h:j)(a:bH)(w:Bytes)(c:Int):Prop where
 at':a=⟨a.id,0,0,0,6⟩
 ex:∃aF s es,cm h a.id aF s es∧es.length<N∧s.hold=[]∧s.b8=.sequence
 c:0≤c∧c≤255
 w:w.length<100
structure Hj(h:j)(a:bH)(w:Bytes)(c:Int)(aa:j):Prop where
 all:∀aF s es,cm h a.id aF s es→s.hold.length≤4→ ∃aO,cm aa a.id aO (Keys.done s w (ek c)).1 (es++(Keys.done s w (ek c)).2)∧Fr h aa a.id aF aO
 next:h.next≤aa.next
def Hk(N:Nat):List o→j→Option ev:=fun args h =>
 match args with
 |[.ptr (some a),.str w,.int .u8 c]=>some (.some (.tuple []) [Hi N h a w c] (Hj h a w c))
 |_=>none
theorem Zg{kept az w:Bytes}{c:UInt8}(ar:c.toNat=126)(hw:pD w=true):Keys.done ⟨.sequence,kept,[],az⟩ w c=(⟨.cC,[],[],az⟩,[]):=by have:c=126:=UInt8.toNat_inj.1 (by show c.toNat=126;exact ar);simp [Keys.done,this,hw]
theorem Oy{kept az w:Bytes}{c:UInt8}(h:¬(c.toNat=126∧pD w=true)):Keys.done ⟨.sequence,kept,[],az⟩ w c=(⟨.ground,[],[],az⟩,[(Keys.told w c).getD (gM kept)]):=by
 have:¬(c=126∧pD w=true):=fun e=>h ⟨by rw [e.1];rfl,e.2⟩
 simp only [Keys.done,this,if_false,tell]
theorem Zh{w kept:Bytes}{c:UInt8}(h:(Keys.told w c).isSome=true):(Keys.told w c).getD (gM kept)=(Keys.told w c).getD fm:=by
 cases bQ:Keys.told w c with
 |none=>rw [bQ]at h;cases h
 |some e=>rfl
theorem told_none{w kept:Bytes}{c:UInt8}(h:(Keys.told w c).isSome=false):(Keys.told w c).getD (gM kept)=gM kept:=by
 cases bQ:Keys.told w c with
 |none=>rfl
 |some e=>rw [bQ]at h;cases h
set_option hygiene false in
theorem Zi{H:j}{d:Nat}{aF:cB}{s:bI}{es:List bw}{c:UInt8}{w:Bytes}(g:cm H d aF s es)(cs:es.length<2^30)(p:s.hold=[])(ae:s.b8=.sequence)(hw:w.length<100):∃aR,aI Tryz.prog aw 105 [.ptr (some ⟨d,0,0,0,6⟩),.str w,.int .u8 c.toNat] H (.tuple []) aR ∧
 ∃aO,cm aR d aO (Keys.done s w c).1 (es++(Keys.done s w c).2)∧Fr H aR d aF aO:=by
 obtain⟨bl,g,aq⟩:=g
 refine g.lift (Q:=fun h d aF=>cm h d aF (Keys.done s w c).1 (es++(Keys.done s w c).2)) (rest:=[.str w,.int .u8 c.toNat]) (fun a aS=>by
  rcases List.mem_cons.1 aS with e|e
  ·rw [e];exact cT.of rfl
  ·rw [List.mem_singleton.1 e];exact cT.int _ _) (cT.of rfl) (fun aa aR r d aF be io cM q=>q.oL be io cM) ?_
 intro aV ag ad an aE bx bt bk bz K P O aZ gs cQ;obtain⟨ao,ac,ai⟩:=mQ gs;obtain⟨b8,kept,hold,az⟩:=s;simp only at p ae aq gs ao ac ai⊢;subst p ae
 have my:bl=.grown []:=by
  cases bl with
  |grown C=>cases C with
   |nil=>rfl
   |cons a b=>exact aq.elim
  |_=>exact aq.elim
 subst my;obtain⟨kz,R,m,aG,rfl,df⟩:=ao;have cw:aZ.k=2:=by omega
 rw [cw,j.eX]at df;simp only [List.getElem?_cons_zero,List.getElem?_cons_succ,Option.some.injEq,List.nil_append]at df;subst df;rw [cw]at ac ai⊢;simp only [List.length_nil]at ac ai⊢;have tE:=c.toNat_lt;have hE:=nN kept
 suffices bQ:∃v aa,aI Tryz.prog aw 105 [.ptr (some ⟨0,0,0,0,6⟩),.str w,.int .u8 c.toNat] (j.of [b1 0 (cD .sequence) 1 (.slice (some ⟨2,R,0,0,1⟩) kept.length kept.length) ag false ad an,ch [] bx bt bk bz aE,ct (aJ kept) 1 R m aG cF,P,O]) v aa ∧
  (v=.tuple []∧∃aO,cm aa 0 aO (Keys.done ⟨.sequence,kept,[],az⟩ w c).1 (es++(Keys.done ⟨.sequence,kept,[],az⟩ w c).2)∧Fr (j.of [b1 0 (cD .sequence) 1 (.slice (some ⟨2,R,0,0,1⟩) kept.length kept.length) ag false ad an,ch [] bx bt bk bz aE,ct (aJ kept) 1 R m aG cF,P,O]) aa 0 aZ aO)by
  obtain⟨v,aa,aD,rfl,q⟩:=bQ;exact⟨aa,aD,q⟩
 refine Zf (cD .sequence) ag ad an (ch [] bx bt bk bz aE) P O (aJ kept) R m aG kept.length c.toNat w _ ?_
 delta lB l' Ow ed hx uK uJ eG lC l9 Ov Bp Ox Ot
 rw [show ek (c.toNat:Int)=c from uL c,show strOf (List.take kept.length (aJ kept))=kept by rw [xd,iZ]];by_cases Bq:c.toNat=126∧pD w=true
 ·obtain⟨ar,Hl⟩:=Bq
  have oT:∀{h:j},h.get 0=some (b1 0 (cD .cC) 1 (.slice none 0 0) ag true ad an)→h.get 1=some (ch [] bx bt bk bz aE)→h.get 3=some P→h.get 4=some O→Nat.ble 5 h.next=true→o.tuple []=.tuple []∧∃aO,cm h 0 aO (Keys.done ⟨.sequence,kept,[],az⟩ w c).1 (es++(Keys.done ⟨.sequence,kept,[],az⟩ w c).2)∧Fr (j.of [b1 0 (cD .sequence) 1 (.slice (some ⟨2,R,0,0,1⟩) kept.length kept.length) ag false ad an,ch [] bx bt bk bz aE,ct (aJ kept) 1 R m aG cF,P,O]) h 0 aZ aO:=by intro h b' bu b2 cp bJ;have bJ:=Nat.le_of_ble_eq_true bJ;refine⟨rfl,?_⟩;rw [Zg ar Hl,List.append_nil];exact oO (s:=⟨.cC,[],[],az⟩) (bl:= .nil) (iu (k:=0) rfl bJ b' bu (.inr cw) b2 cp (AE _) (by omega) ac ai cQ (.inl rfl)) trivial
  have dm:(c.toNat:Int)=126:=by omega
  have j3:w=[(50:UInt8),(48:UInt8),(48:UInt8)]∨(List.dropWhile (fun x=>x == 48) w=[(50:UInt8),(48:UInt8),(48:UInt8)]∧(w.length:Int)≤9):=by
   simp only [pD,Bool.or_eq_true,beq_iff_eq,Bool.and_eq_true,decide_eq_true_eq]at Hl;rcases Hl with e|⟨e,bC⟩
   ·exact .inl e
   ·exact .inr ⟨e,by omega⟩
  rcases j3 with bu|⟨bu,bC⟩
  ·repeat' (first
    |exact True.intro
    |assumption
    |contradiction
    |exact oT (by kernel_rfl) (by kernel_rfl) (by kernel_rfl) (by kernel_rfl) (by kernel_rfl)
    |exact ll (by assumption) (by kernel_rfl) (by kernel_rfl) (by kernel_rfl) (by kernel_rfl) (by kernel_rfl) (by kernel_rfl) rfl
    |exact dl (by assumption) (by kernel_rfl) (by kernel_rfl) (by kernel_rfl) (by kernel_rfl) (by kernel_rfl) (by kernel_rfl) rfl
    |intro _
    |refine And.intro ?_ ?_
    |rfl
    |omega
    |exact oS _ _ _)
  ·repeat' (first
    |exact True.intro
    |assumption
    |contradiction
    |exact oT (by kernel_rfl) (by kernel_rfl) (by kernel_rfl) (by kernel_rfl) (by kernel_rfl)
    |exact ll (by assumption) (by kernel_rfl) (by kernel_rfl) (by kernel_rfl) (by kernel_rfl) (by kernel_rfl) (by kernel_rfl) rfl
    |exact dl (by assumption) (by kernel_rfl) (by kernel_rfl) (by kernel_rfl) (by kernel_rfl) (by kernel_rfl) (by kernel_rfl) rfl
    |intro _
    |refine And.intro ?_ ?_
    |rfl
    |omega
    |exact oS _ _ _)
 ·have ll:∀{h:j}{cJ:o},(Keys.told w c).isSome=true→Nat.ble 5 h.next=true→h.get 0=some (b1 0 (cD .sequence) 1 (.slice (some ⟨2,R,0,0,1⟩) kept.length kept.length) ag false ad an)→h.get 1=some (ch [] bx bt bk bz aE)→h.get 2=some (ct (aJ kept) 1 R m aG cF)→h.get 3=some P→h.get 4=some O→cJ=di ((Keys.told w c).getD fm) →
   cx h ⟨0,0,0,0,6⟩ cJ∧∀aa,cy h ⟨0,0,0,0,6⟩ cJ aa→_root_.cond (Nat.ble 5 aa.next) (o.tuple []=.tuple []∧∃aO,cm aa 0 aO (Keys.done ⟨.sequence,kept,[],az⟩ w c).1 (es++(Keys.done ⟨.sequence,kept,[],az⟩ w c).2)∧Fr (j.of [b1 0 (cD .sequence) 1 (.slice (some ⟨2,R,0,0,1⟩) kept.length kept.length) ag false ad an,ch [] bx bt bk bz aE,ct (aJ kept) 1 R m aG cF,P,O]) aa 0 aZ aO) False:=by
   intro h cJ aq bJ b' bu bC b2 cp he;exact sQ bJ b' bu bC b2 cp rfl rfl ac ai cQ cw he cs (by simp) fun aa aO g cL=>⟨rfl,aO,by rw [Oy Bq,Zh aq];exact g,cL⟩
  have dl:∀{h:j}{cJ:o},(Keys.told w c).isSome=false→Nat.ble 5 h.next=true→h.get 0=some (b1 0 (cD .sequence) 1 (.slice (some ⟨2,R,0,0,1⟩) kept.length kept.length) ag false ad an)→h.get 1=some (ch [] bx bt bk bz aE)→h.get 2=some (ct (aJ kept) 1 R m aG cF)→h.get 3=some P→h.get 4=some O→cJ=di (gM kept) →
   cx h ⟨0,0,0,0,6⟩ cJ∧∀aa,cy h ⟨0,0,0,0,6⟩ cJ aa→_root_.cond (Nat.ble 5 aa.next) (o.tuple []=.tuple []∧∃aO,cm aa 0 aO (Keys.done ⟨.sequence,kept,[],az⟩ w c).1 (es++(Keys.done ⟨.sequence,kept,[],az⟩ w c).2)∧Fr (j.of [b1 0 (cD .sequence) 1 (.slice (some ⟨2,R,0,0,1⟩) kept.length kept.length) ag false ad an,ch [] bx bt bk bz aE,ct (aJ kept) 1 R m aG cF,P,O]) aa 0 aZ aO) False:=by
   intro h cJ aq bJ b' bu bC b2 cp he;exact sQ bJ b' bu bC b2 cp rfl rfl ac ai cQ cw he cs (by simp) fun aa aO g cL=>⟨rfl,aO,by rw [Oy Bq,told_none aq];exact g,cL⟩
  by_cases ar:(c.toNat:Int)=126
  ·have Oz:pD w=false:=by
    cases al:pD w with
    |false=>rfl
    |true=>exact absurd ⟨by omega,al⟩ Bq
   simp only [pD,Bool.or_eq_false_iff,Bool.and_eq_false_iff,beq_eq_false_iff_ne,decide_eq_false_iff_not]at Oz;obtain⟨a1,aP⟩:=Oz;have afd:¬w=[(50:UInt8),(48:UInt8),(48:UInt8)]:=a1;rcases aP with aP|aP
   ·have Zj:¬List.dropWhile (fun x=>x == 48) w=[(50:UInt8),(48:UInt8),(48:UInt8)]:=aP
    repeat' (first
     |exact True.intro
     |assumption
     |contradiction
     |exact oT (by kernel_rfl) (by kernel_rfl) (by kernel_rfl) (by kernel_rfl) (by kernel_rfl)
     |exact ll (by assumption) (by kernel_rfl) (by kernel_rfl) (by kernel_rfl) (by kernel_rfl) (by kernel_rfl) (by kernel_rfl) rfl
     |exact dl (by assumption) (by kernel_rfl) (by kernel_rfl) (by kernel_rfl) (by kernel_rfl) (by kernel_rfl) (by kernel_rfl) rfl
     |intro _
     |refine And.intro ?_ ?_
     |rfl
     |omega
     |exact oS _ _ _)
   ·have Zj:¬(w.length:Int)≤9:=by omega
    repeat' (first
     |exact True.intro
     |assumption
     |contradiction
     |exact oT (by kernel_rfl) (by kernel_rfl) (by kernel_rfl) (by kernel_rfl) (by kernel_rfl)
     |exact ll (by assumption) (by kernel_rfl) (by kernel_rfl) (by kernel_rfl) (by kernel_rfl) (by kernel_rfl) (by kernel_rfl) rfl
     |exact dl (by assumption) (by kernel_rfl) (by kernel_rfl) (by kernel_rfl) (by kernel_rfl) (by kernel_rfl) (by kernel_rfl) rfl
     |intro _
     |refine And.intro ?_ ?_
     |rfl
     |omega
     |exact oS _ _ _)
  ·repeat' (first
    |exact True.intro
    |assumption
    |contradiction
    |exact oT (by kernel_rfl) (by kernel_rfl) (by kernel_rfl) (by kernel_rfl) (by kernel_rfl)
    |exact ll (by assumption) (by kernel_rfl) (by kernel_rfl) (by kernel_rfl) (by kernel_rfl) (by kernel_rfl) (by kernel_rfl) rfl
    |exact dl (by assumption) (by kernel_rfl) (by kernel_rfl) (by kernel_rfl) (by kernel_rfl) (by kernel_rfl) (by kernel_rfl) rfl
    |intro _
    |refine And.intro ?_ ?_
    |rfl
    |omega
    |exact oS _ _ _)
theorem Zk:∀args h a,Hk (2^30) args h=some a→a.dr Tryz.prog aw 105 args h:=by
 intro args h a e;unfold Hk at e;split at e<;>first|(cases e;done)|skip
 rename_i a w c;simp only [Option.some.injEq]at e;subst e;intro ac;have aS:=ac.head.at';obtain⟨_,⟨aF,s,es,g,cs,aB,aM⟩,ar,hw⟩:=ac.head;obtain⟨aa,aD,aO,dA,cL⟩:=Zi (c:=ek c) g cs aB aM hw;rw [←aS,Mv ar]at aD;refine⟨aa,aD,⟨?_,cL.next⟩⟩;intro c' s2 ra g2 pr;obtain⟨rfl,rfl,rfl⟩:=g.qM g2 (by rw [aB];simp);exact⟨aO,dA,cL⟩
noncomputable def OA:e9:=Oo.add 105 (Hk (2^30))
theorem OB:eP Tryz.prog aw OA:=Oq.add Zk
abbrev OC:dh:=(.aN 5001 (.aN 5004 .nil (ah 7007 (.aN 8005 (ah 9005 .nil) .nil))) (ah 7007 (.aN 8005 (ah 9005 .nil) .nil)))
abbrev p6(f:Nat)(ag:o)(ad:o)(ax:Option (TypeId×Nat))(bj:J)(P:J)(O:J)(l:List o)(R:Nat)(m:Nat)(aG:Nat)(len:Nat):j:=(j.au 35 [(0,(hx f ag ad ax R len)),(1,bj),(2,(ed l R m aG)),(3,P),(4,O)])
abbrev xQ(f:Nat)(ag:o)(ad:o)(ax:Option (TypeId×Nat))(bj:J)(P:J)(O:J)(l:List o)(R:Nat)(m:Nat)(aG:Nat)(len:Nat)(c:Int):j:=(j.au 56 [(0,(hy f ag ad ax R len)),(1,bj),(2,(dp l R m aG c)),(3,P),(4,O),(45,J.made [.int .u8 c] 1 true)])
abbrev p7(f:Nat)(ag:o)(ad:o)(ax:Option (TypeId×Nat))(bj:J)(P:J)(O:J)(l:List o)(R:Nat)(m:Nat)(aG:Nat)(len:Nat)(c:Int):j:=(j.au 64 [(0,(hy f ag ad ax R len)),(1,bj),(2,(dp l R m aG c)),(3,P),(4,O),(45,J.made [.int .u8 c] 1 true)])
theorem Zl(f:Nat)(ag ad:o)(ax:Option (TypeId×Nat))(bj P O:J)(l:List o)(R m aG len:Nat)(c:Int)(ab:o→j→Prop)(aY:(-9223372036854775808≤(len:Int)-1∧(len:Int)-1≤9223372036854775807)∧(0≤(len:Int)-1∧(len:Int)-1<(len:Int))∧R=R∧l[0+Int.toNat ((len:Int)-1)]? =some (.int .u8 (a8 l (0+Int.toNat ((len:Int)-1))))∧(64≤c→(c≤126→(R=R∧0+len=List.length l∧len<len+1∧(len+1+(len+1)/4+512)*1≤281474976710656∧len+1<4611686018427387904)∧(-9223372036854775808≤(↑(len+1):Int)-1∧(↑(len+1):Int)-1≤9223372036854775807)∧((0:Int)≤2∧2≤(↑(len+1):Int)-1∧(↑(len+1):Int)-1≤(↑(len+1):Int))∧R+1=R+1∧2+(Int.toNat ((↑(len+1):Int)-1)-2)≤List.length (l++[.int .u8 c])∧(∃b3,List.take (Int.toNat ((↑(len+1):Int)-1)-2) (List.drop (bH.idx {id:=2,R:=R+1,idx:=2,bP:=0,es:=1}) (J.bi (dp l R m aG c)))=aJ b3)∧Hi (2^30) (j.au 51 [(0,(hy f ag ad ax R len)),(1,bj),(2,(dp l R m aG c)),(3,P),(4,O),(31,J.made [.int .u8 c] 1 true)]) ⟨0,0,0,0,6⟩ (strOf (List.take (Int.toNat ((↑(len+1):Int)-1)-2) (List.drop 2 (List.append l [.int .u8 c])))) c∧∀(Hm:j),Hj (j.au 51 [(0,(hy f ag ad ax R len)),(1,bj),(2,(dp l R m aG c)),(3,P),(4,O),(31,J.made [.int .u8 c] 1 true)]) ⟨0,0,0,0,6⟩ (strOf (List.take (Int.toNat ((↑(len+1):Int)-1)-2) (List.drop 2 (List.append l [.int .u8 c])))) c Hm→bN 5 (Hm.next) (ab (.tuple []) Hm))∧(¬c≤126→(c<32→dy (2^30-8) ey (p6 f ag ad ax bj P O l R m aG len) ⟨0,0,0,0,6⟩ c∧∀(gm:j),dz bad (p6 f ag ad ax bj P O l R m aG len) ⟨0,0,0,0,6⟩ c gm→bN 5 (gm.next) (ab (.tuple []) gm))∧(¬c<32→(63<c→dy (2^30-8) ey (p6 f ag ad ax bj P O l R m aG len) ⟨0,0,0,0,6⟩ c∧∀(gm:j),dz bad (p6 f ag ad ax bj P O l R m aG len) ⟨0,0,0,0,6⟩ c gm→bN 5 (gm.next) (ab (.tuple []) gm))∧(¬63<c→(48≤c→(a8 l (0+Int.toNat ((len:Int)-1))<48→dy (2^30-8) ey (j.au 42 [(0,(hx f ag ad ax R len)),(1,bj),(2,(ed l R m aG)),(3,P),(4,O)]) ⟨0,0,0,0,6⟩ c∧∀(gm:j),dz bad (j.au 42 [(0,(hx f ag ad ax R len)),(1,bj),(2,(ed l R m aG)),(3,P),(4,O)]) ⟨0,0,0,0,6⟩ c gm→bN 5 (gm.next) (ab (.tuple []) gm))∧(¬a8 l (0+Int.toNat ((len:Int)-1))<48→(R=R∧0+len=List.length l∧len<len+1∧(len+1+(len+1)/4+512)*1≤281474976710656∧len+1<4611686018427387904)∧((↑(len+1):Int)=64→R+1=R+1∧0+(len+1)≤List.length (l++[.int .u8 c])∧(∃b3,List.take (len+1) (List.drop (bH.idx {id:=2,R:=R+1,idx:=0,bP:=0,es:=1}) (J.bi (dp l R m aG c)))=aJ b3)∧cx (p7 f ag ad ax bj P O l R m aG len c) ⟨0,0,0,0,6⟩ ((ee l len c))∧∀(kZ:j),cy (p7 f ag ad ax bj P O l R m aG len c) ⟨0,0,0,0,6⟩ ((ee l len c)) kZ→bN 5 (kZ.next) (ab (.tuple []) kZ))∧(¬(↑(len+1):Int)=64→ab (.tuple []) (xQ f ag ad ax bj P O l R m aG len c))))∧(¬48≤c→(R=R∧0+len=List.length l∧len<len+1∧(len+1+(len+1)/4+512)*1≤281474976710656∧len+1<4611686018427387904)∧((↑(len+1):Int)=64→R+1=R+1∧0+(len+1)≤List.length (l++[.int .u8 c])∧(∃b3,List.take (len+1) (List.drop (bH.idx {id:=2,R:=R+1,idx:=0,bP:=0,es:=1}) (J.bi (dp l R m aG c)))=aJ b3)∧cx (p7 f ag ad ax bj P O l R m aG len c) ⟨0,0,0,0,6⟩ ((ee l len c))∧∀(kZ:j),cy (p7 f ag ad ax bj P O l R m aG len c) ⟨0,0,0,0,6⟩ ((ee l len c)) kZ→bN 5 (kZ.next) (ab (.tuple []) kZ))∧(¬(↑(len+1):Int)=64→ab (.tuple []) (xQ f ag ad ax bj P O l R m aG len c)))))))∧(¬64≤c→(c<32→dy (2^30-8) ey (p6 f ag ad ax bj P O l R m aG len) ⟨0,0,0,0,6⟩ c∧∀(gm:j),dz bad (p6 f ag ad ax bj P O l R m aG len) ⟨0,0,0,0,6⟩ c gm→bN 5 (gm.next) (ab (.tuple []) gm))∧(¬c<32→(63<c→dy (2^30-8) ey (p6 f ag ad ax bj P O l R m aG len) ⟨0,0,0,0,6⟩ c∧∀(gm:j),dz bad (p6 f ag ad ax bj P O l R m aG len) ⟨0,0,0,0,6⟩ c gm→bN 5 (gm.next) (ab (.tuple []) gm))∧(¬63<c→(48≤c→(a8 l (0+Int.toNat ((len:Int)-1))<48→dy (2^30-8) ey (j.au 42 [(0,(hx f ag ad ax R len)),(1,bj),(2,(ed l R m aG)),(3,P),(4,O)]) ⟨0,0,0,0,6⟩ c∧∀(gm:j),dz bad (j.au 42 [(0,(hx f ag ad ax R len)),(1,bj),(2,(ed l R m aG)),(3,P),(4,O)]) ⟨0,0,0,0,6⟩ c gm→bN 5 (gm.next) (ab (.tuple []) gm))∧(¬a8 l (0+Int.toNat ((len:Int)-1))<48→(R=R∧0+len=List.length l∧len<len+1∧(len+1+(len+1)/4+512)*1≤281474976710656∧len+1<4611686018427387904)∧((↑(len+1):Int)=64→R+1=R+1∧0+(len+1)≤List.length (l++[.int .u8 c])∧(∃b3,List.take (len+1) (List.drop (bH.idx {id:=2,R:=R+1,idx:=0,bP:=0,es:=1}) (J.bi (dp l R m aG c)))=aJ b3)∧cx (p7 f ag ad ax bj P O l R m aG len c) ⟨0,0,0,0,6⟩ ((ee l len c))∧∀(kZ:j),cy (p7 f ag ad ax bj P O l R m aG len c) ⟨0,0,0,0,6⟩ ((ee l len c)) kZ→bN 5 (kZ.next) (ab (.tuple []) kZ))∧(¬(↑(len+1):Int)=64→ab (.tuple []) (xQ f ag ad ax bj P O l R m aG len c))))∧(¬48≤c→(R=R∧0+len=List.length l∧len<len+1∧(len+1+(len+1)/4+512)*1≤281474976710656∧len+1<4611686018427387904)∧((↑(len+1):Int)=64→R+1=R+1∧0+(len+1)≤List.length (l++[.int .u8 c])∧(∃b3,List.take (len+1) (List.drop (bH.idx {id:=2,R:=R+1,idx:=0,bP:=0,es:=1}) (J.bi (dp l R m aG c)))=aJ b3)∧cx (p7 f ag ad ax bj P O l R m aG len c) ⟨0,0,0,0,6⟩ ((ee l len c))∧∀(kZ:j),cy (p7 f ag ad ax bj P O l R m aG len c) ⟨0,0,0,0,6⟩ ((ee l len c)) kZ→bN 5 (kZ.next) (ab (.tuple []) kZ))∧(¬(↑(len+1):Int)=64→ab (.tuple []) (xQ f ag ad ax bj P O l R m aG len c))))))) :
 ∃v p,aI Tryz.prog aw 87 [.ptr (some ⟨0,0,0,0,6⟩),.int .u8 c] (j.of [b1 0 f 1 (.slice (some ⟨2,R,0,0,1⟩) len len) ag false ad ax,bj,ct l 1 R m aG cF,P,O]) v p∧ab v p :=
 cf bU mixed OB (aq:=ah 9 (ah 10 (ah 11 (.aN 1001 (.aN 1004 (ah 2007 (ah 3010 (ah 3011 (ah 3012 .nil)))) (.aN 4001 .nil (.aN 4004 .nil OC))) (.aN 4001 .nil (.aN 4004 .nil OC)))))) (by kernel_rfl) aY
end Go.Proofs.YtddnafghiejcoaaGreatDoor
