/-
  Parts of the proof of KeysEach.
-/
import Derived.Lib.Bytealg
import Derived.Shelf.Strings.OnBuilder
import Derived.Shelf.Strings.Repeat
import Derived.Lib.Atoi
import Derived.Lib.SlTrimSet
import Derived.Shelf.Strings.SlTrimAscii
import Derived.Shelf.Strconv.Atoi
import Derived.Lib.AtoiErrMem
import Derived.Shelf.Strings.Count
import Derived.Shelf.Strings.Search3
import Derived.Test.YtddnafghiejcoaaGreatDoorKKeysEachD
set_option linter.unusedVariables false
set_option linter.unusedSimpArgs false
namespace Go.Proofs.YtddnafghiejcoaaGreatDoor
open Go.cM Go.Keys
set_option maxRecDepth 1000000
abbrev qm(J:Nat)(a0:Int)(ao:Int)(a2:Int)(a3:Int)(n:Int)(c:Int):R:=⟨[.int .i32 (↑(List.getD (Prod.fst (cc a0 ao a2 a3 n c)) 0 0):Int),.int .i32 (↑(List.getD (Prod.fst (cc a0 ao a2 a3 n c)) 1 0):Int)],1,false,false,1,0,1,some (21,0)⟩
abbrev NB:dk:=(.aK 4005 (ag 6019 (ag 6023 Gq)) (ag 6019 (ag 6023 Gq)))
abbrev qn(f:Nat)(ah:o)(af:o)(ax:Option (TypeId×Nat))(aE:Option (TypeId×Nat))(P:R)(O:R)(l:List o)(J:Nat)(m:Nat)(aG:Nat)(len:Nat)(a0:Int)(ao:Int)(a2:Int)(a3:Int)(n:Int)(c:Int):j:=(j.ar 95 [(0,(hD f ah af ax J len)),(1,(gY aE J a0 ao a2 a3 n c)),(2,(ef l J m aG)),(3,P),(4,O),(27,(c9 c)),(30,(qm J a0 ao a2 a3 n c)),(71,R.made [.int .u8 c] 1 true)])
abbrev xZ(f:Nat)(ah:o)(af:o)(ax:Option (TypeId×Nat))(aE:Option (TypeId×Nat))(P:R)(O:R)(l:List o)(J:Nat)(m:Nat)(aG:Nat)(len:Nat)(a0:Int)(ao:Int)(a2:Int)(a3:Int)(n:Int)(c:Int):j:=(j.ar 97 [(0,(hD f ah af ax J len)),(1,(gY aE J a0 ao a2 a3 n c)),(2,(ef l J m aG)),(3,P),(4,O),(29,(c9 c)),(32,(qm J a0 ao a2 a3 n c)),(73,R.made [.int .u8 c] 1 true)])
abbrev qo(f:Nat)(ah:o)(af:o)(ax:Option (TypeId×Nat))(aE:Option (TypeId×Nat))(P:R)(O:R)(l:List o)(J:Nat)(m:Nat)(aG:Nat)(len:Nat)(a0:Int)(ao:Int)(a2:Int)(a3:Int)(n:Int)(c:Int):j:=(j.ar 104 [(0,(hE f ah af ax J len)),(1,(gY aE J a0 ao a2 a3 n c)),(2,(dr l J m aG c)),(3,P),(4,O),(27,(c9 c)),(30,(qm J a0 ao a2 a3 n c)),(71,R.made [.int .u8 c] 1 true),(82,R.made [.int .u8 c] 1 true)])
abbrev qp(f:Nat)(ah:o)(af:o)(ax:Option (TypeId×Nat))(aE:Option (TypeId×Nat))(P:R)(O:R)(l:List o)(J:Nat)(m:Nat)(aG:Nat)(len:Nat)(a0:Int)(ao:Int)(a2:Int)(a3:Int)(n:Int)(c:Int):j:=(j.ar 105 [(0,(hE f ah af ax J len)),(1,(gY aE J a0 ao a2 a3 n c)),(2,(dr l J m aG c)),(3,P),(4,O),(27,(c9 c)),(30,(qm J a0 ao a2 a3 n c)),(71,R.made [.int .u8 c] 1 true),(82,R.made [.int .u8 c] 1 true)])
abbrev x0(f:Nat)(ah:o)(af:o)(ax:Option (TypeId×Nat))(aE:Option (TypeId×Nat))(P:R)(O:R)(l:List o)(J:Nat)(m:Nat)(aG:Nat)(len:Nat)(a0:Int)(ao:Int)(a2:Int)(a3:Int)(n:Int)(c:Int):j:=(j.ar 106 [(0,(hE f ah af ax J len)),(1,(gY aE J a0 ao a2 a3 n c)),(2,(dr l J m aG c)),(3,P),(4,O),(29,(c9 c)),(32,(qm J a0 ao a2 a3 n c)),(73,R.made [.int .u8 c] 1 true),(84,R.made [.int .u8 c] 1 true)])
abbrev x1(f:Nat)(ah:o)(af:o)(ax:Option (TypeId×Nat))(aE:Option (TypeId×Nat))(P:R)(O:R)(l:List o)(J:Nat)(m:Nat)(aG:Nat)(len:Nat)(a0:Int)(ao:Int)(a2:Int)(a3:Int)(n:Int)(c:Int):j:=(j.ar 107 [(0,(hE f ah af ax J len)),(1,(gY aE J a0 ao a2 a3 n c)),(2,(dr l J m aG c)),(3,P),(4,O),(29,(c9 c)),(32,(qm J a0 ao a2 a3 n c)),(73,R.made [.int .u8 c] 1 true),(84,R.made [.int .u8 c] 1 true)])
abbrev qq(f:Nat)(ah:o)(af:o)(ax:Option (TypeId×Nat))(aE:Option (TypeId×Nat))(P:R)(O:R)(l:List o)(J:Nat)(m:Nat)(aG:Nat)(len:Nat)(a0:Int)(ao:Int)(a2:Int)(a3:Int)(n:Int)(c:Int):j:=(j.ar 100 [(0,(hD f ah af ax J len)),(1,(pi aE J a0 ao a2 a3 n c)),(2,(ef l J m aG)),(3,P),(4,O),(27,(c9 c)),(30,(qm J a0 ao a2 a3 n c)),(71,R.made [.int .u8 c] 1 true),(95,R.made [.int .i32 65533] 1 true)])
abbrev x2(f:Nat)(ah:o)(af:o)(ax:Option (TypeId×Nat))(aE:Option (TypeId×Nat))(P:R)(O:R)(l:List o)(J:Nat)(m:Nat)(aG:Nat)(len:Nat)(a0:Int)(ao:Int)(a2:Int)(a3:Int)(n:Int)(c:Int):j:=(j.ar 102 [(0,(hD f ah af ax J len)),(1,(pi aE J a0 ao a2 a3 n c)),(2,(ef l J m aG)),(3,P),(4,O),(29,(c9 c)),(32,(qm J a0 ao a2 a3 n c)),(73,R.made [.int .u8 c] 1 true),(97,R.made [.int .i32 65533] 1 true)])
theorem XX(f:Nat)(ah af:o)(ax aE:Option (TypeId×Nat))(P O:R)(l:List o)(J m aG len:Nat)(a0 ao a2 a3 n c:Int)(U:o→j→Prop)(aY:(0<(len:Int)→((0:Int)≤0∧0<(len:Int))∧J=J∧l[0]? =some (.int .u8 (a' l 0))∧(a' l 0=27→ ¬(cc a0 ao a2 a3 n c).1=[]∧¬List.length (Prod.fst (cc a0 ao a2 a3 n c))=1∧iy a0 ao a2 a3 n c∧(0<(↑(List.length (Prod.snd (cc a0 ao a2 a3 n c))):Int)→((0:Int)≤1∧1≤(len:Int)∧len≤len)∧J=J∧1+(len-1)≤List.length l∧(∃b6,List.take (len-1) (List.drop (bG.idx ⟨2,J,1,0,1⟩) (R.bi (ef l J m aG)))=aL b6)∧Nat.le (Nat.succ (List.length (strOf (List.take (len-1) (List.drop 1 l)))+List.length [UInt8.ofNat (Int.toNat c)])) (2^62)∧List.length (strOf (List.take (len-1) (List.drop 1 l))++[UInt8.ofNat (Int.toNat c)])<1099511627776∧(valid (strOf (List.take (len-1) (List.drop 1 l))++[UInt8.ofNat (Int.toNat c)])=true→(J=J∧0+len=List.length l∧len<len+1∧(len+1+(len+1)/4+512)*1≤281474976710656∧len+1<4611686018427387904)∧((0:Int)≤1∧1≤(↑(len+1):Int)∧len+1≤len+1)∧J+1=J+1∧1+(len+1-1)≤List.length (l++[.int .u8 c])∧(∃b6,List.take (len+1-1) (List.drop (bG.idx {id:=2,J:=J+1,idx:=1,bR:=0,es:=1}) (R.bi (dr l J m aG c)))=aL b6)∧List.length (strOf (List.take (len+1-1) (List.drop 1 (List.append l [.int .u8 c]))))<1099511627776∧(valid (strOf (List.take (len+1-1) (List.drop 1 (List.append l [.int .u8 c]))))=true→cC (x0 f ah af ax aE P O l J m aG len a0 ao a2 a3 n c) ⟨0,0,0,0,6⟩ ((io a0 ao a2 a3 n c))∧∀(cz:j),cD (x0 f ah af ax aE P O l J m aG len a0 ao a2 a3 n c) ⟨0,0,0,0,6⟩ ((io a0 ao a2 a3 n c)) cz→bK 5 (cz.next) (U (.tuple []) cz))∧(valid (strOf (List.take (len+1-1) (List.drop 1 (List.append l [.int .u8 c]))))=false→J+1=J+1∧0+(len+1)≤List.length (l++[.int .u8 c])∧(∃b6,List.take (len+1) (List.drop (bG.idx {id:=2,J:=J+1,idx:=0,bR:=0,es:=1}) (R.bi (dr l J m aG c)))=aL b6)∧cC (x1 f ah af ax aE P O l J m aG len a0 ao a2 a3 n c) ⟨0,0,0,0,6⟩ ((eg l len c))∧∀(b9:j),cD (x1 f ah af ax aE P O l J m aG len a0 ao a2 a3 n c) ⟨0,0,0,0,6⟩ ((eg l len c)) b9→bK 5 (b9.next) (U (.tuple []) b9)))∧(valid (strOf (List.take (len-1) (List.drop 1 l))++[UInt8.ofNat (Int.toNat c)])=false→((↑(List.length (Prod.snd (cc a0 ao a2 a3 n c))):Int)=0→dB (2^30-8) eE (xZ f ah af ax aE P O l J m aG len a0 ao a2 a3 n c) ⟨0,0,0,0,6⟩ c∧∀(cv:j),dC bad (xZ f ah af ax aE P O l J m aG len a0 ao a2 a3 n c) ⟨0,0,0,0,6⟩ c cv→bK 5 (cv.next) (U (.tuple []) cv))∧(¬(↑(List.length (Prod.snd (cc a0 ao a2 a3 n c))):Int)=0→dB (2^30-8) eE (x2 f ah af ax aE P O l J m aG len a0 ao a2 a3 n c) ⟨0,0,0,0,6⟩ c∧∀(cv:j),dC bad (x2 f ah af ax aE P O l J m aG len a0 ao a2 a3 n c) ⟨0,0,0,0,6⟩ c cv→bK 5 (cv.next) (U (.tuple []) cv))))∧(¬0<(↑(List.length (Prod.snd (cc a0 ao a2 a3 n c))):Int)→((0:Int)≤1∧1≤(len:Int)∧len≤len)∧J=J∧1+(len-1)≤List.length l∧(∃b6,List.take (len-1) (List.drop (bG.idx ⟨2,J,1,0,1⟩) (R.bi (ef l J m aG)))=aL b6)∧Nat.le (Nat.succ (List.length (strOf (List.take (len-1) (List.drop 1 l)))+List.length [UInt8.ofNat (Int.toNat c)])) (2^62)∧List.length (strOf (List.take (len-1) (List.drop 1 l))++[UInt8.ofNat (Int.toNat c)])<1099511627776∧(valid (strOf (List.take (len-1) (List.drop 1 l))++[UInt8.ofNat (Int.toNat c)])=true→(J=J∧0+len=List.length l∧len<len+1∧(len+1+(len+1)/4+512)*1≤281474976710656∧len+1<4611686018427387904)∧((0:Int)≤1∧1≤(↑(len+1):Int)∧len+1≤len+1)∧J+1=J+1∧1+(len+1-1)≤List.length (l++[.int .u8 c])∧(∃b6,List.take (len+1-1) (List.drop (bG.idx {id:=2,J:=J+1,idx:=1,bR:=0,es:=1}) (R.bi (dr l J m aG c)))=aL b6)∧List.length (strOf (List.take (len+1-1) (List.drop 1 (List.append l [.int .u8 c]))))<1099511627776∧(valid (strOf (List.take (len+1-1) (List.drop 1 (List.append l [.int .u8 c]))))=true→cC (x0 f ah af ax aE P O l J m aG len a0 ao a2 a3 n c) ⟨0,0,0,0,6⟩ ((io a0 ao a2 a3 n c))∧∀(cz:j),cD (x0 f ah af ax aE P O l J m aG len a0 ao a2 a3 n c) ⟨0,0,0,0,6⟩ ((io a0 ao a2 a3 n c)) cz→bK 5 (cz.next) (U (.tuple []) cz))∧(valid (strOf (List.take (len+1-1) (List.drop 1 (List.append l [.int .u8 c]))))=false→J+1=J+1∧0+(len+1)≤List.length (l++[.int .u8 c])∧(∃b6,List.take (len+1) (List.drop (bG.idx {id:=2,J:=J+1,idx:=0,bR:=0,es:=1}) (R.bi (dr l J m aG c)))=aL b6)∧cC (x1 f ah af ax aE P O l J m aG len a0 ao a2 a3 n c) ⟨0,0,0,0,6⟩ ((eg l len c))∧∀(b9:j),cD (x1 f ah af ax aE P O l J m aG len a0 ao a2 a3 n c) ⟨0,0,0,0,6⟩ ((eg l len c)) b9→bK 5 (b9.next) (U (.tuple []) b9)))∧(valid (strOf (List.take (len-1) (List.drop 1 l))++[UInt8.ofNat (Int.toNat c)])=false→((↑(List.length (Prod.snd (cc a0 ao a2 a3 n c))):Int)=0→dB (2^30-8) eE (xZ f ah af ax aE P O l J m aG len a0 ao a2 a3 n c) ⟨0,0,0,0,6⟩ c∧∀(cv:j),dC bad (xZ f ah af ax aE P O l J m aG len a0 ao a2 a3 n c) ⟨0,0,0,0,6⟩ c cv→bK 5 (cv.next) (U (.tuple []) cv))∧(¬(↑(List.length (Prod.snd (cc a0 ao a2 a3 n c))):Int)=0→dB (2^30-8) eE (x2 f ah af ax aE P O l J m aG len a0 ao a2 a3 n c) ⟨0,0,0,0,6⟩ c∧∀(cv:j),dC bad (x2 f ah af ax aE P O l J m aG len a0 ao a2 a3 n c) ⟨0,0,0,0,6⟩ c cv→bK 5 (cv.next) (U (.tuple []) cv)))))∧(¬a' l 0=27→ ¬(cc a0 ao a2 a3 n c).1=[]∧¬List.length (Prod.fst (cc a0 ao a2 a3 n c))=1∧iy a0 ao a2 a3 n c∧(0<(↑(List.length (Prod.snd (cc a0 ao a2 a3 n c))):Int)→J=J∧0+(len-0)≤List.length l∧(∃b6,List.take (len-0) (List.drop (bG.idx ⟨2,J,0,0,1⟩) (R.bi (ef l J m aG)))=aL b6)∧Nat.le (Nat.succ (List.length (strOf (List.take (len-0) l))+List.length [UInt8.ofNat (Int.toNat c)])) (2^62)∧List.length (strOf (List.take (len-0) l)++[UInt8.ofNat (Int.toNat c)])<1099511627776∧(valid (strOf (List.take (len-0) l)++[UInt8.ofNat (Int.toNat c)])=true→(J=J∧0+len=List.length l∧len<len+1∧(len+1+(len+1)/4+512)*1≤281474976710656∧len+1<4611686018427387904)∧J+1=J+1∧0+(len+1-0)≤List.length (l++[.int .u8 c])∧(∃b6,List.take (len+1-0) (List.drop (bG.idx {id:=2,J:=J+1,idx:=0,bR:=0,es:=1}) (R.bi (dr l J m aG c)))=aL b6)∧List.length (strOf (List.take (len+1-0) (List.drop 0 (List.append l [.int .u8 c]))))<1099511627776∧(valid (strOf (List.take (len+1-0) (List.drop 0 (List.append l [.int .u8 c]))))=true→cC (qo f ah af ax aE P O l J m aG len a0 ao a2 a3 n c) ⟨0,0,0,0,6⟩ ((fV a0 ao a2 a3 n c))∧∀(cz:j),cD (qo f ah af ax aE P O l J m aG len a0 ao a2 a3 n c) ⟨0,0,0,0,6⟩ ((fV a0 ao a2 a3 n c)) cz→bK 5 (cz.next) (U (.tuple []) cz))∧(valid (strOf (List.take (len+1-0) (List.drop 0 (List.append l [.int .u8 c]))))=false→J+1=J+1∧0+(len+1)≤List.length (l++[.int .u8 c])∧(∃b6,List.take (len+1) (List.drop (bG.idx {id:=2,J:=J+1,idx:=0,bR:=0,es:=1}) (R.bi (dr l J m aG c)))=aL b6)∧cC (qp f ah af ax aE P O l J m aG len a0 ao a2 a3 n c) ⟨0,0,0,0,6⟩ ((eg l len c))∧∀(b9:j),cD (qp f ah af ax aE P O l J m aG len a0 ao a2 a3 n c) ⟨0,0,0,0,6⟩ ((eg l len c)) b9→bK 5 (b9.next) (U (.tuple []) b9)))∧(valid (strOf (List.take (len-0) l)++[UInt8.ofNat (Int.toNat c)])=false→((↑(List.length (Prod.snd (cc a0 ao a2 a3 n c))):Int)=0→dB (2^30-8) eE (qn f ah af ax aE P O l J m aG len a0 ao a2 a3 n c) ⟨0,0,0,0,6⟩ c∧∀(cv:j),dC bad (qn f ah af ax aE P O l J m aG len a0 ao a2 a3 n c) ⟨0,0,0,0,6⟩ c cv→bK 5 (cv.next) (U (.tuple []) cv))∧(¬(↑(List.length (Prod.snd (cc a0 ao a2 a3 n c))):Int)=0→dB (2^30-8) eE (qq f ah af ax aE P O l J m aG len a0 ao a2 a3 n c) ⟨0,0,0,0,6⟩ c∧∀(cv:j),dC bad (qq f ah af ax aE P O l J m aG len a0 ao a2 a3 n c) ⟨0,0,0,0,6⟩ c cv→bK 5 (cv.next) (U (.tuple []) cv))))∧(¬0<(↑(List.length (Prod.snd (cc a0 ao a2 a3 n c))):Int)→J=J∧0+(len-0)≤List.length l∧(∃b6,List.take (len-0) (List.drop (bG.idx ⟨2,J,0,0,1⟩) (R.bi (ef l J m aG)))=aL b6)∧Nat.le (Nat.succ (List.length (strOf (List.take (len-0) l))+List.length [UInt8.ofNat (Int.toNat c)])) (2^62)∧List.length (strOf (List.take (len-0) l)++[UInt8.ofNat (Int.toNat c)])<1099511627776∧(valid (strOf (List.take (len-0) l)++[UInt8.ofNat (Int.toNat c)])=true→(J=J∧0+len=List.length l∧len<len+1∧(len+1+(len+1)/4+512)*1≤281474976710656∧len+1<4611686018427387904)∧J+1=J+1∧0+(len+1-0)≤List.length (l++[.int .u8 c])∧(∃b6,List.take (len+1-0) (List.drop (bG.idx {id:=2,J:=J+1,idx:=0,bR:=0,es:=1}) (R.bi (dr l J m aG c)))=aL b6)∧List.length (strOf (List.take (len+1-0) (List.drop 0 (List.append l [.int .u8 c]))))<1099511627776∧(valid (strOf (List.take (len+1-0) (List.drop 0 (List.append l [.int .u8 c]))))=true→cC (qo f ah af ax aE P O l J m aG len a0 ao a2 a3 n c) ⟨0,0,0,0,6⟩ ((fV a0 ao a2 a3 n c))∧∀(cz:j),cD (qo f ah af ax aE P O l J m aG len a0 ao a2 a3 n c) ⟨0,0,0,0,6⟩ ((fV a0 ao a2 a3 n c)) cz→bK 5 (cz.next) (U (.tuple []) cz))∧(valid (strOf (List.take (len+1-0) (List.drop 0 (List.append l [.int .u8 c]))))=false→J+1=J+1∧0+(len+1)≤List.length (l++[.int .u8 c])∧(∃b6,List.take (len+1) (List.drop (bG.idx {id:=2,J:=J+1,idx:=0,bR:=0,es:=1}) (R.bi (dr l J m aG c)))=aL b6)∧cC (qp f ah af ax aE P O l J m aG len a0 ao a2 a3 n c) ⟨0,0,0,0,6⟩ ((eg l len c))∧∀(b9:j),cD (qp f ah af ax aE P O l J m aG len a0 ao a2 a3 n c) ⟨0,0,0,0,6⟩ ((eg l len c)) b9→bK 5 (b9.next) (U (.tuple []) b9)))∧(valid (strOf (List.take (len-0) l)++[UInt8.ofNat (Int.toNat c)])=false→((↑(List.length (Prod.snd (cc a0 ao a2 a3 n c))):Int)=0→dB (2^30-8) eE (qn f ah af ax aE P O l J m aG len a0 ao a2 a3 n c) ⟨0,0,0,0,6⟩ c∧∀(cv:j),dC bad (qn f ah af ax aE P O l J m aG len a0 ao a2 a3 n c) ⟨0,0,0,0,6⟩ c cv→bK 5 (cv.next) (U (.tuple []) cv))∧(¬(↑(List.length (Prod.snd (cc a0 ao a2 a3 n c))):Int)=0→dB (2^30-8) eE (qq f ah af ax aE P O l J m aG len a0 ao a2 a3 n c) ⟨0,0,0,0,6⟩ c∧∀(cv:j),dC bad (qq f ah af ax aE P O l J m aG len a0 ao a2 a3 n c) ⟨0,0,0,0,6⟩ c cv→bK 5 (cv.next) (U (.tuple []) cv))))))∧(¬0<(len:Int)→ ¬(cc a0 ao a2 a3 n c).1=[]∧¬List.length (Prod.fst (cc a0 ao a2 a3 n c))=1∧iy a0 ao a2 a3 n c∧(0<(↑(List.length (Prod.snd (cc a0 ao a2 a3 n c))):Int)→J=J∧0+(len-0)≤List.length l∧(∃b6,List.take (len-0) (List.drop (bG.idx ⟨2,J,0,0,1⟩) (R.bi (ef l J m aG)))=aL b6)∧Nat.le (Nat.succ (List.length (strOf (List.take (len-0) l))+List.length [UInt8.ofNat (Int.toNat c)])) (2^62)∧List.length (strOf (List.take (len-0) l)++[UInt8.ofNat (Int.toNat c)])<1099511627776∧(valid (strOf (List.take (len-0) l)++[UInt8.ofNat (Int.toNat c)])=true→(J=J∧0+len=List.length l∧len<len+1∧(len+1+(len+1)/4+512)*1≤281474976710656∧len+1<4611686018427387904)∧J+1=J+1∧0+(len+1-0)≤List.length (l++[.int .u8 c])∧(∃b6,List.take (len+1-0) (List.drop (bG.idx {id:=2,J:=J+1,idx:=0,bR:=0,es:=1}) (R.bi (dr l J m aG c)))=aL b6)∧List.length (strOf (List.take (len+1-0) (List.drop 0 (List.append l [.int .u8 c]))))<1099511627776∧(valid (strOf (List.take (len+1-0) (List.drop 0 (List.append l [.int .u8 c]))))=true→cC (qo f ah af ax aE P O l J m aG len a0 ao a2 a3 n c) ⟨0,0,0,0,6⟩ ((fV a0 ao a2 a3 n c))∧∀(cz:j),cD (qo f ah af ax aE P O l J m aG len a0 ao a2 a3 n c) ⟨0,0,0,0,6⟩ ((fV a0 ao a2 a3 n c)) cz→bK 5 (cz.next) (U (.tuple []) cz))∧(valid (strOf (List.take (len+1-0) (List.drop 0 (List.append l [.int .u8 c]))))=false→J+1=J+1∧0+(len+1)≤List.length (l++[.int .u8 c])∧(∃b6,List.take (len+1) (List.drop (bG.idx {id:=2,J:=J+1,idx:=0,bR:=0,es:=1}) (R.bi (dr l J m aG c)))=aL b6)∧cC (qp f ah af ax aE P O l J m aG len a0 ao a2 a3 n c) ⟨0,0,0,0,6⟩ ((eg l len c))∧∀(b9:j),cD (qp f ah af ax aE P O l J m aG len a0 ao a2 a3 n c) ⟨0,0,0,0,6⟩ ((eg l len c)) b9→bK 5 (b9.next) (U (.tuple []) b9)))∧(valid (strOf (List.take (len-0) l)++[UInt8.ofNat (Int.toNat c)])=false→((↑(List.length (Prod.snd (cc a0 ao a2 a3 n c))):Int)=0→dB (2^30-8) eE (qn f ah af ax aE P O l J m aG len a0 ao a2 a3 n c) ⟨0,0,0,0,6⟩ c∧∀(cv:j),dC bad (qn f ah af ax aE P O l J m aG len a0 ao a2 a3 n c) ⟨0,0,0,0,6⟩ c cv→bK 5 (cv.next) (U (.tuple []) cv))∧(¬(↑(List.length (Prod.snd (cc a0 ao a2 a3 n c))):Int)=0→dB (2^30-8) eE (qq f ah af ax aE P O l J m aG len a0 ao a2 a3 n c) ⟨0,0,0,0,6⟩ c∧∀(cv:j),dC bad (qq f ah af ax aE P O l J m aG len a0 ao a2 a3 n c) ⟨0,0,0,0,6⟩ c cv→bK 5 (cv.next) (U (.tuple []) cv))))∧(¬0<(↑(List.length (Prod.snd (cc a0 ao a2 a3 n c))):Int)→J=J∧0+(len-0)≤List.length l∧(∃b6,List.take (len-0) (List.drop (bG.idx ⟨2,J,0,0,1⟩) (R.bi (ef l J m aG)))=aL b6)∧Nat.le (Nat.succ (List.length (strOf (List.take (len-0) l))+List.length [UInt8.ofNat (Int.toNat c)])) (2^62)∧List.length (strOf (List.take (len-0) l)++[UInt8.ofNat (Int.toNat c)])<1099511627776∧(valid (strOf (List.take (len-0) l)++[UInt8.ofNat (Int.toNat c)])=true→(J=J∧0+len=List.length l∧len<len+1∧(len+1+(len+1)/4+512)*1≤281474976710656∧len+1<4611686018427387904)∧J+1=J+1∧0+(len+1-0)≤List.length (l++[.int .u8 c])∧(∃b6,List.take (len+1-0) (List.drop (bG.idx {id:=2,J:=J+1,idx:=0,bR:=0,es:=1}) (R.bi (dr l J m aG c)))=aL b6)∧List.length (strOf (List.take (len+1-0) (List.drop 0 (List.append l [.int .u8 c]))))<1099511627776∧(valid (strOf (List.take (len+1-0) (List.drop 0 (List.append l [.int .u8 c]))))=true→cC (qo f ah af ax aE P O l J m aG len a0 ao a2 a3 n c) ⟨0,0,0,0,6⟩ ((fV a0 ao a2 a3 n c))∧∀(cz:j),cD (qo f ah af ax aE P O l J m aG len a0 ao a2 a3 n c) ⟨0,0,0,0,6⟩ ((fV a0 ao a2 a3 n c)) cz→bK 5 (cz.next) (U (.tuple []) cz))∧(valid (strOf (List.take (len+1-0) (List.drop 0 (List.append l [.int .u8 c]))))=false→J+1=J+1∧0+(len+1)≤List.length (l++[.int .u8 c])∧(∃b6,List.take (len+1) (List.drop (bG.idx {id:=2,J:=J+1,idx:=0,bR:=0,es:=1}) (R.bi (dr l J m aG c)))=aL b6)∧cC (qp f ah af ax aE P O l J m aG len a0 ao a2 a3 n c) ⟨0,0,0,0,6⟩ ((eg l len c))∧∀(b9:j),cD (qp f ah af ax aE P O l J m aG len a0 ao a2 a3 n c) ⟨0,0,0,0,6⟩ ((eg l len c)) b9→bK 5 (b9.next) (U (.tuple []) b9)))∧(valid (strOf (List.take (len-0) l)++[UInt8.ofNat (Int.toNat c)])=false→((↑(List.length (Prod.snd (cc a0 ao a2 a3 n c))):Int)=0→dB (2^30-8) eE (qn f ah af ax aE P O l J m aG len a0 ao a2 a3 n c) ⟨0,0,0,0,6⟩ c∧∀(cv:j),dC bad (qn f ah af ax aE P O l J m aG len a0 ao a2 a3 n c) ⟨0,0,0,0,6⟩ c cv→bK 5 (cv.next) (U (.tuple []) cv))∧(¬(↑(List.length (Prod.snd (cc a0 ao a2 a3 n c))):Int)=0→dB (2^30-8) eE (qq f ah af ax aE P O l J m aG len a0 ao a2 a3 n c) ⟨0,0,0,0,6⟩ c∧∀(cv:j),dC bad (qq f ah af ax aE P O l J m aG len a0 ao a2 a3 n c) ⟨0,0,0,0,6⟩ c cv→bK 5 (cv.next) (U (.tuple []) cv)))))) :
 ∃v p,aI Tryz.prog aw 90 [.ptr (some ⟨0,0,0,0,6⟩),.int .u8 c] (j.of [b2 0 f 1 (.slice (some ⟨2,J,0,0,1⟩) len len) ah false af ax,hj a0 ao a2 a3 n aE,b3 l 1 J m aG cI,P,O]) v p∧U v p :=
 cb bQ mixed XT (an:= .aK 1005 (ag 1011 (ag 1012 (.aK 1013 (he 4004 (.aK 4005 (ag 6018 (ag 6019 A8)) (ag 6018 (ag 6019 A8)))) (he 4004 NB)))) (he 4004 NB)) (by kernel_rfl) aY
theorem vd(b:UInt8):er (b.toNat:Int)=b:=by unfold er;simp
theorem NC:∀(hold:Bytes)(bA bz bl bB:Int),hold.length≤4→n1 (cd hold 0 bA) (cd hold 1 bz) (cd hold 2 bl) (cd hold 3 bB) hold.length=hold
 |[],_,_,_,_,_=>rfl
 |[a],_,_,_,_,_=>by simp [n1,cd,vd]
 |[a,b],_,_,_,_,_=>by simp [n1,cd,vd]
 |[a,b,c],_,_,_,_,_=>by simp [n1,cd,vd]
 |[a,b,c,d],_,_,_,_,_=>by simp [n1,cd,vd]
 |_::_::_::_::_::_,_,_,_,_,h=>by simp at h
theorem Gr(hold:Bytes)(bA bz bl bB:Int)(c:UInt8)(h:hold.length≤4):cc (cd hold 0 bA) (cd hold 1 bz) (cd hold 2 bl) (cd hold 3 bB) hold.length c.toNat=cl hold c:=by unfold cc;rw [NC hold _ _ _ _ h,vd]
theorem Gs(hold:Bytes)(i:Nat)(C:Int)(h:i<hold.length):0≤cd hold i C∧cd hold i C≤255:=by
 have:∃b:UInt8,cd hold i C=(b.toNat:Int):=by unfold cd;rw [List.getElem?_eq_getElem h];exact⟨_,rfl⟩
 obtain⟨b,e⟩:=this;have:=b.toNat_lt;rw [e];omega
theorem Gt(hold:Bytes)(bA bz bl bB:Int)(c:UInt8)(h:hold.length≤3)(ai:(first hold).2.2=true):iy (cd hold 0 bA) (cd hold 1 bz) (cd hold 2 bl) (cd hold 3 bB) hold.length c.toNat where
 aS:=by omega
 ay:=fun k=>Gs _ _ _ (by omega)
 ba:=fun k=>Gs _ _ _ (by omega)
 bT:=fun k=>Gs _ _ _ (by omega)
 av:=by have:=c.toNat_lt;omega
 op:= .inr (by rw [NC hold _ _ _ _ (by omega)];exact ai)
theorem pj(x:Bytes)(n k:Nat):∃l,List.take n (List.drop k (aL x))=aL l:=⟨(x.drop k).take n,by simp [aL,List.map_drop,List.map_take]⟩
theorem nj(x:Bytes)(c:UInt8):aL x++[o.int .u8 c.toNat]=aL (x++[c]):=by simp [aL]
theorem A'(x:Bytes)(c:UInt8)(n k:Nat):∃l,List.take n (List.drop k (aL x++[o.int .u8 c.toNat]))=aL l:=by rw [nj];exact pj _ _ _
theorem n'(x:Bytes):(aL x).length=x.length:=by simp [aL]
theorem Ba(x:Bytes)(c:UInt8):(aL x++[o.int .u8 c.toNat]).length=x.length+1:=by simp [aL]
theorem Gu(x:Bytes)(n k:Nat)(h:n=(x.drop k).length):List.take n (List.drop k (aL x))=aL (x.drop k):=by
 subst h;have:=xJ (x.drop k)
 rwa [show aL (List.drop k x)=List.drop k (aL x)by simp [aL,List.map_drop]]at this⊢
theorem Gv(x:Bytes):strOf (List.take (x.length-1) (List.drop 1 (aL x)))=x.drop 1:=by rw [Gu _ _ _ (by simp),iX]
theorem Gw(x:Bytes):strOf (List.take (x.length-0) (aL x))=x:=by rw [Nat.sub_zero,xJ,iX]
theorem Gx(x:Bytes)(c:UInt8):strOf (List.take (x.length+1-1) (List.drop 1 (List.append (aL x) [o.int .u8 c.toNat])))=(x++[c]).drop 1:=by show strOf (List.take _ (List.drop 1 (aL x++_)))=_;rw [nj,Gu _ _ _ (by simp),iX]
theorem Bb(x:Bytes)(c:UInt8):strOf (List.take (x.length+1-0) (List.drop 0 (List.append (aL x) [o.int .u8 c.toNat])))=x++[c]:=by show strOf (List.take _ (List.drop 0 (aL x++_)))=_;rw [nj,Gu _ _ _ (by simp),iX];rfl
theorem Bc(x:Bytes)(c:UInt8):strOf (List.take (x.length+1) (List.drop 0 (List.append (aL x) [o.int .u8 c.toNat])))=x++[c]:=Bb x c
theorem te{D bk K P O:R}{h:j}{f:Nat}{ah af cS:o}{aq aE:Option (TypeId×Nat)}{J m aG len:Nat}{l:List o}{kept hold aB:Bytes}{es:List bj}{e:bj}{a7:cL}{bA bz bl bB:Int}(bI:Nat.ble 5 h.next=true)(ca:h.get 0=some (b2 0 f 1 (.slice (some ⟨2,J,0,0,1⟩) len len) ah false af aq))(bn:h.get 1=some (cn hold bA bz bl bB aE))
 (bs:h.get 2=some (b3 l 1 J m aG cI)) (b7:h.get 3=some P) (ct:h.get 4=some O) (hlen:len=kept.length) (hle:l=aL kept) (ac:ja (j.of [D,bk,K,P,O]) 0 a7.I ah aB) (ai:jb (j.of [D,bk,K,P,O]) 0 a7.ab af es) (cX:a7.u=1∧(a7.k=0∨a7.k=2)∧(a7.I=0∨a7.I=3)∧(a7.ab=0∨a7.ab=4)) (cB:a7.k=2)
 (he:cS=cm e) (cw:es.length<2^30) (az:hold.length≤4) {cY:j→Prop} (dZ:∀aa aQ,cu aa 0 aQ ⟨.ground,[],hold,aB⟩ (es++[e])→Fr (j.of [D,bk,K,P,O]) aa 0 a7 aQ→cY aa) :
 cC h ⟨0,0,0,0,6⟩ cS∧∀aa,cD h ⟨0,0,0,0,6⟩ cS aa→_root_.cond (Nat.ble 5 aa.next) (cY aa) False:=by
 have bI:=Nat.le_of_ble_eq_true bI;exact ta rfl bI (iz rfl bI ca bn (.inr cB) b7 ct (n6 (by decide) hlen hle bs) (by omega) ac ai cX (.inr (.inr ⟨rfl,cB⟩))) he cw az fun aa aQ g cU=>dZ aa aQ (xB g) cU
theorem rP{D bk K P O:R}{h:j}{ah af:o}{aq aE:Option (TypeId×Nat)}{J m aG:Nat}{kept aB:Bytes}{es:List bj}{a7:cL}{bA bz bl bB:Int}{c:UInt8}(bI:Nat.ble 5 h.next=true)(ca:h.get 0=some (b2 0 (cK .dd) 1 (.slice (some ⟨2,J,0,0,1⟩) kept.length kept.length) ah false af aq))(bn:h.get 1=some (cn [] bA bz bl bB aE))
 (bs:h.get 2=some (b3 (aL kept) 1 J m aG cI)) (b7:h.get 3=some P) (ct:h.get 4=some O) (gF:kept≠[]) (ac:ja (j.of [D,bk,K,P,O]) 0 a7.I ah aB) (ai:jb (j.of [D,bk,K,P,O]) 0 a7.ab af es) (cX:a7.u=1∧(a7.k=0∨a7.k=2)∧(a7.I=0∨a7.I=3)∧(a7.ab=0∨a7.ab=4)) (cB:a7.k=2)
 (cw:es.length<2^30-8) {cY:j→Prop} (dZ:∀aa aQ,cu aa 0 aQ (Keys.bad ⟨.dd,kept,[],aB⟩ c).1 (es++(Keys.bad ⟨.dd,kept,[],aB⟩ c).2)→Fr (j.of [D,bk,K,P,O]) aa 0 a7 aQ→cY aa) :
 dB (2^30-8) eE h ⟨0,0,0,0,6⟩ c.toNat∧∀aa,dC Keys.bad h ⟨0,0,0,0,6⟩ c.toNat aa→_root_.cond (Nat.ble 5 aa.next) (cY aa) False:=by
 have bI:=Nat.le_of_ble_eq_true bI;exact xF (s:=⟨.dd,kept,[],aB⟩) rfl bI (A4 (bo:= .grown []) (iz rfl bI ca bn (.inr cB) b7 ct (n6 (by decide) rfl rfl bs) (by omega) ac ai cX (.inr (.inr ⟨rfl,cB⟩))) gF) cw (by simp) ⟨rfl,.inl rfl⟩ dZ
theorem XY{D bk K P O:R}{h:j}{ah af:o}{aq aE:Option (TypeId×Nat)}{J m aG len:Nat}{l:List o}{kept hold aB:Bytes}{es:List bj}{a7:cL}{bA bz bl bB:Int}(bI:Nat.ble 5 h.next=true)(ca:h.get 0=some (b2 0 (cK .dd) 1 (.slice (some ⟨2,J,0,0,1⟩) len len) ah false af aq))(bn:h.get 1=some (cn hold bA bz bl bB aE))
 (bs:h.get 2=some (b3 l 1 J m aG cI)) (b7:h.get 3=some P) (ct:h.get 4=some O) (hlen:len=kept.length) (hle:l=aL kept) (gF:kept≠[]) (ac:ja (j.of [D,bk,K,P,O]) 0 a7.I ah aB) (ai:jb (j.of [D,bk,K,P,O]) 0 a7.ab af es) (cX:a7.u=1∧(a7.k=0∨a7.k=2)∧(a7.I=0∨a7.I=3)∧(a7.ab=0∨a7.ab=4)) (cB:a7.k=2) :
 ∃aQ,cu h 0 aQ ⟨.dd,kept,hold,aB⟩ es∧Fr (j.of [D,bk,K,P,O]) h 0 a7 aQ:=by
 have bI:=Nat.le_of_ble_eq_true bI;exact pf (s:=⟨.dd,kept,hold,aB⟩) (bo:= .grown []) (iz rfl bI ca bn (.inr cB) b7 ct (n6 (by decide) hlen hle bs) (by omega) ac ai cX (.inr (.inr ⟨rfl,cB⟩))) gF
set_option maxHeartbeats 4000000
theorem gM{b:Bool}(h:b=true)(k:b=false):False:=by rw [h]at k;cases k
set_option hygiene false in
theorem XZ{ah af:o}{aq aE:Option (TypeId×Nat)}{P O:R}{kept hold:Bytes}{c:UInt8}{bA bz bl bB:Int}{J m aG:Nat}{x:UInt8}{t:Bytes}(iJ:kept=x::t)(bW:hold.length≤3)(hf:(first hold).2.2=true)(aD:(cl hold c).1=[])(hlen:kept.length=at' kept+hold.length)(b1:0<hold.length)(bm:¬(0:Int)<(cl hold c).2.length→False)(U:o→j→Prop)
 (pk:∀{h:j},Nat.ble 5 h.next=true→h.get 0=some (b2 0 (cK .dd) 1 (.slice (some ⟨2,J+1,0,0,1⟩) (kept.length+1) (kept.length+1)) ah false af aq)→h.get 1=some (cn (cl hold c).2 (cd hold 0 bA) (cd hold 1 bz) (cd hold 2 bl) (cd hold 3 bB) aE)→h.get 2=some (b3 (aL kept++[.int .u8 c.toNat]) 1 (J+1) m (if m=J then(aL kept).length else min aG (aL kept).length) cI)→h.get 3=some P→h.get 4=some O→U (.tuple []) h) :
 ∃v aa,aI Tryz.prog aw 90 [.ptr (some ⟨0,0,0,0,6⟩),.int .u8 c.toNat] (j.of [b2 0 (cK .dd) 1 (.slice (some ⟨2,J,0,0,1⟩) kept.length kept.length) ah false af aq,cn hold bA bz bl bB aE,b3 (aL kept) 1 J m aG cI,P,O]) v aa∧U v aa:=by
 refine XV (cK .dd) ah af aq aE P O (aL kept) J m aG kept.length (cd hold 0 bA) (cd hold 1 bz) (cd hold 2 bl) (cd hold 3 bB) hold.length c.toNat U ?_
 delta xS c9 ef pi A7 hD vc vb eK xQ gY s8 eg xR dr hE xP xO
 have ak:a' (aL kept) 0=x.toNat:=by rw [iJ];rfl
 have ND:(aL kept)[0]? =some (o.int .u8 x.toNat):=by rw [iJ];rfl
 have DO:kept.length≤4:=by
  have:at' kept≤1:=by unfold at';split<;>(try split)<;>omega
  omega
 have jE:0<kept.length:=by omega
 have nP:(kept++[c]).drop 1=kept.drop 1++[c]:=by rw [iJ];rfl
 have hL:=n' kept;have jI:=Ba kept c;have wC:=Gt hold bA bz bl bB c bW hf
 have Bd:(x.toNat:Int)=27→(kept.length:Int)=1→False:=fun e bn=>by
  have ae:x=27:=UInt8.toNat_inj.1 (by show x.toNat=27;omega);have:at' kept=1:=by rw [iJ,ae];rfl
  omega
 have Be:(kept.length:Int)=0→False:=fun e=>by omega
 have oa:¬(0:Int)<kept.length→False:=fun e=>by omega
 rw [Gr hold bA bz bl bB c (by omega)];simp only [Gv,Gw,Gx,Bb,Bc,pg,nP,ak];refine⟨?_,fun e=>(oa e).elim⟩
 repeat' (first
  |assumption
  |exact pk (by kernel_rfl) (by kernel_rfl) (by kernel_rfl) (by kernel_rfl) (by kernel_rfl) (by kernel_rfl)
  |exact(bm (by assumption)).elim
  |intro _
  |refine And.intro ?_ ?_
  |exact True.intro
  |assumption
  |rfl
  |omega
  |exact pj _ _ _
  |exact A' _ _ _ _
  |(simp only [List.length_append,List.length_drop,List.length_cons,List.length_nil,n'];omega)
  |(refine Nat.succ_le_of_lt ?_;simp only [List.length_append,List.length_drop,List.length_cons,List.length_nil,n'];omega))
set_option maxHeartbeats 4000000
set_option hygiene false in
theorem X0{ah af:o}{aq aE:Option (TypeId×Nat)}{P O:R}{kept hold:Bytes}{c:UInt8}{bA bz bl bB:Int}{J m aG:Nat}{x:UInt8}{t:Bytes}(iJ:kept=x::t)(bW:hold.length≤3)(hf:(first hold).2.2=true)(aD:(cl hold c).1.length=1)(hlen:kept.length=at' kept+hold.length)(b1:0<hold.length)(U:o→j→Prop)
 (Gy:∀{h:j}{cS:o},x.toNat=27→valid (kept.drop 1++[c])=true→Nat.ble 5 h.next=true→h.get 0=some (b2 0 (cK .dd) 1 (.slice (some ⟨2,J+1,0,0,1⟩) (kept.length+1) (kept.length+1)) ah false af aq)→h.get 1=some (cn (cl hold c).2 (cd hold 0 bA) (cd hold 1 bz) (cd hold 2 bl) (cd hold 3 bB) aE)→h.get 2=some (b3 (aL kept++[.int .u8 c.toNat]) 1 (J+1) m (if m=J then(aL kept).length else min aG (aL kept).length) cI)→h.get 3=some P→h.get 4=some O→cS=cm (fe ((cl hold c).1.getD 0 0) 2)→cC h ⟨0,0,0,0,6⟩ cS∧∀aa,cD h ⟨0,0,0,0,6⟩ cS aa→_root_.cond (Nat.ble 5 aa.next) (U (.tuple []) aa) False)
 (Gz:∀{h:j},x.toNat=27→valid (kept.drop 1++[c])=false→((cl hold c).2.length:Int)=0→Nat.ble 5 h.next=true→h.get 0=some (b2 0 (cK .dd) 1 (.slice (some ⟨2,J,0,0,1⟩) kept.length kept.length) ah false af aq)→h.get 1=some (cn (cl hold c).2 (cd hold 0 bA) (cd hold 1 bz) (cd hold 2 bl) (cd hold 3 bB) aE)→h.get 2=some (b3 (aL kept) 1 J m aG cI)→h.get 3=some P→h.get 4=some O→dB (2^30-8) eE h ⟨0,0,0,0,6⟩ c.toNat∧∀aa,dC Keys.bad h ⟨0,0,0,0,6⟩ c.toNat aa→_root_.cond (Nat.ble 5 aa.next) (U (.tuple []) aa) False)
 (GA:∀{h:j},x.toNat=27→valid (kept.drop 1++[c])=false→ ¬((cl hold c).2.length:Int)=0→Nat.ble 5 h.next=true→h.get 0=some (b2 0 (cK .dd) 1 (.slice (some ⟨2,J,0,0,1⟩) kept.length kept.length) ah false af aq)→h.get 1=some (cn [] (cd (cl hold c).2 0 (cd hold 0 bA)) (cd (cl hold c).2 1 (cd hold 1 bz)) (cd (cl hold c).2 2 (cd hold 2 bl)) (cd (cl hold c).2 3 (cd hold 3 bB)) aE)→h.get 2=some (b3 (aL kept) 1 J m aG cI)→h.get 3=some P→h.get 4=some O→dB (2^30-8) eE h ⟨0,0,0,0,6⟩ c.toNat∧∀aa,dC Keys.bad h ⟨0,0,0,0,6⟩ c.toNat aa→_root_.cond (Nat.ble 5 aa.next) (U (.tuple []) aa) False)
 (GB:∀{h:j}{cS:o},x.toNat≠27→valid (kept++[c])=true→Nat.ble 5 h.next=true→h.get 0=some (b2 0 (cK .dd) 1 (.slice (some ⟨2,J+1,0,0,1⟩) (kept.length+1) (kept.length+1)) ah false af aq)→h.get 1=some (cn (cl hold c).2 (cd hold 0 bA) (cd hold 1 bz) (cd hold 2 bl) (cd hold 3 bB) aE)→h.get 2=some (b3 (aL kept++[.int .u8 c.toNat]) 1 (J+1) m (if m=J then(aL kept).length else min aG (aL kept).length) cI)→h.get 3=some P→h.get 4=some O→cS=cm (fe ((cl hold c).1.getD 0 0) 0)→cC h ⟨0,0,0,0,6⟩ cS∧∀aa,cD h ⟨0,0,0,0,6⟩ cS aa→_root_.cond (Nat.ble 5 aa.next) (U (.tuple []) aa) False)
 (GC:∀{h:j},x.toNat≠27→valid (kept++[c])=false→((cl hold c).2.length:Int)=0→Nat.ble 5 h.next=true→h.get 0=some (b2 0 (cK .dd) 1 (.slice (some ⟨2,J,0,0,1⟩) kept.length kept.length) ah false af aq)→h.get 1=some (cn (cl hold c).2 (cd hold 0 bA) (cd hold 1 bz) (cd hold 2 bl) (cd hold 3 bB) aE)→h.get 2=some (b3 (aL kept) 1 J m aG cI)→h.get 3=some P→h.get 4=some O→dB (2^30-8) eE h ⟨0,0,0,0,6⟩ c.toNat∧∀aa,dC Keys.bad h ⟨0,0,0,0,6⟩ c.toNat aa→_root_.cond (Nat.ble 5 aa.next) (U (.tuple []) aa) False)
 (GD:∀{h:j},x.toNat≠27→valid (kept++[c])=false→ ¬((cl hold c).2.length:Int)=0→Nat.ble 5 h.next=true→h.get 0=some (b2 0 (cK .dd) 1 (.slice (some ⟨2,J,0,0,1⟩) kept.length kept.length) ah false af aq)→h.get 1=some (cn [] (cd (cl hold c).2 0 (cd hold 0 bA)) (cd (cl hold c).2 1 (cd hold 1 bz)) (cd (cl hold c).2 2 (cd hold 2 bl)) (cd (cl hold c).2 3 (cd hold 3 bB)) aE)→h.get 2=some (b3 (aL kept) 1 J m aG cI)→h.get 3=some P→h.get 4=some O→dB (2^30-8) eE h ⟨0,0,0,0,6⟩ c.toNat∧∀aa,dC Keys.bad h ⟨0,0,0,0,6⟩ c.toNat aa→_root_.cond (Nat.ble 5 aa.next) (U (.tuple []) aa) False) :
 ∃v aa,aI Tryz.prog aw 90 [.ptr (some ⟨0,0,0,0,6⟩),.int .u8 c.toNat] (j.of [b2 0 (cK .dd) 1 (.slice (some ⟨2,J,0,0,1⟩) kept.length kept.length) ah false af aq,cn hold bA bz bl bB aE,b3 (aL kept) 1 J m aG cI,P,O]) v aa∧U v aa:=by
 refine XW (cK .dd) ah af aq aE P O (aL kept) J m aG kept.length (cd hold 0 bA) (cd hold 1 bz) (cd hold 2 bl) (cd hold 3 bB) hold.length c.toNat U ?_
 delta ql jw c9 ef pi A7 hD vc vb eK qg gY s8 eg qk dr hE xP xO fV qj qi qh xY xT xX io xW xV xU
 have ak:a' (aL kept) 0=x.toNat:=by rw [iJ];rfl
 have ND:(aL kept)[0]? =some (o.int .u8 x.toNat):=by rw [iJ];rfl
 have DO:kept.length≤4:=by
  have:at' kept≤1:=by unfold at';split<;>(try split)<;>omega
  omega
 have jE:0<kept.length:=by omega
 have nP:(kept++[c]).drop 1=kept.drop 1++[c]:=by rw [iJ];rfl
 have hL:=n' kept;have jI:=Ba kept c;have wC:=Gt hold bA bz bl bB c bW hf;have X1:¬(cl hold c).1=[]:=fun e=>by rw [e]at aD;simp at aD
 have Bd:(x.toNat:Int)=27→(kept.length:Int)=1→False:=fun e bn=>by
  have ae:x=27:=UInt8.toNat_inj.1 (by show x.toNat=27;omega);have:at' kept=1:=by rw [iJ,ae];rfl
  omega
 have Be:(kept.length:Int)=0→False:=fun e=>by omega
 have oa:¬(0:Int)<kept.length→False:=fun e=>by omega
 rw [Gr hold bA bz bl bB c (by omega)];simp only [Gv,Gw,Gx,Bb,Bc,pg,nP,ak];refine⟨?_,fun e=>(oa e).elim⟩
 repeat' (first
  |assumption
  |exact Gy (by omega) (by assumption) (by kernel_rfl) (by kernel_rfl) (by kernel_rfl) (by kernel_rfl) (by kernel_rfl) (by kernel_rfl) rfl
  |exact Gz (by omega) (by assumption) (by assumption) (by kernel_rfl) (by kernel_rfl) (by kernel_rfl) (by kernel_rfl) (by kernel_rfl) (by kernel_rfl)
  |exact GA (by omega) (by assumption) (by assumption) (by kernel_rfl) (by kernel_rfl) (by kernel_rfl) (by kernel_rfl) (by kernel_rfl) (by kernel_rfl)
  |exact(gM ‹valid (kept.drop 1++[c])=true› ‹valid (kept.drop 1++[c])=false›).elim
  |exact GB (by omega) (by assumption) (by kernel_rfl) (by kernel_rfl) (by kernel_rfl) (by kernel_rfl) (by kernel_rfl) (by kernel_rfl) rfl
  |exact GC (by omega) (by assumption) (by assumption) (by kernel_rfl) (by kernel_rfl) (by kernel_rfl) (by kernel_rfl) (by kernel_rfl) (by kernel_rfl)
  |exact GD (by omega) (by assumption) (by assumption) (by kernel_rfl) (by kernel_rfl) (by kernel_rfl) (by kernel_rfl) (by kernel_rfl) (by kernel_rfl)
  |exact(gM ‹valid (kept++[c])=true› ‹valid (kept++[c])=false›).elim
  |exact(Bd (by assumption) (by assumption)).elim
  |exact(Be (by assumption)).elim
  |intro _
  |refine And.intro ?_ ?_
  |exact True.intro
  |assumption
  |rfl
  |omega
  |exact pj _ _ _
  |exact A' _ _ _ _
  |(simp only [List.length_append,List.length_drop,List.length_cons,List.length_nil,n'];omega)
  |(refine Nat.succ_le_of_lt ?_;simp only [List.length_append,List.length_drop,List.length_cons,List.length_nil,n'];omega))
set_option maxHeartbeats 4000000
set_option hygiene false in
theorem X2{ah af:o}{aq aE:Option (TypeId×Nat)}{P O:R}{kept hold:Bytes}{c:UInt8}{bA bz bl bB:Int}{J m aG:Nat}{x:UInt8}{t:Bytes}(iJ:kept=x::t)(bW:hold.length≤3)(hf:(first hold).2.2=true)(X1:(cl hold c).1≠[])(aD:(cl hold c).1.length≠1)(hlen:kept.length=at' kept+hold.length)(b1:0<hold.length)(U:o→j→Prop)
 (Gy:∀{h:j}{cS:o},x.toNat=27→valid (kept.drop 1++[c])=true→Nat.ble 5 h.next=true→h.get 0=some (b2 0 (cK .dd) 1 (.slice (some ⟨2,J+1,0,0,1⟩) (kept.length+1) (kept.length+1)) ah false af aq)→h.get 1=some (cn (cl hold c).2 (cd hold 0 bA) (cd hold 1 bz) (cd hold 2 bl) (cd hold 3 bB) aE)→h.get 2=some (b3 (aL kept++[.int .u8 c.toNat]) 1 (J+1) m (if m=J then(aL kept).length else min aG (aL kept).length) cI)→h.get 3=some P→h.get 4=some O→cS=cm (fe ((cl hold c).1.getD 0 0) 2)→cC h ⟨0,0,0,0,6⟩ cS∧∀aa,cD h ⟨0,0,0,0,6⟩ cS aa→_root_.cond (Nat.ble 5 aa.next) (U (.tuple []) aa) False)
 (Gz:∀{h:j},x.toNat=27→valid (kept.drop 1++[c])=false→((cl hold c).2.length:Int)=0→Nat.ble 5 h.next=true→h.get 0=some (b2 0 (cK .dd) 1 (.slice (some ⟨2,J,0,0,1⟩) kept.length kept.length) ah false af aq)→h.get 1=some (cn (cl hold c).2 (cd hold 0 bA) (cd hold 1 bz) (cd hold 2 bl) (cd hold 3 bB) aE)→h.get 2=some (b3 (aL kept) 1 J m aG cI)→h.get 3=some P→h.get 4=some O→dB (2^30-8) eE h ⟨0,0,0,0,6⟩ c.toNat∧∀aa,dC Keys.bad h ⟨0,0,0,0,6⟩ c.toNat aa→_root_.cond (Nat.ble 5 aa.next) (U (.tuple []) aa) False)
 (GA:∀{h:j},x.toNat=27→valid (kept.drop 1++[c])=false→ ¬((cl hold c).2.length:Int)=0→Nat.ble 5 h.next=true→h.get 0=some (b2 0 (cK .dd) 1 (.slice (some ⟨2,J,0,0,1⟩) kept.length kept.length) ah false af aq)→h.get 1=some (cn [] (cd (cl hold c).2 0 (cd hold 0 bA)) (cd (cl hold c).2 1 (cd hold 1 bz)) (cd (cl hold c).2 2 (cd hold 2 bl)) (cd (cl hold c).2 3 (cd hold 3 bB)) aE)→h.get 2=some (b3 (aL kept) 1 J m aG cI)→h.get 3=some P→h.get 4=some O→dB (2^30-8) eE h ⟨0,0,0,0,6⟩ c.toNat∧∀aa,dC Keys.bad h ⟨0,0,0,0,6⟩ c.toNat aa→_root_.cond (Nat.ble 5 aa.next) (U (.tuple []) aa) False)
 (GB:∀{h:j}{cS:o},x.toNat≠27→valid (kept++[c])=true→Nat.ble 5 h.next=true→h.get 0=some (b2 0 (cK .dd) 1 (.slice (some ⟨2,J+1,0,0,1⟩) (kept.length+1) (kept.length+1)) ah false af aq)→h.get 1=some (cn (cl hold c).2 (cd hold 0 bA) (cd hold 1 bz) (cd hold 2 bl) (cd hold 3 bB) aE)→h.get 2=some (b3 (aL kept++[.int .u8 c.toNat]) 1 (J+1) m (if m=J then(aL kept).length else min aG (aL kept).length) cI)→h.get 3=some P→h.get 4=some O→cS=cm (fe ((cl hold c).1.getD 0 0) 0)→cC h ⟨0,0,0,0,6⟩ cS∧∀aa,cD h ⟨0,0,0,0,6⟩ cS aa→_root_.cond (Nat.ble 5 aa.next) (U (.tuple []) aa) False)
 (GC:∀{h:j},x.toNat≠27→valid (kept++[c])=false→((cl hold c).2.length:Int)=0→Nat.ble 5 h.next=true→h.get 0=some (b2 0 (cK .dd) 1 (.slice (some ⟨2,J,0,0,1⟩) kept.length kept.length) ah false af aq)→h.get 1=some (cn (cl hold c).2 (cd hold 0 bA) (cd hold 1 bz) (cd hold 2 bl) (cd hold 3 bB) aE)→h.get 2=some (b3 (aL kept) 1 J m aG cI)→h.get 3=some P→h.get 4=some O→dB (2^30-8) eE h ⟨0,0,0,0,6⟩ c.toNat∧∀aa,dC Keys.bad h ⟨0,0,0,0,6⟩ c.toNat aa→_root_.cond (Nat.ble 5 aa.next) (U (.tuple []) aa) False)
 (GD:∀{h:j},x.toNat≠27→valid (kept++[c])=false→ ¬((cl hold c).2.length:Int)=0→Nat.ble 5 h.next=true→h.get 0=some (b2 0 (cK .dd) 1 (.slice (some ⟨2,J,0,0,1⟩) kept.length kept.length) ah false af aq)→h.get 1=some (cn [] (cd (cl hold c).2 0 (cd hold 0 bA)) (cd (cl hold c).2 1 (cd hold 1 bz)) (cd (cl hold c).2 2 (cd hold 2 bl)) (cd (cl hold c).2 3 (cd hold 3 bB)) aE)→h.get 2=some (b3 (aL kept) 1 J m aG cI)→h.get 3=some P→h.get 4=some O→dB (2^30-8) eE h ⟨0,0,0,0,6⟩ c.toNat∧∀aa,dC Keys.bad h ⟨0,0,0,0,6⟩ c.toNat aa→_root_.cond (Nat.ble 5 aa.next) (U (.tuple []) aa) False) :
 ∃v aa,aI Tryz.prog aw 90 [.ptr (some ⟨0,0,0,0,6⟩),.int .u8 c.toNat] (j.of [b2 0 (cK .dd) 1 (.slice (some ⟨2,J,0,0,1⟩) kept.length kept.length) ah false af aq,cn hold bA bz bl bB aE,b3 (aL kept) 1 J m aG cI,P,O]) v aa∧U v aa:=by
 refine XX (cK .dd) ah af aq aE P O (aL kept) J m aG kept.length (cd hold 0 bA) (cd hold 1 bz) (cd hold 2 bl) (cd hold 3 bB) hold.length c.toNat U ?_
 delta qq qm c9 ef pi A7 hD vc vb eK qn gY s8 eg qp dr hE xP xO fV qo x2 xZ x1 io x0
 have ak:a' (aL kept) 0=x.toNat:=by rw [iJ];rfl
 have ND:(aL kept)[0]? =some (o.int .u8 x.toNat):=by rw [iJ];rfl
 have DO:kept.length≤4:=by
  have:at' kept≤1:=by unfold at';split<;>(try split)<;>omega
  omega
 have jE:0<kept.length:=by omega
 have nP:(kept++[c]).drop 1=kept.drop 1++[c]:=by rw [iJ];rfl
 have hL:=n' kept;have jI:=Ba kept c;have wC:=Gt hold bA bz bl bB c bW hf
 have Bd:(x.toNat:Int)=27→(kept.length:Int)=1→False:=fun e bn=>by
  have ae:x=27:=UInt8.toNat_inj.1 (by show x.toNat=27;omega);have:at' kept=1:=by rw [iJ,ae];rfl
  omega
 have Be:(kept.length:Int)=0→False:=fun e=>by omega
 have oa:¬(0:Int)<kept.length→False:=fun e=>by omega
 rw [Gr hold bA bz bl bB c (by omega)];simp only [Gv,Gw,Gx,Bb,Bc,pg,nP,ak];refine⟨?_,fun e=>(oa e).elim⟩
 repeat' (first
  |assumption
  |exact Gy (by omega) (by assumption) (by kernel_rfl) (by kernel_rfl) (by kernel_rfl) (by kernel_rfl) (by kernel_rfl) (by kernel_rfl) rfl
  |exact Gz (by omega) (by assumption) (by assumption) (by kernel_rfl) (by kernel_rfl) (by kernel_rfl) (by kernel_rfl) (by kernel_rfl) (by kernel_rfl)
  |exact GA (by omega) (by assumption) (by assumption) (by kernel_rfl) (by kernel_rfl) (by kernel_rfl) (by kernel_rfl) (by kernel_rfl) (by kernel_rfl)
  |exact(gM ‹valid (kept.drop 1++[c])=true› ‹valid (kept.drop 1++[c])=false›).elim
  |exact GB (by omega) (by assumption) (by kernel_rfl) (by kernel_rfl) (by kernel_rfl) (by kernel_rfl) (by kernel_rfl) (by kernel_rfl) rfl
  |exact GC (by omega) (by assumption) (by assumption) (by kernel_rfl) (by kernel_rfl) (by kernel_rfl) (by kernel_rfl) (by kernel_rfl) (by kernel_rfl)
  |exact GD (by omega) (by assumption) (by assumption) (by kernel_rfl) (by kernel_rfl) (by kernel_rfl) (by kernel_rfl) (by kernel_rfl) (by kernel_rfl)
  |exact(gM ‹valid (kept++[c])=true› ‹valid (kept++[c])=false›).elim
  |exact(Bd (by assumption) (by assumption)).elim
  |exact(Be (by assumption)).elim
  |intro _
  |refine And.intro ?_ ?_
  |exact True.intro
  |assumption
  |rfl
  |omega
  |exact pj _ _ _
  |exact A' _ _ _ _
  |(simp only [List.length_append,List.length_drop,List.length_cons,List.length_nil,n'];omega)
  |(refine Nat.succ_le_of_lt ?_;simp only [List.length_append,List.length_drop,List.length_cons,List.length_nil,n'];omega))
theorem NE:∀(k:Nat)(s:Bytes),(hB k s).2.length≤s.length
 |0,s=>by simp [hB]
 |k+1,[]=>by simp [hB]
 |k +1,b::r=>by
  unfold hB;split
  ·exact Nat.le_refl _
  ·refine Nat.le_trans (NE k _) ?_;rw [List.length_drop];omega
theorem X3(hold:Bytes)(c:UInt8):(cl hold c).2.length≤hold.length+1:=by have:=NE (hold.length+1) (hold++[c]);rw [List.length_append]at this;exact this
theorem NF(hold:Bytes)(c:UInt8)(h:(cl hold c).1=[]):0<(cl hold c).2.length:=by
 unfold cl at h⊢;cases an:hold++[c]with
 |nil=>simp at an
 |cons b r =>
  rw [an]at h;unfold hB at h⊢;split
  ·simp
  ·rename_i e;rw [if_neg e]at h;simp at h
theorem X4{kept hold aB:Bytes}{c:UInt8}(h:(cl hold c).1=[]):Keys.dd ⟨.dd,kept,hold,aB⟩ c=(⟨.dd,kept++[c],(cl hold c).2,aB⟩,[]):=by
 have ad:=NF hold c h;have bd:(cl hold c).2≠[]:=fun e=>by rw [e]at ad;simp at ad
 simp [Keys.dd,gD,h,bd]
theorem NG{kept hold aB:Bytes}{c:UInt8}{a:Nat}(aT:at' kept=a)(h:(cl hold c).1≠[])(bg:valid (kept.drop a++[c])=true)(aC:(kept++[c]).drop a=kept.drop a++[c]):Keys.dd ⟨.dd,kept,hold,aB⟩ c=(⟨.ground,[],(cl hold c).2,aB⟩,[fe ((cl hold c).1.getD 0 0) (2*a)]):=by
 subst aT;have e:(cl hold c).1.headD 0=(cl hold c).1.getD 0 0:=by cases (cl hold c).1<;>rfl
 unfold Keys.dd gD;simp only [h,and_false,if_false,bg,or_true,if_true,aC,tell,e]
theorem NH{kept hold aB:Bytes}{c:UInt8}{a:Nat}(aT:at' kept=a)(h:(cl hold c).1≠[])(az:kept.length≠a)(bg:valid (kept.drop a++[c])=false):Keys.dd ⟨.dd,kept,hold,aB⟩ c=Keys.bad ⟨.dd,kept,[],aB⟩ c:=by subst aT;unfold Keys.dd gD;simp [h,bg,az]
def x3(s:bO)(c:UInt8):Prop:=s.cp=.dd∧s.hold=s.kept.drop (at' s.kept)∧0<s.hold.length∧s.hold.length≤3∧(first s.hold).2.2=true
theorem X5{H:j}{d:Nat}{aF:cL}{s:bO}{es:List bj}{c:UInt8}(g:cu H d aF s es)(cw:es.length<2^30-8)(dZ:x3 s c):∃aP,aI Tryz.prog aw 90 [.ptr (some ⟨d,0,0,0,6⟩),.int .u8 c.toNat] H (.tuple []) aP ∧
 ∃aQ,cu aP d aQ (Keys.dd s c).1 (es++(Keys.dd s c).2)∧Fr H aP d aF aQ:=by
 refine tc ?_ g;intro bo aX ah af aq aE bA bz bl bB K P O a7 an gs cX;obtain⟨ap,ac,ai⟩:=ni gs;obtain⟨cp,kept,hold,aB⟩:=s;obtain⟨p,aC,b1,bW,hf⟩:=dZ;simp only at p aC b1 bW hf an gs ap ac ai⊢;subst p
 have mQ:bo=.grown []:=by
  cases bo with
  |grown C=>cases C with
   |nil=>rfl
   |cons a b=>exact an.elim
  |_=>exact an.elim
 subst mQ;have gF:kept≠[]:=an
 obtain⟨x,t,iJ⟩:∃x t,kept=x::t:=by
  cases kept with
  |nil=>exact absurd rfl gF
  |cons x t=>exact⟨x,t,rfl⟩
 obtain⟨kD,J,m,aG,rfl,dj⟩:=ap;have cB:a7.k=2:=by omega
 rw [cB,j.e3]at dj;simp only [List.getElem?_cons_zero,List.getElem?_cons_succ,Option.some.injEq,List.nil_append]at dj;subst dj;rw [cB]at ac ai⊢;simp only [List.length_nil]at ac ai⊢;have q1:at' kept≤1:=by unfold at';split<;>(try split)<;>omega
 have sn:at' kept=if x=27 then 1 else 0:=by rw [iJ];rfl
 have hlen:kept.length=at' kept+hold.length:=by
  rw [aC,List.length_drop];have:0<kept.length:=by rw [iJ];simp
  omega
 have tR:(cl hold c).2.length≤4:=by have:=X3 hold c;omega
 have GF:x.toNat=27→at' kept=1:=fun e=>by have:x=27:=UInt8.toNat_inj.1 (by show x.toNat=27;exact e);rw [sn,if_pos this]
 have GG:x.toNat≠27→at' kept=0:=fun e=>by rw [sn,if_neg (by rintro rfl;exact e rfl)]
 have nP:(kept++[c]).drop 1=kept.drop 1++[c]:=by rw [iJ];rfl
 have Bf:((cl hold c).2.length:Int)=0→(cl hold c).2=[]:=fun e=>List.eq_nil_of_length_eq_zero (by omega)
 have fin:∀{bL:bO×List bj},(∃v aa,aI Tryz.prog aw 90 [.ptr (some ⟨0,0,0,0,6⟩),.int .u8 c.toNat] (j.of [b2 0 (cK .dd) 1 (.slice (some ⟨2,J,0,0,1⟩) kept.length kept.length) ah false af aq,cn hold bA bz bl bB aE,b3 (aL kept) 1 J m aG cI,P,O]) v aa ∧
  (v=.tuple []∧∃aQ,cu aa 0 aQ bL.1 (es++bL.2)∧Fr (j.of [b2 0 (cK .dd) 1 (.slice (some ⟨2,J,0,0,1⟩) kept.length kept.length) ah false af aq,cn hold bA bz bl bB aE,b3 (aL kept) 1 J m aG cI,P,O]) aa 0 a7 aQ)) →
  ∃aa,aI Tryz.prog aw 90 [.ptr (some ⟨0,0,0,0,6⟩),.int .u8 c.toNat] (j.of [b2 0 (cK .dd) 1 (.slice (some ⟨2,J,0,0,1⟩) kept.length kept.length) ah false af aq,cn hold bA bz bl bB aE,b3 (aL kept) 1 J m aG cI,P,O]) (.tuple []) aa∧∃aQ,cu aa 0 aQ bL.1 (es++bL.2)∧Fr (j.of [b2 0 (cK .dd) 1 (.slice (some ⟨2,J,0,0,1⟩) kept.length kept.length) ah false af aq,cn hold bA bz bl bB aE,b3 (aL kept) 1 J m aG cI,P,O]) aa 0 a7 aQ:=by
  rintro bL ⟨v,aa,aC,rfl,q⟩;exact⟨aa,aC,q⟩
 by_cases aD:(cl hold c).1=[]
 ·rw [X4 (kept:=kept) (aB:=aB) aD];refine fin (XZ iJ bW hf aD hlen b1 (fun e=>e (by have:=NF hold c aD;omega)) (fun v aa=>v=.tuple []∧∃aQ,cu aa 0 aQ _ (es++_)∧Fr _ aa 0 a7 aQ) ?_);intro h bI ca bn bs b7 ct;refine⟨rfl,?_⟩;rw [List.append_nil];exact XY (kept:=kept++[c]) bI ca bn bs b7 ct (by simp) (nj _ _) (by simp) ac ai cX cB
 ·have ve:x.toNat=27→valid (kept.drop 1++[c])=true→_:=fun ae bg=>NG (aB:=aB) (hold:=hold) (GF ae) aD bg nP
  have NI:x.toNat≠27→valid (kept++[c])=true→_:=fun ae bg=>NG (aB:=aB) (hold:=hold) (GG ae) aD bg rfl
  have k3:x.toNat=27→valid (kept.drop 1++[c])=false→_:=fun ae bg=>NH (aB:=aB) (hold:=hold) (GF ae) aD (by have:=GF ae;omega) bg
  have h2:x.toNat≠27→valid (kept++[c])=false→_:=fun ae bg=>NH (aB:=aB) (hold:=hold) (GG ae) aD (by have:=GG ae;omega) bg
  by_cases C3:(cl hold c).1.length=1
  ·refine fin (X0 iJ bW hf C3 hlen b1 (fun v aa=>v=.tuple []∧∃aQ,cu aa 0 aQ (Keys.dd ⟨.dd,kept,hold,aB⟩ c).1 (es++(Keys.dd ⟨.dd,kept,hold,aB⟩ c).2)∧Fr _ aa 0 a7 aQ) ?_ ?_ ?_ ?_ ?_ ?_)
   ·intro h cS ae bg bI ca bn bs b7 ct he;exact te (kept:=kept++[c]) bI ca bn bs b7 ct (by simp) (nj _ _) ac ai cX cB he (by omega) tR fun aa aQ g cU=>⟨rfl,aQ,by rw [ve ae bg];exact g,cU⟩
   ·intro h ae bg eT bI ca bn bs b7 ct;rw [Bf eT]at bn;exact rP bI ca bn bs b7 ct gF ac ai cX cB cw fun aa aQ g cU=>⟨rfl,aQ,by rw [k3 ae bg];exact g,cU⟩
   ·intro h ae bg eT bI ca bn bs b7 ct;exact rP bI ca bn bs b7 ct gF ac ai cX cB cw fun aa aQ g cU=>⟨rfl,aQ,by rw [k3 ae bg];exact g,cU⟩
   ·intro h cS ae bg bI ca bn bs b7 ct he;exact te (kept:=kept++[c]) bI ca bn bs b7 ct (by simp) (nj _ _) ac ai cX cB he (by omega) tR fun aa aQ g cU=>⟨rfl,aQ,by rw [NI ae bg];exact g,cU⟩
   ·intro h ae bg eT bI ca bn bs b7 ct;rw [Bf eT]at bn;exact rP bI ca bn bs b7 ct gF ac ai cX cB cw fun aa aQ g cU=>⟨rfl,aQ,by rw [h2 ae bg];exact g,cU⟩
   ·intro h ae bg eT bI ca bn bs b7 ct;exact rP bI ca bn bs b7 ct gF ac ai cX cB cw fun aa aQ g cU=>⟨rfl,aQ,by rw [h2 ae bg];exact g,cU⟩
  ·refine fin (X2 iJ bW hf aD C3 hlen b1 (fun v aa=>v=.tuple []∧∃aQ,cu aa 0 aQ (Keys.dd ⟨.dd,kept,hold,aB⟩ c).1 (es++(Keys.dd ⟨.dd,kept,hold,aB⟩ c).2)∧Fr _ aa 0 a7 aQ) ?_ ?_ ?_ ?_ ?_ ?_)
   ·intro h cS ae bg bI ca bn bs b7 ct he;exact te (kept:=kept++[c]) bI ca bn bs b7 ct (by simp) (nj _ _) ac ai cX cB he (by omega) tR fun aa aQ g cU=>⟨rfl,aQ,by rw [ve ae bg];exact g,cU⟩
   ·intro h ae bg eT bI ca bn bs b7 ct;rw [Bf eT]at bn;exact rP bI ca bn bs b7 ct gF ac ai cX cB cw fun aa aQ g cU=>⟨rfl,aQ,by rw [k3 ae bg];exact g,cU⟩
   ·intro h ae bg eT bI ca bn bs b7 ct;exact rP bI ca bn bs b7 ct gF ac ai cX cB cw fun aa aQ g cU=>⟨rfl,aQ,by rw [k3 ae bg];exact g,cU⟩
   ·intro h cS ae bg bI ca bn bs b7 ct he;exact te (kept:=kept++[c]) bI ca bn bs b7 ct (by simp) (nj _ _) ac ai cX cB he (by omega) tR fun aa aQ g cU=>⟨rfl,aQ,by rw [NI ae bg];exact g,cU⟩
   ·intro h ae bg eT bI ca bn bs b7 ct;rw [Bf eT]at bn;exact rP bI ca bn bs b7 ct gF ac ai cX cB cw fun aa aQ g cU=>⟨rfl,aQ,by rw [h2 ae bg];exact g,cU⟩
   ·intro h ae bg eT bI ca bn bs b7 ct;exact rP bI ca bn bs b7 ct gF ac ai cX cB cw fun aa aQ g cU=>⟨rfl,aQ,by rw [h2 ae bg];exact g,cU⟩
theorem X6:∀args h a,jY (2^30-8) x3 Keys.dd args h=some a→a.dw Tryz.prog aw 90 args h:=rJ fun H d aF s es c g cw az dZ=>X5 g cw dZ
noncomputable def NJ:fc:=xM.add 90 (jY (2^30-8) x3 Keys.dd)
theorem X7:eW Tryz.prog aw NJ:=A6.add X6
abbrev NK:o:=o.agg [.int .i64 13,.int .i64 9,.int .i64 127,.int .i64 27]
abbrev GH(n:Int)(m:Int):o:=o.agg [.int .i8 1,.int .i32 n,.int .u8 m,.int .i64 0,.int .i64 0,.str []]
abbrev GI(m:Int):o:=o.agg [.int .i8 2,.int .i32 1,.int .u8 m,.int .i64 0,.int .i64 0,.str []]
abbrev GJ(m:Int):o:=o.agg [.int .i8 2,.int .i32 2,.int .u8 m,.int .i64 0,.int .i64 0,.str []]
abbrev GK(m:Int):o:=o.agg [.int .i8 2,.int .i32 3,.int .u8 m,.int .i64 0,.int .i64 0,.str []]
abbrev GL(m:Int):o:=o.agg [.int .i8 2,.int .i32 4,.int .u8 m,.int .i64 0,.int .i64 0,.str []]
abbrev da:o:=o.agg [.int .i8 0,.int .i32 0,.int .u8 0,.int .i64 0,.int .i64 0,.str []]
abbrev rQ:R:=(R.made ([NK]) 4 true (some (109,4)))
theorem X8(n m:Int)(U:o→j→Prop)(aY:(13=n→U (.tuple [(GI m),.bool true]) (j.ar 22 [(0,(R.made ([(GI m)]) 6 true (some (42,6)))),(4,rQ)]))∧(¬13=n→(9=n→U (.tuple [(GJ m),.bool true]) (j.ar 32 [(0,(R.made ([(GJ m)]) 6 true (some (42,6)))),(4,rQ)]))∧(¬9=n→(127=n→U (.tuple [(GK m),.bool true]) (j.ar 42 [(0,(R.made ([(GK m)]) 6 true (some (42,6)))),(4,rQ)]))∧(¬127=n→(27=n→U (.tuple [(GL m),.bool true]) (j.ar 52 [(0,(R.made ([(GL m)]) 6 true (some (42,6)))),(4,rQ)]))∧(¬27=n→(2097152<n→U (.tuple [da,.bool false]) (j.ar 59 [(0,(R.made ([da]) 6 true (some (42,6)))),(4,rQ)]))∧(¬2097152<n→(-2147483648≤n∧n≤2147483647)∧(shown n=true→(-2147483648≤n∧n≤2147483647)∧U (.tuple [(GH n m),.bool true]) (j.ar 62 [(0,(R.made ([(GH n m)]) 6 true (some (42,6)))),(4,rQ)]))∧(shown n=false→U (.tuple [da,.bool false]) (j.ar 59 [(0,(R.made ([da]) 6 true (some (42,6)))),(4,rQ)])))))))) :
 ∃v p,aI Tryz.prog aw 149 [.int .i64 n,.int .u8 m] (⟨0,.nil⟩) v p∧U v p :=
 cb bQ mixed c8 (an:=he 1000 (.aA (.rounds 300) (.aK 4002 .nil (.aK 4002 .nil (.aK 4002 .nil (.aK 4002 .nil (.aK 7001 .nil (ag 7004 (.aK 7005 (ag 9001 .nil) .nil))))))))) (by kernel_rfl) aY
def fp:bj:= {kind:=0}
def hl(ab:Option bj):o:= .tuple [cm (ab.getD fp),.bool ab.isSome]
theorem X9(n:Nat)(m:Int)(H:j):aI Tryz.prog aw 149 [.int .i64 n,.int .u8 m] H (hl (Keys.dM n m)) H:=by
 refine aI.fm (X8 n m (fun v _=>v=hl (Keys.dM n m)) ?_) rfl rfl H
 delta rQ NK da GH GL GK GJ GI
 refine⟨fun e=> ?_,fun p=>⟨fun e=> ?_,fun ad=>⟨fun e=> ?_,fun bd=>⟨fun e=> ?_,fun bS=>⟨fun e=> ?_,fun bI=>⟨by omega,fun e=>⟨by omega,?_⟩,fun e=> ?_⟩⟩⟩⟩⟩⟩
 ·have e:n=13:=by omega
  rw [show Keys.dM n m=some (eR 1 m)by simp [Keys.dM,e]];rfl
 ·have e:n=9:=by omega
  rw [show Keys.dM n m=some (eR 2 m)by simp [Keys.dM,e]];rfl
 ·have e:n=127:=by omega
  rw [show Keys.dM n m=some (eR 3 m)by simp [Keys.dM,e]];rfl
 ·have e:n=27:=by omega
  rw [show Keys.dM n m=some (eR 4 m)by simp [Keys.dM,e]];rfl
 all_goals
  have a6:n≠13:=by omega
  have aO:n≠9:=by omega
  have ft:n≠127:=by omega
  have ht:n≠27:=by omega
 ·have ig:2097152<n:=by omega
  rw [show Keys.dM n m=none by simp [Keys.dM,a6,aO,ft,ht,ig]];rfl
 ·have ig:¬2097152<n:=by omega
  rw [show Keys.dM n m=some (fe n m)by simp [Keys.dM,a6,aO,ft,ht,ig,e]];rfl
 ·have ig:¬2097152<n:=by omega
  rw [show Keys.dM n m=none by simp [Keys.dM,a6,aO,ft,ht,ig,e]];rfl
theorem NL(x:UInt8)(r:Bytes)(c:Int)(U:dc→bP→j→Prop)(aY:(0<(↑(List.length (x::r)):Int)→((↑(UInt8.toNat x):Int)=c→((0:Int)≤1∧1≤(↑(List.length (x::r)):Int))∧U .normal [(0,.str r),(1,.int .u8 c)] (j.ar 12 []))∧(¬(↑(UInt8.toNat x):Int)=c→U (.exit 0) [(0,.str (x::r)),(1,.int .u8 c)] (j.ar 9 [])))∧(¬0<(↑(List.length (x::r)):Int)→U (.exit 0) [(0,.str (x::r)),(1,.int .u8 c)] (j.ar 9 []))) :
 ∃e aW p,cx Tryz.prog aw 0 17 (cF Tryz.prog 142 0) [(0,.str (x::r)),(1,.int .u8 c)] (⟨0,.nil⟩) e aW p∧U e aW p :=
 gm bQ mixed gU (an:= .aK 1002 (.aK 1007 (ag 2001 .nil) .nil) .nil) (cs:=[0,1]) (by kernel_rfl) aY
theorem X'(c:Int)(U:dc→bP→j→Prop)(aY:U (.exit 0) [(0,.str []),(1,.int .u8 c)] (j.ar 9 [])) :
 ∃e aW p,cx Tryz.prog aw 0 17 (cF Tryz.prog 142 0) [(0,.str []),(1,.int .u8 c)] (⟨0,.nil⟩) e aW p∧U e aW p :=
 gm bQ mixed gU (an:= .nil) (cs:=[0,1]) (by kernel_rfl) aY
theorem Ya(s t:Bytes)(c:Int)(aa:j)(U:o→j→Prop)(aY:cx Tryz.prog aw 0 17 (Code.loop (cF Tryz.prog 142 0)) [(0,.str s),(1,.int .u8 c)] (j.ar 1 []) (.exit 0) [(0,.str t),(1,.int .u8 c)] aa∧U (.str t) (j.mk (aa.next+2) (j.aJ aa))) :
 ∃v p,aI Tryz.prog aw 142 [.str s,.int .u8 c] (⟨0,.nil⟩) v p∧U v p :=
 cb bQ mixed gU (an:= .aA (.cs [0,1]) (.aA (.loop [(0,.str t),(1,.int .u8 c)] aa (.exit 0)) .nil)) (by kernel_rfl) aY
theorem Yb(s:Bytes)(U:o→j→Prop)(aY:(s=[]→U (.str s) (j.ar 9 []))∧(¬s=[]→c7 Tryz.prog aw 142 [.str s,.int .u8 48] (j.ar 20 []) (.str (List.dropWhile (fun x=>x == 48) s)) (j.ar 20 [])∧U (.str (List.dropWhile (fun x=>x == 48) s)) (j.ar 20 []))) :
 ∃v p,aI Tryz.prog aw 128 [.str s,.str [48]] (⟨0,.nil⟩) v p∧U v p :=
 cb bQ mixed gU (an:= .aK 1001 .nil (.aA (.val 4003 (.str (List.dropWhile (fun x=>x == 48) s))) .nil)) (by kernel_rfl) aY
theorem Yc(s I:Bytes)(U:o→j→Prop)(aY:((↑(List.length I):Int)≤(↑(List.length s):Int)→(0≤(↑(List.length I):Int)∧(↑(List.length I):Int)≤(↑(List.length s):Int))∧(List.take (Int.toNat (↑(List.length I):Int)) s=I→U (.bool true) (j.ar 20 []))∧(¬List.take (Int.toNat (↑(List.length I):Int)) s=I→U (.bool false) (j.ar 20 [])))∧(¬(↑(List.length I):Int)≤(↑(List.length s):Int)→U (.bool false) (j.ar 20 []))) :
 ∃v p,aI Tryz.prog aw 146 [.str s,.str I] (⟨0,.nil⟩) v p∧U v p :=
 cb bQ mixed gU (an:=he 1002 (.aK 1004 (ag 1009 (.aK 1011 .nil .nil)) .nil)) (by kernel_rfl) aY
theorem Yd(s I:Bytes)(U:o→j→Prop)(aY:((↑(List.length I):Int)≤(↑(List.length s):Int)→(0≤(↑(List.length I):Int)∧(↑(List.length I):Int)≤(↑(List.length s):Int))∧(List.take (Int.toNat (↑(List.length I):Int)) s=I→(0≤(↑(List.length I):Int)∧(↑(List.length I):Int)≤(↑(List.length s):Int))∧U (.tuple [.str (List.drop (Int.toNat (↑(List.length I):Int)) s),.bool true]) (j.ar 36 []))∧(¬List.take (Int.toNat (↑(List.length I):Int)) s=I→U (.tuple [.str s,.bool false]) (j.ar 33 [])))∧(¬(↑(List.length I):Int)≤(↑(List.length s):Int)→U (.tuple [.str s,.bool false]) (j.ar 33 []))) :
 ∃v p,aI Tryz.prog aw 53 [.str s,.str I] (⟨0,.nil⟩) v p∧U v p :=
 cb bQ mixed gU (an:=he 1002 (he 1002 (.aK 1004 (ag 1009 (.aK 1011 (ag 3003 .nil) .nil)) .nil))) (by kernel_rfl) aY
abbrev tf(s:Bytes)(c:UInt8):bP:=[(0,.str s),(1,.int .u8 c.toNat)]
theorem NM(s:Bytes)(c:UInt8)(h:j):eV 0 17 (tf s c) h (tf s c) ⟨0,.nil⟩ :=
 eV.drop (K:=0) (l:=[]) rfl rfl rfl rfl (bZ.cons trivial (bZ.cons trivial bZ.nil)) bZ.nil
theorem NN(c:UInt8):∀s:Bytes,∃aa,cN Tryz.prog aw 0 17 (cF Tryz.prog 142 0) (tf s c) ⟨0,.nil⟩ (.exit 0) (tf (s.dropWhile (· == c)) c) aa
 |[]=>by obtain⟨e,aW,p,bb,rfl,rfl⟩:=X' c.toNat (fun e aW p=>e=.exit 0∧aW=tf [] c) ⟨rfl,rfl⟩;exact⟨p,cN.last (by simp) bb⟩
 |x ::r=>by
  by_cases ae:x=c
  ·subst ae;obtain⟨e,aW,p,bb,rfl,rfl⟩:=NL x r x.toNat (fun e aW p=>e=.normal∧aW=tf r x) ⟨fun _=>⟨fun _=>⟨⟨by decide,by simp only [List.length_cons];omega⟩,rfl,rfl⟩,fun h=>absurd rfl h⟩,fun h=>by simp at h⟩;obtain⟨aa,az⟩:=NN x r;refine⟨aa,?_⟩;rw [List.dropWhile_cons_of_pos (by simp)];exact cN.step (bb.post (NM r x p)) az
  ·have b1:¬(x.toNat:Int)=(c.toNat:Int):=fun h=>ae (UInt8.toNat_inj.1 (by omega))
   obtain⟨e,aW,p,bb,rfl,rfl⟩:=NL x r c.toNat (fun e aW p=>e=.exit 0∧aW=tf (x::r) c) ⟨fun _=>⟨fun h=>absurd h b1,fun _=>⟨rfl,rfl⟩⟩,fun h=>by simp at h⟩;refine⟨p,?_⟩;rw [List.dropWhile_cons_of_neg (by simpa using ae)];exact cN.last (by simp) bb
theorem Ye(s:Bytes)(c:UInt8)(H:j):aI Tryz.prog aw 142 [.str s,.int .u8 c.toNat] H (.str (s.dropWhile (· == c))) H:=by obtain⟨aa,az⟩:=NN c s;exact aI.fm (Ya s (s.dropWhile (· == c)) c.toNat aa (fun v _=>v=.str (s.dropWhile (· == c))) ⟨cx.gL (az.pre (NM s c _)),rfl⟩) rfl rfl H
theorem Yf(s:Bytes)(H:j):aI Tryz.prog aw 128 [.str s,.str [48]] H (.str (s.dropWhile (· == 48))) H :=
 aI.fm (Yb s (fun v _=>v=.str (s.dropWhile (· == 48))) ⟨fun h=>by subst h;rfl,fun h=>⟨⟨Ye s 48 _⟩,rfl⟩⟩) rfl rfl H
theorem pre_true{s I:Bytes}(h:s.take I.length=I):I.isPrefixOf s=true:=by rw [List.isPrefixOf_iff_prefix,List.prefix_iff_eq_take];exact h.symm
theorem Bg{s I:Bytes}(h:¬s.take I.length=I):I.isPrefixOf s=false:=by
 cases aD:I.isPrefixOf s with
 |false=>rfl
 |true=>rw [List.isPrefixOf_iff_prefix,List.prefix_iff_eq_take]at aD;exact absurd aD.symm h
theorem take_len{s I:Bytes}(h:¬I.length≤s.length):¬s.take I.length=I:=fun e=>h (by have:=congrArg List.length e;simp at this;omega)
theorem Yg(s I:Bytes)(H:j):aI Tryz.prog aw 146 [.str s,.str I] H (.bool (I.isPrefixOf s)) H:=by
 refine aI.fm (Yc s I (fun v _=>v=.bool (I.isPrefixOf s)) ⟨fun h=>⟨⟨by omega,h⟩,fun e=> ?_,fun e=> ?_⟩,fun h=> ?_⟩) rfl rfl H
 ·rw [pre_true (by simpa using e)]
 ·rw [Bg (by simpa using e)]
 ·rw [Bg (take_len (by omega))]
def tg(s I:Bytes):o:= .tuple [.str (if I.isPrefixOf s then s.drop I.length else s),.bool (I.isPrefixOf s)]
theorem NO(s I:Bytes)(H:j):aI Tryz.prog aw 53 [.str s,.str I] H (tg s I) H:=by
 refine aI.fm (Yd s I (fun v _=>v=tg s I) ⟨fun h=>⟨⟨by omega,h⟩,fun e=>⟨⟨by omega,h⟩,?_⟩,fun e=> ?_⟩,fun h=> ?_⟩) rfl rfl H
 ·unfold tg;rw [pre_true (by simpa using e)];simp
 ·unfold tg;rw [Bg (by simpa using e)];simp
 ·unfold tg;rw [Bg (take_len (by omega))];simp
end Go.Proofs.YtddnafghiejcoaaGreatDoor
namespace Go.Keys
theorem GM(c:UInt8):∀s:Bytes,splitAt c s≠[]
 |[]=>by simp [splitAt]
 |b ::r=>by
  unfold splitAt;split
  ·simp
  ·cases h:splitAt c r with
   |nil=>exact absurd h (GM c r)
   |cons w t=>simp
theorem GN(c:UInt8):∀s:Bytes,(splitAt c s).length=s.count c+1
 |[]=>rfl
 |b ::r=>by
  have ih:=GN c r;unfold splitAt;split
  ·rename_i h;subst h;simp [ih]
  ·rename_i h;cases an:splitAt c r with
   |nil=>exact absurd an (GM c r)
   |cons w t =>
    rw [an]at ih;simp only [List.length_cons]at ih⊢;rw [List.count_cons_of_ne (by simpa using h)];omega
theorem NP{c:UInt8} :∀{s:Bytes},s.count c=0→splitAt c s=[s]
 |[],_=>rfl
 |b ::r,h=>by
  have au:¬b=c:=by intro e;subst e;simp at h
  rw [List.count_cons_of_ne (by simpa using au)]at h;unfold splitAt;rw [if_neg au,NP h]
theorem NQ{c:UInt8} :∀{s:Bytes},s.count c≠0→ ∃m:Nat,Go.Lib.indexByte s c=m∧m<s.length∧splitAt c s=s.take m::splitAt c (s.drop (m+1))∧s.count c=(s.drop (m+1)).count c+1
 |[],h=>by simp at h
 |b ::r,h=>by
  by_cases au:b=c
  ·subst au;refine⟨0,by simp [Go.Lib.indexByte],by simp,?_,by simp⟩;rw [splitAt,if_pos rfl];simp
  ·rw [List.count_cons_of_ne (by simpa using au)]at h⊢;obtain⟨m,bn,bs,b7,ct⟩:=NQ h;refine⟨m+1,?_,by simp;omega,?_,by simpa using ct⟩
   ·unfold Go.Lib.indexByte;rw [if_neg (by simpa using au),bn,if_neg (by rw [beq_iff_eq];omega)];rfl
   ·rw [splitAt,if_neg au,b7];simp
def jZ(w:Bytes):Bool:= !(decide (w=[]) || decide (9<w.length) || w.all digit == false)
theorem NR:∀{l:List Bytes},(∀w∈l,jZ w=true)→lF l=some (l.map number)
 |[],_=>rfl
 |w ::r,h=>by
  have bm:=h w List.mem_cons_self
  have hw:¬(w=[]∨9<w.length∨w.all digit=false):=by intro q;unfold jZ at bm;rcases q with q|q|q<;>simp [q]at bm
  rw [lF,if_neg hw,NR fun x ae=>h x (List.mem_cons_of_mem _ ae)];rfl
theorem NS:∀{a b:List Bytes}{w:Bytes},jZ w=false→lF (a++w::b)=none
 |[],b,w,h=>by
  have hw:w=[]∨9<w.length∨w.all digit=false:=by
   unfold jZ at h;simp only [Bool.not_eq_false',Bool.or_eq_true,decide_eq_true_eq,beq_iff_eq]at h;rcases h with (h|h)|h
   ·exact .inl h
   ·exact .inr (.inl h)
   ·exact .inr (.inr h)
  rw [List.nil_append,lF,if_pos hw]
 |x::a,b,w,h=>by rw [List.cons_append,lF,NS h];split<;>rfl
theorem Yh:∀(w:Bytes),w.all digit=true→number w<10^w.length:=by
 suffices h:∀(w:Bytes)(n k:Nat),w.all digit=true→n<10^k→w.foldl (fun n b=>10*n+(b.toNat-48)) n<10^(k+w.length)from fun w hw=>by
  have:=h w 0 0 hw (by decide)
  rwa [Nat.zero_add]at this
 intro w;induction w with
 |nil=>intro n k _ h;exact h
 |cons b r ih =>
  intro n k hw h;simp only [List.all_cons,Bool.and_eq_true,digit,decide_eq_true_eq]at hw;rw [List.foldl_cons,List.length_cons,show k+(r.length+1)=k+1+r.length by omega];refine ih _ _ hw.2 ?_;rw [Nat.pow_succ];omega
theorem NT:∀{l:List Bytes}{r:List Nat},lF l=some r→ ∀n∈r,n<1000000000
 |[],r,h=>by simp [lF]at h;subst h;simp
 |w :: t, r,h=>by
  rw [lF]at h;split at h
  ·cases h
  ·rename_i hw;cases bX:lF t with
   |none=>rw [bX]at h;cases h
   |some x =>
    rw [bX]at h;simp only [Option.map_some,Option.some.injEq]at h;subst h;intro n aS;rcases List.mem_cons.1 aS with rfl|aS
    ·have hr:w.all digit=true:=by
      cases aD:w.all digit with
      |true=>rfl
      |false=>exact absurd (.inr (.inr aD)) hw
     have:=Yh w hr;have az:w.length≤9:=by omega
     exact Nat.lt_of_lt_of_le this (Nat.pow_le_pow_right (by decide) az)
    ·exact NT bX n aS
end Go.Keys
namespace Go.cM
noncomputable section
open Go.RowKit Go.Shelf
section
variable {P:Program}{al:Map}
theorem Yi{w bC:World}{a:Addr}(e:bC.heap[a.block]? =w.heap[a.block]?):bC.frozen? a=w.frozen? a:=by unfold World.frozen?;rw [e]
theorem Alike.below{w bC:World}(k:Below w.heap.size w bC):Alike w bC where
 size:=k.size
 cell a aT:=k.cell aT
 frozen a aT:=Yi (k.block _ aT)
 mark b au:=se (k.block _ au)
theorem Safe.NU{be:Nat→Prop}{br w bC:World}(h:Safe be br w)(dn:fC be br.heap.size)(k:Below w.heap.size w bC):Safe be br bC :=
 h.trans ⟨k.os,k.tape,k.output,k.size,fun i ak=>k.block i (Nat.lt_of_lt_of_le (dn i ak) h.size)⟩
theorem Yj{be:Nat→Prop}{br w:World}{h:j}{f:FuncId}{dF:Array Value}{s:List UInt8}(dn:fC be br.heap.size)(eU:c4 al be h w)(cE:Safe be br w)
 (av:Calls P f dF w fun e bC=>e=.returned (.string ⟨s.toArray⟩)∧Below w.heap.size w bC) :
 Calls P f dF w fun e bC=> ∃bt bN,e=.returned bt∧fk al bN h.next∧aN bN (.str s) bt∧c4 bN be h bC∧Safe be br bC∧h.next≤h.next :=
 av.mono fun e bC ⟨he,au⟩=>⟨_,al,he,fk.refl _ _,by simp only [aN];exact⟨_,rfl,by simp⟩,eU.alike (Alike.below au),cE.NU dn au,Nat.le_refl _⟩
end
end
end Go.cM
namespace Go.Keys
theorem NV:∀(w:Bytes)(n:Nat),w.all digit=true→Go.Lib.decFrom n w=some (w.foldl (fun n b=>10*n+(b.toNat-48)) n)
 |[],n,_=>rfl
 |b::r,n,h=>by
  simp only [List.all_cons,Bool.and_eq_true,digit,decide_eq_true_eq]at h;have aC:Go.Lib.digitVal b=some (b.toNat-48):=by unfold Go.Lib.digitVal;rw [if_pos h.1]
  unfold Go.Lib.decFrom;rw [aC];show Go.Lib.decFrom (n*10+(b.toNat-48)) r=_;rw [NV r _ h.2,List.foldl_cons,Nat.mul_comm]
theorem NW{w:Bytes}(bm:w≠[])(h:w.all digit=true):Go.Lib.atoi w=some (number w:Int):=by
 cases w with
 |nil=>exact absurd rfl bm
 |cons b r =>
  have au:48≤b.toNat∧b.toNat≤57:=by simp only [List.all_cons,Bool.and_eq_true,digit,decide_eq_true_eq]at h;exact h.1
  have Yk:(b == 45)=false:=by rw [beq_eq_false_iff_ne];rintro rfl;revert au;decide
  have Yl:(b == 43)=false:=by rw [beq_eq_false_iff_ne];rintro rfl;revert au;decide
  unfold Go.Lib.atoi;simp only [Yk,Yl,Bool.false_eq_true,if_false];unfold Go.Lib.decNat;rw [List.isEmpty_cons];simp only [Bool.false_eq_true,if_false];rw [NV _ _ h];rfl
def nk:Bytes:=[48,49,50,51,52,53,54,55,56,57]
set_option maxRecDepth 100000 in
theorem Ym(b:UInt8):nk.contains b=digit b:=by
 have h:∀n:Fin 256,nk.contains (UInt8.ofNat n.val)=digit (UInt8.ofNat n.val):=by decide
 have:=h ⟨b.toNat,b.toNat_lt⟩;simpa using this
theorem Bh(w:Bytes):Go.Lib.trimS w nk=[]↔w.all digit=true:=by
 have e:(fun b=>nk.contains b)=digit:=funext Ym
 have GO:∀l:Bytes,l.dropWhile digit=[]↔l.all digit=true:=by
  intro l;induction l with
  |nil=>simp
  |cons b r ih =>
   rw [List.dropWhile_cons];cases au:digit b with
   |true=>simp [ih,au]
   |false=>simp [au]
 unfold Go.Lib.trimS Go.Lib.trimLeftS Go.Lib.trimRightS;rw [e,GO];constructor
 ·intro h;have ad:((w.reverse.dropWhile digit)).all digit=true:=by simpa using h
  cases aD:w.reverse.dropWhile digit with
  |nil =>
   have:=(GO _).1 aD;simpa using this
  |cons b r =>
   have Yn:digit b=false:=by have:=List.head?_dropWhile_not digit w.reverse;rw [aD]at this;simpa using this
   rw [aD]at ad;simp [Yn]at ad
 ·intro h;have:w.reverse.dropWhile digit=[]:=(GO _).2 (by simpa using h);rw [this];rfl
end Go.Keys
namespace Go.Proofs.YtddnafghiejcoaaGreatDoor
open Go.cM Go.Shelf Go.RowKit Go.Keys
set_option maxRecDepth 1000000
def Yo:Ren where
 f:=fun x=>if x=119 then 165 else if x=120 then 171 else if x=137 then 164 else if x=151 then 155 else if x=152 then 159 else if x=160 then 157 else if x=197 then 154 else if x=217 then 115 else if x=224 then 117 else if x=225 then 116 else if x=227 then 143 else if x=228 then 153 else if x=231 then 142 else if x=232 then 161 else if x=233 then 144 else if x=234 then 162 else if x=235 then 145 else if x=236 then 163 else if x=260 then 158 else if x=266 then 133 else if x=271 then 168 else 0
 t:=fun x=>if x=0 then 0 else if x=3 then 3 else if x=4 then 4 else if x=5 then 5 else if x=9 then 9 else if x=21 then 21 else if x=46 then 108 else if x=105 then 85 else if x=116 then 192 else if x=117 then 193 else if x=119 then 113 else if x=124 then 196 else if x=138 then 208 else if x=139 then 209 else 0
 g:=fun x=>if x=3 then 8 else if x=4 then 9 else 0
theorem Yp:Lays.n160 Tryz.prog Yo:=by constructor;all_goals first|kernel_rfl|(intro w;kernel_rfl)
def Yq:Ren where
 f:=fun x=>if x=129 then 136 else if x=171 then 49 else if x=172 then 55 else if x=205 then 127 else if x=243 then 75 else if x=244 then 84 else if x=245 then 85 else if x=246 then 96 else if x=247 then 100 else if x=279 then 101 else if x=280 then 102 else if x=281 then 103 else if x=282 then 104 else if x=283 then 119 else if x=284 then 120 else if x=285 then 121 else if x=286 then 122 else if x=287 then 125 else if x=316 then 126 else if x=317 then 135 else if x=318 then 137 else if x=319 then 138 else if x=320 then 139 else if x=321 then 140 else if x=322 then 141 else if x=337 then 151 else if x=338 then 152 else 0
 t:=fun x=>if x=0 then 0 else if x=2 then 2 else if x=3 then 3 else if x=4 then 4 else if x=5 then 5 else if x=9 then 9 else if x=20 then 20 else if x=21 then 21 else if x=37 then 34 else if x=46 then 108 else if x=51 then 132 else if x=53 then 151 else if x=75 then 89 else if x=76 then 90 else if x=80 then 212 else if x=85 then 138 else if x=127 then 186 else if x=143 then 187 else if x=145 then 189 else if x=167 then 137 else if x=168 then 140 else if x=171 then 154 else if x=173 then 157 else if x=175 then 170 else if x=210 then 173 else if x=212 then 179 else if x=213 then 180 else if x=232 then 203 else if x=233 then 204 else 0
 g:=fun x=>if x=15 then 3 else if x=16 then 4 else if x=17 then 5 else if x=18 then 6 else if x=19 then 7 else 0
theorem Yr:Lays.n172 Tryz.prog Yq:=by constructor;all_goals first|kernel_rfl|(intro w;kernel_rfl)
theorem Ys(s:Bytes)(an:s.length<2^40)(H:j):aI Tryz.prog aw 157 [.str s,.str nk] H (.str (Lib.trimS s nk)) H:=by
 intro be br dn fQ al w dF eU cE ed;obtain⟨l⟩:=dF;simp only [bH,aN]at ed;obtain⟨a,t,rfl,⟨u,rfl,rfl⟩,b,t2,rfl,⟨c,rfl,av⟩,rfl⟩:=ed;refine⟨⟨Tryz.f157,_,by kernel_rfl,rfl⟩,Yj dn eU cE ?_⟩;have eX:u.size<2^40:=by simpa using an
 have nH:c.size=10:=(congrArg List.length av).trans rfl;have k:=Any.strings_Trim_laid Yp (by kernel_rfl) u c w (by omega) (by omega) (by rw [av];exact ascii_of_all (by decide));rw [av]at k;exact k
theorem NX(s:Bytes)(an:s.length≤18)(n:Int)(aS:Lib.atoi s=some n)(H:j):aI Tryz.prog aw 55 [.str s] H (.tuple [.int .i64 n,.nilIface]) H:=by
 intro be br dn fQ al w dF eU cE ed;obtain⟨l⟩:=dF;simp only [bH,aN]at ed;obtain⟨a,t,rfl,⟨u,rfl,rfl⟩,rfl⟩:=ed;refine⟨⟨Tryz.f55,_,by kernel_rfl,rfl⟩,?_⟩;have k:=Any.strconv_Atoi Yr u n (by simpa using an) aS w;refine k.mono fun e bC ⟨he,t,hw⟩=> ?_
 have au:Below w.heap.size w bC:=by rw [hw];exact Lib.bytesWorld_below _ _ _
 exact⟨_,al,he,fk.refl _ _,by simp only [aN,bH];exact⟨_,rfl,_,_,rfl,rfl,_,_,rfl,rfl,rfl⟩,eU.alike (Alike.below au),cE.NU dn au,Nat.le_refl _⟩
end Go.Proofs.YtddnafghiejcoaaGreatDoor
namespace Go.Proofs.YtddnafghiejcoaaGreatDoor
open Go.cM Go.Shelf Go.RowKit Go.Keys
set_option maxRecDepth 1000000
def NY:Ren where
 f:=fun x=>if x=138 then 167 else if x=143 then 74 else if x=195 then 169 else if x=217 then 115 else if x=218 then 170 else if x=219 then 95 else if x=224 then 117 else if x=225 then 116 else if x=266 then 133 else if x=267 then 118 else if x=314 then 134 else 0
 t:=fun x=>if x=0 then 0 else if x=3 then 3 else if x=4 then 4 else if x=5 then 5 else if x=9 then 9 else if x=46 then 108 else if x=51 then 132 else if x=146 then 176 else 0
 g:=fun x=>if x=1 then 2 else 0
theorem Yt:Lays.n138 Tryz.prog NY:=by constructor;all_goals first|kernel_rfl|(intro w;kernel_rfl)
theorem Yu:Lays.n143 Tryz.prog NY:=by constructor;all_goals first|kernel_rfl|(intro w;kernel_rfl)
theorem NZ{c:UInt8}{b:ByteArray}(h:b.data.toList=[c]):b=⟨#[c]⟩:=by
 obtain⟨d⟩:=b;simp only at h
 congr 1
 exact Array.toList_inj.1 (by simpa using h)
theorem Yv(s:Bytes)(c:UInt8)(H:j):aI Tryz.prog aw 167 [.str s,.str [c]] H (.int .i64 (Lib.countByte s c)) H:=by
 intro be br dn fQ al w dF eU cE ed;obtain⟨l⟩:=dF;simp only [bH,aN]at ed;obtain⟨a,t,rfl,⟨u,rfl,rfl⟩,b,t2,rfl,⟨d,rfl,aC⟩,rfl⟩:=ed;refine⟨⟨Tryz.f167,_,by kernel_rfl,rfl⟩,?_⟩;have k:=Any.strings_Count_one Yt u c w;rw [←NZ aC]at k
 exact k.mono fun e bC ⟨he,hw⟩=>by subst hw;exact⟨_,al,he,fk.refl _ _,by simp only [aN],eU,cE,Nat.le_refl _⟩
theorem Yw(s:Bytes)(c:UInt8)(H:j):aI Tryz.prog aw 74 [.str s,.str [c]] H (.int .i64 (Lib.indexByte s c)) H:=by
 intro be br dn fQ al w dF eU cE ed;obtain⟨l⟩:=dF;simp only [bH,aN]at ed;obtain⟨a,t,rfl,⟨u,rfl,rfl⟩,b,t2,rfl,⟨d,rfl,aC⟩,rfl⟩:=ed;refine⟨⟨Tryz.f74,_,by kernel_rfl,rfl⟩,?_⟩;have k:=Any.strings_Index_one Yu u c w;rw [←NZ aC]at k
 exact k.mono fun e bC ⟨he,hw⟩=>by subst hw;exact⟨_,al,he,fk.refl _ _,by simp only [aN],eU,cE,Nat.le_refl _⟩
end Go.Proofs.YtddnafghiejcoaaGreatDoor
namespace Go.Proofs.YtddnafghiejcoaaGreatDoor
open Go.cM Go.Keys
set_option maxRecDepth 1000000
abbrev eL(l:List o)(gj:Nat):R:= {bi:=l,es:=1,exact:=true,ro:=false,J:=0,fX:=gj,gQ:=0,aq:=none}
theorem Yx(s t:Bytes)(m i k:Nat)(l:List o)(U:o→j→Prop)(aY:c7 Tryz.prog aw 167 [.str s,.str [59]] (j.ar 12 []) (.int .i64 (k:Int)) (j.ar 12 [])∧(-9223372036854775808≤(k:Int)+1∧(k:Int)+1≤9223372036854775807)∧(-9223372036854775808≤(↑(List.length s):Int)+1∧(↑(List.length s):Int)+1≤9223372036854775807)∧((0≤if(↑(List.length s):Int)+1<(k:Int)+1 then(↑(List.length s):Int)+1 else(k:Int)+1)∧((if(↑(List.length s):Int)+1<(k:Int)+1 then(↑(List.length s):Int)+1 else(k:Int)+1)≤if(↑(List.length s):Int)+1<(k:Int)+1 then(↑(List.length s):Int)+1 else(k:Int)+1)∧(if(↑(List.length s):Int)+1<(k:Int)+1 then(↑(List.length s):Int)+1 else(k:Int)+1)<4611686018427387904∧(16*if(↑(List.length s):Int)+1<(k:Int)+1 then(↑(List.length s):Int)+1 else(k:Int)+1)≤281474976710656)∧(-9223372036854775808≤(if(↑(List.length s):Int)+1<(k:Int)+1 then(↑(List.length s):Int)+1 else(k:Int)+1)-1∧(if(↑(List.length s):Int)+1<(k:Int)+1 then(↑(List.length s):Int)+1 else(k:Int)+1)-1≤9223372036854775807)∧cx Tryz.prog aw 0 66 (Code.loop (cF Tryz.prog 160 0)) [(0,.str s),(1,.str [59]),(2,.int .i64 0),(3,.int .i64 ((if(↑(List.length s):Int)+1<(k:Int)+1 then(↑(List.length s):Int)+1 else(k:Int)+1)-1)),(9,.slice (some ⟨19,0,0,0,1⟩) (Int.toNat (if(↑(List.length s):Int)+1<(k:Int)+1 then(↑(List.length s):Int)+1 else(k:Int)+1)) (Int.toNat (if(↑(List.length s):Int)+1<(k:Int)+1 then(↑(List.length s):Int)+1 else(k:Int)+1))),(10,.int .i64 0)] (j.ar 25 [(19,R.made (List.replicate (Int.toNat (if(↑(List.length s):Int)+1<(k:Int)+1 then(↑(List.length s):Int)+1 else(k:Int)+1)) (.str [])) 1 true)]) (.exit 0) [(0,.str t),(9,.slice (some ⟨50,0,0,0,1⟩) m m),(10,.int .i64 (i:Int))] (j.ar 60 [(50,eL l 0)])∧(0≤(i:Int)∧(i:Int)<(m:Int))∧(0=0∧l[0+Int.toNat (i:Int)]? =some (o.str []))∧(-9223372036854775808≤(i:Int)+1∧(i:Int)+1≤9223372036854775807)∧(0≤(i:Int)+1∧(i:Int)+1≤(m:Int))∧U (.slice (some ⟨50,0,0,0,1⟩) (i+1) m) (j.ar 70 [(50,(R.made (List.set l (0+Int.toNat (i:Int)) (.str t)) 1 true))])) :
 ∃v p,aI Tryz.prog aw 160 [.str s,.str [59],.int .i64 0,.int .i64 (-1)] (⟨0,.nil⟩) v p∧U v p :=
 cb bQ mixed gU (an:= .aA (.val 6002 (.int .i64 (k:Int))) (ag 6003 (ag 7003 (ag 8001 (ag 9001 (.aA (.cs [0,1,2,3,9,10]) (.aA (.loop [(0,.str t),(9,.slice (some ⟨50,0,0,0,1⟩) m m),(10,.int .i64 (i:Int))] (j.ar 60 [(50,eL l 0)]) (.exit 0)) (ag 17003 (.aA (.j8 17004 (.str [])) (ag 18002 (ag 18003 .nil))))))))))) (by kernel_rfl) aY
theorem N0(s:Bytes)(m n i k:Nat)(l:List o)(U:dc→bP→j→Prop)(aY:((i:Int)<(n:Int)→c7 Tryz.prog aw 74 [.str s,.str [59]] (j.ar 67 [(50,(R.made (l) 1 true))]) (.int .i64 (k:Int)) (j.ar 67 [(50,(R.made (l) 1 true))])∧(-9223372036854775808≤(k:Int)+0∧(k:Int)+0≤9223372036854775807)∧(0≤(k:Int)+0∧(k:Int)+0≤(↑(List.length s):Int))∧(0≤(i:Int)∧(i:Int)<(m:Int))∧(0=0∧l[0+Int.toNat (i:Int)]? =some (o.str []))∧(-9223372036854775808≤(k:Int)+1∧(k:Int)+1≤9223372036854775807)∧(0≤(k:Int)+1∧(k:Int)+1≤(↑(List.length s):Int))∧(-9223372036854775808≤(i:Int)+1∧(i:Int)+1≤9223372036854775807)∧U .normal [(0,.str (List.drop (k+1) s)),(1,.str [59]),(2,.int .i64 0),(3,.int .i64 (n:Int)),(9,.slice (some ⟨50,0,0,0,1⟩) m m),(10,.int .i64 ((i:Int)+1))] (j.ar 88 [(50,(R.made (List.set l (0+Int.toNat (i:Int)) (.str (List.take (k+0) s))) 1 true))]))∧(¬(i:Int)<(n:Int)→U (.exit 0) [(0,.str s),(1,.str [59]),(2,.int .i64 0),(3,.int .i64 (n:Int)),(9,.slice (some ⟨50,0,0,0,1⟩) m m),(10,.int .i64 (i:Int))] (j.ar 63 [(50,(R.made (l) 1 true))]))) :
 ∃e aW p,cx Tryz.prog aw 0 66 (cF Tryz.prog 160 0) [(0,.str s),(1,.str [59]),(2,.int .i64 0),(3,.int .i64 n),(9,.slice (some ⟨50,0,0,0,1⟩) m m),(10,.int .i64 i)] (j.rows 60 [(50,eL l 0)]) e aW p∧U e aW p :=
 gm bQ mixed gU (an:= .aK 11002 (.aA (.val 12002 (.int .i64 (k:Int))) (ag 14005 (ag 14006 (ag 14007 (.aA (.j8 14008 (.str [])) (ag 15004 (ag 15005 (ag 16001 .nil)))))))) .nil) (cs:=[0,1,2,3,9,10]) (by kernel_rfl) aY
def hQ(d:List Bytes)(k:Nat):List o:=d.map o.str++List.replicate k (.str [])
theorem GP(d:List Bytes)(k:Nat):∀e∈hQ d k,cR e:=by
 intro e he;rcases List.mem_append.1 he with h|h
 ·obtain⟨w,_,rfl⟩:=List.mem_map.1 h;exact cR.str w
 ·rw [(List.mem_replicate.1 h).2];exact cR.str []
theorem N1(d:List Bytes)(k:Nat):(hQ d (k+1))[d.length]? =some (.str []):=by unfold hQ;rw [List.getElem?_append_right (by simp)];simp
theorem N2(d:List Bytes)(k:Nat)(w:Bytes):(hQ d (k+1)).set d.length (.str w)=hQ (d++[w]) k:=by unfold hQ;rw [List.set_append_right _ _ (by simp),List.replicate_succ];simp
abbrev rR(s:Bytes)(n i:Nat):bP:=[(0,.str s),(1,.str [59]),(2,.int .i64 0),(3,.int .i64 (n:Nat)),(9,.slice (some ⟨50,0,0,0,1⟩) (n+1) (n+1)),(10,.int .i64 (i:Nat))]
theorem N3{l c:Nat} :cA (Go.cM.cL [50]) (.slice (some ⟨50,0,0,0,1⟩) l c):=(by show(50:Nat)∈ [50];simp)
theorem N4{s:Bytes}{n i:Nat}{h:j}{d:List Bytes}{k:Nat}(ag:h.get 50=some (eL (hQ d k) 0)):eV 0 66 (rR s n i) h (rR s n i) (j.rows 60 [(50,eL (hQ d k) 0)]) :=
 eV.drop (K:=60) (l:=[(50,eL (hQ d k) 0)]) (by simp [ag]) rfl rfl rfl (bZ.cons trivial (bZ.cons trivial (bZ.cons trivial (bZ.cons trivial (bZ.cons N3 (bZ.cons trivial bZ.nil)))))) (bZ.cons (fun e he=>(GP d k e he).e1 _) bZ.nil)
theorem Yy(n:Nat)(aS:n<2^40):∀(k:Nat)(s:Bytes)(d:List Bytes),s.count 59=k→d.length+k=n→s.length<2^40→ ∃(t:Bytes)(nl:List Bytes),nl++[t]=d++splitAt 59 s∧nl.length=n ∧
 cN Tryz.prog aw 0 66 (cF Tryz.prog 160 0) (rR s n d.length) (j.rows 60 [(50,eL (hQ d (k+1)) 0)]) (.exit 0) (rR t n n) (j.rows 60 [(50,eL (hQ nl 1) 0)]):=by
 intro k;induction k with
 |zero =>
  intro s d ap aC an;obtain rfl:n=d.length:=by omega
  obtain⟨e,aW,p,bb,rfl,rfl,ag⟩:=N0 s (d.length+1) d.length d.length 0 (hQ d 1) (fun e aW p=>e=.exit 0∧aW=rR s d.length d.length∧p.get 50=some (eL (hQ d 1) 0)) ⟨fun h=>by omega,fun _=>⟨rfl,rfl,rfl⟩⟩;exact⟨s,d,by rw [NP ap],rfl,(cN.last (by simp) bb).post (N4 ag)⟩
 |succ k ih =>
  intro s d ap aC an;obtain⟨m,bn,bs,b7,ct⟩:=NQ (c:=59) (s:=s) (by omega)
  obtain⟨e,aW,p,bb,rfl,rfl,ag⟩:=N0 s (n+1) n d.length m (hQ d (k+1+1)) (fun e aW p=>e=.normal∧aW=rR (s.drop (m+1)) n (d.length+1)∧p.get 50=some (eL (hQ (d++[s.take m]) (k+1)) 0)) (by
   have gR:((d.length:Int)+1)=((d.length+1:Nat):Int):=by omega
   have j8:0+Int.toNat (d.length:Int)=d.length:=by simp
   refine⟨fun _=>⟨⟨?_⟩,⟨by omega,by omega⟩,⟨by omega,by omega⟩,⟨by omega,by omega⟩,⟨rfl,by rw [j8];exact N1 d (k+1)⟩,⟨by omega,by omega⟩,⟨by omega,by omega⟩,⟨by omega,by omega⟩,rfl,by rw [gR],?_⟩,fun h=>by omega⟩
   ·have:=Yw s 59 (j.ar 67 [(50,R.made (hQ d (k+1+1)) 1 true)]);rw [bn]at this;exact this
   ·rw [←N2 d (k+1) (s.take m),j8,Nat.add_zero];rfl)
  obtain⟨t,nl,jH,ad,bd⟩:=ih (s.drop (m+1)) (d++[s.take m]) (by omega) (by simp;omega) (by rw [List.length_drop];omega);refine⟨t,nl,?_,ad,?_⟩
  ·rw [jH,b7];simp
  ·have el:(d++[s.take m]).length=d.length+1:=by simp
   rw [show rR (s.drop (m+1)) n (d++[s.take m]).length=rR (s.drop (m+1)) n (d.length+1)by rw [el]]at bd;exact cN.round bb (N4 ag) bd
theorem Yz(s:Bytes)(an:s.length<2^40)(H:j):aI Tryz.prog aw 160 [.str s,.str [59],.int .i64 0,.int .i64 (-1)] H
 (.slice (some ⟨H.next,0,0,0,1⟩) (splitAt 59 s).length (splitAt 59 s).length) (H.hx [] [eL ((splitAt 59 s).map o.str) 0]):=by
 have ap:s.count 59≤s.length:=List.count_le_length;obtain⟨t,nl,p,ad,bd⟩:=Yy (s.count 59) (by omega) (s.count 59) s [] rfl (by simp) an;have av:¬((s.length:Int)+1<(s.count 59:Int)+1):=by omega
 have aS:Int.toNat ((s.count 59:Int)+1)=s.count 59+1:=by omega
 have bm:=Yv s 59 (j.ar 12 [])
 obtain ⟨v,bS,aC,bg,ag⟩:=Yx s t (s.count 59+1) (s.count 59) (s.count 59) (hQ nl 1) (fun v bS=>v=.slice (some ⟨50,0,0,0,1⟩) (s.count 59+1) (s.count 59+1)∧bS.get 50=some (eL ((splitAt 59 s).map o.str) 0)) (by
  rw [if_neg av,aS];refine⟨⟨bm⟩,⟨by omega,by omega⟩,⟨by omega,by omega⟩,⟨by omega,by omega,by omega,by omega⟩,⟨by omega,by omega⟩,?_,⟨by omega,by omega⟩,⟨rfl,?_⟩,⟨by omega,by omega⟩,⟨by omega,by omega⟩,rfl,?_⟩
  ·have ds :=cx.gL (bd.pre (eV.move (F:=[(0,o.str s),(1,o.str [59]),(2,o.int .i64 0),(3,o.int .i64 ((s.count 59:Int)+1-1)),(9,o.slice (some ⟨19,0,0,0,1⟩) (s.count 59+1) (s.count 59+1)),(10,o.int .i64 0)]) (h:=j.ar 25 [(19,R.made (List.replicate (s.count 59+1) (o.str [])) 1 true)]) (K:=60) (l:=[(50,eL (hQ [] (s.count 59+1)) 0)]) (fun _=>19) ?_ rfl (by simp) rfl rfl ?_ rfl (bZ.cons trivial (bZ.cons trivial (bZ.cons trivial (bZ.cons trivial (bZ.cons N3 (bZ.cons trivial bZ.nil)))))) (bZ.cons (fun e he=>(GP [] _ e he).e1 _) bZ.nil)))
   ·exact (ds.post (eV.facts (G:=[(0,o.str t),(9,o.slice (some ⟨50,0,0,0,1⟩) (s.count 59+1) (s.count 59+1)),(10,o.int .i64 (s.count 59:Nat))]) (by
     intro C u hu;rw [kY]at hu;split at hu
     ·rename_i aV;subst aV;rw [←hu];rfl
     ·rw [kY]at hu;split at hu
      ·rename_i aV;subst aV;rw [←hu];rfl
      ·rw [kY]at hu;split at hu
       ·rename_i aV;subst aV;rw [←hu];rfl
       ·cases hu))).post (by
      have:j.rows 60 [(50,eL (hQ nl 1) 0)]=j.ar 60 [(50,eL (hQ nl 1) 0)]:=by kernel_rfl
      rw [this];exact eV.refl _ _ _ _)
   ·simp only [List.map_cons,List.map_nil];rw [show(eL (hQ [] (s.count 59+1)) 0).bc (fun _=>19)=eL (hQ [] (s.count 59+1)) 0 from dl.bc (b:=eL (hQ [] (s.count 59+1)) 0) (GP [] _) _];rfl
   ·simp [o.bc,bG.bc]
  ·have:=N1 nl 0;rw [ad]at this;simpa using this
  ·have:=N2 nl 0 t;rw [ad,p]at this;show some (R.made (List.set (hQ nl 1) (0+Int.toNat (s.count 59:Int)) (o.str t)) 1 true)=_;rw [show 0+Int.toNat (s.count 59:Int)=s.count 59 by simp,this]
   simp [hQ,R.made])
 subst bg;rw [GN]
 exact aI.EX (l:=[]) (ej:=eL ((splitAt 59 s).map o.str) 0) aC (fun b au=>by cases au) (by
  intro e he;obtain⟨w,_,rfl⟩:=List.mem_map.1 he
  exact cR.str w) rfl ag (by simp) (by exact⟨trivial,trivial,trivial,trivial,trivial⟩) [] List.nodup_nil (fun C aV=>by cases aV) rfl
noncomputable def GQ:List o→j→Option eC:=fun args h=>match args with
 |[.str s,.str k,.int .i64 a,.int .i64 b]=>some (.one (.slice (some ⟨h.next,0,0,0,1⟩) (splitAt 59 s).length (splitAt 59 s).length) (h.hx [] [eL ((splitAt 59 s).map o.str) 0]) [k=[59],a=0,b= -1,s.length<2^40])
 |_=>none
theorem YA:∀args h a,GQ args h=some a→a.dw Tryz.prog aw 160 args h:=by
 intro args h a e;unfold GQ at e;split at e<;>first|(cases e;done)|skip
 simp only [Option.some.injEq]at e;subst e;intro ac;rw [ac.head,ac.tail.head,ac.tail.tail.head];exact Yz _ ac.tail.tail.tail.head h
noncomputable def YB:fc:=p4.add 160 GQ
theorem YC:eW Tryz.prog aw YB:=c8.add YA
theorem YD(s:Bytes)(U:o→j→Prop)(aY: [(59:UInt8)]=[(59:UInt8)]∧(0:Int)=0∧(-1:Int)= -1∧List.length s<1099511627776∧U (.slice (some ⟨5,0,0,0,1⟩) (List.length (splitAt 59 s)) (List.length (splitAt 59 s))) (j.hx (j.ar 5 []) [] [(R.made (List.map .str (splitAt 59 s)) 1 true)])) :
 ∃v p,aI Tryz.prog aw 156 [.str s,.str [59]] (⟨0,.nil⟩) v p∧U v p :=
 cb bQ mixed YC (an:= .nil) (by kernel_rfl) aY
theorem YE(s:Bytes)(an:s.length<2^40)(H:j):aI Tryz.prog aw 156 [.str s,.str [59]] H (.slice (some ⟨H.next,0,0,0,1⟩) (splitAt 59 s).length (splitAt 59 s).length) (H.hx [] [eL ((splitAt 59 s).map o.str) 0]):=by
 obtain⟨v,p,aC,C,rfl,ag⟩:=YD s (fun v p=> ∃C,v=.slice (some ⟨C,0,0,0,1⟩) (splitAt 59 s).length (splitAt 59 s).length∧p.get C=some (eL ((splitAt 59 s).map o.str) 0)) ⟨rfl,rfl,rfl,an,_,rfl,rfl⟩
 exact aI.EX (l:=[]) (ej:=eL ((splitAt 59 s).map o.str) 0) aC (fun b au=>by cases au) (by
  intro e he;obtain⟨w,_,rfl⟩:=List.mem_map.1 he
  exact cR.str w) rfl ag (by simp) (by exact⟨trivial,trivial,trivial⟩) [] List.nodup_nil (fun C aV=>by cases aV) rfl
abbrev Bi(l:List o)(v f:Nat):R:= {bi:=l,es:=1,exact:=false,ro:=false,J:=v,fX:=0,gQ:=f,aq:=some (3,0)}
def N5:List o→j→Option eC:=kA fun a=>match a with | [.str s,.str k]=>some (.str (Go.Lib.trimS s nk),[k=nk,s.length<2^40])|_=>none
theorem YF:∀args h a,N5 args h=some a→a.dw Tryz.prog aw 157 args h:=by
 refine lE ?_;intro args v e5 e ac H;split at e<;>first|(cases e;done)|skip
 simp only [Option.some.injEq,Prod.mk.injEq]at e;obtain⟨rfl,rfl⟩:=e;rw [ac.head];exact Ys _ ac.tail.head H
noncomputable def GR:List o→j→Option eC:=fun args h=>match args with
 |[.str s,.str k]=>some (.one (.slice (some ⟨h.next,0,0,0,1⟩) (splitAt 59 s).length (splitAt 59 s).length) (h.hx [] [eL ((splitAt 59 s).map o.str) 0]) [k=[59],s.length<2^40])
 |_=>none
noncomputable def YG:fc:=(p4.add 157 N5).add 156 GR
theorem YH:∀args h a,GR args h=some a→a.dw Tryz.prog aw 156 args h:=by
 intro args h a e;unfold GR at e;split at e<;>first|(cases e;done)|skip
 simp only [Option.some.injEq]at e;subst e;intro ac;rw [ac.head];exact YE _ ac.tail.head h
theorem x4:eW Tryz.prog aw YG:=(c8.add YF).add YH
abbrev mm(m:Nat):o:=o.slice (some ⟨9,0,0,0,1⟩) m m
theorem N6(w:Bytes)(m C x:Nat)(ws:List o)(U:dc→bP→j→Prop)(aY:((C:Int)<(m:Int)→(0≤(C:Int)∧(C:Int)<(m:Int))∧cj env.D 9 ⟨9,0,0+Int.toNat (C:Int),0,1⟩ (j.ar 14 [(9,(R.made (ws) 1 true))])=some (o.str w)∧(w=[]→U .ret [(2,.slice none 0 0),(3,.bool false),(4,.slice none 0 0),(12,(mm m)),(13,.int .i64 (m:Int)),(14,.int .i64 (C:Int))] (j.ar 28 [(9,(R.made (ws) 1 true))]))∧(¬w=[]→(9<(↑(List.length w):Int)→U .ret [(2,.slice none 0 0),(3,.bool false),(4,.slice none 0 0),(12,(mm m)),(13,.int .i64 (m:Int)),(14,.int .i64 (C:Int))] (j.ar 28 [(9,(R.made (ws) 1 true))]))∧(¬9<(↑(List.length w):Int)→ [(48:UInt8),(49:UInt8),(50:UInt8),(51:UInt8),(52:UInt8),(53:UInt8),(54:UInt8),(55:UInt8),(56:UInt8),(57:UInt8)]=[(48:UInt8),(49:UInt8),(50:UInt8),(51:UInt8),(52:UInt8),(53:UInt8),(54:UInt8),(55:UInt8),(56:UInt8),(57:UInt8)]∧List.length w<1099511627776∧(Lib.trimS w nk=[]→c7 Tryz.prog aw 55 [.str w] (j.ar 33 [(9,(R.made (ws) 1 true))]) (.tuple [.int .i64 (x:Int),o.nilIface]) (j.ar 33 [(9,(R.made (ws) 1 true))])∧(-9223372036854775808≤(C:Int)+1∧(C:Int)+1≤9223372036854775807)∧U .normal [(4,.slice (some ⟨36,0,0,0,1⟩) 1 1),(12,(mm m)),(13,.int .i64 (m:Int)),(14,.int .i64 ((C:Int)+1))] (j.ar 40 [(9,(R.made (ws) 1 true)),(35,R.made [.int .i64 (x:Int)] 1 true),(36,R.made [.int .i64 (x:Int)] 1 false (some (3,0)))]))∧(¬Lib.trimS w nk=[]→U .ret [(2,.slice none 0 0),(3,.bool false),(4,.slice none 0 0),(12,(mm m)),(13,.int .i64 (m:Int)),(14,.int .i64 (C:Int))] (j.ar 28 [(9,(R.made (ws) 1 true))])))))∧(¬(C:Int)<(m:Int)→U (.exit 0) [(4,.slice none 0 0),(12,(mm m)),(13,.int .i64 (m:Int)),(14,.int .i64 (C:Int))] (j.ar 11 [(9,(R.made (ws) 1 true))]))) :
 ∃e aW p,cx Tryz.prog aw 0 41 (cF Tryz.prog 148 0) [(4,.slice none 0 0),(12,.slice (some ⟨9,0,0,0,1⟩) m m),(13,.int .i64 m),(14,.int .i64 C)] (j.rows 10 [(9,eL ws 0)]) e aW p∧U e aW p :=
 gm bQ mixed x4 (an:= .aK 5000 (ag 6000 (.aA (.val 6001 (.str w)) (.aK 7001 .nil (.aK 7005 .nil (.aK 7010 (.aA (.val 9001 (.tuple [.int .i64 (x:Int),o.nilIface])) (ag 11000 .nil)) .nil))))) .nil) (cs:=[2,3,4,12,13,14]) (by kernel_rfl) aY
abbrev qs(v:Nat)(f:Nat)(l:List o):R:=⟨l,1,false,false,v,0,f,some (3,0)⟩
theorem GS(w:Bytes)(m C x v f n:Nat)(ws l:List o)(U:dc→bP→j→Prop)(aY:((C:Int)<(m:Int)→(0≤(C:Int)∧(C:Int)<(m:Int))∧cj env.D 9 ⟨9,0,0+Int.toNat (C:Int),0,1⟩ (j.ar 64 [(9,(R.made (ws) 1 true)),(50,(qs v f l))])=some (o.str w)∧(w=[]→U .ret [(2,.slice none 0 0),(3,.bool false),(4,.slice (some ⟨50,v,0,0,1⟩) n n),(12,(mm m)),(13,.int .i64 (m:Int)),(14,.int .i64 (C:Int))] (j.ar 78 [(9,(R.made (ws) 1 true)),(50,(qs v f l))]))∧(¬w=[]→(9<(↑(List.length w):Int)→U .ret [(2,.slice none 0 0),(3,.bool false),(4,.slice (some ⟨50,v,0,0,1⟩) n n),(12,(mm m)),(13,.int .i64 (m:Int)),(14,.int .i64 (C:Int))] (j.ar 78 [(9,(R.made (ws) 1 true)),(50,(qs v f l))]))∧(¬9<(↑(List.length w):Int)→ [(48:UInt8),(49:UInt8),(50:UInt8),(51:UInt8),(52:UInt8),(53:UInt8),(54:UInt8),(55:UInt8),(56:UInt8),(57:UInt8)]=[(48:UInt8),(49:UInt8),(50:UInt8),(51:UInt8),(52:UInt8),(53:UInt8),(54:UInt8),(55:UInt8),(56:UInt8),(57:UInt8)]∧List.length w<1099511627776∧(Lib.trimS w nk=[]→c7 Tryz.prog aw 55 [.str w] (j.ar 83 [(9,(R.made (ws) 1 true)),(50,(qs v f l))]) (.tuple [.int .i64 (x:Int),o.nilIface]) (j.ar 83 [(9,(R.made (ws) 1 true)),(50,(qs v f l))])∧(v=v∧0+n=List.length l∧n<n+1∧(n+1+(n+1)/4+512)*8≤281474976710656∧n+1<4611686018427387904)∧(-9223372036854775808≤(C:Int)+1∧(C:Int)+1≤9223372036854775807)∧U .normal [(4,.slice (some {id:=50,J:=v+1,idx:=0,bR:=0,es:=1}) (n+1) (n+1)),(12,(mm m)),(13,.int .i64 (m:Int)),(14,.int .i64 ((C:Int)+1))] (j.ar 90 [(9,(R.made (ws) 1 true)),(50,⟨l++[.int .i64 (x:Int)],1,false,false,v+1,0,if 0=v then List.length l else min f (List.length l),some (3,0)⟩),(85,R.made [.int .i64 (x:Int)] 1 true)]))∧(¬Lib.trimS w nk=[]→U .ret [(2,.slice none 0 0),(3,.bool false),(4,.slice (some ⟨50,v,0,0,1⟩) n n),(12,(mm m)),(13,.int .i64 (m:Int)),(14,.int .i64 (C:Int))] (j.ar 78 [(9,(R.made (ws) 1 true)),(50,(qs v f l))])))))∧(¬(C:Int)<(m:Int)→U (.exit 0) [(4,.slice (some ⟨50,v,0,0,1⟩) n n),(12,(mm m)),(13,.int .i64 (m:Int)),(14,.int .i64 (C:Int))] (j.ar 61 [(9,(R.made (ws) 1 true)),(50,(qs v f l))]))) :
 ∃e aW p,cx Tryz.prog aw 0 41 (cF Tryz.prog 148 0) [(4,.slice (some ⟨50,v,0,0,1⟩) n n),(12,.slice (some ⟨9,0,0,0,1⟩) m m),(13,.int .i64 m),(14,.int .i64 C)] (j.rows 60 [(9,eL ws 0),(50,Bi l v f)]) e aW p∧U e aW p :=
 gm bQ mixed x4 (an:= .aK 5000 (ag 6000 (.aA (.val 6001 (.str w)) (.aK 7001 .nil (.aK 7005 .nil (.aK 7010 (.aA (.val 9001 (.tuple [.int .i64 (x:Int),o.nilIface])) (ag 10003 (ag 11000 .nil))) .nil))))) .nil) (cs:=[2,3,4,12,13,14]) (by kernel_rfl) aY
theorem YI(U:o→j→Prop)(aY:U (.tuple [.slice none 0 0,.bool true]) (j.ar 6 [])) :
 ∃v p,aI Tryz.prog aw 148 [.str []] (⟨0,.nil⟩) v p∧U v p :=
 cb bQ mixed x4 (an:= .nil) (by kernel_rfl) aY
theorem YJ(s:Bytes)(eD ep gj N7:o)(aa:j)(U:o→j→Prop)(aY:(s=[]→U (.tuple [.slice none 0 0,.bool true]) (j.ar 6 []))∧(¬s=[]→ [(59:UInt8)]=[(59:UInt8)]∧List.length s<1099511627776∧cx Tryz.prog aw 0 41 (Code.loop (cF Tryz.prog 148 0)) [(4,.slice none 0 0),(12,.slice (some ⟨9,0,0,0,1⟩) (List.length (splitAt 59 s)) (List.length (splitAt 59 s))),(13,.int .i64 (↑(List.length (splitAt 59 s)):Int)),(14,.int .i64 0)] (j.hx (j.ar 9 []) [] [(R.made (List.map .str (splitAt 59 s)) 1 true)]) (.exit 0) [(4,eD),(12,N7),(13,gj),(14,ep)] aa∧U (.tuple [eD,.bool true]) (j.mk (aa.next+3) (j.aJ aa)))) :
 ∃v p,aI Tryz.prog aw 148 [.str s] (⟨0,.nil⟩) v p∧U v p :=
 cb bQ mixed x4 (an:= .aK 1001 .nil (.aA (.cs [4,12,13,14]) (.aA (.loop [(4,eD),(12,N7),(13,gj),(14,ep)] aa (.exit 0)) .nil))) (by kernel_rfl) aY
theorem YK(s:Bytes)(aa:j)(U:o→j→Prop)(aY:(s=[]→U (.tuple [.slice none 0 0,.bool true]) (j.ar 6 []))∧(¬s=[]→ [(59:UInt8)]=[(59:UInt8)]∧List.length s<1099511627776∧cx Tryz.prog aw 0 41 (Code.loop (cF Tryz.prog 148 0)) [(4,.slice none 0 0),(12,.slice (some ⟨9,0,0,0,1⟩) (List.length (splitAt 59 s)) (List.length (splitAt 59 s))),(13,.int .i64 (↑(List.length (splitAt 59 s)):Int)),(14,.int .i64 0)] (j.hx (j.ar 9 []) [] [(R.made (List.map .str (splitAt 59 s)) 1 true)]) .ret [(2,.slice none 0 0),(3,.bool false)] aa∧U (.tuple [.slice none 0 0,.bool false]) aa)) :
 ∃v p,aI Tryz.prog aw 148 [.str s] (⟨0,.nil⟩) v p∧U v p :=
 cb bQ mixed x4 (an:= .aK 1001 .nil (.aA (.cs [4,12,13,14]) (.aA (.loop [(2,.slice none 0 0),(3,.bool false)] aa .ret) .nil))) (by kernel_rfl) aY
theorem N8{h:j}{b:R}{id i:Nat}{w:Bytes}(ag:h.get id=some b)(he:b.elem? 0 i=some (.str w)):cj (b5.D env) 9 ⟨id,0,i,0,1⟩ h=some (.str w):=by
 have b':(b5.D env 9).map (fun d=>d.kind.isAgg)=some false:=by kernel_rfl
 obtain⟨d,p,ad⟩:=Option.map_eq_some_iff.1 b';unfold cj;rw [p,ag];simp only [he,iD,ad,Bool.false_eq_true,if_false,if_true]
theorem N9{ws:List Bytes}{C:Nat}(h:C<ws.length):(eL (ws.map o.str) 0).elem? 0 C=some (.str ws[C]):=by simp [R.elem?,R.cO,h]
def bM(l:List Nat):List o:=l.map fun(n:Nat)=>o.int .i64 n
theorem N'(l:List Nat):(bM l).length=l.length:=by simp [bM]
theorem GU(l:List Nat):∀e∈bM l,cR e:=cR.ints l .i64 fun(n:Nat)=>(n:Int)
theorem GV(ws:List Bytes):dl (eL (ws.map o.str) 0):=by intro e he;obtain⟨w,_,rfl⟩:=List.mem_map.1 he;exact cR.str w
abbrev jy(l:List Nat):R:=Bi (bM l) (l.length-1) (jU l.length)
abbrev k5(l m C:Nat):bP:=[(4,.slice (some ⟨50,l-1,0,0,1⟩) l l),(12,.slice (some ⟨9,0,0,0,1⟩) m m),(13,.int .i64 (m:Nat)),(14,.int .i64 (C:Nat))]
theorem GW{K:List Nat}{i v ab l c e:Nat}(h:i∈K):cA (Go.cM.cL K) (.slice (some ⟨i,v,ab,0,e⟩) l c):=h
theorem Oa{l m C k:Nat}{h:j}{cY B:R}(ap:k≠9)(dZ:dl cY)(cE:dl B)(bm:h.get 9=some cY)(ag:h.get k=some B) :
 eV 0 41 [(4,.slice (some ⟨k,l-1,0,0,1⟩) l l),(12,.slice (some ⟨9,0,0,0,1⟩) m m),(13,.int .i64 (m:Nat)),(14,.int .i64 (C:Nat))] h (k5 l m C) (j.rows 60 [(9,cY),(50,B)]):=by
 refine eV.move (K:=60) (l:=[(9,cY),(50,B)]) (fun i=>if i=9 then 9 else k) ?_ rfl ?_ rfl rfl ?_ rfl ?_ ?_
 ·simp [bm,ag,dZ.bc,cE.bc]
 ·simp;exact fun e=>ap e.symm
 ·simp [o.bc,bG.bc]
 ·exact bZ.cons (GW (by simp)) (bZ.cons (GW (by simp)) (bZ.cons trivial (bZ.cons trivial bZ.nil)))
 ·exact bZ.cons (fun e he=>(dZ e he).e1 _) (bZ.cons (fun e he=>(cE e he).e1 _) bZ.nil)
abbrev x5:bP:=[(2,.slice none 0 0),(3,.bool false)]
theorem Bj(w:Bytes):jZ w=true↔w≠[]∧w.length≤9∧w.all digit=true:=by unfold jZ;simp only [Bool.not_eq_true',Bool.or_eq_false_iff,decide_eq_false_iff_not,beq_eq_false_iff_ne,ne_eq,Bool.not_eq_false,Nat.not_lt,and_assoc]
theorem Ob{a b c d:o}{n:Nat}{h:j} :eV 0 n [(2,o.slice none 0 0),(3,o.bool false),(4,a),(12,b),(13,c),(14,d)] h x5 h :=
 eV.facts (by
  intro C u hu;rw [kY]at hu;split at hu
  ·rename_i aV;subst aV;rw [←hu];rfl
  ·rw [kY]at hu;split at hu
   ·rename_i aV;subst aV;rw [←hu];rfl
   ·cases hu)
theorem YL(ws:List Bytes)(L:List Nat)(C:Nat)(aV:C<ws.length)(az:L.length<2^40)(p:1≤L.length)(hw:ws[C].length<2^40)(hm:ws.length<2^40) :
 (jZ ws[C]=true→ ∃aa,cx Tryz.prog aw 0 41 (cF Tryz.prog 148 0) (k5 L.length ws.length C) (j.rows 60 [(9,eL (ws.map o.str) 0),(50,jy L)]) .normal (k5 (L++[number ws[C]]).length ws.length (C+1)) aa∧aa.get 9=some (eL (ws.map o.str) 0)∧aa.get 50=some (jy (L++[number ws[C]]))) ∧
 (jZ ws[C]=false→ ∃aa,cx Tryz.prog aw 0 41 (cF Tryz.prog 148 0) (k5 L.length ws.length C) (j.rows 60 [(9,eL (ws.map o.str) 0),(50,jy L)]) .ret x5 aa):=by
 have j8:0+Int.toNat (C:Int)=C:=by simp
 have gR:((C:Int)+1)=((C+1:Nat):Int):=by omega
 have mM:∀n:Nat,cj (b5.D env) 9 ⟨9,0,0+Int.toNat (C:Int),0,1⟩ (j.ar n [(9,eL (ws.map o.str) 0),(50,Bi (bM L) (L.length-1) (jU L.length))])=some (.str ws[C]):=fun n=>by rw [j8];exact N8 (b:=eL (ws.map o.str) 0) (by kernel_rfl) (N9 aV)
 refine⟨fun ok=> ?_,fun bad=> ?_⟩
 ·obtain⟨br,GX,wd⟩:=(Bj _).1 ok;have il:(L++[number ws[C]]).length=L.length+1:=by simp
  obtain⟨e,aW,ad,bb,rfl,rfl,bE,mj⟩:=GS ws[C] ws.length C (number ws[C]) (L.length-1) (jU L.length) L.length (ws.map o.str) (bM L) (fun e aW ad=>e=.normal∧aW=k5 (L.length+1) ws.length (C+1)∧ad.get 9=some (eL (ws.map o.str) 0)∧ad.get 50=some (jy (L++[number ws[C]]))) (by
   delta qs mm
   refine⟨fun _=>⟨⟨by omega,by omega⟩,mM _,fun h=>absurd h br,fun _=>⟨fun h=>by omega,fun _=>⟨rfl,hw,fun _=>⟨⟨NX _ (by omega) _ (NW br wd) _⟩,⟨rfl,by rw [N'];omega,by omega,by omega,by omega⟩,⟨by omega,by omega⟩,rfl,?_,rfl,?_⟩,fun h=>absurd ((Bh _).2 wd) h⟩⟩⟩,fun h=>by omega⟩
   ·unfold k5;rw [gR,show L.length+1-1=L.length-1+1 by omega]
   ·have bn:bM (L++[number ws[C]])=bM L++[o.int .i64 (number ws[C]:Nat)]:=by simp [bM]
    have bs:(L++[number ws[C]]).length-1=L.length-1+1:=by simp;omega
    have b7:jU (L++[number ws[C]]).length=if 0=L.length-1 then(bM L).length else min (jU L.length) (bM L).length:=by
     rw [N',il];unfold jU;by_cases dG:L.length=1
     ·rw [if_neg (by omega),if_pos (by omega)];omega
     ·rw [if_neg (by omega),if_neg (by omega),if_neg dG];omega
    show some _=some (Bi _ _ _)
    rw [bn,bs,b7])
  exact⟨ad,by rw [il];exact bb,bE,mj⟩
 ·obtain⟨e,aW,ad,bb,rfl,a8⟩:=GS ws[C] ws.length C (number ws[C]) (L.length-1) (jU L.length) L.length (ws.map o.str) (bM L) (fun e aW ad=>e=.ret∧aW=[(2,o.slice none 0 0),(3,o.bool false),(4,o.slice (some ⟨50,L.length-1,0,0,1⟩) L.length L.length),(12,o.slice (some ⟨9,0,0,0,1⟩) ws.length ws.length),(13,o.int .i64 ws.length),(14,o.int .i64 C)]) (by
   delta qs mm
   refine⟨fun _=>⟨⟨by omega,by omega⟩,mM _,fun h=>⟨rfl,rfl⟩,fun br=>⟨fun h=>⟨rfl,rfl⟩,fun GX=>⟨rfl,hw,fun h=> ?_,fun h=>⟨rfl,rfl⟩⟩⟩⟩,fun h=>by omega⟩;have:=(Bj ws[C]).2 ⟨br,by omega,(Bh _).1 h⟩
   rw [this]at bad;cases bad)
  subst a8;exact⟨ad,bb.post Ob⟩
theorem YM(ws:List Bytes)(aV:0<ws.length)(hw:ws[0].length<2^40)(hm:ws.length<2^40) :
 (jZ ws[0]=true→ ∃aa k,k≠9∧cx Tryz.prog aw 0 41 (cF Tryz.prog 148 0) [(4,.slice none 0 0),(12,.slice (some ⟨9,0,0,0,1⟩) ws.length ws.length),(13,.int .i64 ws.length),(14,.int .i64 (0:Nat))] (j.rows 10 [(9,eL (ws.map o.str) 0)]) .normal [(4,.slice (some ⟨k,1-1,0,0,1⟩) 1 1),(12,.slice (some ⟨9,0,0,0,1⟩) ws.length ws.length),(13,.int .i64 ws.length),(14,.int .i64 (0+1:Nat))] aa∧aa.get 9=some (eL (ws.map o.str) 0)∧aa.get k=some (jy [number ws[0]])) ∧
 (jZ ws[0]=false→ ∃aa,cx Tryz.prog aw 0 41 (cF Tryz.prog 148 0) [(4,.slice none 0 0),(12,.slice (some ⟨9,0,0,0,1⟩) ws.length ws.length),(13,.int .i64 ws.length),(14,.int .i64 (0:Nat))] (j.rows 10 [(9,eL (ws.map o.str) 0)]) .ret x5 aa):=by
 have j8:0+Int.toNat ((0:Nat):Int)=0:=by simp
 have mM:∀n:Nat,cj (b5.D env) 9 ⟨9,0,0+Int.toNat ((0:Nat):Int),0,1⟩ (j.ar n [(9,eL (ws.map o.str) 0)])=some (.str ws[0]):=fun n=>by rw [j8];exact N8 (b:=eL (ws.map o.str) 0) (by kernel_rfl) (N9 aV)
 refine⟨fun ok=> ?_,fun bad=> ?_⟩
 ·obtain⟨br,GX,wd⟩:=(Bj _).1 ok
  obtain⟨e,aW,ad,bb,rfl,k,ap,rfl,bE,mj⟩:=N6 ws[0] ws.length 0 (number ws[0]) (ws.map o.str) (fun e aW ad=>e=.normal∧∃k,k≠9∧aW=[(4,.slice (some ⟨k,1-1,0,0,1⟩) 1 1),(12,.slice (some ⟨9,0,0,0,1⟩) ws.length ws.length),(13,.int .i64 ws.length),(14,.int .i64 (0+1:Nat))]∧ad.get 9=some (eL (ws.map o.str) 0)∧ad.get k=some (jy [number ws[0]]))
   ⟨fun _=>⟨⟨by omega,by omega⟩,mM _,fun h=>absurd h br,fun _=>⟨fun h=>by omega,fun _=>⟨rfl,hw,fun _=>⟨⟨NX _ (by omega) _ (NW br wd) _⟩,⟨by omega,by omega⟩,rfl,_,(by decide),rfl,rfl,rfl⟩,fun h=>absurd ((Bh _).2 wd) h⟩⟩⟩,fun h=>by omega⟩
  exact⟨ad,k,ap,bb,bE,mj⟩
 ·obtain⟨e,aW,ad,bb,rfl,a8⟩:=N6 ws[0] ws.length 0 (number ws[0]) (ws.map o.str) (fun e aW ad=>e=.ret∧aW=[(2,o.slice none 0 0),(3,o.bool false),(4,o.slice none 0 0),(12,o.slice (some ⟨9,0,0,0,1⟩) ws.length ws.length),(13,o.int .i64 ws.length),(14,o.int .i64 (0:Nat))]) (by
   delta mm
   refine⟨fun _=>⟨⟨by omega,by omega⟩,mM _,fun h=>⟨rfl,rfl⟩,fun br=>⟨fun h=>⟨rfl,rfl⟩,fun GX=>⟨rfl,hw,fun h=> ?_,fun h=>⟨rfl,rfl⟩⟩⟩⟩,fun h=>by omega⟩;have:=(Bj ws[0]).2 ⟨br,by omega,(Bh _).1 h⟩
   rw [this]at bad;cases bad)
  subst a8;exact⟨ad,bb.post Ob⟩
theorem YN(ws:List Bytes)(hw:∀w∈ws,w.length<2^40)(hm:ws.length<2^40):∀(k C:Nat),ws.length-C≤k→C≤ws.length→1≤C →
 ((∀w∈ws.drop C,jZ w=true)→ ∃aa,cN Tryz.prog aw 0 41 (cF Tryz.prog 148 0) (k5 ((ws.take C).map number).length ws.length C) (j.rows 60 [(9,eL (ws.map o.str) 0),(50,jy ((ws.take C).map number))]) (.exit 0) (k5 ws.length ws.length ws.length) aa∧aa.get 50=some (jy (ws.map number))) ∧
 ((∃w∈ws.drop C,jZ w=false)→ ∃aa,cN Tryz.prog aw 0 41 (cF Tryz.prog 148 0) (k5 ((ws.take C).map number).length ws.length C) (j.rows 60 [(9,eL (ws.map o.str) 0),(50,jy ((ws.take C).map number))]) .ret x5 aa):=by
 intro k
 have fin:∀h:(∀w∈ws.drop ws.length,jZ w=true),∃aa,cN Tryz.prog aw 0 41 (cF Tryz.prog 148 0) (k5 ((ws.take ws.length).map number).length ws.length ws.length) (j.rows 60 [(9,eL (ws.map o.str) 0),(50,jy ((ws.take ws.length).map number))]) (.exit 0) (k5 ws.length ws.length ws.length) aa∧aa.get 50=some (jy (ws.map number)):=by intro _;rw [List.take_length];obtain⟨e,aW,ad,bb,rfl,rfl,ag⟩:=GS [] ws.length ws.length 0 ((ws.map number).length-1) (jU (ws.map number).length) (ws.map number).length (ws.map o.str) (bM (ws.map number)) (fun e aW ad=>e=.exit 0∧aW=k5 (ws.map number).length ws.length ws.length∧ad.get 50=some (jy (ws.map number))) ⟨fun h=>by omega,fun _=>⟨rfl,rfl,rfl⟩⟩;have el:(ws.map number).length=ws.length:=List.length_map _;refine⟨ad,cN.last (by simp) ?_,ag⟩;rw [show k5 ws.length ws.length ws.length=k5 (ws.map number).length ws.length ws.length by rw [el]];exact bb
 induction k with
 |zero =>
  intro C ap aV p;obtain rfl:C=ws.length:=by omega
  exact⟨fin,fun⟨w,hw,_⟩=>by simp at hw⟩
 |succ k ih =>
  intro C ap aV p;by_cases av:C<ws.length
  ·have bX:(ws.take (C+1)).map number=(ws.take C).map number++[number ws[C]]:=by rw [List.take_succ_eq_append_getElem av,List.map_append];rfl
   have aC:ws.drop C=ws[C]::ws.drop (C+1):=List.drop_eq_getElem_cons av;have l6:((ws.take C).map number).length=C:=by rw [List.length_map,List.length_take];omega
   obtain⟨fT,kn⟩:=YL ws ((ws.take C).map number) C av (by omega) (by omega) (hw _ (List.getElem_mem av)) hm;obtain⟨i1,i2⟩:=ih (C+1) (by omega) (by omega) (by omega);rw [bX]at i1 i2;cases aD:jZ ws[C]with
   |false =>
    refine⟨fun h=> ?_,fun _=> ?_⟩
    ·have:=h ws[C] (by rw [aC];exact List.mem_cons_self);rw [aD]at this;cases this
    ·obtain⟨aa,bb⟩:=kn aD;exact⟨aa,cN.last (by simp) bb⟩
   |true =>
    obtain⟨ad,bb,bE,mj⟩:=fT aD;have x6:=Oa (l:=((ws.take C).map number++[number ws[C]]).length) (m:=ws.length) (C:=C+1) (k:=50) (by decide) (GV ws) (B:=jy ((ws.take C).map number++[number ws[C]])) (GU _) bE mj;refine⟨fun h=> ?_,fun⟨w,oX,au⟩=> ?_⟩
    ·obtain⟨aa,az,ag⟩:=i1 (fun w oX=>h w (by rw [aC];exact List.mem_cons_of_mem _ oX));exact⟨aa,cN.step (bb.post x6) az,ag⟩
    ·rw [aC]at oX;rcases List.mem_cons.1 oX with rfl|oX
     ·rw [aD]at au;cases au
     ·obtain⟨aa,az⟩:=i2 ⟨w,oX,au⟩;exact⟨aa,cN.step (bb.post x6) az⟩
  ·obtain rfl:C=ws.length:=by omega
   exact⟨fin,fun⟨w,hw,_⟩=>by simp at hw⟩
theorem GY(c:UInt8):∀(s:Bytes),∀w∈splitAt c s,w.length≤s.length
 |[],w,h=>by simp [splitAt]at h;simp [h]
 |b ::r,w,h=>by
  unfold splitAt at h;split at h
  ·rcases List.mem_cons.1 h with rfl|h
   ·simp
   ·have:=GY c r w h;simp only [List.length_cons];omega
  ·cases an:splitAt c r with
   |nil=>exact absurd an (GM c r)
   |cons x t =>
    rw [an]at h;have ih:=GY c r;rw [an]at ih;rcases List.mem_cons.1 h with rfl|h
    ·have:=ih x List.mem_cons_self;simp only [List.length_cons];omega
    ·have:=ih w (List.mem_cons_of_mem _ h);simp only [List.length_cons];omega
theorem aI.YO{f:FuncId}{args:List o}{aa:j}{C es n c J:Nat}{b:Bool}{ej:R}(k:aI Tryz.prog aw f args ⟨0,.nil⟩ (.tuple [.slice (some ⟨C,J,0,0,es⟩) n c,.bool b]) aa)(uC:dl ej)(ff:aa.get C=some ej)(aT:∀a∈args,cR a)(H:j) :
 aI Tryz.prog aw f args H (.tuple [.slice (some ⟨H.next,J,0,0,es⟩) n c,.bool b]) (H.hx [] [ej]):=by
 have bE:aI Tryz.prog aw f args (j.of []) (.tuple [.slice (some ⟨C,J,0,0,es⟩) n c,.bool b]) aa:=k;have aM:=bE.fin [C] [ej] (.tuple [.slice (some ⟨0,J,0,0,es⟩) n c,.bool b]) (fun b au=>by rw [List.mem_singleton.1 au];exact uC) rfl (by simp [gC,ff]) (by simp [o.bc,o.gK,bG.bc,gC]) (by simp [cA,fw]) (by simp) (by simp);have hs:fw (fun i=>i<([]:List R).length) args:=q7.2 fun a h=>(aT a h).e1 _
 have aR:=aM.Lm (l:=[]) (ck:=[ej]) (fun b au=>by cases au) (fun b au=>by rw [List.mem_singleton.1 au];exact uC) hs (H:=H) [] List.nodup_nil (fun C aV=>by cases aV) rfl
 have bn:args.map (o.bc (dJ [] H.next))=args:=by
  conv=>rhs;rw [←List.map_id args]
  exact List.map_congr_left fun a h=>(aT a h).1 _
 rw [bn]at aR;simpa [o.bc,o.gK,bG.bc,dJ]using aR
theorem Oc(ws:List Bytes)(n:Nat):eV 0 41 [(4,.slice none 0 0),(12,.slice (some ⟨9,0,0,0,1⟩) n n),(13,.int .i64 n),(14,.int .i64 (0:Nat))] (j.hx (j.ar 9 []) [] [eL (ws.map o.str) 0]) [(4,.slice none 0 0),(12,.slice (some ⟨9,0,0,0,1⟩) n n),(13,.int .i64 n),(14,.int .i64 (0:Nat))] (j.rows 10 [(9,eL (ws.map o.str) 0)]) :=
 eV.drop (K:=10) (l:=[(9,eL (ws.map o.str) 0)]) (by kernel_rfl) rfl rfl rfl (bZ.cons trivial (bZ.cons (GW (by simp)) (bZ.cons trivial (bZ.cons trivial bZ.nil)))) (bZ.cons (fun e he=>(GV ws e he).e1 _) bZ.nil)
theorem vf(w:Bytes)(hw:w.length<2^38)(H:j) :
 (Keys.numbers w=none→aI Tryz.prog aw 148 [.str w] H (.tuple [.slice none 0 0,.bool false]) H) ∧
 (Keys.numbers w=some []→aI Tryz.prog aw 148 [.str w] H (.tuple [.slice none 0 0,.bool true]) H) ∧
 (∀l,l≠[]→Keys.numbers w=some l→aI Tryz.prog aw 148 [.str w] H (.tuple [.slice (some ⟨H.next,l.length-1,0,0,1⟩) l.length l.length,.bool true]) (H.hx [] [jy l])):=by
 by_cases Bk:w=[]
 ·subst Bk;have aS:Keys.numbers []=some []:=rfl;refine⟨(fun h=>by rw [aS]at h;cases h),fun _=> ?_,(fun l az h=>by rw [aS]at h;simp only [Option.some.injEq]at h;exact absurd h.symm az)⟩;exact aI.fm (YI (fun v _=>v=.tuple [.slice none 0 0,.bool true]) rfl) rfl rfl H
 ·have aS :Keys.numbers w=lF (splitAt 59 w):=by unfold Keys.numbers;rw [if_neg Bk]
  have hlen:=GN 59 w;have af5:w.count 59≤w.length:=List.count_le_length;have hW:=GY 59 w;generalize sv:splitAt 59 w=ws at aS hlen hW;have ir:0<ws.length:=by omega
  have hm:ws.length<2^40:=by omega
  have Od:∀x∈ws,x.length<2^40:=fun x ae=>by have:=hW x ae;omega
  obtain⟨fT,kn⟩:=YM ws ir (Od _ (List.getElem_mem ir)) hm;obtain⟨ek,ck⟩:=YN ws Od hm ws.length 1 (by omega) (by omega) (by omega)
  have t1:(ws.take 1).map number=[number ws[0]]:=by
   cases ws with
   |nil=>simp at ir
   |cons x r=>rfl
  rw [t1]at ek ck
  have YP:ws=ws[0]::ws.drop 1:=by
   cases ws with
   |nil=>simp at ir
   |cons x r=>rfl
  have key:∀(ad:j)(k:Nat),k≠9→ad.get 9=some (eL (ws.map o.str) 0)→ad.get k=some (jy [number ws[0]])→eV 0 41 [(4,.slice (some ⟨k,1-1,0,0,1⟩) 1 1),(12,.slice (some ⟨9,0,0,0,1⟩) ws.length ws.length),(13,.int .i64 ws.length),(14,.int .i64 (0+1:Nat))] ad (k5 [number ws[0]].length ws.length 1) (j.rows 60 [(9,eL (ws.map o.str) 0),(50,jy [number ws[0]])]) :=
   fun ad k ap bE mj=>Oa (l:=1) ap (GV ws) (B:=jy [number ws[0]]) (GU _) bE mj
  by_cases o0:∀x∈ws,jZ x=true
  ·have jc:Keys.numbers w=some (ws.map number):=by rw [aS,NR o0]
   have b1:ws.map number≠[]:=by intro h;have:=congrArg List.length h;simp at this;rw [this]at ir;simp at ir
   refine⟨(fun h=>by rw [jc]at h;cases h),(fun h=>by rw [jc]at h;simp only [Option.some.injEq]at h;exact absurd h b1),fun l az h=> ?_⟩;rw [jc]at h;simp only [Option.some.injEq]at h;subst h;obtain⟨ad,k,ap,bb,bE,mj⟩:=fT (o0 _ (List.getElem_mem ir));obtain⟨aa,oS,ag⟩:=ek (fun x ae=>o0 x (List.mem_of_mem_drop ae));have ds:=cx.gL ((cN.step (bb.post (key ad k ap bE mj)) oS).pre (Oc ws ws.length));obtain⟨v,bd,aC,rfl,nm⟩:=YJ w (.slice (some ⟨50,ws.length-1,0,0,1⟩) ws.length ws.length) (.int .i64 ws.length) (.int .i64 ws.length) (.slice (some ⟨9,0,0,0,1⟩) ws.length ws.length) aa (fun v bd=>v=.tuple [.slice (some ⟨50,ws.length-1,0,0,1⟩) ws.length ws.length,.bool true]∧bd.get 50=some (jy (ws.map number))) (by rw [sv];exact⟨fun h=>absurd h Bk,fun _=>⟨rfl,by omega,ds,rfl,ag⟩⟩);have:=aI.YO aC (ej:=jy (ws.map number)) (GU _) nm (fun a aT=>by rw [List.mem_singleton.1 aT];exact cR.str w) H
   rwa [List.length_map]
  ·have dt:∃x∈ws,jZ x=false:=by
    apply Classical.byContradiction;intro h;apply o0;intro x ae;cases aD:jZ x with
    |true=>rfl
    |false=>exact absurd ⟨x,ae,aD⟩ h
   have jF:Keys.numbers w=none:=by obtain⟨x,ae,au⟩:=dt;obtain⟨a,b,e⟩:=List.append_of_mem ae;rw [aS,e,NS au]
   refine⟨fun _=> ?_,(fun h=>by rw [jF]at h;cases h),(fun l az h=>by rw [jF]at h;cases h)⟩
   have ds:∃aa,cN Tryz.prog aw 0 41 (cF Tryz.prog 148 0) [(4,.slice none 0 0),(12,.slice (some ⟨9,0,0,0,1⟩) ws.length ws.length),(13,.int .i64 ws.length),(14,.int .i64 (0:Nat))] (j.rows 10 [(9,eL (ws.map o.str) 0)]) .ret x5 aa:=by
    cases aD:jZ ws[0]with
    |false =>
     obtain⟨aa,bb⟩:=kn aD;exact⟨aa,cN.last (by simp) bb⟩
    |true =>
     obtain⟨ad,k,ap,bb,bE,mj⟩:=fT aD;obtain⟨x,ae,au⟩:=dt;rw [YP]at ae;rcases List.mem_cons.1 ae with rfl|ae
     ·rw [aD]at au;cases au
     ·obtain⟨aa,oS⟩:=ck ⟨x,ae,au⟩;exact⟨aa,cN.step (bb.post (key ad k ap bE mj)) oS⟩
   obtain⟨aa,ds⟩:=ds;exact aI.fm (YK w aa (fun v _=>v=.tuple [.slice none 0 0,.bool false]) (by rw [sv];exact⟨fun h=>absurd h Bk,fun _=>⟨rfl,by omega,cx.gL (ds.pre (Oc ws ws.length)),rfl⟩⟩)) rfl rfl H
abbrev Bl(l:List o)(v f:Nat):R:= {bi:=l,es:=1,exact:=false,ro:=false,J:=v,fX:=0,gQ:=f,aq:=some (3,0)}
noncomputable def th(ab:Option (List Nat))(v:o)(rows:List R):List o→j→Option eC:=fun args h =>
 match args with
 |[.str w]=>some (.one v (h.hx [] rows) [Keys.numbers w=ab,w.length<100])
 |_=>none
noncomputable def Bm:List o→j→Option eC:=th none (.tuple [.slice none 0 0,.bool false]) []
noncomputable def Bn:List o→j→Option eC:=th (some []) (.tuple [.slice none 0 0,.bool true]) []
noncomputable def Oe(a:Nat):List o→j→Option eC:=fun args h=>th (some [a]) (.tuple [.slice (some ⟨h.next,0,0,0,1⟩) 1 1,.bool true]) [Bl [.int .i64 a] 0 0] args h
noncomputable def Of(a b:Nat):List o→j→Option eC:=fun args h=>th (some [a,b]) (.tuple [.slice (some ⟨h.next,1,0,0,1⟩) 2 2,.bool true]) [Bl [.int .i64 a,.int .i64 b] 1 1] args h
noncomputable def Og(a b c:Nat):List o→j→Option eC:=fun args h=>th (some [a,b,c]) (.tuple [.slice (some ⟨h.next,2,0,0,1⟩) 3 3,.bool true]) [Bl [.int .i64 a,.int .i64 b,.int .i64 c] 2 1] args h
def Oh:List o→j→Option eC:=kA fun a=>match a with | [.str s,.str k]=>some (.tuple [.str (s.drop 1),.bool (s.head? == some 60)],[k=[60],s.head? =some 60])|_=>none
def Oi:List o→j→Option eC:=kA fun a=>match a with | [.str s,.str k]=>some (.tuple [.str s,.bool false],[k=[60],s.head? ≠some 60])|_=>none
noncomputable def Bo(num:List o→j→Option eC):fc:=(p4.add 53 Oh).add 148 num
noncomputable def YQ(a b c:Nat):fc:=Bo (Og a b c)
noncomputable def YR:fc:=Bo Bm
theorem Bp:∀args h a,Oh args h=some a→a.dw Tryz.prog aw 53 args h:=by
 refine lE ?_;intro args v e5 e ac H;split at e<;>first|(cases e;done)|skip
 rename_i s k;simp only [Option.some.injEq,Prod.mk.injEq]at e;obtain⟨rfl,rfl⟩:=e;have p:k=[60]:=ac.head;have ad:s.head? =some 60:=ac.tail.head;subst p;have:=NO s [60] H
 have ac:([60]:Bytes).isPrefixOf s=true:=by
  cases s with
  |nil=>cases ad
  |cons b r=>simp only [List.head?_cons,Option.some.injEq]at ad;subst ad;simp [List.isPrefixOf]
 unfold tg at this;rw [ac]at this;simpa [ad]using this
theorem x7{ab:Option (List Nat)}{v:j→o}{rows:List R}(k:∀(w:Bytes),w.length<100→Keys.numbers w=ab→ ∀H,aI Tryz.prog aw 148 [.str w] H (v H) (H.hx [] rows)):∀args h a,th ab (v h) rows args h=some a→a.dw Tryz.prog aw 148 args h:=by
 intro args h a e;unfold th at e;split at e<;>first|(cases e;done)|skip
 simp only [Option.some.injEq]at e;subst e;exact fun ac=>k _ ac.tail.head ac.head h
theorem GZ:∀args h a,Bm args h=some a→a.dw Tryz.prog aw 148 args h:=x7 (v:=fun _=> .tuple [.slice none 0 0,.bool false]) fun w hw h H=>(vf w (by omega) H).1 h
theorem G0:∀args h a,Bn args h=some a→a.dw Tryz.prog aw 148 args h:=x7 (v:=fun _=> .tuple [.slice none 0 0,.bool true]) fun w hw h H=>(vf w (by omega) H).2.1 h
theorem YS(x:Nat):∀args h a,Oe x args h=some a→a.dw Tryz.prog aw 148 args h:=x7 (v:=fun h=> .tuple [.slice (some ⟨h.next,0,0,0,1⟩) 1 1,.bool true]) fun w hw h H=>(vf w (by omega) H).2.2 [x] (by simp) h
theorem YT(x y:Nat):∀args h a,Of x y args h=some a→a.dw Tryz.prog aw 148 args h:=x7 (v:=fun h=> .tuple [.slice (some ⟨h.next,1,0,0,1⟩) 2 2,.bool true]) fun w hw h H=>(vf w (by omega) H).2.2 [x,y] (by simp) h
theorem YU(x y z:Nat):∀args h a,Og x y z args h=some a→a.dw Tryz.prog aw 148 args h:=x7 (v:=fun h=> .tuple [.slice (some ⟨h.next,2,0,0,1⟩) 3 3,.bool true]) fun w hw h H=>(vf w (by omega) H).2.2 [x,y,z] (by simp) h
noncomputable def x8(l:List Nat):List o→j→Option eC:=fun args h=>match args with
 |[.str w]=>some (.one (.tuple [.slice (some ⟨h.next,l.length-1,0,0,1⟩) l.length l.length,.bool true]) (h.hx [] [Bl (bM l) (l.length-1) (jU l.length)]) [Keys.numbers w=some l,l≠[],w.length<100])
 |_=>none
theorem G1(l:List Nat):∀args h a,x8 l args h=some a→a.dw Tryz.prog aw 148 args h:=by
 intro args h a e;unfold x8 at e;split at e<;>first|(cases e;done)|skip
 rename_i w;simp only [Option.some.injEq]at e;subst e;intro ac;exact(vf w (by have:=ac.tail.tail.head;omega) h).2.2 l ac.tail.head ac.head
noncomputable def YV:fc:=Bo Bn
noncomputable def YW(l:List Nat):fc:=Bo (x8 l)
theorem YX:eW Tryz.prog aw YV:=(c8.add Bp).add G0
theorem YY(l:List Nat):eW Tryz.prog aw (YW l):=(c8.add Bp).add (G1 l)
theorem YZ:eW Tryz.prog aw YR:=(c8.add Bp).add GZ
theorem Y0(a b c:Nat):eW Tryz.prog aw (YQ a b c):=(c8.add Bp).add (YU a b c)
theorem G2:∀args h a,Oi args h=some a→a.dw Tryz.prog aw 53 args h:=by
 refine lE ?_;intro args v e5 e ac H;split at e<;>first|(cases e;done)|skip
 rename_i s k;simp only [Option.some.injEq,Prod.mk.injEq]at e;obtain⟨rfl,rfl⟩:=e;have p:k=[60]:=ac.head;have ad:s.head? ≠some 60:=ac.tail.head;subst p;have:=NO s [60] H
 have ac:([60]:Bytes).isPrefixOf s=false:=by
  cases s with
  |nil=>rfl
  |cons b r =>
   have au:¬(60:UInt8)=b:=fun e=>ad (by rw [←e];rfl)
   simp [List.isPrefixOf,au]
 unfold tg at this;rw [ac]at this;simpa using this
noncomputable def G3(num:List o→j→Option eC):fc:=(p4.add 53 Oi).add 148 num
noncomputable def Y1:fc:=G3 Bm
noncomputable def Y2:fc:=G3 Bn
noncomputable def Y3(l:List Nat):fc:=G3 (x8 l)
theorem Y4:eW Tryz.prog aw Y1:=(c8.add G2).add GZ
theorem Y5:eW Tryz.prog aw Y2:=(c8.add G2).add G0
theorem Y6(l:List Nat):eW Tryz.prog aw (Y3 l):=(c8.add G2).add (G1 l)
theorem Y7(w:Bytes)(c:Int)(U:o→j→Prop)(aY: [(60:UInt8)]=[(60:UInt8)]∧List.head? w=some (60:UInt8)∧((List.head? w == some 60)=true→numbers (List.drop 1 w)=none∧List.length (List.drop 1 w)<100∧U (.tuple [da,.bool false]) (j.ar 30 [(0,(R.made ([da]) 6 true (some (42,6))))]))∧((List.head? w == some 60)=false→numbers (List.drop 1 w)=none∧List.length (List.drop 1 w)<100∧U (.tuple [da,.bool false]) (j.ar 30 [(0,(R.made ([da]) 6 true (some (42,6))))]))) :
 ∃v p,aI Tryz.prog aw 147 [.str w,.int .u8 c] (⟨0,.nil⟩) v p∧U v p :=
 cb bQ mixed YZ (an:= .aK 1004 .nil .nil) (by kernel_rfl) aY
abbrev G4:dk:=(.aK 16001 (.aK 16004 .nil (.aK 18001 (.aK 18004 .nil .nil) .nil)) (.aK 18001 (.aK 18004 .nil .nil) .nil))
abbrev qt(aj:Nat)(a6:Nat)(aO:Nat):R:=⟨[.int .i64 (aj:Int),.int .i64 (a6:Int),.int .i64 (aO:Int)],1,false,false,2,0,1,some (3,0)⟩
abbrev Oj(aj:Nat)(a6:Nat)(aO:Nat):o:=o.agg [.int .i8 3,.int .i32 0,.int .u8 (bD .i64 (bx .i64 (aj:Int) (28)) (2)),.int .i64 ((a6:Int)-1),.int .i64 ((aO:Int)-1),.str []]
abbrev Bq(aj:Nat)(a6:Nat)(aO:Nat):o:=o.agg [.int .i8 3,.int .i32 3,.int .u8 (bD .i64 (bx .i64 (aj:Int) (28)) (2)),.int .i64 ((a6:Int)-1),.int .i64 ((aO:Int)-1),.str []]
abbrev G5(aj:Nat)(a6:Nat)(aO:Nat):o:=o.agg [.int .i8 3,.int .i32 4,.int .u8 (bD .i64 (bx .i64 (aj:Int) (28)) (2)),.int .i64 ((a6:Int)-1),.int .i64 ((aO:Int)-1),.str []]
abbrev G6(aj:Nat)(a6:Nat)(aO:Nat):o:=o.agg [.int .i8 3,.int .i32 5,.int .u8 (bD .i64 (bx .i64 (aj:Int) (28)) (2)),.int .i64 ((a6:Int)-1),.int .i64 ((aO:Int)-1),.str []]
abbrev G7(aj:Nat)(a6:Nat)(aO:Nat):o:=o.agg [.int .i8 3,.int .i32 6,.int .u8 (bD .i64 (bx .i64 (aj:Int) (28)) (2)),.int .i64 ((a6:Int)-1),.int .i64 ((aO:Int)-1),.str []]
abbrev Br(aj:Nat)(a6:Nat)(aO:Nat):o:=o.agg [.int .i8 3,.int .i32 (dP .i64 (aj:Int) (28)),.int .u8 (bD .i64 (bx .i64 (aj:Int) (28)) (2)),.int .i64 ((a6:Int)-1),.int .i64 ((aO:Int)-1),.str []]
abbrev eF:o:=o.tuple [da,.bool false]
abbrev gN:R:=(R.made ([da]) 6 true (some (42,6)))
abbrev Ok(aj:Nat)(a6:Nat)(aO:Nat):o:=o.tuple [(G5 aj a6 aO),.bool true]
abbrev Ol(aj:Nat)(a6:Nat)(aO:Nat):o:=o.tuple [(G6 aj a6 aO),.bool true]
abbrev G8(aj:Nat)(a6:Nat)(aO:Nat):R:=(R.made ([(Oj aj a6 aO)]) 6 true (some (42,6)))
abbrev G9(aj:Nat)(a6:Nat)(aO:Nat):R:=(R.made ([(G5 aj a6 aO)]) 6 true (some (42,6)))
abbrev G'(aj:Nat)(a6:Nat)(aO:Nat):R:=(R.made ([(G6 aj a6 aO)]) 6 true (some (42,6)))
abbrev Ha(aj:Nat)(a6:Nat)(aO:Nat):R:=(R.made ([(G7 aj a6 aO)]) 6 true (some (42,6)))
abbrev rS:dk:=(.aK 14001 (.aK 14004 (.aK 14008 .nil G4) G4) G4)
abbrev Om(aj:Nat)(a6:Nat)(aO:Nat):j:=(j.ar 90 [(0,(R.made ([(Br aj a6 aO)]) 6 true (some (42,6)))),(16,(qt aj a6 aO)),(48,(R.made ([(Br aj a6 aO)]) 6 true (some (42,6))))])
abbrev x9(aj:Nat)(a6:Nat)(aO:Nat):j:=(j.ar 72 [(0,gN),(16,(qt aj a6 aO)),(48,(G8 aj a6 aO))])
abbrev Bs(aj:Nat)(a6:Nat)(aO:Nat):j:=(j.ar 111 [(0,gN),(16,(qt aj a6 aO)),(48,(G8 aj a6 aO))])
abbrev On(aj:Nat)(a6:Nat)(aO:Nat):j:=(j.ar 99 [(0,(Ha aj a6 aO)),(16,(qt aj a6 aO)),(48,(Ha aj a6 aO))])
abbrev Oo(aj:Nat)(a6:Nat)(aO:Nat):j:=(j.ar 106 [(0,(G9 aj a6 aO)),(16,(qt aj a6 aO)),(48,(G9 aj a6 aO))])
abbrev Oq(aj:Nat)(a6:Nat)(aO:Nat):j:=(j.ar 113 [(0,(G' aj a6 aO)),(16,(qt aj a6 aO)),(48,(G' aj a6 aO))])
abbrev Hb(aj:Nat)(a6:Nat)(aO:Nat)(U:o→j→Prop):Prop:=(dP .i64 (aj:Int) (28)≤2→(-2147483648≤dP .i64 (aj:Int) (28)∧dP .i64 (aj:Int) (28)≤2147483647)∧U (.tuple [(Br aj a6 aO),.bool true]) (Om aj a6 aO))
abbrev Hc(aj:Nat)(a6:Nat)(aO:Nat)(U:o→j→Prop):Prop:=(¬dP .i64 (aj:Int) (28)=65→U (eF) (Bs aj a6 aO))
abbrev mn(aj:Nat)(a6:Nat)(aO:Nat)(U:o→j→Prop):Prop:=(dP .i64 (aj:Int) (28)=64→U ((Ok aj a6 aO)) (Oo aj a6 aO))
abbrev Hd(aj:Nat)(a6:Nat)(aO:Nat)(U:o→j→Prop):Prop:=(dP .i64 (aj:Int) (28)=65→U ((Ol aj a6 aO)) (Oq aj a6 aO))
abbrev x'(aj:Nat)(a6:Nat)(aO:Nat)(U:o→j→Prop):Prop:=(dP .i64 (aj:Int) (28)≤35→U (.tuple [(G7 aj a6 aO),.bool true]) (On aj a6 aO))
abbrev mo(c:Int)(aj:Nat)(a6:Nat)(aO:Nat)(U:o→j→Prop):Prop:=(¬c=77→(c=77→(Hd aj a6 aO U)∧(Hc aj a6 aO U))∧(¬c=77→U (eF) (Bs aj a6 aO)))
abbrev mq(c:Int)(aj:Nat)(a6:Nat)(aO:Nat)(U:o→j→Prop):Prop:=(¬dP .i64 (aj:Int) (28)=64→(c=77→(Hd aj a6 aO U)∧(Hc aj a6 aO U))∧(¬c=77→U (eF) (Bs aj a6 aO)))
theorem Y8(w:Bytes)(c:Int)(aj a6 aO:Nat)(U:o→j→Prop)(aY: [(60:UInt8)]=[(60:UInt8)]∧List.head? w=some (60:UInt8)∧((List.head? w == some 60)=true→numbers (List.drop 1 w)=some [aj,a6,aO]∧List.length (List.drop 1 w)<100∧True∧True∧Int.NonNeg (2-0)∧(0≤bD .i64 (bx .i64 (aj:Int) (28)) (2)∧bD .i64 (bx .i64 (aj:Int) (28)) (2)≤255)∧(-9223372036854775808≤(a6:Int)-1∧(a6:Int)-1≤9223372036854775807)∧(-9223372036854775808≤(aO:Int)-1∧(aO:Int)-1≤9223372036854775807)∧((a6:Int)-1<0→U (eF) (x9 aj a6 aO))∧(¬(a6:Int)-1<0→(4096≤(a6:Int)-1→U (eF) (x9 aj a6 aO))∧(¬4096≤(a6:Int)-1→((aO:Int)-1<0→U (eF) (x9 aj a6 aO))∧(¬(aO:Int)-1<0→(4096≤(aO:Int)-1→U (eF) (x9 aj a6 aO))∧(¬4096≤(aO:Int)-1→(c=109→(dP .i64 (aj:Int) (28)≤3→U (.tuple [(Bq aj a6 aO),.bool true]) (j.ar 81 [(0,(R.made ([(Bq aj a6 aO)]) 6 true (some (42,6)))),(16,(qt aj a6 aO)),(48,(R.made ([(Bq aj a6 aO)]) 6 true (some (42,6))))]))∧(¬dP .i64 (aj:Int) (28)≤3→(c=77→(Hb aj a6 aO U)∧(¬dP .i64 (aj:Int) (28)≤2→(c=77→(32≤dP .i64 (aj:Int) (28)→(x' aj a6 aO U)∧(¬dP .i64 (aj:Int) (28)≤35→(c=77→(mn aj a6 aO U)∧(mq c aj a6 aO U))∧(mo c aj a6 aO U)))∧(¬32≤dP .i64 (aj:Int) (28)→(c=77→(mn aj a6 aO U)∧(mq c aj a6 aO U))∧(mo c aj a6 aO U)))∧(¬c=77→(c=77→(mn aj a6 aO U)∧(mq c aj a6 aO U))∧(mo c aj a6 aO U))))∧(¬c=77→(c=77→(32≤dP .i64 (aj:Int) (28)→(x' aj a6 aO U)∧(¬dP .i64 (aj:Int) (28)≤35→(c=77→(mn aj a6 aO U)∧(mq c aj a6 aO U))∧(mo c aj a6 aO U)))∧(¬32≤dP .i64 (aj:Int) (28)→(c=77→(mn aj a6 aO U)∧(mq c aj a6 aO U))∧(mo c aj a6 aO U)))∧(¬c=77→(c=77→(mn aj a6 aO U)∧(mq c aj a6 aO U))∧(mo c aj a6 aO U)))))∧(¬c=109→(c=77→(Hb aj a6 aO U)∧(¬dP .i64 (aj:Int) (28)≤2→(c=77→(32≤dP .i64 (aj:Int) (28)→(x' aj a6 aO U)∧(¬dP .i64 (aj:Int) (28)≤35→(c=77→(mn aj a6 aO U)∧(mq c aj a6 aO U))∧(mo c aj a6 aO U)))∧(¬32≤dP .i64 (aj:Int) (28)→(c=77→(mn aj a6 aO U)∧(mq c aj a6 aO U))∧(mo c aj a6 aO U)))∧(¬c=77→(c=77→(mn aj a6 aO U)∧(mq c aj a6 aO U))∧(mo c aj a6 aO U))))∧(¬c=77→(c=77→(32≤dP .i64 (aj:Int) (28)→(x' aj a6 aO U)∧(¬dP .i64 (aj:Int) (28)≤35→(c=77→(mn aj a6 aO U)∧(mq c aj a6 aO U))∧(mo c aj a6 aO U)))∧(¬32≤dP .i64 (aj:Int) (28)→(c=77→(mn aj a6 aO U)∧(mq c aj a6 aO U))∧(mo c aj a6 aO U)))∧(¬c=77→(c=77→(mn aj a6 aO U)∧(mq c aj a6 aO U))∧(mo c aj a6 aO U)))))))))∧((List.head? w == some 60)=false→numbers (List.drop 1 w)=some [aj,a6,aO]∧List.length (List.drop 1 w)<100∧U (eF) (j.ar 31 [(0,gN),(16,(qt aj a6 aO))]))) :
 ∃v p,aI Tryz.prog aw 147 [.str w,.int .u8 c] (⟨0,.nil⟩) v p∧U v p :=
 cb bQ mixed (Y0 aj a6 aO) (an:= .aK 1004 (ag 5003 (ag 6003 (ag 6004 (ag 6005 (ag 6009 (ag 6013 (.aK 8002 .nil (.aK 8006 .nil (.aK 8011 .nil (.aK 8016 .nil (.aK 10001 (.aK 10004 .nil (.aK 12001 (.aK 12004 (ag 13001 .nil) rS) rS)) (.aK 12001 (.aK 12004 (ag 13001 .nil) rS) rS)))))))))))) .nil) (by kernel_rfl) aY
theorem Y9(w:Bytes)(c:Int)(U:o→j→Prop)(aY: [(60:UInt8)]=[(60:UInt8)]∧List.head? w=some (60:UInt8)∧((List.head? w == some 60)=true→numbers (List.drop 1 w)=some []∧List.length (List.drop 1 w)<100∧U (eF) (j.ar 30 [(0,gN)]))∧((List.head? w == some 60)=false→numbers (List.drop 1 w)=some []∧List.length (List.drop 1 w)<100∧U (eF) (j.ar 30 [(0,gN)]))) :
 ∃v p,aI Tryz.prog aw 147 [.str w,.int .u8 c] (⟨0,.nil⟩) v p∧U v p :=
 cb bQ mixed YX (an:= .aK 1004 .nil .nil) (by kernel_rfl) aY
abbrev hF(l:List Nat):R:=⟨bM l,1,false,false,List.length l-1,0,jU (List.length l),some (3,0)⟩
abbrev Y'(l:List Nat):o:=o.agg [.int .i8 3,.int .i32 0,.int .u8 (bD .i64 (bx .i64 (a' (bM l) 0) (28)) (2)),.int .i64 (a' (bM l) 1-1),.int .i64 (a' (bM l) 2-1),.str []]
abbrev He(l:List Nat):o:=o.agg [.int .i8 3,.int .i32 3,.int .u8 (bD .i64 (bx .i64 (a' (bM l) 0) (28)) (2)),.int .i64 (a' (bM l) 1-1),.int .i64 (a' (bM l) 2-1),.str []]
abbrev Ot(l:List Nat):o:=o.agg [.int .i8 3,.int .i32 4,.int .u8 (bD .i64 (bx .i64 (a' (bM l) 0) (28)) (2)),.int .i64 (a' (bM l) 1-1),.int .i64 (a' (bM l) 2-1),.str []]
abbrev Ou(l:List Nat):o:=o.agg [.int .i8 3,.int .i32 5,.int .u8 (bD .i64 (bx .i64 (a' (bM l) 0) (28)) (2)),.int .i64 (a' (bM l) 1-1),.int .i64 (a' (bM l) 2-1),.str []]
abbrev Ov(l:List Nat):o:=o.agg [.int .i8 3,.int .i32 6,.int .u8 (bD .i64 (bx .i64 (a' (bM l) 0) (28)) (2)),.int .i64 (a' (bM l) 1-1),.int .i64 (a' (bM l) 2-1),.str []]
abbrev Ow(l:List Nat):o:=o.agg [.int .i8 3,.int .i32 (dP .i64 (a' (bM l) 0) (28)),.int .u8 (bD .i64 (bx .i64 (a' (bM l) 0) (28)) (2)),.int .i64 (a' (bM l) 1-1),.int .i64 (a' (bM l) 2-1),.str []]
abbrev Za(l:List Nat):o:=o.tuple [(Ot l),.bool true]
abbrev Zb(l:List Nat):o:=o.tuple [(Ou l),.bool true]
abbrev Ox(l:List Nat):R:=(R.made ([(Y' l)]) 6 true (some (42,6)))
abbrev Oy(l:List Nat):R:=(R.made ([(Ot l)]) 6 true (some (42,6)))
abbrev Oz(l:List Nat):R:=(R.made ([(Ou l)]) 6 true (some (42,6)))
abbrev OA(l:List Nat):R:=(R.made ([(Ov l)]) 6 true (some (42,6)))
abbrev OB(l:List Nat):R:=(R.made ([(Ow l)]) 6 true (some (42,6)))
abbrev Bt(l:List Nat):j:=(j.ar 72 [(0,gN),(16,(hF l)),(48,(Ox l))])
abbrev Hf(l:List Nat):j:=(j.ar 111 [(0,gN),(16,(hF l)),(48,(Ox l))])
abbrev Zc(l:List Nat):j:=(j.ar 99 [(0,(OA l)),(16,(hF l)),(48,(OA l))])
abbrev Zd(l:List Nat):j:=(j.ar 106 [(0,(Oy l)),(16,(hF l)),(48,(Oy l))])
abbrev Ze(l:List Nat):j:=(j.ar 113 [(0,(Oz l)),(16,(hF l)),(48,(Oz l))])
abbrev OC(l:List Nat)(U:o→j→Prop):Prop:=(dP .i64 (a' (bM l) 0) (28)≤2→(-2147483648≤dP .i64 (a' (bM l) 0) (28)∧dP .i64 (a' (bM l) 0) (28)≤2147483647)∧U (.tuple [(Ow l),.bool true]) (j.ar 90 [(0,(OB l)),(16,(hF l)),(48,(OB l))]))
abbrev OD(l:List Nat)(U:o→j→Prop):Prop:=(¬dP .i64 (a' (bM l) 0) (28)=65→U (eF) (Hf l))
abbrev nn(l:List Nat)(U:o→j→Prop):Prop:=(dP .i64 (a' (bM l) 0) (28)=64→U ((Za l)) (Zd l))
abbrev OE(l:List Nat)(U:o→j→Prop):Prop:=(dP .i64 (a' (bM l) 0) (28)=65→U ((Zb l)) (Ze l))
abbrev Bu(l:List Nat)(U:o→j→Prop):Prop:=(dP .i64 (a' (bM l) 0) (28)≤35→U (.tuple [(Ov l),.bool true]) (Zc l))
abbrev np(c:Int)(l:List Nat)(U:o→j→Prop):Prop:=(¬c=77→(c=77→(OE l U)∧(OD l U))∧(¬c=77→U (eF) (Hf l)))
abbrev nq(c:Int)(l:List Nat)(U:o→j→Prop):Prop:=(¬dP .i64 (a' (bM l) 0) (28)=64→(c=77→(OE l U)∧(OD l U))∧(¬c=77→U (eF) (Hf l)))
theorem Hg(w:Bytes)(c:Int)(l:List Nat)(U:o→j→Prop)(aY: [(60:UInt8)]=[(60:UInt8)]∧List.head? w=some (60:UInt8)∧((List.head? w == some 60)=true→numbers (List.drop 1 w)=some l∧(l=[]→False)∧List.length (List.drop 1 w)<100∧((↑(List.length l):Int)=3→((0:Int)≤0∧0<(↑(List.length l):Int))∧List.length l-1=List.length l-1∧(bM l)[0]? =some (.int .i64 (a' (bM l) 0))∧True∧((0:Int)≤0∧0<(↑(List.length l):Int))∧List.length l-1=List.length l-1∧(bM l)[0]? =some (.int .i64 (a' (bM l) 0))∧True∧Int.NonNeg (2-0)∧(0≤bD .i64 (bx .i64 (a' (bM l) 0) (28)) (2)∧bD .i64 (bx .i64 (a' (bM l) 0) (28)) (2)≤255)∧((0:Int)≤1∧1<(↑(List.length l):Int))∧List.length l-1=List.length l-1∧(bM l)[1]? =some (.int .i64 (a' (bM l) 1))∧(-9223372036854775808≤a' (bM l) 1-1∧a' (bM l) 1-1≤9223372036854775807)∧((0:Int)≤2∧2<(↑(List.length l):Int))∧List.length l-1=List.length l-1∧(bM l)[2]? =some (.int .i64 (a' (bM l) 2))∧(-9223372036854775808≤a' (bM l) 2-1∧a' (bM l) 2-1≤9223372036854775807)∧(a' (bM l) 1-1<0→U (eF) (Bt l))∧(¬a' (bM l) 1-1<0→(4096≤a' (bM l) 1-1→U (eF) (Bt l))∧(¬4096≤a' (bM l) 1-1→(a' (bM l) 2-1<0→U (eF) (Bt l))∧(¬a' (bM l) 2-1<0→(4096≤a' (bM l) 2-1→U (eF) (Bt l))∧(¬4096≤a' (bM l) 2-1→(c=109→(dP .i64 (a' (bM l) 0) (28)≤3→U (.tuple [(He l),.bool true]) (j.ar 81 [(0,(R.made ([(He l)]) 6 true (some (42,6)))),(16,(hF l)),(48,(R.made ([(He l)]) 6 true (some (42,6))))]))∧(¬dP .i64 (a' (bM l) 0) (28)≤3→(c=77→(OC l U)∧(¬dP .i64 (a' (bM l) 0) (28)≤2→(c=77→(32≤dP .i64 (a' (bM l) 0) (28)→(Bu l U)∧(¬dP .i64 (a' (bM l) 0) (28)≤35→(c=77→(nn l U)∧(nq c l U))∧(np c l U)))∧(¬32≤dP .i64 (a' (bM l) 0) (28)→(c=77→(nn l U)∧(nq c l U))∧(np c l U)))∧(¬c=77→(c=77→(nn l U)∧(nq c l U))∧(np c l U))))∧(¬c=77→(c=77→(32≤dP .i64 (a' (bM l) 0) (28)→(Bu l U)∧(¬dP .i64 (a' (bM l) 0) (28)≤35→(c=77→(nn l U)∧(nq c l U))∧(np c l U)))∧(¬32≤dP .i64 (a' (bM l) 0) (28)→(c=77→(nn l U)∧(nq c l U))∧(np c l U)))∧(¬c=77→(c=77→(nn l U)∧(nq c l U))∧(np c l U)))))∧(¬c=109→(c=77→(OC l U)∧(¬dP .i64 (a' (bM l) 0) (28)≤2→(c=77→(32≤dP .i64 (a' (bM l) 0) (28)→(Bu l U)∧(¬dP .i64 (a' (bM l) 0) (28)≤35→(c=77→(nn l U)∧(nq c l U))∧(np c l U)))∧(¬32≤dP .i64 (a' (bM l) 0) (28)→(c=77→(nn l U)∧(nq c l U))∧(np c l U)))∧(¬c=77→(c=77→(nn l U)∧(nq c l U))∧(np c l U))))∧(¬c=77→(c=77→(32≤dP .i64 (a' (bM l) 0) (28)→(Bu l U)∧(¬dP .i64 (a' (bM l) 0) (28)≤35→(c=77→(nn l U)∧(nq c l U))∧(np c l U)))∧(¬32≤dP .i64 (a' (bM l) 0) (28)→(c=77→(nn l U)∧(nq c l U))∧(np c l U)))∧(¬c=77→(c=77→(nn l U)∧(nq c l U))∧(np c l U)))))))))∧(¬(↑(List.length l):Int)=3→U (eF) (j.ar 31 [(0,gN),(16,(hF l))])))∧((List.head? w == some 60)=false→numbers (List.drop 1 w)=some l∧(l=[]→False)∧List.length (List.drop 1 w)<100∧U (eF) (j.ar 31 [(0,gN),(16,(hF l))]))) :
 ∃v p,aI Tryz.prog aw 147 [.str w,.int .u8 c] (⟨0,.nil⟩) v p∧U v p :=
 cb bQ mixed (YY l) (an:= .aK 1004 (.aK 3009 (ag 5001 (ag 5002 (ag 5003 (ag 6001 (ag 6002 (ag 6003 (ag 6004 (ag 6005 (ag 6007 (ag 6008 (ag 6009 (ag 6011 (ag 6012 (ag 6013 (.aK 8002 .nil (.aK 8006 .nil (.aK 8011 .nil (.aK 8016 .nil (.aK 10001 (.aK 10004 .nil (.aK 12001 (.aK 12004 (ag 13001 .nil) rS) rS)) (.aK 12001 (.aK 12004 (ag 13001 .nil) rS) rS)))))))))))))))))))) .nil) .nil) (by kernel_rfl) aY
theorem Zf(w:Bytes)(c:Int)(U:o→j→Prop)(aY: [(60:UInt8)]=[(60:UInt8)]∧(List.head? w=some (60:UInt8)→False)∧numbers w=none∧List.length w<100∧U (eF) (j.ar 30 [(0,gN)])) :
 ∃v p,aI Tryz.prog aw 147 [.str w,.int .u8 c] (⟨0,.nil⟩) v p∧U v p :=
 cb bQ mixed Y4 (an:= .nil) (by kernel_rfl) aY
theorem Zg(w:Bytes)(c:Int)(U:o→j→Prop)(aY: [(60:UInt8)]=[(60:UInt8)]∧(List.head? w=some (60:UInt8)→False)∧numbers w=some []∧List.length w<100∧U (eF) (j.ar 30 [(0,gN)])) :
 ∃v p,aI Tryz.prog aw 147 [.str w,.int .u8 c] (⟨0,.nil⟩) v p∧U v p :=
 cb bQ mixed Y5 (an:= .nil) (by kernel_rfl) aY
theorem Zh(w:Bytes)(c:Int)(l:List Nat)(U:o→j→Prop)(aY: [(60:UInt8)]=[(60:UInt8)]∧(List.head? w=some (60:UInt8)→False)∧numbers w=some l∧(l=[]→False)∧List.length w<100∧U (eF) (j.ar 31 [(0,gN),(16,(hF l))])) :
 ∃v p,aI Tryz.prog aw 147 [.str w,.int .u8 c] (⟨0,.nil⟩) v p∧U v p :=
 cb bQ mixed (Y6 l) (an:= .nil) (by kernel_rfl) aY
theorem Zi(n:Nat):n &&& 28=4* (n/4%8):=by
 have h:∀r:Fin 32,(r.val &&& 28)=4* (r.val/4%8):=by decide
 have e:n &&& 28=(n%32) &&& 28:=by rw [show n%32=n &&& 31 from(Nat.and_two_pow_sub_one_eq_mod n 5).symm,Nat.and_assoc];rfl
 have ad:n%32 &&& 28=4* (n%32/4%8):=h ⟨n%32,Nat.mod_lt _ (by decide)⟩;rw [e,ad];omega
theorem Zj(n:Nat)(h:n<2^62):n &&& (2^64-29)=n-4* (n/4%8):=by
 have bn:(n &&& (2^64-29))/2^5=n/2^5:=by rw [Nat.and_div_two_pow,show(2^64-29)/2^5=2^59-1 by decide,Nat.and_two_pow_sub_one_eq_mod];exact Nat.mod_eq_of_lt (by omega)
 have bs:(n &&& (2^64-29))%2^5=n%4:=by rw [Nat.and_mod_two_pow,show(2^64-29)%2^5=2^2-1 by decide,Nat.and_two_pow_sub_one_eq_mod];omega
 omega
theorem Zk(n:Nat)(h:n<2^30):bx .i64 (n:Int) 28=(4* (n/4%8):Nat):=by
 unfold bx;rw [BitVec.toNat_and]
 have a:(BitVec.ofInt IntKind.i64.bits (n:Int)).toNat=n:=by show(BitVec.ofInt 64 (n:Int)).toNat=n;rw [BitVec.toNat_ofInt];omega
 have b:(BitVec.ofInt IntKind.i64.bits 28).toNat=28:=by decide
 rw [a,b,Zi];have:4* (n/4%8)<32:=by omega
 generalize 4* (n/4%8)=k at this;have w:∀k:Fin 32,IntKind.i64.wrap (k.val:Int)=k.val:=by decide
 exact w ⟨k,this⟩
theorem Zl(n:Nat)(h:n<2^30):dP .i64 (n:Int) 28=(n-4* (n/4%8):Nat):=by
 unfold dP;rw [BitVec.toNat_and]
 have a:(BitVec.ofInt IntKind.i64.bits (n:Int)).toNat=n:=by show(BitVec.ofInt 64 (n:Int)).toNat=n;rw [BitVec.toNat_ofInt];omega
 have b:(~~~(BitVec.ofInt IntKind.i64.bits 28)).toNat=2^64-29:=by decide
 rw [a,b,Zj n (by omega)];generalize ap:n-4* (n/4%8)=k;have:k<2^30:=by omega
 exact Dt (by omega) (by omega) rfl
theorem Zm(k:Nat):bD .i64 ((4*k:Nat):Int) 2=k:=by unfold bD;show Int.fdiv ((4*k:Nat):Int) 4=k;rw [Int.fdiv_eq_ediv_of_nonneg _ (by decide)];omega
set_option maxHeartbeats 8000000
def Hh(held b a6 aO c:Nat):Option bj :=
 if a6<1∨4096<a6∨aO<1∨4096<aO then none
 else if c=109∧b≤3 then some {kind:=3,code:=3,dW:=held,x:=(a6:Int)-1,y:=(aO:Int)-1}
 else if c=77∧b≤2 then some {kind:=3,code:=b,dW:=held,x:=(a6:Int)-1,y:=(aO:Int)-1}
 else if c=77∧32≤b∧b≤35 then some {kind:=3,code:=6,dW:=held,x:=(a6:Int)-1,y:=(aO:Int)-1}
 else if c=77∧b=64 then some {kind:=3,code:=4,dW:=held,x:=(a6:Int)-1,y:=(aO:Int)-1}
 else if c=77∧b=65 then some {kind:=3,code:=5,dW:=held,x:=(a6:Int)-1,y:=(aO:Int)-1}
 else none
theorem Zn{rest:Bytes}{aj a6 aO c:Nat}(h:Keys.numbers rest=some [aj,a6,aO]):Keys.e9 (60::rest) c=Hh (aj/4%8) (aj-4* (aj/4%8)) a6 aO c:=by simp only [Keys.e9,h,Hh]
theorem Zo{rest:Bytes}{aj a6 aO c:Nat}(h:Keys.numbers rest=some [aj,a6,aO])(az:rest.length<100)(bm:aj<2^30)(p:a6<2^30)(ad:aO<2^30)(H:j):aI Tryz.prog aw 147 [.str (60::rest),.int .u8 c] H (hl (Keys.e9 (60::rest) c)) H:=by
 refine aI.fm (Y8 (60::rest) c aj a6 aO (fun v _=>v=hl (Keys.e9 (60::rest) c)) ?_) rfl rfl H
 delta qt gN da eF mo Bs G8 Oj Hc Hd Oq G' G6 Ol mq mn Oo G9 G5 Ok x' On Ha G7 Hb Om Br Bq x9
 rw [Zn h,Zk aj bm,Zl aj bm,Zm];have bW:aj/4%8<8:=by omega
 have au:aj-4* (aj/4%8)<2^30:=by omega
 generalize aj/4%8=held at bW au⊢;generalize aj-4*held=b at au⊢;refine⟨rfl,rfl,fun _=>⟨h,az,?_⟩,fun e=>by cases e⟩
 repeat' (first|exact True.intro|apply And.intro|intro _)
 all_goals first
  |omega
  |decide
  |exact(show(0:Int)≤2 by decide)
  |(unfold Hh;(repeat' split)<;>first|rfl|(exfalso;omega))
end Go.Proofs.YtddnafghiejcoaaGreatDoor
namespace Go.Keys
theorem OF{w:Bytes}{l:List Nat}(h:numbers w=some l):∀n∈l,n<1000000000:=by
 unfold numbers at h;split at h
 ·simp only [Option.some.injEq]at h;subst h;intro n aS;cases aS
 ·exact NT h
theorem Zp{w:Bytes}{c:Nat}(h:w.head? ≠some 60):e9 w c=none:=by
 unfold e9;split
 ·simp at h
 ·rfl
theorem Zq{r:Bytes}{c:Nat}(h:numbers r=none):e9 (60::r) c=none:=by simp only [e9,h]
theorem Bv{r:Bytes}{c:Nat}{l:List Nat}(h:numbers r=some l)(az:l.length≠3):e9 (60::r) c=none:=by
 simp only [e9,h];split
 ·rename_i At;simp only [Option.some.injEq]at At;subst At;simp at az
 ·rfl
end Go.Keys
namespace Go.Proofs.YtddnafghiejcoaaGreatDoor
open Go.cM Go.Keys
set_option maxRecDepth 1000000
theorem Zr(w:Bytes)(c:Nat)(hw:w.length<100)(H:j):aI Tryz.prog aw 147 [.str w,.int .u8 c] H (hl (Keys.e9 w c)) H:=by
 by_cases ti:w.head? =some 60
 ·cases w with
  |nil=>cases ti
  |cons b r =>
   simp only [List.head?_cons,Option.some.injEq]at ti;subst ti;have bb:r.length<100:=by simp only [List.length_cons]at hw;omega
   cases aS:Keys.numbers r with
   |none =>
    rw [Zq aS];exact aI.fm (Y7 (60::r) c (fun v _=>v=hl none) ⟨rfl,rfl,fun _=>⟨aS,bb,rfl⟩,fun e=>by cases e⟩) rfl rfl H
   |some l =>
    match l,aS with
    |[],aS =>
     rw [Bv aS (by simp)];exact aI.fm (Y9 (60::r) c (fun v _=>v=hl none) ⟨rfl,rfl,fun _=>⟨aS,bb,rfl⟩,fun e=>by cases e⟩) rfl rfl H
    |[a,b,d],aS =>
     have cQ:=OF aS;exact Zo aS bb (by have:=cQ a (by simp);omega) (by have:=cQ b (by simp);omega) (by have:=cQ d (by simp);omega) H
    |[a],aS =>
     rw [Bv aS (by simp)];exact aI.fm (Hg (60::r) c [a] (fun v _=>v=hl none) ⟨rfl,rfl,fun _=>⟨aS,by simp,bb,(fun h=>by simp only [List.length_cons,List.length_nil]at h;omega),fun _=>rfl⟩,fun e=>by cases e⟩) rfl rfl H
    |[a,b],aS =>
     rw [Bv aS (by simp)];exact aI.fm (Hg (60::r) c [a,b] (fun v _=>v=hl none) ⟨rfl,rfl,fun _=>⟨aS,by simp,bb,(fun h=>by simp only [List.length_cons,List.length_nil]at h;omega),fun _=>rfl⟩,fun e=>by cases e⟩) rfl rfl H
    |a::b::d::e::t,aS =>
     rw [Bv aS (by simp)];exact aI.fm (Hg (60::r) c (a::b::d::e::t) (fun v _=>v=hl none) ⟨rfl,rfl,fun _=>⟨aS,by simp,bb,(fun h=>by simp only [List.length_cons]at h;omega),fun _=>rfl⟩,fun e=>by cases e⟩) rfl rfl H
 ·rw [Zp ti];cases aS:Keys.numbers w with
  |none=>exact aI.fm (Zf w c (fun v _=>v=hl none) ⟨rfl,ti,aS,hw,rfl⟩) rfl rfl H
  |some l =>
   cases l with
   |nil=>exact aI.fm (Zg w c (fun v _=>v=hl none) ⟨rfl,ti,aS,hw,rfl⟩) rfl rfl H
   |cons a t=>exact aI.fm (Zh w c (a::t) (fun v _=>v=hl none) ⟨rfl,ti,aS,by simp,hw,rfl⟩) rfl rfl H
noncomputable def OG:List o→j→Option eC:=kA fun a=>match a with | [.str w,.int .u8 c]=>some (hl (Keys.e9 w c.toNat),[w.length<100,0≤c∧c≤255])|_=>none
theorem ya:∀args h a,OG args h=some a→a.dw Tryz.prog aw 147 args h:=by
 refine lE ?_;intro args v e5 e ac H;split at e<;>first|(cases e;done)|skip
 rename_i w c;simp only [Option.some.injEq,Prod.mk.injEq]at e;obtain⟨rfl,rfl⟩:=e;have bm:=ac.tail.head.1;have:=Zr w c.toNat ac.head H
 rwa [Int.toNat_of_nonneg bm]at this
noncomputable def OH:List o→j→Option eC:=kA fun a=>match a with | [.int .i64 n,.int .u8 m]=>some (hl (Keys.dM n.toNat m),[0≤n])|_=>none
theorem yb:∀args h a,OH args h=some a→a.dw Tryz.prog aw 149 args h:=by
 refine lE ?_;intro args v e5 e ac H;split at e<;>first|(cases e;done)|skip
 rename_i n m;simp only [Option.some.injEq,Prod.mk.injEq]at e;obtain⟨rfl,rfl⟩:=e;have bm:0≤n:=ac _ List.mem_cons_self;have:=X9 n.toNat m H
 rwa [Int.toNat_of_nonneg bm]at this
noncomputable def yc(num:List o→j→Option eC):fc:=((p4.add 147 OG).add 149 OH).add 148 num
noncomputable def Zs:fc:=yc Bm
noncomputable def Zt:fc:=yc Bn
noncomputable def Zu(a:Nat):fc:=yc (Oe a)
noncomputable def Zv(a b:Nat):fc:=yc (Of a b)
theorem Zw:eW Tryz.prog aw Zs:=((c8.add ya).add yb).add GZ
theorem Zx:eW Tryz.prog aw Zt:=((c8.add ya).add yb).add G0
theorem Zy(a:Nat):eW Tryz.prog aw (Zu a):=((c8.add ya).add yb).add (YS a)
theorem Zz(a b:Nat):eW Tryz.prog aw (Zv a b):=((c8.add ya).add yb).add (YT a b)
noncomputable def ZA(l:List Nat):fc:=yc (x8 l)
theorem ZB(l:List Nat):eW Tryz.prog aw (ZA l):=((c8.add ya).add yb).add (G1 l)
abbrev fW(w:Bytes)(c:Int):o:=o.agg [.int .i8 6,.int .i32 0,.int .u8 0,.int .i64 0,.int .i64 0,.str (w++[UInt8.ofNat (Int.toNat c)])]
abbrev hG(w:Bytes)(c:Int):o:=o.agg [.int .i8 (bj.kind (Option.getD (e9 w (Int.toNat c)) fp)),.int .i32 (bj.code (Option.getD (e9 w (Int.toNat c)) fp)),.int .u8 (bj.dW (Option.getD (e9 w (Int.toNat c)) fp)),.int .i64 (bj.x (Option.getD (e9 w (Int.toNat c)) fp)),.int .i64 (bj.y (Option.getD (e9 w (Int.toNat c)) fp)),.str (Option.getD (e9 w (Int.toNat c)) fp).6]
abbrev hR(w:Bytes)(c:Int):R:=(R.made ([(hG w c)]) 6 true (some (42,6)))
theorem ZC(w:Bytes)(c:Int)(U:o→j→Prop)(aY:(c=82→Nat.le (Nat.succ (List.length w+List.length [UInt8.ofNat (Int.toNat c)])) (2^62)∧U (.tuple [(fW w c),.bool true]) (j.ar 14 [(0,(R.made ([(fW w c)]) 6 true (some (42,6)))),(2,R.made [da] 6 true (some (42,6))),(8,R.made [.int .u8 c] 1 true)]))∧(¬c=82→(c=99→Nat.le (Nat.succ (List.length w+List.length [UInt8.ofNat (Int.toNat c)])) (2^62)∧U (.tuple [(fW w c),.bool true]) (j.ar 16 [(0,(R.made ([(fW w c)]) 6 true (some (42,6)))),(2,R.made [da] 6 true (some (42,6))),(10,R.made [.int .u8 c] 1 true)]))∧(¬c=99→(c=110→Nat.le (Nat.succ (List.length w+List.length [UInt8.ofNat (Int.toNat c)])) (2^62)∧U (.tuple [(fW w c),.bool true]) (j.ar 18 [(0,(R.made ([(fW w c)]) 6 true (some (42,6)))),(2,R.made [da] 6 true (some (42,6))),(12,R.made [.int .u8 c] 1 true)]))∧(¬c=110→(c=77→List.length w<100∧(0≤c∧c≤255)∧(Option.isSome (e9 w (Int.toNat c))=true→U (.tuple [(hG w c),.bool true]) (j.ar 19 [(0,(hR w c)),(2,R.made [da] 6 true (some (42,6)))]))∧(Option.isSome (e9 w (Int.toNat c))=false→U (.tuple [(hG w c),.bool false]) (j.ar 19 [(0,(hR w c)),(2,R.made [da] 6 true (some (42,6)))])))∧(¬c=77→(c=109→List.length w<100∧(0≤c∧c≤255)∧(Option.isSome (e9 w (Int.toNat c))=true→U (.tuple [(hG w c),.bool true]) (j.ar 21 [(0,(hR w c)),(2,R.made [da] 6 true (some (42,6)))]))∧(Option.isSome (e9 w (Int.toNat c))=false→U (.tuple [(hG w c),.bool false]) (j.ar 21 [(0,(hR w c)),(2,R.made [da] 6 true (some (42,6)))])))∧(¬c=109→numbers w=none∧List.length w<100∧U (eF) (j.ar 26 [(0,gN),(2,R.made [da] 6 true (some (42,6)))]))))))) :
 ∃v p,aI Tryz.prog aw 130 [.str w,.int .u8 c] (⟨0,.nil⟩) v p∧U v p :=
 cb bQ mixed Zw (an:= .aK 3000 (ag 6004 .nil) (.aK 4000 (ag 6004 .nil) (.aK 5000 (ag 6004 .nil) (.aK 7000 (.aK 9004 .nil .nil) (.aK 8000 (.aK 9004 .nil .nil) .nil))))) (by kernel_rfl) aY
abbrev vg:o:=o.agg [.int .i8 2,.int .i32 2,.int .u8 1,.int .i64 0,.int .i64 0,.str []]
abbrev qu:o:=o.agg [.int .i8 5,.int .i32 0,.int .u8 0,.int .i64 0,.int .i64 0,.str []]
abbrev tj:o:=o.agg [.int .i8 5,.int .i32 1,.int .u8 0,.int .i64 0,.int .i64 0,.str []]
theorem ZD(w:Bytes)(c:Int)(U:o→j→Prop)(aY:(c=82→Nat.le (Nat.succ (List.length w+List.length [UInt8.ofNat (Int.toNat c)])) (2^62)∧U (.tuple [(fW w c),.bool true]) (j.ar 14 [(0,(R.made ([(fW w c)]) 6 true (some (42,6)))),(2,R.made [da] 6 true (some (42,6))),(8,R.made [.int .u8 c] 1 true)]))∧(¬c=82→(c=99→Nat.le (Nat.succ (List.length w+List.length [UInt8.ofNat (Int.toNat c)])) (2^62)∧U (.tuple [(fW w c),.bool true]) (j.ar 16 [(0,(R.made ([(fW w c)]) 6 true (some (42,6)))),(2,R.made [da] 6 true (some (42,6))),(10,R.made [.int .u8 c] 1 true)]))∧(¬c=99→(c=110→Nat.le (Nat.succ (List.length w+List.length [UInt8.ofNat (Int.toNat c)])) (2^62)∧U (.tuple [(fW w c),.bool true]) (j.ar 18 [(0,(R.made ([(fW w c)]) 6 true (some (42,6)))),(2,R.made [da] 6 true (some (42,6))),(12,R.made [.int .u8 c] 1 true)]))∧(¬c=110→(c=77→List.length w<100∧(0≤c∧c≤255)∧(Option.isSome (e9 w (Int.toNat c))=true→U (.tuple [(hG w c),.bool true]) (j.ar 19 [(0,(hR w c)),(2,R.made [da] 6 true (some (42,6)))]))∧(Option.isSome (e9 w (Int.toNat c))=false→U (.tuple [(hG w c),.bool false]) (j.ar 19 [(0,(hR w c)),(2,R.made [da] 6 true (some (42,6)))])))∧(¬c=77→(c=109→List.length w<100∧(0≤c∧c≤255)∧(Option.isSome (e9 w (Int.toNat c))=true→U (.tuple [(hG w c),.bool true]) (j.ar 21 [(0,(hR w c)),(2,R.made [da] 6 true (some (42,6)))]))∧(Option.isSome (e9 w (Int.toNat c))=false→U (.tuple [(hG w c),.bool false]) (j.ar 21 [(0,(hR w c)),(2,R.made [da] 6 true (some (42,6)))])))∧(¬c=109→numbers w=some []∧List.length w<100∧(c=90→U (.tuple [vg,.bool true]) (j.ar 32 [(0,(R.made ([vg]) 6 true (some (42,6)))),(2,R.made [da] 6 true (some (42,6)))]))∧(¬c=90→(c=73→U (.tuple [tj,.bool true]) (j.ar 34 [(0,(R.made ([tj]) 6 true (some (42,6)))),(2,R.made [da] 6 true (some (42,6)))]))∧(¬c=73→(c=79→U (.tuple [qu,.bool true]) (j.ar 36 [(0,(R.made ([qu]) 6 true (some (42,6)))),(2,R.made [da] 6 true (some (42,6)))]))∧(¬c=79→(0<hi c→U (.tuple [(n9 c),.bool true]) (j.ar 42 [(0,(R.made ([(n9 c)]) 6 true (some (42,6)))),(2,R.made [da] 6 true (some (42,6)))]))∧(¬0<hi c→U (eF) (j.ar 41 [(0,gN),(2,R.made [da] 6 true (some (42,6)))]))))))))))) :
 ∃v p,aI Tryz.prog aw 130 [.str w,.int .u8 c] (⟨0,.nil⟩) v p∧U v p :=
 cb bQ mixed Zx (an:= .aK 3000 (ag 6004 .nil) (.aK 4000 (ag 6004 .nil) (.aK 5000 (ag 6004 .nil) (.aK 7000 (.aK 9004 .nil .nil) (.aK 8000 (.aK 9004 .nil .nil) (.aK 15000 .nil (.aK 17000 .nil (.aK 19000 .nil (.aK 22001 .nil .nil))))))))) (by kernel_rfl) aY
abbrev Bw(aj:Nat):R:=(R.made ([.int .i64 (aj:Int)]) 1 false (some (3,0)))
abbrev yd:dk:=(.aK 33001 (.aK 33007 .nil (.aK 35001 (.aK 36006 .nil .nil) .nil)) (.aK 35001 (.aK 36006 .nil .nil) .nil))
abbrev Hi(aj:Nat):o:=o.agg [.int .i8 2,.int .i32 (hO (aj:Int)),.int .u8 0,.int .i64 0,.int .i64 0,.str []]
abbrev Bx(aj:Nat):o:=o.agg [.int .i8 (bj.kind (Option.getD (dM aj 0) fp)),.int .i32 (bj.code (Option.getD (dM aj 0) fp)),.int .u8 (bj.dW (Option.getD (dM aj 0) fp)),.int .i64 (bj.x (Option.getD (dM aj 0) fp)),.int .i64 (bj.y (Option.getD (dM aj 0) fp)),.str (Option.getD (dM aj (0)) fp).6]
abbrev OI(aj:Nat):o:=o.tuple [(Bx aj),.bool true]
abbrev OJ(aj:Nat):o:=o.tuple [(Bx aj),.bool false]
abbrev OK(aj:Nat):R:=(R.made ([(Bx aj)]) 6 true (some (42,6)))
abbrev OL(aj:Nat):j:=(j.ar 79 [(0,(R.made ([(Hi aj)]) 6 true (some (42,6)))),(2,R.made [da] 6 true (some (42,6))),(21,(Bw aj))])
abbrev By(aj:Nat)(U:o→j→Prop):Prop:=(0<hO (aj:Int)→U (.tuple [(Hi aj),.bool true]) (OL aj))
abbrev Hj(aj:Nat):j:=(j.ar 77 [(0,gN),(2,R.made [da] 6 true (some (42,6))),(21,(Bw aj))])
abbrev Hk(aj:Nat):j:=(j.ar 83 [(0,(OK aj)),(2,R.made [da] 6 true (some (42,6))),(21,(Bw aj))])
abbrev Hl(aj:Nat)(U:o→j→Prop):Prop:=(Option.isSome (dM aj 0)=true→U ((OI aj)) (Hk aj))
abbrev Hm(aj:Nat)(U:o→j→Prop):Prop:=(Option.isSome (dM aj 0)=false→U ((OJ aj)) (Hk aj))
abbrev Bz(c:Int)(aj:Nat)(U:o→j→Prop):Prop:=(¬c=126→(c=117→0≤(aj:Int)∧(Hl aj U)∧(Hm aj U))∧(¬c=117→U (eF) (Hj aj)))
abbrev BA(c:Int)(aj:Nat)(U:o→j→Prop):Prop:=(¬0<hO (aj:Int)→(c=117→0≤(aj:Int)∧(Hl aj U)∧(Hm aj U))∧(¬c=117→U (eF) (Hj aj)))
theorem ZE(w:Bytes)(c:Int)(aj:Nat)(U:o→j→Prop)(aY:(c=82→Nat.le (Nat.succ (List.length w+List.length [UInt8.ofNat (Int.toNat c)])) (2^62)∧U (.tuple [(fW w c),.bool true]) (j.ar 14 [(0,(R.made ([(fW w c)]) 6 true (some (42,6)))),(2,R.made [da] 6 true (some (42,6))),(8,R.made [.int .u8 c] 1 true)]))∧(¬c=82→(c=99→Nat.le (Nat.succ (List.length w+List.length [UInt8.ofNat (Int.toNat c)])) (2^62)∧U (.tuple [(fW w c),.bool true]) (j.ar 16 [(0,(R.made ([(fW w c)]) 6 true (some (42,6)))),(2,R.made [da] 6 true (some (42,6))),(10,R.made [.int .u8 c] 1 true)]))∧(¬c=99→(c=110→Nat.le (Nat.succ (List.length w+List.length [UInt8.ofNat (Int.toNat c)])) (2^62)∧U (.tuple [(fW w c),.bool true]) (j.ar 18 [(0,(R.made ([(fW w c)]) 6 true (some (42,6)))),(2,R.made [da] 6 true (some (42,6))),(12,R.made [.int .u8 c] 1 true)]))∧(¬c=110→(c=77→List.length w<100∧(0≤c∧c≤255)∧(Option.isSome (e9 w (Int.toNat c))=true→U (.tuple [(hG w c),.bool true]) (j.ar 19 [(0,(hR w c)),(2,R.made [da] 6 true (some (42,6)))]))∧(Option.isSome (e9 w (Int.toNat c))=false→U (.tuple [(hG w c),.bool false]) (j.ar 19 [(0,(hR w c)),(2,R.made [da] 6 true (some (42,6)))])))∧(¬c=77→(c=109→List.length w<100∧(0≤c∧c≤255)∧(Option.isSome (e9 w (Int.toNat c))=true→U (.tuple [(hG w c),.bool true]) (j.ar 21 [(0,(hR w c)),(2,R.made [da] 6 true (some (42,6)))]))∧(Option.isSome (e9 w (Int.toNat c))=false→U (.tuple [(hG w c),.bool false]) (j.ar 21 [(0,(hR w c)),(2,R.made [da] 6 true (some (42,6)))])))∧(¬c=109→numbers w=some [aj]∧List.length w<100∧(0<hi c→((aj:Int)=1→(c=126→(By aj U)∧(BA c aj U))∧(Bz c aj U))∧(¬(aj:Int)=1→(c=126→(By aj U)∧(BA c aj U))∧(Bz c aj U)))∧(¬0<hi c→(c=126→(By aj U)∧(BA c aj U))∧(Bz c aj U)))))))) :
 ∃v p,aI Tryz.prog aw 130 [.str w,.int .u8 c] (⟨0,.nil⟩) v p∧U v p :=
 cb bQ mixed (Zy aj) (an:= .aK 3000 (ag 6004 .nil) (.aK 4000 (ag 6004 .nil) (.aK 5000 (ag 6004 .nil) (.aK 7000 (.aK 9004 .nil .nil) (.aK 8000 (.aK 9004 .nil .nil) (.aK 31002 (.aK 31007 yd yd) yd)))))) (by kernel_rfl) aY
abbrev Hn(c:Int)(a6:Nat):o:=o.agg [.int .i8 2,.int .i32 (hi c),.int .u8 ((a6:Int)-1),.int .i64 0,.int .i64 0,.str []]
abbrev tk(aj:Nat)(a6:Nat):R:=⟨[.int .i64 (aj:Int),.int .i64 (a6:Int)],1,false,false,1,0,1,some (3,0)⟩
abbrev Ho(aj:Nat)(a6:Nat):o:=o.agg [.int .i8 2,.int .i32 (hO (aj:Int)),.int .u8 ((a6:Int)-1),.int .i64 0,.int .i64 0,.str []]
abbrev BB(aj:Nat)(a6:Nat):o:=o.agg [.int .i8 (bj.kind (Option.getD (dM aj ((a6:Int)-1)) fp)),.int .i32 (bj.code (Option.getD (dM aj ((a6:Int)-1)) fp)),.int .u8 (bj.dW (Option.getD (dM aj ((a6:Int)-1)) fp)),.int .i64 (bj.x (Option.getD (dM aj ((a6:Int)-1)) fp)),.int .i64 (bj.y (Option.getD (dM aj ((a6:Int)-1)) fp)),.str (Option.getD (dM aj ((a6:Int)-1)) fp).6]
abbrev OM(aj:Nat)(a6:Nat):R:=(R.made ([(BB aj a6)]) 6 true (some (42,6)))
abbrev ON(aj:Nat)(a6:Nat):j:=(j.ar 83 [(0,(R.made ([(Ho aj a6)]) 6 true (some (42,6)))),(2,R.made [da] 6 true (some (42,6))),(21,(tk aj a6))])
abbrev BC(aj:Nat)(a6:Nat):j:=(j.ar 81 [(0,gN),(2,R.made [da] 6 true (some (42,6))),(21,(tk aj a6))])
abbrev Hp(aj:Nat)(a6:Nat):j:=(j.ar 87 [(0,(OM aj a6)),(2,R.made [da] 6 true (some (42,6))),(21,(tk aj a6))])
abbrev BD(aj:Nat)(a6:Nat)(U:o→j→Prop):Prop:=(Option.isSome (dM aj ((a6:Int)-1))=true→U (.tuple [(BB aj a6),.bool true]) (Hp aj a6))
abbrev BE(aj:Nat)(a6:Nat)(U:o→j→Prop):Prop:=(Option.isSome (dM aj ((a6:Int)-1))=false→U (.tuple [(BB aj a6),.bool false]) (Hp aj a6))
abbrev Hq(c:Int)(aj:Nat)(a6:Nat)(U:o→j→Prop):Prop:=(c=126→(0<hO (aj:Int)→U (.tuple [(Ho aj a6),.bool true]) (ON aj a6))∧(¬0<hO (aj:Int)→(c=117→0≤(aj:Int)∧(BD aj a6 U)∧(BE aj a6 U))∧(¬c=117→U (eF) (BC aj a6))))
theorem ZF(w:Bytes)(c:Int)(aj a6:Nat)(U:o→j→Prop)(aY:(c=82→Nat.le (Nat.succ (List.length w+List.length [UInt8.ofNat (Int.toNat c)])) (2^62)∧U (.tuple [(fW w c),.bool true]) (j.ar 14 [(0,(R.made ([(fW w c)]) 6 true (some (42,6)))),(2,R.made [da] 6 true (some (42,6))),(8,R.made [.int .u8 c] 1 true)]))∧(¬c=82→(c=99→Nat.le (Nat.succ (List.length w+List.length [UInt8.ofNat (Int.toNat c)])) (2^62)∧U (.tuple [(fW w c),.bool true]) (j.ar 16 [(0,(R.made ([(fW w c)]) 6 true (some (42,6)))),(2,R.made [da] 6 true (some (42,6))),(10,R.made [.int .u8 c] 1 true)]))∧(¬c=99→(c=110→Nat.le (Nat.succ (List.length w+List.length [UInt8.ofNat (Int.toNat c)])) (2^62)∧U (.tuple [(fW w c),.bool true]) (j.ar 18 [(0,(R.made ([(fW w c)]) 6 true (some (42,6)))),(2,R.made [da] 6 true (some (42,6))),(12,R.made [.int .u8 c] 1 true)]))∧(¬c=110→(c=77→List.length w<100∧(0≤c∧c≤255)∧(Option.isSome (e9 w (Int.toNat c))=true→U (.tuple [(hG w c),.bool true]) (j.ar 19 [(0,(hR w c)),(2,R.made [da] 6 true (some (42,6)))]))∧(Option.isSome (e9 w (Int.toNat c))=false→U (.tuple [(hG w c),.bool false]) (j.ar 19 [(0,(hR w c)),(2,R.made [da] 6 true (some (42,6)))])))∧(¬c=77→(c=109→List.length w<100∧(0≤c∧c≤255)∧(Option.isSome (e9 w (Int.toNat c))=true→U (.tuple [(hG w c),.bool true]) (j.ar 21 [(0,(hR w c)),(2,R.made [da] 6 true (some (42,6)))]))∧(Option.isSome (e9 w (Int.toNat c))=false→U (.tuple [(hG w c),.bool false]) (j.ar 21 [(0,(hR w c)),(2,R.made [da] 6 true (some (42,6)))])))∧(¬c=109→numbers w=some [aj,a6]∧List.length w<100∧((a6:Int)<1→U (eF) (j.ar 49 [(0,gN),(2,R.made [da] 6 true (some (42,6))),(21,(tk aj a6))]))∧(¬(a6:Int)<1→(8<(a6:Int)→U (eF) (j.ar 49 [(0,gN),(2,R.made [da] 6 true (some (42,6))),(21,(tk aj a6))]))∧(¬8<(a6:Int)→(-9223372036854775808≤(a6:Int)-1∧(a6:Int)-1≤9223372036854775807)∧(0≤(a6:Int)-1∧(a6:Int)-1≤255)∧(0<hi c→((aj:Int)=1→U (.tuple [(Hn c a6),.bool true]) (j.ar 71 [(0,(R.made ([(Hn c a6)]) 6 true (some (42,6)))),(2,R.made [da] 6 true (some (42,6))),(21,(tk aj a6))]))∧(¬(aj:Int)=1→(Hq c aj a6 U)∧(¬c=126→(c=117→0≤(aj:Int)∧(BD aj a6 U)∧(BE aj a6 U))∧(¬c=117→U (eF) (BC aj a6)))))∧(¬0<hi c→(Hq c aj a6 U)∧(¬c=126→(c=117→0≤(aj:Int)∧(BD aj a6 U)∧(BE aj a6 U))∧(¬c=117→U (eF) (BC aj a6)))))))))))) :
 ∃v p,aI Tryz.prog aw 130 [.str w,.int .u8 c] (⟨0,.nil⟩) v p∧U v p :=
 cb bQ mixed (Zz aj a6) (an:= .aK 3000 (ag 6004 .nil) (.aK 4000 (ag 6004 .nil) (.aK 5000 (ag 6004 .nil) (.aK 7000 (.aK 9004 .nil .nil) (.aK 8000 (.aK 9004 .nil .nil) (.aK 28005 .nil (.aK 28009 .nil (ag 30001 (ag 30002 (.aK 31002 (.aK 31007 .nil yd) yd)))))))))) (by kernel_rfl) aY
abbrev OO:dk:=(ag 36001 (ag 36002 (.aK 36006 .nil .nil)))
abbrev Hr(l:List Nat):o:=o.agg [.int .i8 2,.int .i32 (hO (a' (bM l) 0)),.int .u8 0,.int .i64 0,.int .i64 0,.str []]
abbrev Hs(c:Int)(l:List Nat):o:=o.agg [.int .i8 2,.int .i32 (hi c),.int .u8 (a' (bM l) 1-1),.int .i64 0,.int .i64 0,.str []]
abbrev Ht(l:List Nat):o:=o.agg [.int .i8 2,.int .i32 (hO (a' (bM l) 0)),.int .u8 (a' (bM l) 1-1),.int .i64 0,.int .i64 0,.str []]
abbrev BF(l:List Nat):o:=o.agg [.int .i8 (bj.kind (Option.getD (dM (Int.toNat (a' (bM l) 0)) 0) fp)),.int .i32 (bj.code (Option.getD (dM (Int.toNat (a' (bM l) 0)) 0) fp)),.int .u8 (bj.dW (Option.getD (dM (Int.toNat (a' (bM l) 0)) 0) fp)),.int .i64 (bj.x (Option.getD (dM (Int.toNat (a' (bM l) 0)) 0) fp)),.int .i64 (bj.y (Option.getD (dM (Int.toNat (a' (bM l) 0)) 0) fp)),.str (Option.getD (dM (Int.toNat (a' (bM l) 0)) (0)) fp).6]
abbrev BG(l:List Nat):o:=o.agg [.int .i8 (bj.kind (Option.getD (dM (Int.toNat (a' (bM l) 0)) (a' (bM l) 1-1)) fp)),.int .i32 (bj.code (Option.getD (dM (Int.toNat (a' (bM l) 0)) (a' (bM l) 1-1)) fp)),.int .u8 (bj.dW (Option.getD (dM (Int.toNat (a' (bM l) 0)) (a' (bM l) 1-1)) fp)),.int .i64 (bj.x (Option.getD (dM (Int.toNat (a' (bM l) 0)) (a' (bM l) 1-1)) fp)),.int .i64 (bj.y (Option.getD (dM (Int.toNat (a' (bM l) 0)) (a' (bM l) 1-1)) fp)),.str (Option.getD (dM (Int.toNat (a' (bM l) 0)) (a' (bM l) 1-1)) fp).6]
abbrev OP(l:List Nat):o:=o.tuple [(BF l),.bool true]
abbrev OQ(l:List Nat):o:=o.tuple [(BG l),.bool true]
abbrev OR(l:List Nat):o:=o.tuple [(BF l),.bool false]
abbrev OS(l:List Nat):o:=o.tuple [(BG l),.bool false]
abbrev OT(l:List Nat):R:=(R.made ([(BF l)]) 6 true (some (42,6)))
abbrev OU(l:List Nat):R:=(R.made ([(BG l)]) 6 true (some (42,6)))
abbrev ZG:dk:=(.aK 33007 (ag 34001 (ag 34002 .nil)) (.aK 35001 OO .nil))
abbrev OV(l:List Nat):j:=(j.ar 79 [(0,(R.made ([(Hr l)]) 6 true (some (42,6)))),(2,R.made [da] 6 true (some (42,6))),(21,(hF l))])
abbrev OW(l:List Nat):j:=(j.ar 83 [(0,(R.made ([(Ht l)]) 6 true (some (42,6)))),(2,R.made [da] 6 true (some (42,6))),(21,(hF l))])
abbrev Hu:dk:=(.aK 33001 (ag 33004 (ag 33005 ZG)) (.aK 35001 OO .nil))
abbrev BH(l:List Nat):j:=(j.ar 49 [(0,gN),(2,R.made [da] 6 true (some (42,6))),(21,(hF l))])
abbrev ye(l:List Nat):j:=(j.ar 77 [(0,gN),(2,R.made [da] 6 true (some (42,6))),(21,(hF l))])
abbrev yf(l:List Nat):j:=(j.ar 81 [(0,gN),(2,R.made [da] 6 true (some (42,6))),(21,(hF l))])
abbrev Hv(l:List Nat):j:=(j.ar 83 [(0,(OT l)),(2,R.made [da] 6 true (some (42,6))),(21,(hF l))])
abbrev Hw(l:List Nat):j:=(j.ar 87 [(0,(OU l)),(2,R.made [da] 6 true (some (42,6))),(21,(hF l))])
abbrev BI(l:List Nat)(U:o→j→Prop):Prop:=(0<hO (a' (bM l) 0)→((0:Int)≤0∧0<(↑(List.length l):Int))∧List.length l-1=List.length l-1∧(bM l)[0]? =some (.int .i64 (a' (bM l) 0))∧U (.tuple [(Hr l),.bool true]) (OV l))
abbrev BJ(l:List Nat)(U:o→j→Prop):Prop:=(0<hO (a' (bM l) 0)→((0:Int)≤0∧0<(↑(List.length l):Int))∧List.length l-1=List.length l-1∧(bM l)[0]? =some (.int .i64 (a' (bM l) 0))∧U (.tuple [(Ht l),.bool true]) (OW l))
abbrev OX:dk:=(.aK 31002 (ag 31005 (ag 31006 (.aK 31007 (.aK 31012 .nil Hu) Hu))) Hu)
abbrev yg(c:Int)(l:List Nat)(U:o→j→Prop):Prop:=(c=117→((0:Int)≤0∧0<(↑(List.length l):Int))∧List.length l-1=List.length l-1∧(bM l)[0]? =some (.int .i64 (a' (bM l) 0))∧0≤a' (bM l) 0∧(Option.isSome (dM (Int.toNat (a' (bM l) 0)) 0)=true→U ((OP l)) (Hv l))∧(Option.isSome (dM (Int.toNat (a' (bM l) 0)) 0)=false→U ((OR l)) (Hv l)))
abbrev yh(c:Int)(l:List Nat)(U:o→j→Prop):Prop:=(c=117→((0:Int)≤0∧0<(↑(List.length l):Int))∧List.length l-1=List.length l-1∧(bM l)[0]? =some (.int .i64 (a' (bM l) 0))∧0≤a' (bM l) 0∧(Option.isSome (dM (Int.toNat (a' (bM l) 0)) (a' (bM l) 1-1))=true→U ((OQ l)) (Hw l))∧(Option.isSome (dM (Int.toNat (a' (bM l) 0)) (a' (bM l) 1-1))=false→U ((OS l)) (Hw l)))
abbrev BK(c:Int)(l:List Nat)(U:o→j→Prop):Prop:=(¬0<hO (a' (bM l) 0)→(yg c l U)∧(¬c=117→U (eF) (ye l)))
abbrev BL(c:Int)(l:List Nat)(U:o→j→Prop):Prop:=(¬0<hO (a' (bM l) 0)→(yh c l U)∧(¬c=117→U (eF) (yf l)))
theorem ZH(w:Bytes)(c:Int)(l:List Nat)(U:o→j→Prop)(aY:(c=82→Nat.le (Nat.succ (List.length w+List.length [UInt8.ofNat (Int.toNat c)])) (2^62)∧U (.tuple [(fW w c),.bool true]) (j.ar 14 [(0,(R.made ([(fW w c)]) 6 true (some (42,6)))),(2,R.made [da] 6 true (some (42,6))),(8,R.made [.int .u8 c] 1 true)]))∧(¬c=82→(c=99→Nat.le (Nat.succ (List.length w+List.length [UInt8.ofNat (Int.toNat c)])) (2^62)∧U (.tuple [(fW w c),.bool true]) (j.ar 16 [(0,(R.made ([(fW w c)]) 6 true (some (42,6)))),(2,R.made [da] 6 true (some (42,6))),(10,R.made [.int .u8 c] 1 true)]))∧(¬c=99→(c=110→Nat.le (Nat.succ (List.length w+List.length [UInt8.ofNat (Int.toNat c)])) (2^62)∧U (.tuple [(fW w c),.bool true]) (j.ar 18 [(0,(R.made ([(fW w c)]) 6 true (some (42,6)))),(2,R.made [da] 6 true (some (42,6))),(12,R.made [.int .u8 c] 1 true)]))∧(¬c=110→(c=77→List.length w<100∧(0≤c∧c≤255)∧(Option.isSome (e9 w (Int.toNat c))=true→U (.tuple [(hG w c),.bool true]) (j.ar 19 [(0,(hR w c)),(2,R.made [da] 6 true (some (42,6)))]))∧(Option.isSome (e9 w (Int.toNat c))=false→U (.tuple [(hG w c),.bool false]) (j.ar 19 [(0,(hR w c)),(2,R.made [da] 6 true (some (42,6)))])))∧(¬c=77→(c=109→List.length w<100∧(0≤c∧c≤255)∧(Option.isSome (e9 w (Int.toNat c))=true→U (.tuple [(hG w c),.bool true]) (j.ar 21 [(0,(hR w c)),(2,R.made [da] 6 true (some (42,6)))]))∧(Option.isSome (e9 w (Int.toNat c))=false→U (.tuple [(hG w c),.bool false]) (j.ar 21 [(0,(hR w c)),(2,R.made [da] 6 true (some (42,6)))])))∧(¬c=109→numbers w=some l∧(l=[]→False)∧List.length w<100∧((↑(List.length l):Int)=0→(c=90→U (.tuple [vg,.bool true]) (j.ar 33 [(0,(R.made ([vg]) 6 true (some (42,6)))),(2,R.made [da] 6 true (some (42,6))),(21,(hF l))]))∧(¬c=90→(c=73→U (.tuple [tj,.bool true]) (j.ar 35 [(0,(R.made ([tj]) 6 true (some (42,6)))),(2,R.made [da] 6 true (some (42,6))),(21,(hF l))]))∧(¬c=73→(c=79→U (.tuple [qu,.bool true]) (j.ar 37 [(0,(R.made ([qu]) 6 true (some (42,6)))),(2,R.made [da] 6 true (some (42,6))),(21,(hF l))]))∧(¬c=79→(0<hi c→U (.tuple [(n9 c),.bool true]) (j.ar 43 [(0,(R.made ([(n9 c)]) 6 true (some (42,6)))),(2,R.made [da] 6 true (some (42,6))),(21,(hF l))]))∧(¬0<hi c→U (eF) (j.ar 42 [(0,gN),(2,R.made [da] 6 true (some (42,6))),(21,(hF l))]))))))∧(¬(↑(List.length l):Int)=0→((↑(List.length l):Int)=2→((0:Int)≤1∧1<(↑(List.length l):Int))∧List.length l-1=List.length l-1∧(bM l)[1]? =some (.int .i64 (a' (bM l) 1))∧(2<(↑(List.length l):Int)→U (eF) (BH l))∧(¬2<(↑(List.length l):Int)→(a' (bM l) 1<1→U (eF) (BH l))∧(¬a' (bM l) 1<1→(8<a' (bM l) 1→U (eF) (BH l))∧(¬8<a' (bM l) 1→(-9223372036854775808≤a' (bM l) 1-1∧a' (bM l) 1-1≤9223372036854775807)∧(0≤a' (bM l) 1-1∧a' (bM l) 1-1≤255)∧(0<hi c→((0:Int)≤0∧0<(↑(List.length l):Int))∧List.length l-1=List.length l-1∧(bM l)[0]? =some (.int .i64 (a' (bM l) 0))∧(a' (bM l) 0=1→((↑(List.length l):Int)=2→U (.tuple [(Hs c l),.bool true]) (j.ar 71 [(0,(R.made ([(Hs c l)]) 6 true (some (42,6)))),(2,R.made [da] 6 true (some (42,6))),(21,(hF l))]))∧(¬(↑(List.length l):Int)=2→(c=126→((0:Int)≤0∧0<(↑(List.length l):Int))∧List.length l-1=List.length l-1∧(bM l)[0]? =some (.int .i64 (a' (bM l) 0))∧(BJ l U)∧(BL c l U))∧(¬c=126→(yh c l U)∧(¬c=117→U (eF) (yf l)))))∧(¬a' (bM l) 0=1→(c=126→((0:Int)≤0∧0<(↑(List.length l):Int))∧List.length l-1=List.length l-1∧(bM l)[0]? =some (.int .i64 (a' (bM l) 0))∧(BJ l U)∧(BL c l U))∧(¬c=126→(yh c l U)∧(¬c=117→U (eF) (yf l)))))∧(¬0<hi c→(c=126→((0:Int)≤0∧0<(↑(List.length l):Int))∧List.length l-1=List.length l-1∧(bM l)[0]? =some (.int .i64 (a' (bM l) 0))∧(BJ l U)∧(BL c l U))∧(¬c=126→(yh c l U)∧(¬c=117→U (eF) (yf l))))))))∧(¬(↑(List.length l):Int)=2→(2<(↑(List.length l):Int)→U (eF) (j.ar 45 [(0,gN),(2,R.made [da] 6 true (some (42,6))),(21,(hF l))]))∧(¬2<(↑(List.length l):Int)→(0<hi c→((0:Int)≤0∧0<(↑(List.length l):Int))∧List.length l-1=List.length l-1∧(bM l)[0]? =some (.int .i64 (a' (bM l) 0))∧(a' (bM l) 0=1→((↑(List.length l):Int)=2→U (.tuple [(n9 c),.bool true]) (j.ar 67 [(0,(R.made ([(n9 c)]) 6 true (some (42,6)))),(2,R.made [da] 6 true (some (42,6))),(21,(hF l))]))∧(¬(↑(List.length l):Int)=2→(c=126→((0:Int)≤0∧0<(↑(List.length l):Int))∧List.length l-1=List.length l-1∧(bM l)[0]? =some (.int .i64 (a' (bM l) 0))∧(BI l U)∧(BK c l U))∧(¬c=126→(yg c l U)∧(¬c=117→U (eF) (ye l)))))∧(¬a' (bM l) 0=1→(c=126→((0:Int)≤0∧0<(↑(List.length l):Int))∧List.length l-1=List.length l-1∧(bM l)[0]? =some (.int .i64 (a' (bM l) 0))∧(BI l U)∧(BK c l U))∧(¬c=126→(yg c l U)∧(¬c=117→U (eF) (ye l)))))∧(¬0<hi c→(c=126→((0:Int)≤0∧0<(↑(List.length l):Int))∧List.length l-1=List.length l-1∧(bM l)[0]? =some (.int .i64 (a' (bM l) 0))∧(BI l U)∧(BK c l U))∧(¬c=126→(yg c l U)∧(¬c=117→U (eF) (ye l))))))))))))) :
 ∃v p,aI Tryz.prog aw 130 [.str w,.int .u8 c] (⟨0,.nil⟩) v p∧U v p :=
 cb bQ mixed (ZB l) (an:= .aK 3000 (ag 6004 .nil) (.aK 4000 (ag 6004 .nil) (.aK 5000 (ag 6004 .nil) (.aK 7000 (.aK 9004 .nil .nil) (.aK 8000 (.aK 9004 .nil .nil) (.aK 13002 (.aK 15000 .nil (.aK 17000 .nil (.aK 19000 .nil (.aK 22001 .nil .nil)))) (.aK 26002 (ag 27001 (ag 27002 (.aK 28002 .nil (.aK 28005 .nil (.aK 28009 .nil (ag 30001 (ag 30002 OX))))))) (.aK 28002 .nil OX)))))))) (by kernel_rfl) aY
set_option maxHeartbeats 4000000
theorem mr{c:UInt8}{k:UInt8}(h:c.toNat=k.toNat):c=k:=UInt8.toNat_inj.1 h
theorem tl{ab:Option bj}{b:Bool}(h:ab.isSome=b):o.tuple [cm (ab.getD fp),.bool b]=hl ab:=by subst h;rfl
theorem ZI{w:Bytes}{c:UInt8}(h:Keys.numbers w=none)(hw:w.length<100)(H:j):aI Tryz.prog aw 130 [.str w,.int .u8 c.toNat] H (hl (Keys.told w c)) H:=by
 refine aI.fm (ZC w c.toNat (fun v _=>v=hl (Keys.told w c)) ?_) rfl rfl H
 delta da gN eF hR hG fW
 have av:=c.toNat_lt;rw [pg,show Int.toNat (c.toNat:Int)=c.toNat by simp];have Hx:(c.toNat:Int)=82→c=82:=fun e=>mr (by show c.toNat=82;omega)
 have Hy:(c.toNat:Int)=99→c=99:=fun e=>mr (by show c.toNat=99;omega)
 have Hz:(c.toNat:Int)=110→c=110:=fun e=>mr (by show c.toNat=110;omega)
 have HA:(c.toNat:Int)=77→c=77:=fun e=>mr (by show c.toNat=77;omega)
 have HB:(c.toNat:Int)=109→c=109:=fun e=>mr (by show c.toNat=109;omega)
 have HC:c=82∨c=99∨c=110→Keys.told w c=some {kind:=6,text:=w++[c]} :=fun e=>by simp only [Keys.told,if_pos e]
 have HD:¬(c=82∨c=99∨c=110)→c=77∨c=109→Keys.told w c=Keys.e9 w c.toNat:=fun e bs=>by simp only [Keys.told,if_neg e,if_pos bs]
 have HE:¬(c=82∨c=99∨c=110)→ ¬(c=77∨c=109)→Keys.told w c=none:=fun e bs=>by simp only [Keys.told,if_neg e,if_neg bs,h]
 have vh:¬(c.toNat:Int)=82→c≠82:=fun e f=>e (by rw [f];rfl)
 have n99:¬(c.toNat:Int)=99→c≠99:=fun e f=>e (by rw [f];rfl)
 have n110:¬(c.toNat:Int)=110→c≠110:=fun e f=>e (by rw [f];rfl)
 have BM:¬(c.toNat:Int)=77→c≠77:=fun e f=>e (by rw [f];rfl)
 have n109:¬(c.toNat:Int)=109→c≠109:=fun e f=>e (by rw [f];rfl)
 have lw:List.length w+List.length [c]<2^62:=by simp;omega
 repeat' (first|assumption|exact Nat.succ_le_of_lt lw|apply And.intro|intro _)
 all_goals first
  |omega
  |(rw [HC (by first|exact .inl (Hx ‹_›)|exact .inr (.inl (Hy ‹_›))|exact .inr (.inr (Hz ‹_›)))];rfl)
  |(rw [HD (by simp only [vh ‹_›,n99 ‹_›,n110 ‹_›,or_self,not_false_eq_true]) (by first|exact .inl (HA ‹_›)|exact .inr (HB ‹_›))];exact tl ‹_›)
  |(rw [HE (by simp only [vh ‹_›,n99 ‹_›,n110 ‹_›,or_self,not_false_eq_true]) (by simp only [BM ‹_›,n109 ‹_›,or_self,not_false_eq_true])];rfl)
theorem ZJ{w:Bytes}{c:UInt8}(h:Keys.numbers w=some [])(hw:w.length<100)(H:j):aI Tryz.prog aw 130 [.str w,.int .u8 c.toNat] H (hl (Keys.told w c)) H:=by
 refine aI.fm (ZD w c.toNat (fun v _=>v=hl (Keys.told w c)) ?_) rfl rfl H
 delta da gN eF n9 qu tj vg hR hG fW
 have av:=c.toNat_lt;rw [pg,show Int.toNat (c.toNat:Int)=c.toNat by simp,xL];have Hx:(c.toNat:Int)=82→c=82:=fun e=>mr (by show c.toNat=82;omega)
 have Hy:(c.toNat:Int)=99→c=99:=fun e=>mr (by show c.toNat=99;omega)
 have Hz:(c.toNat:Int)=110→c=110:=fun e=>mr (by show c.toNat=110;omega)
 have HA:(c.toNat:Int)=77→c=77:=fun e=>mr (by show c.toNat=77;omega)
 have HB:(c.toNat:Int)=109→c=109:=fun e=>mr (by show c.toNat=109;omega)
 have HC:c=82∨c=99∨c=110→Keys.told w c=some {kind:=6,text:=w++[c]} :=fun e=>by simp only [Keys.told,if_pos e]
 have HD:¬(c=82∨c=99∨c=110)→c=77∨c=109→Keys.told w c=Keys.e9 w c.toNat:=fun e bs=>by simp only [Keys.told,if_neg e,if_pos bs]
 have ZK:(c.toNat:Int)=90→c=90:=fun e=>mr (by show c.toNat=90;omega)
 have ZL:(c.toNat:Int)=73→c=73:=fun e=>mr (by show c.toNat=73;omega)
 have ZM:(c.toNat:Int)=79→c=79:=fun e=>mr (by show c.toNat=79;omega)
 have OY:¬(c.toNat:Int)=90→c≠90:=fun e f=>e (by rw [f];rfl)
 have OZ:¬(c.toNat:Int)=73→c≠73:=fun e f=>e (by rw [f];rfl)
 have O0:¬(c.toNat:Int)=79→c≠79:=fun e f=>e (by rw [f];rfl)
 have ZN:c=90→Keys.told w c=some (eR 2 1):=fun e=>by subst e;simp [Keys.told,h]
 have ZO:c=73→Keys.told w c=some {kind:=5,code:=1} :=fun e=>by subst e;simp [Keys.told,h]
 have ZP:c=79→Keys.told w c=some {kind:=5} :=fun e=>by subst e;simp [Keys.told,h]
 have yi:¬(c=82∨c=99∨c=110)→ ¬(c=77∨c=109)→c≠90→c≠73→c≠79→0<gE c.toNat→Keys.told w c=some (eR (gE c.toNat)):=fun e bs b7 ct il BN=>by simp only [Keys.told,if_neg e,if_neg bs,h,if_neg b7,if_neg ct,if_neg il,if_pos BN]
 have HE:¬(c=82∨c=99∨c=110)→ ¬(c=77∨c=109)→c≠90→c≠73→c≠79→ ¬0<gE c.toNat→Keys.told w c=none:=fun e bs b7 ct il BN=>by simp only [Keys.told,if_neg e,if_neg bs,h,if_neg b7,if_neg ct,if_neg il,if_neg BN]
 have vh:¬(c.toNat:Int)=82→c≠82:=fun e f=>e (by rw [f];rfl)
 have n99:¬(c.toNat:Int)=99→c≠99:=fun e f=>e (by rw [f];rfl)
 have n110:¬(c.toNat:Int)=110→c≠110:=fun e f=>e (by rw [f];rfl)
 have BM:¬(c.toNat:Int)=77→c≠77:=fun e f=>e (by rw [f];rfl)
 have n109:¬(c.toNat:Int)=109→c≠109:=fun e f=>e (by rw [f];rfl)
 have lw:List.length w+List.length [c]<2^62:=by simp;omega
 repeat' (first|assumption|exact Nat.succ_le_of_lt lw|apply And.intro|intro _)
 all_goals first
  |omega
  |(rw [HC (by first|exact .inl (Hx ‹_›)|exact .inr (.inl (Hy ‹_›))|exact .inr (.inr (Hz ‹_›)))];rfl)
  |(rw [HD (by simp only [vh ‹_›,n99 ‹_›,n110 ‹_›,or_self,not_false_eq_true]) (by first|exact .inl (HA ‹_›)|exact .inr (HB ‹_›))];exact tl ‹_›)
  |(rw [ZN (ZK ‹_›)];rfl)
  |(rw [ZO (ZL ‹_›)];rfl)
  |(rw [ZP (ZM ‹_›)];rfl)
  |(rw [yi (by simp only [vh ‹_›,n99 ‹_›,n110 ‹_›,or_self,not_false_eq_true]) (by simp only [BM ‹_›,n109 ‹_›,or_self,not_false_eq_true]) (OY ‹_›) (OZ ‹_›) (O0 ‹_›) ‹_›];rfl)
  |(rw [HE (by simp only [vh ‹_›,n99 ‹_›,n110 ‹_›,or_self,not_false_eq_true]) (by simp only [BM ‹_›,n109 ‹_›,or_self,not_false_eq_true]) (OY ‹_›) (OZ ‹_›) (O0 ‹_›) ‹_›];rfl)
end Go.Proofs.YtddnafghiejcoaaGreatDoor
namespace Go.Keys
theorem vi{c k:UInt8}(h:(c.toNat:Int)=(k.toNat:Int)):c=k:=UInt8.toNat_inj.1 (by omega)
theorem O1(c k:UInt8):(c=k)=((c.toNat:Int)=(k.toNat:Int)):=propext ⟨fun e=>by rw [e],vi⟩
structure BO(c:UInt8):Prop where
 dH:¬(c.toNat:Int)=82
 dy:¬(c.toNat:Int)=99
 gy:¬(c.toNat:Int)=110
 mT:¬(c.toNat:Int)=77
 n2:¬(c.toNat:Int)=109
def HF(r:List Nat):Int:=match r with | [x]=>(x:Int)|_=>1
theorem told_other{w:Bytes}{c:UInt8}(ab:BO c){aj:Nat}{r:List Nat}(h:numbers w=some (aj::r)):told w c =
 (let m:Int:=HF r
  if 1<r.length∨m<1∨8<m then none
  else if 0<gE c.toNat∧aj=1∧r.length=1 then some (eR (gE c.toNat) (m-1))
  else if(c.toNat:Int)=126∧0<iI aj then some (eR (iI aj) (m-1))
  else if(c.toNat:Int)=117 then dM aj (m-1)
  else none):=by
 have p:¬(c=82∨c=99∨c=110):=by
  rintro (e|e|e)
  ·exact ab.dH (by rw [e];rfl)
  ·exact ab.dy (by rw [e];rfl)
  ·exact ab.gy (by rw [e];rfl)
 have ad:¬(c=77∨c=109):=by
  rintro (e|e)
  ·exact ab.mT (by rw [e];rfl)
  ·exact ab.n2 (by rw [e];rfl)
 have ZQ:(c=126)=((c.toNat:Int)=126):=O1 c 126;have ZR:(c=117)=((c.toNat:Int)=117):=O1 c 117;simp only [told,if_neg p,if_neg ad,h,ZQ,ZR];cases r with
 |nil=>rfl
 |cons a t=>cases t<;>rfl
theorem HG{w:Bytes}{c:UInt8}(ab:BO c){aj:Nat}(h:numbers w=some [aj]):told w c=if(c.toNat:Int)=126∧0<iI aj then some (eR (iI aj) 0)else if(c.toNat:Int)=117 then dM aj 0 else none:=by rw [told_other ab h];simp [show HF []=1 from rfl]
theorem yj{w:Bytes}{c:UInt8}(ab:BO c){aj a6:Nat}(h:numbers w=some [aj,a6]):told w c=if(a6:Int)<1∨8<(a6:Int)then none else if 0<gE c.toNat∧aj=1 then some (eR (gE c.toNat) ((a6:Int)-1))else if(c.toNat:Int)=126∧0<iI aj then some (eR (iI aj) ((a6:Int)-1))else if(c.toNat:Int)=117 then dM aj ((a6:Int)-1)else none:=by have bn:(1< [a6].length∨(a6:Int)<1∨8<(a6:Int))=((a6:Int)<1∨8<(a6:Int)):=propext (by simp);have bs:(0<gE c.toNat∧aj=1∧ [a6].length=1)=(0<gE c.toNat∧aj=1):=propext (by simp);rw [told_other ab h];simp only [show HF [a6]=(a6:Int)from rfl,bn,bs]
theorem ZS{w:Bytes}{c:UInt8}(ab:BO c){l:List Nat}(h:numbers w=some l)(az:2<l.length):told w c=none:=by
 cases l with
 |nil=>simp at az
 |cons a r =>
  rw [told_other ab h];simp only [List.length_cons]at az;have aD:1<r.length:=by omega
  simp [aD]
theorem HH{w:Bytes}{c:UInt8}(h:(c.toNat:Int)=82∨(c.toNat:Int)=99∨(c.toNat:Int)=110):told w c=some {kind:=6,text:=w++[c]} :=by
 have p:c=82∨c=99∨c=110:=by
  rcases h with h|h|h
  ·exact .inl (vi h)
  ·exact .inr (.inl (vi h))
  ·exact .inr (.inr (vi h))
 simp only [told,if_pos p]
theorem HI{w:Bytes}{c:UInt8}(h:(c.toNat:Int)=77∨(c.toNat:Int)=109):told w c=e9 w c.toNat:=by
 have ad:c=77∨c=109:=by
  rcases h with h|h
  ·exact .inl (vi h)
  ·exact .inr (vi h)
 have p:¬(c=82∨c=99∨c=110):=by rcases ad with rfl|rfl<;>decide
 simp only [told,if_neg p,if_pos ad]
end Go.Keys
namespace Go.Proofs.YtddnafghiejcoaaGreatDoor
open Go.cM Go.Keys
set_option maxRecDepth 1000000
set_option maxHeartbeats 4000000
theorem O2(n:Nat):hO (n:Int)=iI n:=by unfold hO iI;have ao:((n:Int)=1∨(n:Int)=7)=(n=1∨n=7):=propext (by omega);have a2:((n:Int)=4∨(n:Int)=8)=(n=4∨n=8):=propext (by omega);have a3:((n:Int)=2∨(n:Int)=3)=(n=2∨n=3):=propext (by omega);have a4:((n:Int)=5∨(n:Int)=6)=(n=5∨n=6):=propext (by omega);have a5:(11≤(n:Int)∧(n:Int)≤15)=(11≤n∧n≤15):=propext (by omega);have mh:(17≤(n:Int)∧(n:Int)≤21)=(17≤n∧n≤21):=propext (by omega);have w':((n:Int)=23∨(n:Int)=24)=(n=23∨n=24):=propext (by omega);simp only [ao,a2,a3,a4,a5,mh,w']
theorem ZT{w:Bytes}{c:UInt8}{aj:Nat}(h:Keys.numbers w=some [aj])(hw:w.length<100)(H:j):aI Tryz.prog aw 130 [.str w,.int .u8 c.toNat] H (hl (Keys.told w c)) H:=by
 refine aI.fm (ZE w c.toNat aj (fun v _=>v=hl (Keys.told w c)) ?_) rfl rfl H
 delta Bz Hj Bw da gN eF Hm Hk OK Bx OJ Hl OI BA By OL Hi hR hG fW
 have av:=c.toNat_lt;rw [pg,show Int.toNat (c.toNat:Int)=c.toNat by simp,xL,O2];have lw:List.length w+List.length [c]<2^62:=by simp;omega
 have ZU:(0:Int)≤(aj:Int):=by omega
 repeat' (first|assumption|exact Nat.succ_le_of_lt lw|apply And.intro|intro _)
 all_goals first
  |omega
  |(rw [HH (by omega)];rfl)
  |(rw [HI (by omega)];exact tl ‹_›)
  |(rw [HG ⟨by omega,by omega,by omega,by omega,by omega⟩ h,if_pos (by omega)];rfl)
  |(rw [HG ⟨by omega,by omega,by omega,by omega,by omega⟩ h,if_neg (by omega),if_pos (by omega)];exact tl ‹_›)
  |(rw [HG ⟨by omega,by omega,by omega,by omega,by omega⟩ h,if_neg (by omega),if_neg (by omega)];rfl)
theorem ZV{w:Bytes}{c:UInt8}{aj a6:Nat}(h:Keys.numbers w=some [aj,a6])(hw:w.length<100)(H:j):aI Tryz.prog aw 130 [.str w,.int .u8 c.toNat] H (hl (Keys.told w c)) H:=by
 have cQ:=OF h;have nr:=cQ aj (by simp);have ek:=cQ a6 (by simp);refine aI.fm (ZF w c.toNat aj a6 (fun v _=>v=hl (Keys.told w c)) ?_) rfl rfl H
 delta BC tk da gN eF BE Hp OM BB BD Hq ON Ho Hn hR hG fW
 have av:=c.toNat_lt;rw [pg,show Int.toNat (c.toNat:Int)=c.toNat by simp,xL,O2];have lw:List.length w+List.length [c]<2^62:=by simp;omega
 have ZU:(0:Int)≤(aj:Int):=by omega
 repeat' (first|assumption|exact Nat.succ_le_of_lt lw|apply And.intro|intro _)
 all_goals first
  |omega
  |(rw [HH (by omega)];rfl)
  |(rw [HI (by omega)];exact tl ‹_›)
  |(rw [yj ⟨by omega,by omega,by omega,by omega,by omega⟩ h,if_pos (by omega)];rfl)
  |(rw [yj ⟨by omega,by omega,by omega,by omega,by omega⟩ h,if_neg (by omega),if_pos (by omega)];rfl)
  |(rw [yj ⟨by omega,by omega,by omega,by omega,by omega⟩ h,if_neg (by omega),if_neg (by omega),if_pos (by omega)];rfl)
  |(rw [yj ⟨by omega,by omega,by omega,by omega,by omega⟩ h,if_neg (by omega),if_neg (by omega),if_neg (by omega),if_pos (by omega)];exact tl ‹_›)
  |(rw [yj ⟨by omega,by omega,by omega,by omega,by omega⟩ h,if_neg (by omega),if_neg (by omega),if_neg (by omega),if_neg (by omega)];rfl)
theorem ZW{w:Bytes}{c:UInt8}{l:List Nat}(h:Keys.numbers w=some l)(az:2<l.length)(hw:w.length<100)(H:j):aI Tryz.prog aw 130 [.str w,.int .u8 c.toNat] H (hl (Keys.told w c)) H:=by
 refine aI.fm (ZH w c.toNat l (fun v _=>v=hl (Keys.told w c)) ?_) rfl rfl H
 delta ye hF da gN eF yg Hv OT BF OR OP BK BI OV Hr n9 yf yh Hw OU BG OS OQ BL BJ OW Ht Hs BH qu tj vg hR hG fW
 have av:=c.toNat_lt;rw [pg,show Int.toNat (c.toNat:Int)=c.toNat by simp,xL];have lw:List.length w+List.length [c]<2^62:=by simp;omega
 have b1:l=[]→False:=by rintro rfl;simp at az
 repeat' (first|assumption|exact Nat.succ_le_of_lt lw|apply And.intro|intro _)
 all_goals first
  |(exfalso;omega)
  |omega
  |(rw [HH (by omega)];rfl)
  |(rw [HI (by omega)];exact tl ‹_›)
  |(rw [ZS ⟨by omega,by omega,by omega,by omega,by omega⟩ h az];rfl)
theorem ZX(w:Bytes)(c:UInt8)(hw:w.length<100)(H:j):aI Tryz.prog aw 130 [.str w,.int .u8 c.toNat] H (hl (Keys.told w c)) H:=by
 cases h:Keys.numbers w with
 |none=>exact ZI h hw H
 |some l =>
  match l,h with
  |[],h=>exact ZJ h hw H
  |[a],h=>exact ZT h hw H
  |[a,b],h=>exact ZV h hw H
  |a::b::d::t,h=>exact ZW h (by simp only [List.length_cons];omega) hw H
noncomputable def trimS:List o→j→Option eC:=kA fun a=>match a with | [.str s,.str k]=>some (.str (s.dropWhile (· == 48)),[k=[48],s.length<2^40])|_=>none
noncomputable def O3:List o→j→Option eC:=kA fun a=>match a with | [.str w,.int .u8 c]=>some (.tuple [cm ((Keys.told w (er c)).getD fp),.bool (Keys.told w (er c)).isSome],[w.length<100,0≤c∧c≤255])|_=>none
theorem ZY:∀args h a,trimS args h=some a→a.dw Tryz.prog aw 128 args h:=by
 refine lE ?_;intro args v e5 e ac H;split at e<;>first|(cases e;done)|skip
 simp only [Option.some.injEq,Prod.mk.injEq]at e;obtain⟨rfl,rfl⟩:=e;rw [ac.head];exact Yf _ H
theorem ZZ:∀args h a,O3 args h=some a→a.dw Tryz.prog aw 130 args h:=by
 refine lE ?_;intro args v e5 e ac H;split at e<;>first|(cases e;done)|skip
 rename_i w c;simp only [Option.some.injEq,Prod.mk.injEq]at e;obtain⟨rfl,rfl⟩:=e;have:=ZX w (er c) ac.head H
 rwa [rz ac.tail.head]at this
noncomputable def O4:fc:=(NJ.add 128 trimS).add 130 O3
theorem O5:eW Tryz.prog aw O4:=(X7.add ZY).add ZZ
abbrev O6:o:= .func (.func 129) [.ptr (some ⟨0,0,0,0,6⟩)] []
abbrev O7:dk:=(.aK 12 (.aK 17 .nil (.aK 4005 .nil (ag 6004 .nil))) (.aK 4005 .nil (ag 6004 .nil)))
abbrev lN(l:List o)(len:Nat):o:=o.agg [.int .i8 7,.int .i32 0,.int .u8 0,.int .i64 0,.int .i64 0,.str (strOf (List.take len l))]
abbrev lO(c:Int)(w:Bytes):o:=o.agg [.int .i8 (bj.kind (Option.getD (told w (er c)) fp)),.int .i32 (bj.code (Option.getD (told w (er c)) fp)),.int .u8 (bj.dW (Option.getD (told w (er c)) fp)),.int .i64 (bj.x (Option.getD (told w (er c)) fp)),.int .i64 (bj.y (Option.getD (told w (er c)) fp)),.str (Option.getD (told w (er c)) fp).6]
abbrev O8(c:Int)(w:Bytes):R:=(R.made ([(lO c w)]) 6 true (some (42,6)))
abbrev O9(l:List o)(len:Nat):R:=(R.made ([(lN l len)]) 6 true (some (42,6)))
abbrev O'(ah:o)(af:o):o:=o.agg [O6,.slice none 0 0,ah,.bool true,.ptr (some ⟨1,0,0,0,5⟩),af]
abbrev BP(ah:o)(af:o)(ax:Option (TypeId×Nat))(J:Nat):R:=⟨[(O' ah af)],6,true,false,0,0,0,ax⟩
abbrev ms(f:Nat)(ah:o)(af:o)(ax:Option (TypeId×Nat))(bk:R)(P:R)(O:R)(l:List o)(J:Nat)(m:Nat)(aG:Nat)(len:Nat)(c:Int)(w:Bytes):j:=(j.ar 39 [(0,(hD f ah af ax J len)),(1,bk),(2,(ef l J m aG)),(3,P),(4,O),(31,(O8 c w))])
abbrev mu(f:Nat)(ah:o)(af:o)(ax:Option (TypeId×Nat))(bk:R)(P:R)(O:R)(l:List o)(J:Nat)(m:Nat)(aG:Nat)(len:Nat):j:=(j.ar 46 [(0,(hD f ah af ax J len)),(1,bk),(2,(ef l J m aG)),(3,P),(4,O),(31,(O9 l len))])
theorem Z0(f:Nat)(ah af:o)(ax:Option (TypeId×Nat))(bk P O:R)(l:List o)(J m aG len:Nat)(c:Int)(w:Bytes)(U:o→j→Prop)(aY:(c=126→(w=[(50:UInt8),(48:UInt8),(48:UInt8)]→U (.tuple []) (j.ar 39 [(0,(BP ah af ax J)),(1,bk),(2,(ef l J m aG)),(3,P),(4,O)]))∧(¬w=[(50:UInt8),(48:UInt8),(48:UInt8)]→(c=126→ [(48:UInt8)]=[(48:UInt8)]∧List.length w<1099511627776∧(List.dropWhile (fun x=>x == 48) w=[(50:UInt8),(48:UInt8),(48:UInt8)]→((↑(List.length w):Int)≤9→U (.tuple []) (j.ar 39 [(0,(BP ah af ax J)),(1,bk),(2,(ef l J m aG)),(3,P),(4,O)]))∧(¬(↑(List.length w):Int)≤9→List.length w<100∧(0≤c∧c≤255)∧(Option.isSome (told w (er c))=true→cC (ms f ah af ax bk P O l J m aG len c w) ⟨0,0,0,0,6⟩ ((lO c w))∧∀(dK:j),cD (ms f ah af ax bk P O l J m aG len c w) ⟨0,0,0,0,6⟩ ((lO c w)) dK→bK 5 (dK.next) (U (.tuple []) dK))∧(Option.isSome (told w (er c))=false→J=J∧0+len≤List.length l∧(∃b6,List.take len (List.drop (bG.idx ⟨2,J,0,0,1⟩) (R.bi (ef l J m aG)))=aL b6)∧cC (mu f ah af ax bk P O l J m aG len) ⟨0,0,0,0,6⟩ ((lN l len))∧∀(dK:j),cD (mu f ah af ax bk P O l J m aG len) ⟨0,0,0,0,6⟩ ((lN l len)) dK→bK 5 (dK.next) (U (.tuple []) dK))))∧(¬List.dropWhile (fun x=>x == 48) w=[(50:UInt8),(48:UInt8),(48:UInt8)]→List.length w<100∧(0≤c∧c≤255)∧(Option.isSome (told w (er c))=true→cC (ms f ah af ax bk P O l J m aG len c w) ⟨0,0,0,0,6⟩ ((lO c w))∧∀(dK:j),cD (ms f ah af ax bk P O l J m aG len c w) ⟨0,0,0,0,6⟩ ((lO c w)) dK→bK 5 (dK.next) (U (.tuple []) dK))∧(Option.isSome (told w (er c))=false→J=J∧0+len≤List.length l∧(∃b6,List.take len (List.drop (bG.idx ⟨2,J,0,0,1⟩) (R.bi (ef l J m aG)))=aL b6)∧cC (mu f ah af ax bk P O l J m aG len) ⟨0,0,0,0,6⟩ ((lN l len))∧∀(dK:j),cD (mu f ah af ax bk P O l J m aG len) ⟨0,0,0,0,6⟩ ((lN l len)) dK→bK 5 (dK.next) (U (.tuple []) dK))))∧(¬c=126→List.length w<100∧(0≤c∧c≤255)∧(Option.isSome (told w (er c))=true→cC (ms f ah af ax bk P O l J m aG len c w) ⟨0,0,0,0,6⟩ ((lO c w))∧∀(dK:j),cD (ms f ah af ax bk P O l J m aG len c w) ⟨0,0,0,0,6⟩ ((lO c w)) dK→bK 5 (dK.next) (U (.tuple []) dK))∧(Option.isSome (told w (er c))=false→J=J∧0+len≤List.length l∧(∃b6,List.take len (List.drop (bG.idx ⟨2,J,0,0,1⟩) (R.bi (ef l J m aG)))=aL b6)∧cC (mu f ah af ax bk P O l J m aG len) ⟨0,0,0,0,6⟩ ((lN l len))∧∀(dK:j),cD (mu f ah af ax bk P O l J m aG len) ⟨0,0,0,0,6⟩ ((lN l len)) dK→bK 5 (dK.next) (U (.tuple []) dK)))))∧(¬c=126→(c=126→ [(48:UInt8)]=[(48:UInt8)]∧List.length w<1099511627776∧(List.dropWhile (fun x=>x == 48) w=[(50:UInt8),(48:UInt8),(48:UInt8)]→((↑(List.length w):Int)≤9→U (.tuple []) (j.ar 39 [(0,(BP ah af ax J)),(1,bk),(2,(ef l J m aG)),(3,P),(4,O)]))∧(¬(↑(List.length w):Int)≤9→List.length w<100∧(0≤c∧c≤255)∧(Option.isSome (told w (er c))=true→cC (ms f ah af ax bk P O l J m aG len c w) ⟨0,0,0,0,6⟩ ((lO c w))∧∀(dK:j),cD (ms f ah af ax bk P O l J m aG len c w) ⟨0,0,0,0,6⟩ ((lO c w)) dK→bK 5 (dK.next) (U (.tuple []) dK))∧(Option.isSome (told w (er c))=false→J=J∧0+len≤List.length l∧(∃b6,List.take len (List.drop (bG.idx ⟨2,J,0,0,1⟩) (R.bi (ef l J m aG)))=aL b6)∧cC (mu f ah af ax bk P O l J m aG len) ⟨0,0,0,0,6⟩ ((lN l len))∧∀(dK:j),cD (mu f ah af ax bk P O l J m aG len) ⟨0,0,0,0,6⟩ ((lN l len)) dK→bK 5 (dK.next) (U (.tuple []) dK))))∧(¬List.dropWhile (fun x=>x == 48) w=[(50:UInt8),(48:UInt8),(48:UInt8)]→List.length w<100∧(0≤c∧c≤255)∧(Option.isSome (told w (er c))=true→cC (ms f ah af ax bk P O l J m aG len c w) ⟨0,0,0,0,6⟩ ((lO c w))∧∀(dK:j),cD (ms f ah af ax bk P O l J m aG len c w) ⟨0,0,0,0,6⟩ ((lO c w)) dK→bK 5 (dK.next) (U (.tuple []) dK))∧(Option.isSome (told w (er c))=false→J=J∧0+len≤List.length l∧(∃b6,List.take len (List.drop (bG.idx ⟨2,J,0,0,1⟩) (R.bi (ef l J m aG)))=aL b6)∧cC (mu f ah af ax bk P O l J m aG len) ⟨0,0,0,0,6⟩ ((lN l len))∧∀(dK:j),cD (mu f ah af ax bk P O l J m aG len) ⟨0,0,0,0,6⟩ ((lN l len)) dK→bK 5 (dK.next) (U (.tuple []) dK))))∧(¬c=126→List.length w<100∧(0≤c∧c≤255)∧(Option.isSome (told w (er c))=true→cC (ms f ah af ax bk P O l J m aG len c w) ⟨0,0,0,0,6⟩ ((lO c w))∧∀(dK:j),cD (ms f ah af ax bk P O l J m aG len c w) ⟨0,0,0,0,6⟩ ((lO c w)) dK→bK 5 (dK.next) (U (.tuple []) dK))∧(Option.isSome (told w (er c))=false→J=J∧0+len≤List.length l∧(∃b6,List.take len (List.drop (bG.idx ⟨2,J,0,0,1⟩) (R.bi (ef l J m aG)))=aL b6)∧cC (mu f ah af ax bk P O l J m aG len) ⟨0,0,0,0,6⟩ ((lN l len))∧∀(dK:j),cD (mu f ah af ax bk P O l J m aG len) ⟨0,0,0,0,6⟩ ((lN l len)) dK→bK 5 (dK.next) (U (.tuple []) dK))))) :
 ∃v p,aI Tryz.prog aw 105 [.ptr (some ⟨0,0,0,0,6⟩),.str w,.int .u8 c] (j.of [b2 0 f 1 (.slice (some ⟨2,J,0,0,1⟩) len len) ah false af ax,bk,b3 l 1 J m aG cI,P,O]) v p∧U v p :=
 cb bQ mixed O5 (an:= .aK 1 (.aK 4 .nil (.aK 8 O7 (.aK 4005 .nil (ag 6004 .nil)))) (.aK 8 O7 (.aK 4005 .nil (ag 6004 .nil)))) (by kernel_rfl) aY
set_option maxHeartbeats 4000000
structure HJ(N:Nat)(h:j)(a:bG)(w:Bytes)(c:Int):Prop where
 at':a=⟨a.id,0,0,0,6⟩
 ex:∃aF s es,cu h a.id aF s es∧es.length<N∧s.hold=[]∧s.cp=.sequence
 c:0≤c∧c≤255
 w:w.length<100
structure HK(h:j)(a:bG)(w:Bytes)(c:Int)(aa:j):Prop where
 all:∀aF s es,cu h a.id aF s es→s.hold.length≤4→ ∃aQ,cu aa a.id aQ (Keys.done s w (er c)).1 (es++(Keys.done s w (er c)).2)∧Fr h aa a.id aF aQ
 next:h.next≤aa.next
def HL(N:Nat):List o→j→Option eC:=fun args h =>
 match args with
 |[.ptr (some a),.str w,.int .u8 c]=>some (.some (.tuple []) [HJ N h a w c] (HK h a w c))
 |_=>none
theorem Z1{kept aB w:Bytes}{c:UInt8}(av:c.toNat=126)(hw:j' w=true):Keys.done ⟨.sequence,kept,[],aB⟩ w c=(⟨.cW,[],[],aB⟩,[]):=by have:c=126:=UInt8.toNat_inj.1 (by show c.toNat=126;exact av);simp [Keys.done,this,hw]
theorem Pa{kept aB w:Bytes}{c:UInt8}(h:¬(c.toNat=126∧j' w=true)):Keys.done ⟨.sequence,kept,[],aB⟩ w c=(⟨.ground,[],[],aB⟩,[(Keys.told w c).getD (gV kept)]):=by
 have:¬(c=126∧j' w=true):=fun e=>h ⟨by rw [e.1];rfl,e.2⟩
 simp only [Keys.done,this,if_false,tell]
theorem Z2{w kept:Bytes}{c:UInt8}(h:(Keys.told w c).isSome=true):(Keys.told w c).getD (gV kept)=(Keys.told w c).getD fp:=by
 cases bW:Keys.told w c with
 |none=>rw [bW]at h;cases h
 |some e=>rfl
theorem told_none{w kept:Bytes}{c:UInt8}(h:(Keys.told w c).isSome=false):(Keys.told w c).getD (gV kept)=gV kept:=by
 cases bW:Keys.told w c with
 |none=>rfl
 |some e=>rw [bW]at h;cases h
set_option hygiene false in
theorem Z3{H:j}{d:Nat}{aF:cL}{s:bO}{es:List bj}{c:UInt8}{w:Bytes}(g:cu H d aF s es)(cw:es.length<2^30)(p:s.hold=[])(ad:s.cp=.sequence)(hw:w.length<100):∃aP,aI Tryz.prog aw 105 [.ptr (some ⟨d,0,0,0,6⟩),.str w,.int .u8 c.toNat] H (.tuple []) aP ∧
 ∃aQ,cu aP d aQ (Keys.done s w c).1 (es++(Keys.done s w c).2)∧Fr H aP d aF aQ:=by
 obtain⟨bo,g,an⟩:=g
 refine g.lift (Q:=fun h d aF=>cu h d aF (Keys.done s w c).1 (es++(Keys.done s w c).2)) (rest:=[.str w,.int .u8 c.toNat]) (fun a aT=>by
  rcases List.mem_cons.1 aT with e|e
  ·rw [e];exact cR.of rfl
  ·rw [List.mem_singleton.1 e];exact cR.int _ _) (cR.of rfl) (fun aa aP r d aF bb iw cQ q=>q.pc bb iw cQ) ?_
 intro aX ah af aq aE bA bz bl bB K P O a7 gs cX;obtain⟨ap,ac,ai⟩:=ni gs;obtain⟨cp,kept,hold,aB⟩:=s;simp only at p ad an gs ap ac ai⊢;subst p ad
 have mQ:bo=.grown []:=by
  cases bo with
  |grown C=>cases C with
   |nil=>rfl
   |cons a b=>exact an.elim
  |_=>exact an.elim
 subst mQ;obtain⟨kD,J,m,aG,rfl,dj⟩:=ap;have cB:a7.k=2:=by omega
 rw [cB,j.e3]at dj;simp only [List.getElem?_cons_zero,List.getElem?_cons_succ,Option.some.injEq,List.nil_append]at dj;subst dj;rw [cB]at ac ai⊢;simp only [List.length_nil]at ac ai⊢;have zG:=c.toNat_lt;have hL:=n' kept
 suffices bW:∃v aa,aI Tryz.prog aw 105 [.ptr (some ⟨0,0,0,0,6⟩),.str w,.int .u8 c.toNat] (j.of [b2 0 (cK .sequence) 1 (.slice (some ⟨2,J,0,0,1⟩) kept.length kept.length) ah false af aq,cn [] bA bz bl bB aE,b3 (aL kept) 1 J m aG cI,P,O]) v aa ∧
  (v=.tuple []∧∃aQ,cu aa 0 aQ (Keys.done ⟨.sequence,kept,[],aB⟩ w c).1 (es++(Keys.done ⟨.sequence,kept,[],aB⟩ w c).2)∧Fr (j.of [b2 0 (cK .sequence) 1 (.slice (some ⟨2,J,0,0,1⟩) kept.length kept.length) ah false af aq,cn [] bA bz bl bB aE,b3 (aL kept) 1 J m aG cI,P,O]) aa 0 a7 aQ)by
  obtain⟨v,aa,aC,rfl,q⟩:=bW;exact⟨aa,aC,q⟩
 refine Z0 (cK .sequence) ah af aq (cn [] bA bz bl bB aE) P O (aL kept) J m aG kept.length c.toNat w _ ?_
 delta lN mu O9 ef hD vc vb eK lO ms O8 BP O' O6
 rw [show er (c.toNat:Int)=c from vd c,show strOf (List.take kept.length (aL kept))=kept by rw [xJ,iX]];by_cases BQ:c.toNat=126∧j' w=true
 ·obtain⟨av,HM⟩:=BQ
  have pk:∀{h:j},h.get 0=some (b2 0 (cK .cW) 1 (.slice none 0 0) ah true af aq)→h.get 1=some (cn [] bA bz bl bB aE)→h.get 3=some P→h.get 4=some O→Nat.ble 5 h.next=true→o.tuple []=.tuple []∧∃aQ,cu h 0 aQ (Keys.done ⟨.sequence,kept,[],aB⟩ w c).1 (es++(Keys.done ⟨.sequence,kept,[],aB⟩ w c).2)∧Fr (j.of [b2 0 (cK .sequence) 1 (.slice (some ⟨2,J,0,0,1⟩) kept.length kept.length) ah false af aq,cn [] bA bz bl bB aE,b3 (aL kept) 1 J m aG cI,P,O]) h 0 a7 aQ:=by intro h ca bn b7 ct bI;have bI:=Nat.le_of_ble_eq_true bI;refine⟨rfl,?_⟩;rw [Z1 av HM,List.append_nil];exact pf (s:=⟨.cW,[],[],aB⟩) (bo:= .nil) (iz (k:=0) rfl bI ca bn (.inr cB) b7 ct (A3 _) (by omega) ac ai cX (.inl rfl)) trivial
  have dp:(c.toNat:Int)=126:=by omega
  have j6:w=[(50:UInt8),(48:UInt8),(48:UInt8)]∨(List.dropWhile (fun x=>x == 48) w=[(50:UInt8),(48:UInt8),(48:UInt8)]∧(w.length:Int)≤9):=by
   simp only [j',Bool.or_eq_true,beq_iff_eq,Bool.and_eq_true,decide_eq_true_eq]at HM;rcases HM with e|⟨e,bs⟩
   ·exact .inl e
   ·exact .inr ⟨e,by omega⟩
  rcases j6 with bn|⟨bn,bs⟩
  ·repeat' (first
    |exact True.intro
    |assumption
    |contradiction
    |exact pk (by kernel_rfl) (by kernel_rfl) (by kernel_rfl) (by kernel_rfl) (by kernel_rfl)
    |exact lv (by assumption) (by kernel_rfl) (by kernel_rfl) (by kernel_rfl) (by kernel_rfl) (by kernel_rfl) (by kernel_rfl) rfl
    |exact dn (by assumption) (by kernel_rfl) (by kernel_rfl) (by kernel_rfl) (by kernel_rfl) (by kernel_rfl) (by kernel_rfl) rfl
    |intro _
    |refine And.intro ?_ ?_
    |rfl
    |omega
    |exact pj _ _ _)
  ·repeat' (first
    |exact True.intro
    |assumption
    |contradiction
    |exact pk (by kernel_rfl) (by kernel_rfl) (by kernel_rfl) (by kernel_rfl) (by kernel_rfl)
    |exact lv (by assumption) (by kernel_rfl) (by kernel_rfl) (by kernel_rfl) (by kernel_rfl) (by kernel_rfl) (by kernel_rfl) rfl
    |exact dn (by assumption) (by kernel_rfl) (by kernel_rfl) (by kernel_rfl) (by kernel_rfl) (by kernel_rfl) (by kernel_rfl) rfl
    |intro _
    |refine And.intro ?_ ?_
    |rfl
    |omega
    |exact pj _ _ _)
 ·have lv:∀{h:j}{cS:o},(Keys.told w c).isSome=true→Nat.ble 5 h.next=true→h.get 0=some (b2 0 (cK .sequence) 1 (.slice (some ⟨2,J,0,0,1⟩) kept.length kept.length) ah false af aq)→h.get 1=some (cn [] bA bz bl bB aE)→h.get 2=some (b3 (aL kept) 1 J m aG cI)→h.get 3=some P→h.get 4=some O→cS=cm ((Keys.told w c).getD fp) →
   cC h ⟨0,0,0,0,6⟩ cS∧∀aa,cD h ⟨0,0,0,0,6⟩ cS aa→_root_.cond (Nat.ble 5 aa.next) (o.tuple []=.tuple []∧∃aQ,cu aa 0 aQ (Keys.done ⟨.sequence,kept,[],aB⟩ w c).1 (es++(Keys.done ⟨.sequence,kept,[],aB⟩ w c).2)∧Fr (j.of [b2 0 (cK .sequence) 1 (.slice (some ⟨2,J,0,0,1⟩) kept.length kept.length) ah false af aq,cn [] bA bz bl bB aE,b3 (aL kept) 1 J m aG cI,P,O]) aa 0 a7 aQ) False:=by
   intro h cS an bI ca bn bs b7 ct he;exact te bI ca bn bs b7 ct rfl rfl ac ai cX cB he cw (by simp) fun aa aQ g cU=>⟨rfl,aQ,by rw [Pa BQ,Z2 an];exact g,cU⟩
  have dn:∀{h:j}{cS:o},(Keys.told w c).isSome=false→Nat.ble 5 h.next=true→h.get 0=some (b2 0 (cK .sequence) 1 (.slice (some ⟨2,J,0,0,1⟩) kept.length kept.length) ah false af aq)→h.get 1=some (cn [] bA bz bl bB aE)→h.get 2=some (b3 (aL kept) 1 J m aG cI)→h.get 3=some P→h.get 4=some O→cS=cm (gV kept) →
   cC h ⟨0,0,0,0,6⟩ cS∧∀aa,cD h ⟨0,0,0,0,6⟩ cS aa→_root_.cond (Nat.ble 5 aa.next) (o.tuple []=.tuple []∧∃aQ,cu aa 0 aQ (Keys.done ⟨.sequence,kept,[],aB⟩ w c).1 (es++(Keys.done ⟨.sequence,kept,[],aB⟩ w c).2)∧Fr (j.of [b2 0 (cK .sequence) 1 (.slice (some ⟨2,J,0,0,1⟩) kept.length kept.length) ah false af aq,cn [] bA bz bl bB aE,b3 (aL kept) 1 J m aG cI,P,O]) aa 0 a7 aQ) False:=by
   intro h cS an bI ca bn bs b7 ct he;exact te bI ca bn bs b7 ct rfl rfl ac ai cX cB he cw (by simp) fun aa aQ g cU=>⟨rfl,aQ,by rw [Pa BQ,told_none an];exact g,cU⟩
  by_cases av:(c.toNat:Int)=126
  ·have Pb:j' w=false:=by
    cases ak:j' w with
    |false=>rfl
    |true=>exact absurd ⟨by omega,ak⟩ BQ
   simp only [j',Bool.or_eq_false_iff,Bool.and_eq_false_iff,beq_eq_false_iff_ne,decide_eq_false_iff_not]at Pb;obtain⟨a6,aO⟩:=Pb;have af6:¬w=[(50:UInt8),(48:UInt8),(48:UInt8)]:=a6;rcases aO with aO|aO
   ·have Z4:¬List.dropWhile (fun x=>x == 48) w=[(50:UInt8),(48:UInt8),(48:UInt8)]:=aO
    repeat' (first
     |exact True.intro
     |assumption
     |contradiction
     |exact pk (by kernel_rfl) (by kernel_rfl) (by kernel_rfl) (by kernel_rfl) (by kernel_rfl)
     |exact lv (by assumption) (by kernel_rfl) (by kernel_rfl) (by kernel_rfl) (by kernel_rfl) (by kernel_rfl) (by kernel_rfl) rfl
     |exact dn (by assumption) (by kernel_rfl) (by kernel_rfl) (by kernel_rfl) (by kernel_rfl) (by kernel_rfl) (by kernel_rfl) rfl
     |intro _
     |refine And.intro ?_ ?_
     |rfl
     |omega
     |exact pj _ _ _)
   ·have Z4:¬(w.length:Int)≤9:=by omega
    repeat' (first
     |exact True.intro
     |assumption
     |contradiction
     |exact pk (by kernel_rfl) (by kernel_rfl) (by kernel_rfl) (by kernel_rfl) (by kernel_rfl)
     |exact lv (by assumption) (by kernel_rfl) (by kernel_rfl) (by kernel_rfl) (by kernel_rfl) (by kernel_rfl) (by kernel_rfl) rfl
     |exact dn (by assumption) (by kernel_rfl) (by kernel_rfl) (by kernel_rfl) (by kernel_rfl) (by kernel_rfl) (by kernel_rfl) rfl
     |intro _
     |refine And.intro ?_ ?_
     |rfl
     |omega
     |exact pj _ _ _)
  ·repeat' (first
    |exact True.intro
    |assumption
    |contradiction
    |exact pk (by kernel_rfl) (by kernel_rfl) (by kernel_rfl) (by kernel_rfl) (by kernel_rfl)
    |exact lv (by assumption) (by kernel_rfl) (by kernel_rfl) (by kernel_rfl) (by kernel_rfl) (by kernel_rfl) (by kernel_rfl) rfl
    |exact dn (by assumption) (by kernel_rfl) (by kernel_rfl) (by kernel_rfl) (by kernel_rfl) (by kernel_rfl) (by kernel_rfl) rfl
    |intro _
    |refine And.intro ?_ ?_
    |rfl
    |omega
    |exact pj _ _ _)
theorem Z5:∀args h a,HL (2^30) args h=some a→a.dw Tryz.prog aw 105 args h:=by
 intro args h a e;unfold HL at e;split at e<;>first|(cases e;done)|skip
 rename_i a w c;simp only [Option.some.injEq]at e;subst e;intro ac;have aT:=ac.head.at';obtain⟨_,⟨aF,s,es,g,cw,az,aS⟩,av,hw⟩:=ac.head;obtain⟨aa,aC,aQ,dv,cU⟩:=Z3 (c:=er c) g cw az aS hw;rw [←aT,M8 av]at aC;refine⟨aa,aC,⟨?_,cU.next⟩⟩;intro db s2 rD g2 qZ;obtain⟨rfl,rfl,rfl⟩:=g.q9 g2 (by rw [az];simp);exact⟨aQ,dv,cU⟩
noncomputable def Pc:fc:=O4.add 105 (HL (2^30))
theorem Pd:eW Tryz.prog aw Pc:=O5.add Z5
abbrev Pe:dk:=(.aK 5001 (.aK 5004 .nil (ag 7007 (.aK 8005 (ag 9005 .nil) .nil))) (ag 7007 (.aK 8005 (ag 9005 .nil) .nil)))
abbrev qv(f:Nat)(ah:o)(af:o)(ax:Option (TypeId×Nat))(bk:R)(P:R)(O:R)(l:List o)(J:Nat)(m:Nat)(aG:Nat)(len:Nat):j:=(j.ar 35 [(0,(hD f ah af ax J len)),(1,bk),(2,(ef l J m aG)),(3,P),(4,O)])
abbrev yk(f:Nat)(ah:o)(af:o)(ax:Option (TypeId×Nat))(bk:R)(P:R)(O:R)(l:List o)(J:Nat)(m:Nat)(aG:Nat)(len:Nat)(c:Int):j:=(j.ar 56 [(0,(hE f ah af ax J len)),(1,bk),(2,(dr l J m aG c)),(3,P),(4,O),(45,R.made [.int .u8 c] 1 true)])
abbrev qw(f:Nat)(ah:o)(af:o)(ax:Option (TypeId×Nat))(bk:R)(P:R)(O:R)(l:List o)(J:Nat)(m:Nat)(aG:Nat)(len:Nat)(c:Int):j:=(j.ar 64 [(0,(hE f ah af ax J len)),(1,bk),(2,(dr l J m aG c)),(3,P),(4,O),(45,R.made [.int .u8 c] 1 true)])
theorem Z6(f:Nat)(ah af:o)(ax:Option (TypeId×Nat))(bk P O:R)(l:List o)(J m aG len:Nat)(c:Int)(U:o→j→Prop)(aY:(-9223372036854775808≤(len:Int)-1∧(len:Int)-1≤9223372036854775807)∧(0≤(len:Int)-1∧(len:Int)-1<(len:Int))∧J=J∧l[0+Int.toNat ((len:Int)-1)]? =some (.int .u8 (a' l (0+Int.toNat ((len:Int)-1))))∧(64≤c→(c≤126→(J=J∧0+len=List.length l∧len<len+1∧(len+1+(len+1)/4+512)*1≤281474976710656∧len+1<4611686018427387904)∧(-9223372036854775808≤(↑(len+1):Int)-1∧(↑(len+1):Int)-1≤9223372036854775807)∧((0:Int)≤2∧2≤(↑(len+1):Int)-1∧(↑(len+1):Int)-1≤(↑(len+1):Int))∧J+1=J+1∧2+(Int.toNat ((↑(len+1):Int)-1)-2)≤List.length (l++[.int .u8 c])∧(∃b6,List.take (Int.toNat ((↑(len+1):Int)-1)-2) (List.drop (bG.idx {id:=2,J:=J+1,idx:=2,bR:=0,es:=1}) (R.bi (dr l J m aG c)))=aL b6)∧HJ (2^30) (j.ar 51 [(0,(hE f ah af ax J len)),(1,bk),(2,(dr l J m aG c)),(3,P),(4,O),(31,R.made [.int .u8 c] 1 true)]) ⟨0,0,0,0,6⟩ (strOf (List.take (Int.toNat ((↑(len+1):Int)-1)-2) (List.drop 2 (List.append l [.int .u8 c])))) c∧∀(HN:j),HK (j.ar 51 [(0,(hE f ah af ax J len)),(1,bk),(2,(dr l J m aG c)),(3,P),(4,O),(31,R.made [.int .u8 c] 1 true)]) ⟨0,0,0,0,6⟩ (strOf (List.take (Int.toNat ((↑(len+1):Int)-1)-2) (List.drop 2 (List.append l [.int .u8 c])))) c HN→bK 5 (HN.next) (U (.tuple []) HN))∧(¬c≤126→(c<32→dB (2^30-8) eE (qv f ah af ax bk P O l J m aG len) ⟨0,0,0,0,6⟩ c∧∀(gw:j),dC bad (qv f ah af ax bk P O l J m aG len) ⟨0,0,0,0,6⟩ c gw→bK 5 (gw.next) (U (.tuple []) gw))∧(¬c<32→(63<c→dB (2^30-8) eE (qv f ah af ax bk P O l J m aG len) ⟨0,0,0,0,6⟩ c∧∀(gw:j),dC bad (qv f ah af ax bk P O l J m aG len) ⟨0,0,0,0,6⟩ c gw→bK 5 (gw.next) (U (.tuple []) gw))∧(¬63<c→(48≤c→(a' l (0+Int.toNat ((len:Int)-1))<48→dB (2^30-8) eE (j.ar 42 [(0,(hD f ah af ax J len)),(1,bk),(2,(ef l J m aG)),(3,P),(4,O)]) ⟨0,0,0,0,6⟩ c∧∀(gw:j),dC bad (j.ar 42 [(0,(hD f ah af ax J len)),(1,bk),(2,(ef l J m aG)),(3,P),(4,O)]) ⟨0,0,0,0,6⟩ c gw→bK 5 (gw.next) (U (.tuple []) gw))∧(¬a' l (0+Int.toNat ((len:Int)-1))<48→(J=J∧0+len=List.length l∧len<len+1∧(len+1+(len+1)/4+512)*1≤281474976710656∧len+1<4611686018427387904)∧((↑(len+1):Int)=64→J+1=J+1∧0+(len+1)≤List.length (l++[.int .u8 c])∧(∃b6,List.take (len+1) (List.drop (bG.idx {id:=2,J:=J+1,idx:=0,bR:=0,es:=1}) (R.bi (dr l J m aG c)))=aL b6)∧cC (qw f ah af ax bk P O l J m aG len c) ⟨0,0,0,0,6⟩ ((eg l len c))∧∀(k6:j),cD (qw f ah af ax bk P O l J m aG len c) ⟨0,0,0,0,6⟩ ((eg l len c)) k6→bK 5 (k6.next) (U (.tuple []) k6))∧(¬(↑(len+1):Int)=64→U (.tuple []) (yk f ah af ax bk P O l J m aG len c))))∧(¬48≤c→(J=J∧0+len=List.length l∧len<len+1∧(len+1+(len+1)/4+512)*1≤281474976710656∧len+1<4611686018427387904)∧((↑(len+1):Int)=64→J+1=J+1∧0+(len+1)≤List.length (l++[.int .u8 c])∧(∃b6,List.take (len+1) (List.drop (bG.idx {id:=2,J:=J+1,idx:=0,bR:=0,es:=1}) (R.bi (dr l J m aG c)))=aL b6)∧cC (qw f ah af ax bk P O l J m aG len c) ⟨0,0,0,0,6⟩ ((eg l len c))∧∀(k6:j),cD (qw f ah af ax bk P O l J m aG len c) ⟨0,0,0,0,6⟩ ((eg l len c)) k6→bK 5 (k6.next) (U (.tuple []) k6))∧(¬(↑(len+1):Int)=64→U (.tuple []) (yk f ah af ax bk P O l J m aG len c)))))))∧(¬64≤c→(c<32→dB (2^30-8) eE (qv f ah af ax bk P O l J m aG len) ⟨0,0,0,0,6⟩ c∧∀(gw:j),dC bad (qv f ah af ax bk P O l J m aG len) ⟨0,0,0,0,6⟩ c gw→bK 5 (gw.next) (U (.tuple []) gw))∧(¬c<32→(63<c→dB (2^30-8) eE (qv f ah af ax bk P O l J m aG len) ⟨0,0,0,0,6⟩ c∧∀(gw:j),dC bad (qv f ah af ax bk P O l J m aG len) ⟨0,0,0,0,6⟩ c gw→bK 5 (gw.next) (U (.tuple []) gw))∧(¬63<c→(48≤c→(a' l (0+Int.toNat ((len:Int)-1))<48→dB (2^30-8) eE (j.ar 42 [(0,(hD f ah af ax J len)),(1,bk),(2,(ef l J m aG)),(3,P),(4,O)]) ⟨0,0,0,0,6⟩ c∧∀(gw:j),dC bad (j.ar 42 [(0,(hD f ah af ax J len)),(1,bk),(2,(ef l J m aG)),(3,P),(4,O)]) ⟨0,0,0,0,6⟩ c gw→bK 5 (gw.next) (U (.tuple []) gw))∧(¬a' l (0+Int.toNat ((len:Int)-1))<48→(J=J∧0+len=List.length l∧len<len+1∧(len+1+(len+1)/4+512)*1≤281474976710656∧len+1<4611686018427387904)∧((↑(len+1):Int)=64→J+1=J+1∧0+(len+1)≤List.length (l++[.int .u8 c])∧(∃b6,List.take (len+1) (List.drop (bG.idx {id:=2,J:=J+1,idx:=0,bR:=0,es:=1}) (R.bi (dr l J m aG c)))=aL b6)∧cC (qw f ah af ax bk P O l J m aG len c) ⟨0,0,0,0,6⟩ ((eg l len c))∧∀(k6:j),cD (qw f ah af ax bk P O l J m aG len c) ⟨0,0,0,0,6⟩ ((eg l len c)) k6→bK 5 (k6.next) (U (.tuple []) k6))∧(¬(↑(len+1):Int)=64→U (.tuple []) (yk f ah af ax bk P O l J m aG len c))))∧(¬48≤c→(J=J∧0+len=List.length l∧len<len+1∧(len+1+(len+1)/4+512)*1≤281474976710656∧len+1<4611686018427387904)∧((↑(len+1):Int)=64→J+1=J+1∧0+(len+1)≤List.length (l++[.int .u8 c])∧(∃b6,List.take (len+1) (List.drop (bG.idx {id:=2,J:=J+1,idx:=0,bR:=0,es:=1}) (R.bi (dr l J m aG c)))=aL b6)∧cC (qw f ah af ax bk P O l J m aG len c) ⟨0,0,0,0,6⟩ ((eg l len c))∧∀(k6:j),cD (qw f ah af ax bk P O l J m aG len c) ⟨0,0,0,0,6⟩ ((eg l len c)) k6→bK 5 (k6.next) (U (.tuple []) k6))∧(¬(↑(len+1):Int)=64→U (.tuple []) (yk f ah af ax bk P O l J m aG len c))))))) :
 ∃v p,aI Tryz.prog aw 87 [.ptr (some ⟨0,0,0,0,6⟩),.int .u8 c] (j.of [b2 0 f 1 (.slice (some ⟨2,J,0,0,1⟩) len len) ah false af ax,bk,b3 l 1 J m aG cI,P,O]) v p∧U v p :=
 cb bQ mixed Pd (an:=ag 9 (ag 10 (ag 11 (.aK 1001 (.aK 1004 (ag 2007 (ag 3010 (ag 3011 (ag 3012 .nil)))) (.aK 4001 .nil (.aK 4004 .nil Pe))) (.aK 4001 .nil (.aK 4004 .nil Pe)))))) (by kernel_rfl) aY
end Go.Proofs.YtddnafghiejcoaaGreatDoor
