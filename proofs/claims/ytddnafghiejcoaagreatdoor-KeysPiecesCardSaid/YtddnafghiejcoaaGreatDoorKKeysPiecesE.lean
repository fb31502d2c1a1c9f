/-
  Parts of the proof of KeysPieces.
-/
import Derived.Lib.Bytealg
import Derived.Shelf.Strings.OnBuilder
import Derived.Shelf.Strings.Repeat
import Derived.Lib.Atoi
import Derived.Lib.SlTrimSet
import Derived.Shelf.Strings.SlTrimAscii
import Derived.Shelf.Strconv.Atoi
import Derived.Lib.AtoiErrMem
import Derived.Shelf.Strings.Count
import Derived.Shelf.Strings.Search3
import Derived.Test.YtddnafghiejcoaaGreatDoorKKeysPiecesD
set_option linter.unusedVariables false
set_option linter.unusedSimpArgs false
set_option linter.unusedSectionVars false
namespace Go.Proofs.YtddnafghiejcoaaGreatDoor
open Go.Lift Go.Keys
set_option maxRecDepth 1000000
abbrev zv37_0(ver:Nat)(a0:Int)(a1:Int)(a2:Int)(a3:Int)(n:Int)(c:Int):ABlk:=⟨[.int .i32 (↑(List.getD (Prod.fst (feedQ a0 a1 a2 a3 n c)) 0 0):Int),.int .i32 (↑(List.getD (Prod.fst (feedQ a0 a1 a2 a3 n c)) 1 0):Int)],1,false,false,1,0,1,some (21,0)⟩
abbrev zv37_1:HT:=(.br 4005 (hg 6019 (hg 6023 zv36_2)) (hg 6019 (hg 6023 zv36_2)))
abbrev zv37_2(f:Nat)(pv:AVal)(ov:AVal)(dty:Option (TypeId×Nat))(uty:Option (TypeId×Nat))(P:ABlk)(O:ABlk)(l:List AVal)(ver:Nat)(m:Nat)(fl:Nat)(len:Nat)(a0:Int)(a1:Int)(a2:Int)(a3:Int)(n:Int)(c:Int):AHeap:=(AHeap.rowsT 95 [(0,(zv35_11 f pv ov dty ver len)),(1,(zv35_10 uty ver a0 a1 a2 a3 n c)),(2,(zv32_0 l ver m fl)),(3,P),(4,O),(27,(zv0_0 c)),(30,(zv37_0 ver a0 a1 a2 a3 n c)),(71,ABlk.made [.int .u8 c] 1 true)])
abbrev zv37_3(f:Nat)(pv:AVal)(ov:AVal)(dty:Option (TypeId×Nat))(uty:Option (TypeId×Nat))(P:ABlk)(O:ABlk)(l:List AVal)(ver:Nat)(m:Nat)(fl:Nat)(len:Nat)(a0:Int)(a1:Int)(a2:Int)(a3:Int)(n:Int)(c:Int):AHeap:=(AHeap.rowsT 97 [(0,(zv35_11 f pv ov dty ver len)),(1,(zv35_10 uty ver a0 a1 a2 a3 n c)),(2,(zv32_0 l ver m fl)),(3,P),(4,O),(29,(zv0_0 c)),(32,(zv37_0 ver a0 a1 a2 a3 n c)),(73,ABlk.made [.int .u8 c] 1 true)])
abbrev zv37_4(f:Nat)(pv:AVal)(ov:AVal)(dty:Option (TypeId×Nat))(uty:Option (TypeId×Nat))(P:ABlk)(O:ABlk)(l:List AVal)(ver:Nat)(m:Nat)(fl:Nat)(len:Nat)(a0:Int)(a1:Int)(a2:Int)(a3:Int)(n:Int)(c:Int):AHeap:=(AHeap.rowsT 104 [(0,(zv35_12 f pv ov dty ver len)),(1,(zv35_10 uty ver a0 a1 a2 a3 n c)),(2,(zv35_3 l ver m fl c)),(3,P),(4,O),(27,(zv0_0 c)),(30,(zv37_0 ver a0 a1 a2 a3 n c)),(71,ABlk.made [.int .u8 c] 1 true),(82,ABlk.made [.int .u8 c] 1 true)])
abbrev zv37_5(f:Nat)(pv:AVal)(ov:AVal)(dty:Option (TypeId×Nat))(uty:Option (TypeId×Nat))(P:ABlk)(O:ABlk)(l:List AVal)(ver:Nat)(m:Nat)(fl:Nat)(len:Nat)(a0:Int)(a1:Int)(a2:Int)(a3:Int)(n:Int)(c:Int):AHeap:=(AHeap.rowsT 105 [(0,(zv35_12 f pv ov dty ver len)),(1,(zv35_10 uty ver a0 a1 a2 a3 n c)),(2,(zv35_3 l ver m fl c)),(3,P),(4,O),(27,(zv0_0 c)),(30,(zv37_0 ver a0 a1 a2 a3 n c)),(71,ABlk.made [.int .u8 c] 1 true),(82,ABlk.made [.int .u8 c] 1 true)])
abbrev zv37_6(f:Nat)(pv:AVal)(ov:AVal)(dty:Option (TypeId×Nat))(uty:Option (TypeId×Nat))(P:ABlk)(O:ABlk)(l:List AVal)(ver:Nat)(m:Nat)(fl:Nat)(len:Nat)(a0:Int)(a1:Int)(a2:Int)(a3:Int)(n:Int)(c:Int):AHeap:=(AHeap.rowsT 106 [(0,(zv35_12 f pv ov dty ver len)),(1,(zv35_10 uty ver a0 a1 a2 a3 n c)),(2,(zv35_3 l ver m fl c)),(3,P),(4,O),(29,(zv0_0 c)),(32,(zv37_0 ver a0 a1 a2 a3 n c)),(73,ABlk.made [.int .u8 c] 1 true),(84,ABlk.made [.int .u8 c] 1 true)])
abbrev zv37_7(f:Nat)(pv:AVal)(ov:AVal)(dty:Option (TypeId×Nat))(uty:Option (TypeId×Nat))(P:ABlk)(O:ABlk)(l:List AVal)(ver:Nat)(m:Nat)(fl:Nat)(len:Nat)(a0:Int)(a1:Int)(a2:Int)(a3:Int)(n:Int)(c:Int):AHeap:=(AHeap.rowsT 107 [(0,(zv35_12 f pv ov dty ver len)),(1,(zv35_10 uty ver a0 a1 a2 a3 n c)),(2,(zv35_3 l ver m fl c)),(3,P),(4,O),(29,(zv0_0 c)),(32,(zv37_0 ver a0 a1 a2 a3 n c)),(73,ABlk.made [.int .u8 c] 1 true),(84,ABlk.made [.int .u8 c] 1 true)])
abbrev zv37_8(f:Nat)(pv:AVal)(ov:AVal)(dty:Option (TypeId×Nat))(uty:Option (TypeId×Nat))(P:ABlk)(O:ABlk)(l:List AVal)(ver:Nat)(m:Nat)(fl:Nat)(len:Nat)(a0:Int)(a1:Int)(a2:Int)(a3:Int)(n:Int)(c:Int):AHeap:=(AHeap.rowsT 100 [(0,(zv35_11 f pv ov dty ver len)),(1,(zv35_9 uty ver a0 a1 a2 a3 n c)),(2,(zv32_0 l ver m fl)),(3,P),(4,O),(27,(zv0_0 c)),(30,(zv37_0 ver a0 a1 a2 a3 n c)),(71,ABlk.made [.int .u8 c] 1 true),(95,ABlk.made [.int .i32 65533] 1 true)])
abbrev zv37_9(f:Nat)(pv:AVal)(ov:AVal)(dty:Option (TypeId×Nat))(uty:Option (TypeId×Nat))(P:ABlk)(O:ABlk)(l:List AVal)(ver:Nat)(m:Nat)(fl:Nat)(len:Nat)(a0:Int)(a1:Int)(a2:Int)(a3:Int)(n:Int)(c:Int):AHeap:=(AHeap.rowsT 102 [(0,(zv35_11 f pv ov dty ver len)),(1,(zv35_9 uty ver a0 a1 a2 a3 n c)),(2,(zv32_0 l ver m fl)),(3,P),(4,O),(29,(zv0_0 c)),(32,(zv37_0 ver a0 a1 a2 a3 n c)),(73,ABlk.made [.int .u8 c] 1 true),(97,ABlk.made [.int .i32 65533] 1 true)])
theorem char2_vc(f:Nat)(pv ov:AVal)(dty uty:Option (TypeId×Nat))(P O:ABlk)(l:List AVal)(ver m fl len:Nat)(a0 a1 a2 a3 n c:Int)(K0:AVal→AHeap→Prop)(vc:(0<(len:Int)→((0:Int)≤0∧0<(len:Int))∧ver=ver∧l[0]? =some (.int .u8 (intAt l 0))∧(intAt l 0=27→ ¬(feedQ a0 a1 a2 a3 n c).1= []∧ ¬List.length (Prod.fst (feedQ a0 a1 a2 a3 n c))=1∧FeedPre a0 a1 a2 a3 n c∧(0<(↑(List.length (Prod.snd (feedQ a0 a1 a2 a3 n c))):Int)→((0:Int)≤1∧1≤(len:Int)∧len≤len)∧ver=ver∧1+(len-1)≤List.length l∧(∃ l_1,List.take (len-1) (List.drop (AAddr.idx ⟨2,ver,1,0,1⟩) (ABlk.elems (zv32_0 l ver m fl)))=bytesA l_1)∧Nat.le (Nat.succ (List.length (strOf (List.take (len-1) (List.drop 1 l)))+List.length [UInt8.ofNat (Int.toNat c)])) (2^62)∧List.length (strOf (List.take (len-1) (List.drop 1 l))++ [UInt8.ofNat (Int.toNat c)])<1099511627776∧(valid (strOf (List.take (len-1) (List.drop 1 l))++ [UInt8.ofNat (Int.toNat c)])=true→(ver=ver∧0+len=List.length l∧len<len+1∧(len+1+(len+1) / 4+512)*1≤281474976710656∧len+1<4611686018427387904)∧((0:Int)≤1∧1≤(↑(len+1):Int)∧len+1≤len+1)∧ver+1=ver+1∧1+(len+1-1)≤List.length (l++ [.int .u8 c])∧(∃ l_1,List.take (len+1-1) (List.drop (AAddr.idx {id:=2,ver:=ver+1,idx:=1,fld:=0,es:=1}) (ABlk.elems (zv35_3 l ver m fl c)))=bytesA l_1)∧List.length (strOf (List.take (len+1-1) (List.drop 1 (List.append l [.int .u8 c]))))<1099511627776∧(valid (strOf (List.take (len+1-1) (List.drop 1 (List.append l [.int .u8 c]))))=true→TellPre (zv37_6 f pv ov dty uty P O l ver m fl len a0 a1 a2 a3 n c) ⟨0,0,0,0,6⟩ ((zv30_3 a0 a1 a2 a3 n c))∧ ∀ (h10006:AHeap),TellP (zv37_6 f pv ov dty uty P O l ver m fl len a0 a1 a2 a3 n c) ⟨0,0,0,0,6⟩ ((zv30_3 a0 a1 a2 a3 n c)) h10006→bif Nat.ble 5 (h10006.next)then K0 (.tuple []) h10006 else False)∧(valid (strOf (List.take (len+1-1) (List.drop 1 (List.append l [.int .u8 c]))))=false→ver+1=ver+1∧0+(len+1)≤List.length (l++ [.int .u8 c])∧(∃ l_1,List.take (len+1) (List.drop (AAddr.idx {id:=2,ver:=ver+1,idx:=0,fld:=0,es:=1}) (ABlk.elems (zv35_3 l ver m fl c)))=bytesA l_1)∧TellPre (zv37_7 f pv ov dty uty P O l ver m fl len a0 a1 a2 a3 n c) ⟨0,0,0,0,6⟩ ((zv35_4 l len c))∧ ∀ (h11007:AHeap),TellP (zv37_7 f pv ov dty uty P O l ver m fl len a0 a1 a2 a3 n c) ⟨0,0,0,0,6⟩ ((zv35_4 l len c)) h11007→bif Nat.ble 5 (h11007.next)then K0 (.tuple []) h11007 else False))∧(valid (strOf (List.take (len-1) (List.drop 1 l))++ [UInt8.ofNat (Int.toNat c)])=false→((↑(List.length (Prod.snd (feedQ a0 a1 a2 a3 n c))):Int)=0→StepPre (2^30-8) badR (zv37_3 f pv ov dty uty P O l ver m fl len a0 a1 a2 a3 n c) ⟨0,0,0,0,6⟩ c∧ ∀ (h13002:AHeap),StepP bad (zv37_3 f pv ov dty uty P O l ver m fl len a0 a1 a2 a3 n c) ⟨0,0,0,0,6⟩ c h13002→bif Nat.ble 5 (h13002.next)then K0 (.tuple []) h13002 else False)∧(¬(↑(List.length (Prod.snd (feedQ a0 a1 a2 a3 n c))):Int)=0→StepPre (2^30-8) badR (zv37_9 f pv ov dty uty P O l ver m fl len a0 a1 a2 a3 n c) ⟨0,0,0,0,6⟩ c∧ ∀ (h13002:AHeap),StepP bad (zv37_9 f pv ov dty uty P O l ver m fl len a0 a1 a2 a3 n c) ⟨0,0,0,0,6⟩ c h13002→bif Nat.ble 5 (h13002.next)then K0 (.tuple []) h13002 else False)))∧(¬0<(↑(List.length (Prod.snd (feedQ a0 a1 a2 a3 n c))):Int)→((0:Int)≤1∧1≤(len:Int)∧len≤len)∧ver=ver∧1+(len-1)≤List.length l∧(∃ l_1,List.take (len-1) (List.drop (AAddr.idx ⟨2,ver,1,0,1⟩) (ABlk.elems (zv32_0 l ver m fl)))=bytesA l_1)∧Nat.le (Nat.succ (List.length (strOf (List.take (len-1) (List.drop 1 l)))+List.length [UInt8.ofNat (Int.toNat c)])) (2^62)∧List.length (strOf (List.take (len-1) (List.drop 1 l))++ [UInt8.ofNat (Int.toNat c)])<1099511627776∧(valid (strOf (List.take (len-1) (List.drop 1 l))++ [UInt8.ofNat (Int.toNat c)])=true→(ver=ver∧0+len=List.length l∧len<len+1∧(len+1+(len+1) / 4+512)*1≤281474976710656∧len+1<4611686018427387904)∧((0:Int)≤1∧1≤(↑(len+1):Int)∧len+1≤len+1)∧ver+1=ver+1∧1+(len+1-1)≤List.length (l++ [.int .u8 c])∧(∃ l_1,List.take (len+1-1) (List.drop (AAddr.idx {id:=2,ver:=ver+1,idx:=1,fld:=0,es:=1}) (ABlk.elems (zv35_3 l ver m fl c)))=bytesA l_1)∧List.length (strOf (List.take (len+1-1) (List.drop 1 (List.append l [.int .u8 c]))))<1099511627776∧(valid (strOf (List.take (len+1-1) (List.drop 1 (List.append l [.int .u8 c]))))=true→TellPre (zv37_6 f pv ov dty uty P O l ver m fl len a0 a1 a2 a3 n c) ⟨0,0,0,0,6⟩ ((zv30_3 a0 a1 a2 a3 n c))∧ ∀ (h10006:AHeap),TellP (zv37_6 f pv ov dty uty P O l ver m fl len a0 a1 a2 a3 n c) ⟨0,0,0,0,6⟩ ((zv30_3 a0 a1 a2 a3 n c)) h10006→bif Nat.ble 5 (h10006.next)then K0 (.tuple []) h10006 else False)∧(valid (strOf (List.take (len+1-1) (List.drop 1 (List.append l [.int .u8 c]))))=false→ver+1=ver+1∧0+(len+1)≤List.length (l++ [.int .u8 c])∧(∃ l_1,List.take (len+1) (List.drop (AAddr.idx {id:=2,ver:=ver+1,idx:=0,fld:=0,es:=1}) (ABlk.elems (zv35_3 l ver m fl c)))=bytesA l_1)∧TellPre (zv37_7 f pv ov dty uty P O l ver m fl len a0 a1 a2 a3 n c) ⟨0,0,0,0,6⟩ ((zv35_4 l len c))∧ ∀ (h11007:AHeap),TellP (zv37_7 f pv ov dty uty P O l ver m fl len a0 a1 a2 a3 n c) ⟨0,0,0,0,6⟩ ((zv35_4 l len c)) h11007→bif Nat.ble 5 (h11007.next)then K0 (.tuple []) h11007 else False))∧(valid (strOf (List.take (len-1) (List.drop 1 l))++ [UInt8.ofNat (Int.toNat c)])=false→((↑(List.length (Prod.snd (feedQ a0 a1 a2 a3 n c))):Int)=0→StepPre (2^30-8) badR (zv37_3 f pv ov dty uty P O l ver m fl len a0 a1 a2 a3 n c) ⟨0,0,0,0,6⟩ c∧ ∀ (h13002:AHeap),StepP bad (zv37_3 f pv ov dty uty P O l ver m fl len a0 a1 a2 a3 n c) ⟨0,0,0,0,6⟩ c h13002→bif Nat.ble 5 (h13002.next)then K0 (.tuple []) h13002 else False)∧(¬(↑(List.length (Prod.snd (feedQ a0 a1 a2 a3 n c))):Int)=0→StepPre (2^30-8) badR (zv37_9 f pv ov dty uty P O l ver m fl len a0 a1 a2 a3 n c) ⟨0,0,0,0,6⟩ c∧ ∀ (h13002:AHeap),StepP bad (zv37_9 f pv ov dty uty P O l ver m fl len a0 a1 a2 a3 n c) ⟨0,0,0,0,6⟩ c h13002→bif Nat.ble 5 (h13002.next)then K0 (.tuple []) h13002 else False))))∧(¬intAt l 0=27→ ¬(feedQ a0 a1 a2 a3 n c).1= []∧ ¬List.length (Prod.fst (feedQ a0 a1 a2 a3 n c))=1∧FeedPre a0 a1 a2 a3 n c∧(0<(↑(List.length (Prod.snd (feedQ a0 a1 a2 a3 n c))):Int)→ver=ver∧0+(len-0)≤List.length l∧(∃ l_1,List.take (len-0) (List.drop (AAddr.idx ⟨2,ver,0,0,1⟩) (ABlk.elems (zv32_0 l ver m fl)))=bytesA l_1)∧Nat.le (Nat.succ (List.length (strOf (List.take (len-0) l))+List.length [UInt8.ofNat (Int.toNat c)])) (2^62)∧List.length (strOf (List.take (len-0) l)++ [UInt8.ofNat (Int.toNat c)])<1099511627776∧(valid (strOf (List.take (len-0) l)++ [UInt8.ofNat (Int.toNat c)])=true→(ver=ver∧0+len=List.length l∧len<len+1∧(len+1+(len+1) / 4+512)*1≤281474976710656∧len+1<4611686018427387904)∧ver+1=ver+1∧0+(len+1-0)≤List.length (l++ [.int .u8 c])∧(∃ l_1,List.take (len+1-0) (List.drop (AAddr.idx {id:=2,ver:=ver+1,idx:=0,fld:=0,es:=1}) (ABlk.elems (zv35_3 l ver m fl c)))=bytesA l_1)∧List.length (strOf (List.take (len+1-0) (List.drop 0 (List.append l [.int .u8 c]))))<1099511627776∧(valid (strOf (List.take (len+1-0) (List.drop 0 (List.append l [.int .u8 c]))))=true→TellPre (zv37_4 f pv ov dty uty P O l ver m fl len a0 a1 a2 a3 n c) ⟨0,0,0,0,6⟩ ((zv29_7 a0 a1 a2 a3 n c))∧ ∀ (h10006:AHeap),TellP (zv37_4 f pv ov dty uty P O l ver m fl len a0 a1 a2 a3 n c) ⟨0,0,0,0,6⟩ ((zv29_7 a0 a1 a2 a3 n c)) h10006→bif Nat.ble 5 (h10006.next)then K0 (.tuple []) h10006 else False)∧(valid (strOf (List.take (len+1-0) (List.drop 0 (List.append l [.int .u8 c]))))=false→ver+1=ver+1∧0+(len+1)≤List.length (l++ [.int .u8 c])∧(∃ l_1,List.take (len+1) (List.drop (AAddr.idx {id:=2,ver:=ver+1,idx:=0,fld:=0,es:=1}) (ABlk.elems (zv35_3 l ver m fl c)))=bytesA l_1)∧TellPre (zv37_5 f pv ov dty uty P O l ver m fl len a0 a1 a2 a3 n c) ⟨0,0,0,0,6⟩ ((zv35_4 l len c))∧ ∀ (h11007:AHeap),TellP (zv37_5 f pv ov dty uty P O l ver m fl len a0 a1 a2 a3 n c) ⟨0,0,0,0,6⟩ ((zv35_4 l len c)) h11007→bif Nat.ble 5 (h11007.next)then K0 (.tuple []) h11007 else False))∧(valid (strOf (List.take (len-0) l)++ [UInt8.ofNat (Int.toNat c)])=false→((↑(List.length (Prod.snd (feedQ a0 a1 a2 a3 n c))):Int)=0→StepPre (2^30-8) badR (zv37_2 f pv ov dty uty P O l ver m fl len a0 a1 a2 a3 n c) ⟨0,0,0,0,6⟩ c∧ ∀ (h13002:AHeap),StepP bad (zv37_2 f pv ov dty uty P O l ver m fl len a0 a1 a2 a3 n c) ⟨0,0,0,0,6⟩ c h13002→bif Nat.ble 5 (h13002.next)then K0 (.tuple []) h13002 else False)∧(¬(↑(List.length (Prod.snd (feedQ a0 a1 a2 a3 n c))):Int)=0→StepPre (2^30-8) badR (zv37_8 f pv ov dty uty P O l ver m fl len a0 a1 a2 a3 n c) ⟨0,0,0,0,6⟩ c∧ ∀ (h13002:AHeap),StepP bad (zv37_8 f pv ov dty uty P O l ver m fl len a0 a1 a2 a3 n c) ⟨0,0,0,0,6⟩ c h13002→bif Nat.ble 5 (h13002.next)then K0 (.tuple []) h13002 else False)))∧(¬0<(↑(List.length (Prod.snd (feedQ a0 a1 a2 a3 n c))):Int)→ver=ver∧0+(len-0)≤List.length l∧(∃ l_1,List.take (len-0) (List.drop (AAddr.idx ⟨2,ver,0,0,1⟩) (ABlk.elems (zv32_0 l ver m fl)))=bytesA l_1)∧Nat.le (Nat.succ (List.length (strOf (List.take (len-0) l))+List.length [UInt8.ofNat (Int.toNat c)])) (2^62)∧List.length (strOf (List.take (len-0) l)++ [UInt8.ofNat (Int.toNat c)])<1099511627776∧(valid (strOf (List.take (len-0) l)++ [UInt8.ofNat (Int.toNat c)])=true→(ver=ver∧0+len=List.length l∧len<len+1∧(len+1+(len+1) / 4+512)*1≤281474976710656∧len+1<4611686018427387904)∧ver+1=ver+1∧0+(len+1-0)≤List.length (l++ [.int .u8 c])∧(∃ l_1,List.take (len+1-0) (List.drop (AAddr.idx {id:=2,ver:=ver+1,idx:=0,fld:=0,es:=1}) (ABlk.elems (zv35_3 l ver m fl c)))=bytesA l_1)∧List.length (strOf (List.take (len+1-0) (List.drop 0 (List.append l [.int .u8 c]))))<1099511627776∧(valid (strOf (List.take (len+1-0) (List.drop 0 (List.append l [.int .u8 c]))))=true→TellPre (zv37_4 f pv ov dty uty P O l ver m fl len a0 a1 a2 a3 n c) ⟨0,0,0,0,6⟩ ((zv29_7 a0 a1 a2 a3 n c))∧ ∀ (h10006:AHeap),TellP (zv37_4 f pv ov dty uty P O l ver m fl len a0 a1 a2 a3 n c) ⟨0,0,0,0,6⟩ ((zv29_7 a0 a1 a2 a3 n c)) h10006→bif Nat.ble 5 (h10006.next)then K0 (.tuple []) h10006 else False)∧(valid (strOf (List.take (len+1-0) (List.drop 0 (List.append l [.int .u8 c]))))=false→ver+1=ver+1∧0+(len+1)≤List.length (l++ [.int .u8 c])∧(∃ l_1,List.take (len+1) (List.drop (AAddr.idx {id:=2,ver:=ver+1,idx:=0,fld:=0,es:=1}) (ABlk.elems (zv35_3 l ver m fl c)))=bytesA l_1)∧TellPre (zv37_5 f pv ov dty uty P O l ver m fl len a0 a1 a2 a3 n c) ⟨0,0,0,0,6⟩ ((zv35_4 l len c))∧ ∀ (h11007:AHeap),TellP (zv37_5 f pv ov dty uty P O l ver m fl len a0 a1 a2 a3 n c) ⟨0,0,0,0,6⟩ ((zv35_4 l len c)) h11007→bif Nat.ble 5 (h11007.next)then K0 (.tuple []) h11007 else False))∧(valid (strOf (List.take (len-0) l)++ [UInt8.ofNat (Int.toNat c)])=false→((↑(List.length (Prod.snd (feedQ a0 a1 a2 a3 n c))):Int)=0→StepPre (2^30-8) badR (zv37_2 f pv ov dty uty P O l ver m fl len a0 a1 a2 a3 n c) ⟨0,0,0,0,6⟩ c∧ ∀ (h13002:AHeap),StepP bad (zv37_2 f pv ov dty uty P O l ver m fl len a0 a1 a2 a3 n c) ⟨0,0,0,0,6⟩ c h13002→bif Nat.ble 5 (h13002.next)then K0 (.tuple []) h13002 else False)∧(¬(↑(List.length (Prod.snd (feedQ a0 a1 a2 a3 n c))):Int)=0→StepPre (2^30-8) badR (zv37_8 f pv ov dty uty P O l ver m fl len a0 a1 a2 a3 n c) ⟨0,0,0,0,6⟩ c∧ ∀ (h13002:AHeap),StepP bad (zv37_8 f pv ov dty uty P O l ver m fl len a0 a1 a2 a3 n c) ⟨0,0,0,0,6⟩ c h13002→bif Nat.ble 5 (h13002.next)then K0 (.tuple []) h13002 else False)))))∧(¬0<(len:Int)→ ¬(feedQ a0 a1 a2 a3 n c).1= []∧ ¬List.length (Prod.fst (feedQ a0 a1 a2 a3 n c))=1∧FeedPre a0 a1 a2 a3 n c∧(0<(↑(List.length (Prod.snd (feedQ a0 a1 a2 a3 n c))):Int)→ver=ver∧0+(len-0)≤List.length l∧(∃ l_1,List.take (len-0) (List.drop (AAddr.idx ⟨2,ver,0,0,1⟩) (ABlk.elems (zv32_0 l ver m fl)))=bytesA l_1)∧Nat.le (Nat.succ (List.length (strOf (List.take (len-0) l))+List.length [UInt8.ofNat (Int.toNat c)])) (2^62)∧List.length (strOf (List.take (len-0) l)++ [UInt8.ofNat (Int.toNat c)])<1099511627776∧(valid (strOf (List.take (len-0) l)++ [UInt8.ofNat (Int.toNat c)])=true→(ver=ver∧0+len=List.length l∧len<len+1∧(len+1+(len+1) / 4+512)*1≤281474976710656∧len+1<4611686018427387904)∧ver+1=ver+1∧0+(len+1-0)≤List.length (l++ [.int .u8 c])∧(∃ l_1,List.take (len+1-0) (List.drop (AAddr.idx {id:=2,ver:=ver+1,idx:=0,fld:=0,es:=1}) (ABlk.elems (zv35_3 l ver m fl c)))=bytesA l_1)∧List.length (strOf (List.take (len+1-0) (List.drop 0 (List.append l [.int .u8 c]))))<1099511627776∧(valid (strOf (List.take (len+1-0) (List.drop 0 (List.append l [.int .u8 c]))))=true→TellPre (zv37_4 f pv ov dty uty P O l ver m fl len a0 a1 a2 a3 n c) ⟨0,0,0,0,6⟩ ((zv29_7 a0 a1 a2 a3 n c))∧ ∀ (h10006:AHeap),TellP (zv37_4 f pv ov dty uty P O l ver m fl len a0 a1 a2 a3 n c) ⟨0,0,0,0,6⟩ ((zv29_7 a0 a1 a2 a3 n c)) h10006→bif Nat.ble 5 (h10006.next)then K0 (.tuple []) h10006 else False)∧(valid (strOf (List.take (len+1-0) (List.drop 0 (List.append l [.int .u8 c]))))=false→ver+1=ver+1∧0+(len+1)≤List.length (l++ [.int .u8 c])∧(∃ l_1,List.take (len+1) (List.drop (AAddr.idx {id:=2,ver:=ver+1,idx:=0,fld:=0,es:=1}) (ABlk.elems (zv35_3 l ver m fl c)))=bytesA l_1)∧TellPre (zv37_5 f pv ov dty uty P O l ver m fl len a0 a1 a2 a3 n c) ⟨0,0,0,0,6⟩ ((zv35_4 l len c))∧ ∀ (h11007:AHeap),TellP (zv37_5 f pv ov dty uty P O l ver m fl len a0 a1 a2 a3 n c) ⟨0,0,0,0,6⟩ ((zv35_4 l len c)) h11007→bif Nat.ble 5 (h11007.next)then K0 (.tuple []) h11007 else False))∧(valid (strOf (List.take (len-0) l)++ [UInt8.ofNat (Int.toNat c)])=false→((↑(List.length (Prod.snd (feedQ a0 a1 a2 a3 n c))):Int)=0→StepPre (2^30-8) badR (zv37_2 f pv ov dty uty P O l ver m fl len a0 a1 a2 a3 n c) ⟨0,0,0,0,6⟩ c∧ ∀ (h13002:AHeap),StepP bad (zv37_2 f pv ov dty uty P O l ver m fl len a0 a1 a2 a3 n c) ⟨0,0,0,0,6⟩ c h13002→bif Nat.ble 5 (h13002.next)then K0 (.tuple []) h13002 else False)∧(¬(↑(List.length (Prod.snd (feedQ a0 a1 a2 a3 n c))):Int)=0→StepPre (2^30-8) badR (zv37_8 f pv ov dty uty P O l ver m fl len a0 a1 a2 a3 n c) ⟨0,0,0,0,6⟩ c∧ ∀ (h13002:AHeap),StepP bad (zv37_8 f pv ov dty uty P O l ver m fl len a0 a1 a2 a3 n c) ⟨0,0,0,0,6⟩ c h13002→bif Nat.ble 5 (h13002.next)then K0 (.tuple []) h13002 else False)))∧(¬0<(↑(List.length (Prod.snd (feedQ a0 a1 a2 a3 n c))):Int)→ver=ver∧0+(len-0)≤List.length l∧(∃ l_1,List.take (len-0) (List.drop (AAddr.idx ⟨2,ver,0,0,1⟩) (ABlk.elems (zv32_0 l ver m fl)))=bytesA l_1)∧Nat.le (Nat.succ (List.length (strOf (List.take (len-0) l))+List.length [UInt8.ofNat (Int.toNat c)])) (2^62)∧List.length (strOf (List.take (len-0) l)++ [UInt8.ofNat (Int.toNat c)])<1099511627776∧(valid (strOf (List.take (len-0) l)++ [UInt8.ofNat (Int.toNat c)])=true→(ver=ver∧0+len=List.length l∧len<len+1∧(len+1+(len+1) / 4+512)*1≤281474976710656∧len+1<4611686018427387904)∧ver+1=ver+1∧0+(len+1-0)≤List.length (l++ [.int .u8 c])∧(∃ l_1,List.take (len+1-0) (List.drop (AAddr.idx {id:=2,ver:=ver+1,idx:=0,fld:=0,es:=1}) (ABlk.elems (zv35_3 l ver m fl c)))=bytesA l_1)∧List.length (strOf (List.take (len+1-0) (List.drop 0 (List.append l [.int .u8 c]))))<1099511627776∧(valid (strOf (List.take (len+1-0) (List.drop 0 (List.append l [.int .u8 c]))))=true→TellPre (zv37_4 f pv ov dty uty P O l ver m fl len a0 a1 a2 a3 n c) ⟨0,0,0,0,6⟩ ((zv29_7 a0 a1 a2 a3 n c))∧ ∀ (h10006:AHeap),TellP (zv37_4 f pv ov dty uty P O l ver m fl len a0 a1 a2 a3 n c) ⟨0,0,0,0,6⟩ ((zv29_7 a0 a1 a2 a3 n c)) h10006→bif Nat.ble 5 (h10006.next)then K0 (.tuple []) h10006 else False)∧(valid (strOf (List.take (len+1-0) (List.drop 0 (List.append l [.int .u8 c]))))=false→ver+1=ver+1∧0+(len+1)≤List.length (l++ [.int .u8 c])∧(∃ l_1,List.take (len+1) (List.drop (AAddr.idx {id:=2,ver:=ver+1,idx:=0,fld:=0,es:=1}) (ABlk.elems (zv35_3 l ver m fl c)))=bytesA l_1)∧TellPre (zv37_5 f pv ov dty uty P O l ver m fl len a0 a1 a2 a3 n c) ⟨0,0,0,0,6⟩ ((zv35_4 l len c))∧ ∀ (h11007:AHeap),TellP (zv37_5 f pv ov dty uty P O l ver m fl len a0 a1 a2 a3 n c) ⟨0,0,0,0,6⟩ ((zv35_4 l len c)) h11007→bif Nat.ble 5 (h11007.next)then K0 (.tuple []) h11007 else False))∧(valid (strOf (List.take (len-0) l)++ [UInt8.ofNat (Int.toNat c)])=false→((↑(List.length (Prod.snd (feedQ a0 a1 a2 a3 n c))):Int)=0→StepPre (2^30-8) badR (zv37_2 f pv ov dty uty P O l ver m fl len a0 a1 a2 a3 n c) ⟨0,0,0,0,6⟩ c∧ ∀ (h13002:AHeap),StepP bad (zv37_2 f pv ov dty uty P O l ver m fl len a0 a1 a2 a3 n c) ⟨0,0,0,0,6⟩ c h13002→bif Nat.ble 5 (h13002.next)then K0 (.tuple []) h13002 else False)∧(¬(↑(List.length (Prod.snd (feedQ a0 a1 a2 a3 n c))):Int)=0→StepPre (2^30-8) badR (zv37_8 f pv ov dty uty P O l ver m fl len a0 a1 a2 a3 n c) ⟨0,0,0,0,6⟩ c∧ ∀ (h13002:AHeap),StepP bad (zv37_8 f pv ov dty uty P O l ver m fl len a0 a1 a2 a3 n c) ⟨0,0,0,0,6⟩ c h13002→bif Nat.ble 5 (h13002.next)then K0 (.tuple []) h13002 else False))))) :
    ∃ v h1,FDoes Tryz.prog cnd 90 [.ptr (some ⟨0,0,0,0,6⟩),.int .u8 c] (AHeap.of [dRowV 0 f 1 (.slice (some ⟨2,ver,0,0,1⟩) len len) pv false ov dty,uRow a0 a1 a2 a3 n uty,gRowB l 1 ver m fl byteTy,P,O]) v h1∧K0 v h1 :=
  tcall_does env_ok mixed specsC2_ok (hs:= .br 1005 (hg 1011 (hg 1012 (.br 1013 (he 4004 (.br 4005 (hg 6018 (hg 6019 zv36_3)) (hg 6018 (hg 6019 zv36_3)))) (he 4004 zv37_1)))) (he 4004 zv37_1)) (by kernel_rfl) vc
theorem byteI_b(b:UInt8):byteI (b.toNat:Int)=b:=by unfold byteI;simp
theorem holdOf_uK: ∀ (hold:Bytes) (j0 j1 j2 j3:Int),hold.length≤4→holdOf (uK hold 0 j0) (uK hold 1 j1) (uK hold 2 j2) (uK hold 3 j3) hold.length=hold
  | [],_,_,_,_,_=>rfl
  | [a],_,_,_,_,_=>by simp [holdOf,uK,byteI_b]
  | [a,b],_,_,_,_,_=>by simp [holdOf,uK,byteI_b]
  | [a,b,c],_,_,_,_,_=>by simp [holdOf,uK,byteI_b]
  | [a,b,c,d],_,_,_,_,_=>by simp [holdOf,uK,byteI_b]
  | _::_::_::_::_::_,_,_,_,_,h=>by simp at h
theorem feedQ_hold(hold:Bytes)(j0 j1 j2 j3:Int)(c:UInt8)(h:hold.length≤4):feedQ (uK hold 0 j0) (uK hold 1 j1) (uK hold 2 j2) (uK hold 3 j3) hold.length c.toNat=feed1 hold c:=by
  unfold feedQ
  rw [holdOf_uK hold _ _ _ _ h,byteI_b]
theorem uK_byte(hold:Bytes)(i:Nat)(j:Int)(h:i<hold.length):0≤uK hold i j∧uK hold i j≤255:=by
  have: ∃ b:UInt8,uK hold i j=(b.toNat:Int):=by
    unfold uK
    rw [List.getElem?_eq_getElem h]
    exact⟨_,rfl⟩
  obtain⟨b,e⟩:=this
  have:=b.toNat_lt
  rw [e];omega
theorem feedPre_hold(hold:Bytes)(j0 j1 j2 j3:Int)(c:UInt8)(h:hold.length≤3)(ho:(first hold).2.2=true):FeedPre (uK hold 0 j0) (uK hold 1 j1) (uK hold 2 j2) (uK hold 3 j3) hold.length c.toNat where
  hn:=by omega
  b0:=fun k=>uK_byte _ _ _ (by omega)
  b1:=fun k=>uK_byte _ _ _ (by omega)
  b2:=fun k=>uK_byte _ _ _ (by omega)
  hc:=by have:=c.toNat_lt;omega
  op:= .inr (by rw [holdOf_uK hold _ _ _ _ (by omega)];exact ho)
theorem tkA(x:Bytes)(n k:Nat): ∃ l,List.take n (List.drop k (bytesA x))=bytesA l:=⟨(x.drop k).take n,by simp [bytesA,List.map_drop,List.map_take]⟩
theorem bytesA_snoc(x:Bytes)(c:UInt8):bytesA x++ [AVal.int .u8 c.toNat]=bytesA (x++ [c]):=by simp [bytesA]
theorem tkB(x:Bytes)(c:UInt8)(n k:Nat): ∃ l,List.take n (List.drop k (bytesA x++ [AVal.int .u8 c.toNat]))=bytesA l:=by rw [bytesA_snoc];exact tkA _ _ _
theorem bytesA_len(x:Bytes):(bytesA x).length=x.length:=by simp [bytesA]
theorem bytesA_len1(x:Bytes)(c:UInt8):(bytesA x++ [AVal.int .u8 c.toNat]).length=x.length+1:=by simp [bytesA]
theorem takeAll(x:Bytes)(n k:Nat)(h:n=(x.drop k).length):List.take n (List.drop k (bytesA x))=bytesA (x.drop k):=by
  subst h
  have:=take_bytesA (x.drop k)
  rwa [show bytesA (List.drop k x)=List.drop k (bytesA x)by simp [bytesA,List.map_drop]]at this ⊢
theorem sA1(x:Bytes):strOf (List.take (x.length-1) (List.drop 1 (bytesA x)))=x.drop 1:=by rw [takeAll _ _ _ (by simp),strOf_bytesA]
theorem sA0(x:Bytes):strOf (List.take (x.length-0) (bytesA x))=x:=by rw [Nat.sub_zero,take_bytesA,strOf_bytesA]
theorem sB1(x:Bytes)(c:UInt8):strOf (List.take (x.length+1-1) (List.drop 1 (List.append (bytesA x) [AVal.int .u8 c.toNat])))=(x++ [c]).drop 1:=by
  show strOf (List.take _ (List.drop 1 (bytesA x++_)))=_
  rw [bytesA_snoc,takeAll _ _ _ (by simp),strOf_bytesA]
theorem sB0(x:Bytes)(c:UInt8):strOf (List.take (x.length+1-0) (List.drop 0 (List.append (bytesA x) [AVal.int .u8 c.toNat])))=x++ [c]:=by
  show strOf (List.take _ (List.drop 0 (bytesA x++_)))=_
  rw [bytesA_snoc,takeAll _ _ _ (by simp),strOf_bytesA];rfl
theorem sC0(x:Bytes)(c:UInt8):strOf (List.take (x.length+1) (List.drop 0 (List.append (bytesA x) [AVal.int .u8 c.toNat])))=x++ [c]:=sB0 x c
theorem charTell {D U K P O:ABlk}{h:AHeap}{f:Nat}{pv ov ev:AVal}{ty uty:Option (TypeId×Nat)}{ver m fl len:Nat}{l:List AVal}{kept hold paste:Bytes}{es:List Ev}{e:Ev}{I0:Ids}{j0 j1 j2 j3:Int}(h5:Nat.ble 5 h.next=true)(e0:h.get 0=some (dRowV 0 f 1 (.slice (some ⟨2,ver,0,0,1⟩) len len) pv false ov ty))(e1:h.get 1=some (uRowH hold j0 j1 j2 j3 uty))
    (e2:h.get 2=some (gRowB l 1 ver m fl byteTy)) (e3:h.get 3=some P) (e4:h.get 4=some O) (hlen:len=kept.length) (hle:l=bytesA kept) (hp:PAt (AHeap.of [D,U,K,P,O]) 0 I0.p pv paste) (ho:OAt (AHeap.of [D,U,K,P,O]) 0 I0.o ov es) (hI:I0.u=1∧(I0.k=0∨I0.k=2)∧(I0.p=0∨I0.p=3)∧(I0.o=0∨I0.o=4)) (hk2:I0.k=2)
    (he:ev=evA e) (hes:es.length<2^30) (hl:hold.length≤4) {R:AHeap→Prop} (hR: ∀ h' I',DAt h' 0 I' ⟨.ground,[],hold,paste⟩ (es++ [e])→Fr (AHeap.of [D,U,K,P,O]) h' 0 I0 I'→R h') :
    TellPre h ⟨0,0,0,0,6⟩ ev∧ ∀ h',TellP h ⟨0,0,0,0,6⟩ ev h'→_root_.cond (Nat.ble 5 h'.next) (R h') False:=by
  have h5:=Nat.le_of_ble_eq_true h5
  exact tell_leaf1 rfl h5 (mk5 rfl h5 e0 e1 (.inr hk2) e3 e4 (kGrown (by decide) hlen hle e2) (by omega) hp ho hI (.inr (.inr ⟨rfl,hk2⟩))) he hes hl fun h' I' g fr=>hR h' I' (dat_ground g) fr
theorem charBad {D U K P O:ABlk}{h:AHeap}{pv ov:AVal}{ty uty:Option (TypeId×Nat)}{ver m fl:Nat}{kept paste:Bytes}{es:List Ev}{I0:Ids}{j0 j1 j2 j3:Int}{c:UInt8}(h5:Nat.ble 5 h.next=true)(e0:h.get 0=some (dRowV 0 (fnOf .char) 1 (.slice (some ⟨2,ver,0,0,1⟩) kept.length kept.length) pv false ov ty))(e1:h.get 1=some (uRowH [] j0 j1 j2 j3 uty))
    (e2:h.get 2=some (gRowB (bytesA kept) 1 ver m fl byteTy)) (e3:h.get 3=some P) (e4:h.get 4=some O) (hke:kept≠ []) (hp:PAt (AHeap.of [D,U,K,P,O]) 0 I0.p pv paste) (ho:OAt (AHeap.of [D,U,K,P,O]) 0 I0.o ov es) (hI:I0.u=1∧(I0.k=0∨I0.k=2)∧(I0.p=0∨I0.p=3)∧(I0.o=0∨I0.o=4)) (hk2:I0.k=2)
    (hes:es.length<2^30-8) {R:AHeap→Prop} (hR: ∀ h' I',DAt h' 0 I' (Keys.bad ⟨.char,kept,[],paste⟩ c).1 (es++(Keys.bad ⟨.char,kept,[],paste⟩ c).2)→Fr (AHeap.of [D,U,K,P,O]) h' 0 I0 I'→R h') :
    StepPre (2^30-8) badR h ⟨0,0,0,0,6⟩ c.toNat∧ ∀ h',StepP Keys.bad h ⟨0,0,0,0,6⟩ c.toNat h'→_root_.cond (Nat.ble 5 h'.next) (R h') False:=by
  have h5:=Nat.le_of_ble_eq_true h5
  exact step_leaf1 (s:=⟨.char,kept,[],paste⟩) rfl h5 (dat_pair (ks:= .grown []) (mk5 rfl h5 e0 e1 (.inr hk2) e3 e4 (kGrown (by decide) rfl rfl e2) (by omega) hp ho hI (.inr (.inr ⟨rfl,hk2⟩))) hke) hes (by simp) ⟨rfl,.inl rfl⟩ hR
theorem charMore {D U K P O:ABlk}{h:AHeap}{pv ov:AVal}{ty uty:Option (TypeId×Nat)}{ver m fl len:Nat}{l:List AVal}{kept hold paste:Bytes}{es:List Ev}{I0:Ids}{j0 j1 j2 j3:Int}(h5:Nat.ble 5 h.next=true)(e0:h.get 0=some (dRowV 0 (fnOf .char) 1 (.slice (some ⟨2,ver,0,0,1⟩) len len) pv false ov ty))(e1:h.get 1=some (uRowH hold j0 j1 j2 j3 uty))
    (e2:h.get 2=some (gRowB l 1 ver m fl byteTy)) (e3:h.get 3=some P) (e4:h.get 4=some O) (hlen:len=kept.length) (hle:l=bytesA kept) (hke:kept≠ []) (hp:PAt (AHeap.of [D,U,K,P,O]) 0 I0.p pv paste) (ho:OAt (AHeap.of [D,U,K,P,O]) 0 I0.o ov es) (hI:I0.u=1∧(I0.k=0∨I0.k=2)∧(I0.p=0∨I0.p=3)∧(I0.o=0∨I0.o=4)) (hk2:I0.k=2) :
    ∃ I',DAt h 0 I' ⟨.char,kept,hold,paste⟩ es∧Fr (AHeap.of [D,U,K,P,O]) h 0 I0 I':=by
  have h5:=Nat.le_of_ble_eq_true h5
  exact dat_leaf (s:=⟨.char,kept,hold,paste⟩) (ks:= .grown []) (mk5 rfl h5 e0 e1 (.inr hk2) e3 e4 (kGrown (by decide) hlen hle e2) (by omega) hp ho hI (.inr (.inr ⟨rfl,hk2⟩))) hke
set_option maxHeartbeats 4000000
theorem bc {b:Bool}(h:b=true)(k:b=false):False:=by rw [h]at k;cases k
set_option hygiene false in
theorem char_walk0 {pv ov:AVal}{ty uty:Option (TypeId×Nat)}{P O:ABlk}{kept hold:Bytes}{c:UInt8}{j0 j1 j2 j3:Int}{ver m fl:Nat}{x:UInt8}{t:Bytes}(hkx:kept=x::t)(hh:hold.length≤3)(hop:(first hold).2.2=true)(hq:(feed1 hold c).1= [])(hlen:kept.length=at' kept+hold.length)(hne:0<hold.length)(h0: ¬ (0:Int)<(feed1 hold c).2.length→False)(K0:AVal→AHeap→Prop)
    (hM: ∀ {h:AHeap},Nat.ble 5 h.next=true→h.get 0=some (dRowV 0 (fnOf .char) 1 (.slice (some ⟨2,ver+1,0,0,1⟩) (kept.length+1) (kept.length+1)) pv false ov ty)→h.get 1=some (uRowH (feed1 hold c).2 (uK hold 0 j0) (uK hold 1 j1) (uK hold 2 j2) (uK hold 3 j3) uty)→h.get 2=some (gRowB (bytesA kept++ [.int .u8 c.toNat]) 1 (ver+1) m (if m=ver then(bytesA kept).length else min fl (bytesA kept).length) byteTy)→h.get 3=some P→h.get 4=some O→K0 (.tuple []) h) :
    ∃ v h',FDoes Tryz.prog cnd 90 [.ptr (some ⟨0,0,0,0,6⟩),.int .u8 c.toNat] (AHeap.of [dRowV 0 (fnOf .char) 1 (.slice (some ⟨2,ver,0,0,1⟩) kept.length kept.length) pv false ov ty,uRowH hold j0 j1 j2 j3 uty,gRowB (bytesA kept) 1 ver m fl byteTy,P,O]) v h'∧K0 v h':=by
  refine char0_vc (fnOf .char) pv ov ty uty P O (bytesA kept) ver m fl kept.length (uK hold 0 j0) (uK hold 1 j1) (uK hold 2 j2) (uK hold 3 j3) hold.length c.toNat K0 ?_
  delta zv35_15 zv0_0 zv32_0 zv35_9 zv35_5 zv35_11 zv35_6 zv35_0 zv29_2 zv35_13 zv35_10 zv29_10 zv35_4 zv35_14 zv35_3 zv35_12 zv35_7 zv35_1
  have hi:intAt (bytesA kept) 0=x.toNat:=by rw [hkx];rfl
  have h00:(bytesA kept)[0]? =some (AVal.int .u8 x.toNat):=by rw [hkx];rfl
  have hl1:kept.length≤4:=by
    have:at' kept≤1:=by unfold at';split<;>(try split)<;>omega
    omega
  have hl0:0<kept.length:=by omega
  have hd1:(kept++ [c]).drop 1=kept.drop 1++ [c]:=by rw [hkx];rfl
  have hb1:=bytesA_len kept
  have hb2:=bytesA_len1 kept c
  have hpre:=feedPre_hold hold j0 j1 j2 j3 c hh hop
  have hL1:(x.toNat:Int)=27→(kept.length:Int)=1→False:=fun e e1=>by
    have hx:x=27:=UInt8.toNat_inj.1 (by show x.toNat=27;omega)
    have:at' kept=1:=by rw [hkx,hx];rfl
    omega
  have hL0:(kept.length:Int)=0→False:=fun e=>by omega
  have hL2: ¬ (0:Int)<kept.length→False:=fun e=>by omega
  rw [feedQ_hold hold j0 j1 j2 j3 c (by omega)]
  simp only [sA1,sA0,sB1,sB0,sC0,ofToNat,hd1,hi]
  refine⟨?_,fun e=>(hL2 e).elim⟩
  repeat' (first
    | assumption
    | exact hM (by kernel_rfl) (by kernel_rfl) (by kernel_rfl) (by kernel_rfl) (by kernel_rfl) (by kernel_rfl)
    | exact(h0 (by assumption)).elim
    | intro _
    | refine And.intro ?_ ?_
    | exact True.intro
    | assumption
    | rfl
    | omega
    | exact tkA _ _ _
    | exact tkB _ _ _ _
    | (simp only [List.length_append,List.length_drop,List.length_cons,List.length_nil,bytesA_len];omega)
    | (refine Nat.succ_le_of_lt ?_;simp only [List.length_append,List.length_drop,List.length_cons,List.length_nil,bytesA_len];omega))
set_option maxHeartbeats 4000000
set_option hygiene false in
theorem char_walk1 {pv ov:AVal}{ty uty:Option (TypeId×Nat)}{P O:ABlk}{kept hold:Bytes}{c:UInt8}{j0 j1 j2 j3:Int}{ver m fl:Nat}{x:UInt8}{t:Bytes}(hkx:kept=x::t)(hh:hold.length≤3)(hop:(first hold).2.2=true)(hq:(feed1 hold c).1.length=1)(hlen:kept.length=at' kept+hold.length)(hne:0<hold.length)(K0:AVal→AHeap→Prop)
    (hT1: ∀ {h:AHeap} {ev:AVal},x.toNat=27→valid (kept.drop 1++ [c])=true→Nat.ble 5 h.next=true→h.get 0=some (dRowV 0 (fnOf .char) 1 (.slice (some ⟨2,ver+1,0,0,1⟩) (kept.length+1) (kept.length+1)) pv false ov ty)→h.get 1=some (uRowH (feed1 hold c).2 (uK hold 0 j0) (uK hold 1 j1) (uK hold 2 j2) (uK hold 3 j3) uty)→h.get 2=some (gRowB (bytesA kept++ [.int .u8 c.toNat]) 1 (ver+1) m (if m=ver then(bytesA kept).length else min fl (bytesA kept).length) byteTy)→h.get 3=some P→h.get 4=some O→ev=evA (EvRune ((feed1 hold c).1.getD 0 0) 2)→TellPre h ⟨0,0,0,0,6⟩ ev∧ ∀ h',TellP h ⟨0,0,0,0,6⟩ ev h'→_root_.cond (Nat.ble 5 h'.next) (K0 (.tuple []) h') False)
    (hB1: ∀ {h:AHeap},x.toNat=27→valid (kept.drop 1++ [c])=false→((feed1 hold c).2.length:Int)=0→Nat.ble 5 h.next=true→h.get 0=some (dRowV 0 (fnOf .char) 1 (.slice (some ⟨2,ver,0,0,1⟩) kept.length kept.length) pv false ov ty)→h.get 1=some (uRowH (feed1 hold c).2 (uK hold 0 j0) (uK hold 1 j1) (uK hold 2 j2) (uK hold 3 j3) uty)→h.get 2=some (gRowB (bytesA kept) 1 ver m fl byteTy)→h.get 3=some P→h.get 4=some O→StepPre (2^30-8) badR h ⟨0,0,0,0,6⟩ c.toNat∧ ∀ h',StepP Keys.bad h ⟨0,0,0,0,6⟩ c.toNat h'→_root_.cond (Nat.ble 5 h'.next) (K0 (.tuple []) h') False)
    (hE1: ∀ {h:AHeap},x.toNat=27→valid (kept.drop 1++ [c])=false→ ¬ ((feed1 hold c).2.length:Int)=0→Nat.ble 5 h.next=true→h.get 0=some (dRowV 0 (fnOf .char) 1 (.slice (some ⟨2,ver,0,0,1⟩) kept.length kept.length) pv false ov ty)→h.get 1=some (uRowH [] (uK (feed1 hold c).2 0 (uK hold 0 j0)) (uK (feed1 hold c).2 1 (uK hold 1 j1)) (uK (feed1 hold c).2 2 (uK hold 2 j2)) (uK (feed1 hold c).2 3 (uK hold 3 j3)) uty)→h.get 2=some (gRowB (bytesA kept) 1 ver m fl byteTy)→h.get 3=some P→h.get 4=some O→StepPre (2^30-8) badR h ⟨0,0,0,0,6⟩ c.toNat∧ ∀ h',StepP Keys.bad h ⟨0,0,0,0,6⟩ c.toNat h'→_root_.cond (Nat.ble 5 h'.next) (K0 (.tuple []) h') False)
    (hT0: ∀ {h:AHeap} {ev:AVal},x.toNat≠27→valid (kept++ [c])=true→Nat.ble 5 h.next=true→h.get 0=some (dRowV 0 (fnOf .char) 1 (.slice (some ⟨2,ver+1,0,0,1⟩) (kept.length+1) (kept.length+1)) pv false ov ty)→h.get 1=some (uRowH (feed1 hold c).2 (uK hold 0 j0) (uK hold 1 j1) (uK hold 2 j2) (uK hold 3 j3) uty)→h.get 2=some (gRowB (bytesA kept++ [.int .u8 c.toNat]) 1 (ver+1) m (if m=ver then(bytesA kept).length else min fl (bytesA kept).length) byteTy)→h.get 3=some P→h.get 4=some O→ev=evA (EvRune ((feed1 hold c).1.getD 0 0) 0)→TellPre h ⟨0,0,0,0,6⟩ ev∧ ∀ h',TellP h ⟨0,0,0,0,6⟩ ev h'→_root_.cond (Nat.ble 5 h'.next) (K0 (.tuple []) h') False)
    (hB0: ∀ {h:AHeap},x.toNat≠27→valid (kept++ [c])=false→((feed1 hold c).2.length:Int)=0→Nat.ble 5 h.next=true→h.get 0=some (dRowV 0 (fnOf .char) 1 (.slice (some ⟨2,ver,0,0,1⟩) kept.length kept.length) pv false ov ty)→h.get 1=some (uRowH (feed1 hold c).2 (uK hold 0 j0) (uK hold 1 j1) (uK hold 2 j2) (uK hold 3 j3) uty)→h.get 2=some (gRowB (bytesA kept) 1 ver m fl byteTy)→h.get 3=some P→h.get 4=some O→StepPre (2^30-8) badR h ⟨0,0,0,0,6⟩ c.toNat∧ ∀ h',StepP Keys.bad h ⟨0,0,0,0,6⟩ c.toNat h'→_root_.cond (Nat.ble 5 h'.next) (K0 (.tuple []) h') False)
    (hE0: ∀ {h:AHeap},x.toNat≠27→valid (kept++ [c])=false→ ¬ ((feed1 hold c).2.length:Int)=0→Nat.ble 5 h.next=true→h.get 0=some (dRowV 0 (fnOf .char) 1 (.slice (some ⟨2,ver,0,0,1⟩) kept.length kept.length) pv false ov ty)→h.get 1=some (uRowH [] (uK (feed1 hold c).2 0 (uK hold 0 j0)) (uK (feed1 hold c).2 1 (uK hold 1 j1)) (uK (feed1 hold c).2 2 (uK hold 2 j2)) (uK (feed1 hold c).2 3 (uK hold 3 j3)) uty)→h.get 2=some (gRowB (bytesA kept) 1 ver m fl byteTy)→h.get 3=some P→h.get 4=some O→StepPre (2^30-8) badR h ⟨0,0,0,0,6⟩ c.toNat∧ ∀ h',StepP Keys.bad h ⟨0,0,0,0,6⟩ c.toNat h'→_root_.cond (Nat.ble 5 h'.next) (K0 (.tuple []) h') False) :
    ∃ v h',FDoes Tryz.prog cnd 90 [.ptr (some ⟨0,0,0,0,6⟩),.int .u8 c.toNat] (AHeap.of [dRowV 0 (fnOf .char) 1 (.slice (some ⟨2,ver,0,0,1⟩) kept.length kept.length) pv false ov ty,uRowH hold j0 j1 j2 j3 uty,gRowB (bytesA kept) 1 ver m fl byteTy,P,O]) v h'∧K0 v h':=by
  refine char1_vc (fnOf .char) pv ov ty uty P O (bytesA kept) ver m fl kept.length (uK hold 0 j0) (uK hold 1 j1) (uK hold 2 j2) (uK hold 3 j3) hold.length c.toNat K0 ?_
  delta zv36_15 zv29_5 zv0_0 zv32_0 zv35_9 zv35_5 zv35_11 zv35_6 zv35_0 zv29_2 zv36_5 zv35_10 zv29_10 zv35_4 zv36_12 zv35_3 zv35_12 zv35_7 zv35_1 zv29_7 zv36_11 zv36_8 zv36_7 zv36_16 zv36_6 zv36_14 zv30_3 zv36_13 zv36_10 zv36_9
  have hi:intAt (bytesA kept) 0=x.toNat:=by rw [hkx];rfl
  have h00:(bytesA kept)[0]? =some (AVal.int .u8 x.toNat):=by rw [hkx];rfl
  have hl1:kept.length≤4:=by
    have:at' kept≤1:=by unfold at';split<;>(try split)<;>omega
    omega
  have hl0:0<kept.length:=by omega
  have hd1:(kept++ [c]).drop 1=kept.drop 1++ [c]:=by rw [hkx];rfl
  have hb1:=bytesA_len kept
  have hb2:=bytesA_len1 kept c
  have hpre:=feedPre_hold hold j0 j1 j2 j3 c hh hop
  have hq0: ¬ (feed1 hold c).1= []:=fun e=>by rw [e]at hq;simp at hq
  have hL1:(x.toNat:Int)=27→(kept.length:Int)=1→False:=fun e e1=>by
    have hx:x=27:=UInt8.toNat_inj.1 (by show x.toNat=27;omega)
    have:at' kept=1:=by rw [hkx,hx];rfl
    omega
  have hL0:(kept.length:Int)=0→False:=fun e=>by omega
  have hL2: ¬ (0:Int)<kept.length→False:=fun e=>by omega
  rw [feedQ_hold hold j0 j1 j2 j3 c (by omega)]
  simp only [sA1,sA0,sB1,sB0,sC0,ofToNat,hd1,hi]
  refine⟨?_,fun e=>(hL2 e).elim⟩
  repeat' (first
    | assumption
    | exact hT1 (by omega) (by assumption) (by kernel_rfl) (by kernel_rfl) (by kernel_rfl) (by kernel_rfl) (by kernel_rfl) (by kernel_rfl) rfl
    | exact hB1 (by omega) (by assumption) (by assumption) (by kernel_rfl) (by kernel_rfl) (by kernel_rfl) (by kernel_rfl) (by kernel_rfl) (by kernel_rfl)
    | exact hE1 (by omega) (by assumption) (by assumption) (by kernel_rfl) (by kernel_rfl) (by kernel_rfl) (by kernel_rfl) (by kernel_rfl) (by kernel_rfl)
    | exact(bc ‹valid (kept.drop 1++ [c])=true› ‹valid (kept.drop 1++ [c])=false›).elim
    | exact hT0 (by omega) (by assumption) (by kernel_rfl) (by kernel_rfl) (by kernel_rfl) (by kernel_rfl) (by kernel_rfl) (by kernel_rfl) rfl
    | exact hB0 (by omega) (by assumption) (by assumption) (by kernel_rfl) (by kernel_rfl) (by kernel_rfl) (by kernel_rfl) (by kernel_rfl) (by kernel_rfl)
    | exact hE0 (by omega) (by assumption) (by assumption) (by kernel_rfl) (by kernel_rfl) (by kernel_rfl) (by kernel_rfl) (by kernel_rfl) (by kernel_rfl)
    | exact(bc ‹valid (kept++ [c])=true› ‹valid (kept++ [c])=false›).elim
    | exact(hL1 (by assumption) (by assumption)).elim
    | exact(hL0 (by assumption)).elim
    | intro _
    | refine And.intro ?_ ?_
    | exact True.intro
    | assumption
    | rfl
    | omega
    | exact tkA _ _ _
    | exact tkB _ _ _ _
    | (simp only [List.length_append,List.length_drop,List.length_cons,List.length_nil,bytesA_len];omega)
    | (refine Nat.succ_le_of_lt ?_;simp only [List.length_append,List.length_drop,List.length_cons,List.length_nil,bytesA_len];omega))
set_option maxHeartbeats 4000000
set_option hygiene false in
theorem char_walk2 {pv ov:AVal}{ty uty:Option (TypeId×Nat)}{P O:ABlk}{kept hold:Bytes}{c:UInt8}{j0 j1 j2 j3:Int}{ver m fl:Nat}{x:UInt8}{t:Bytes}(hkx:kept=x::t)(hh:hold.length≤3)(hop:(first hold).2.2=true)(hq0:(feed1 hold c).1≠ [])(hq:(feed1 hold c).1.length≠1)(hlen:kept.length=at' kept+hold.length)(hne:0<hold.length)(K0:AVal→AHeap→Prop)
    (hT1: ∀ {h:AHeap} {ev:AVal},x.toNat=27→valid (kept.drop 1++ [c])=true→Nat.ble 5 h.next=true→h.get 0=some (dRowV 0 (fnOf .char) 1 (.slice (some ⟨2,ver+1,0,0,1⟩) (kept.length+1) (kept.length+1)) pv false ov ty)→h.get 1=some (uRowH (feed1 hold c).2 (uK hold 0 j0) (uK hold 1 j1) (uK hold 2 j2) (uK hold 3 j3) uty)→h.get 2=some (gRowB (bytesA kept++ [.int .u8 c.toNat]) 1 (ver+1) m (if m=ver then(bytesA kept).length else min fl (bytesA kept).length) byteTy)→h.get 3=some P→h.get 4=some O→ev=evA (EvRune ((feed1 hold c).1.getD 0 0) 2)→TellPre h ⟨0,0,0,0,6⟩ ev∧ ∀ h',TellP h ⟨0,0,0,0,6⟩ ev h'→_root_.cond (Nat.ble 5 h'.next) (K0 (.tuple []) h') False)
    (hB1: ∀ {h:AHeap},x.toNat=27→valid (kept.drop 1++ [c])=false→((feed1 hold c).2.length:Int)=0→Nat.ble 5 h.next=true→h.get 0=some (dRowV 0 (fnOf .char) 1 (.slice (some ⟨2,ver,0,0,1⟩) kept.length kept.length) pv false ov ty)→h.get 1=some (uRowH (feed1 hold c).2 (uK hold 0 j0) (uK hold 1 j1) (uK hold 2 j2) (uK hold 3 j3) uty)→h.get 2=some (gRowB (bytesA kept) 1 ver m fl byteTy)→h.get 3=some P→h.get 4=some O→StepPre (2^30-8) badR h ⟨0,0,0,0,6⟩ c.toNat∧ ∀ h',StepP Keys.bad h ⟨0,0,0,0,6⟩ c.toNat h'→_root_.cond (Nat.ble 5 h'.next) (K0 (.tuple []) h') False)
    (hE1: ∀ {h:AHeap},x.toNat=27→valid (kept.drop 1++ [c])=false→ ¬ ((feed1 hold c).2.length:Int)=0→Nat.ble 5 h.next=true→h.get 0=some (dRowV 0 (fnOf .char) 1 (.slice (some ⟨2,ver,0,0,1⟩) kept.length kept.length) pv false ov ty)→h.get 1=some (uRowH [] (uK (feed1 hold c).2 0 (uK hold 0 j0)) (uK (feed1 hold c).2 1 (uK hold 1 j1)) (uK (feed1 hold c).2 2 (uK hold 2 j2)) (uK (feed1 hold c).2 3 (uK hold 3 j3)) uty)→h.get 2=some (gRowB (bytesA kept) 1 ver m fl byteTy)→h.get 3=some P→h.get 4=some O→StepPre (2^30-8) badR h ⟨0,0,0,0,6⟩ c.toNat∧ ∀ h',StepP Keys.bad h ⟨0,0,0,0,6⟩ c.toNat h'→_root_.cond (Nat.ble 5 h'.next) (K0 (.tuple []) h') False)
    (hT0: ∀ {h:AHeap} {ev:AVal},x.toNat≠27→valid (kept++ [c])=true→Nat.ble 5 h.next=true→h.get 0=some (dRowV 0 (fnOf .char) 1 (.slice (some ⟨2,ver+1,0,0,1⟩) (kept.length+1) (kept.length+1)) pv false ov ty)→h.get 1=some (uRowH (feed1 hold c).2 (uK hold 0 j0) (uK hold 1 j1) (uK hold 2 j2) (uK hold 3 j3) uty)→h.get 2=some (gRowB (bytesA kept++ [.int .u8 c.toNat]) 1 (ver+1) m (if m=ver then(bytesA kept).length else min fl (bytesA kept).length) byteTy)→h.get 3=some P→h.get 4=some O→ev=evA (EvRune ((feed1 hold c).1.getD 0 0) 0)→TellPre h ⟨0,0,0,0,6⟩ ev∧ ∀ h',TellP h ⟨0,0,0,0,6⟩ ev h'→_root_.cond (Nat.ble 5 h'.next) (K0 (.tuple []) h') False)
    (hB0: ∀ {h:AHeap},x.toNat≠27→valid (kept++ [c])=false→((feed1 hold c).2.length:Int)=0→Nat.ble 5 h.next=true→h.get 0=some (dRowV 0 (fnOf .char) 1 (.slice (some ⟨2,ver,0,0,1⟩) kept.length kept.length) pv false ov ty)→h.get 1=some (uRowH (feed1 hold c).2 (uK hold 0 j0) (uK hold 1 j1) (uK hold 2 j2) (uK hold 3 j3) uty)→h.get 2=some (gRowB (bytesA kept) 1 ver m fl byteTy)→h.get 3=some P→h.get 4=some O→StepPre (2^30-8) badR h ⟨0,0,0,0,6⟩ c.toNat∧ ∀ h',StepP Keys.bad h ⟨0,0,0,0,6⟩ c.toNat h'→_root_.cond (Nat.ble 5 h'.next) (K0 (.tuple []) h') False)
    (hE0: ∀ {h:AHeap},x.toNat≠27→valid (kept++ [c])=false→ ¬ ((feed1 hold c).2.length:Int)=0→Nat.ble 5 h.next=true→h.get 0=some (dRowV 0 (fnOf .char) 1 (.slice (some ⟨2,ver,0,0,1⟩) kept.length kept.length) pv false ov ty)→h.get 1=some (uRowH [] (uK (feed1 hold c).2 0 (uK hold 0 j0)) (uK (feed1 hold c).2 1 (uK hold 1 j1)) (uK (feed1 hold c).2 2 (uK hold 2 j2)) (uK (feed1 hold c).2 3 (uK hold 3 j3)) uty)→h.get 2=some (gRowB (bytesA kept) 1 ver m fl byteTy)→h.get 3=some P→h.get 4=some O→StepPre (2^30-8) badR h ⟨0,0,0,0,6⟩ c.toNat∧ ∀ h',StepP Keys.bad h ⟨0,0,0,0,6⟩ c.toNat h'→_root_.cond (Nat.ble 5 h'.next) (K0 (.tuple []) h') False) :
    ∃ v h',FDoes Tryz.prog cnd 90 [.ptr (some ⟨0,0,0,0,6⟩),.int .u8 c.toNat] (AHeap.of [dRowV 0 (fnOf .char) 1 (.slice (some ⟨2,ver,0,0,1⟩) kept.length kept.length) pv false ov ty,uRowH hold j0 j1 j2 j3 uty,gRowB (bytesA kept) 1 ver m fl byteTy,P,O]) v h'∧K0 v h':=by
  refine char2_vc (fnOf .char) pv ov ty uty P O (bytesA kept) ver m fl kept.length (uK hold 0 j0) (uK hold 1 j1) (uK hold 2 j2) (uK hold 3 j3) hold.length c.toNat K0 ?_
  delta zv37_8 zv37_0 zv0_0 zv32_0 zv35_9 zv35_5 zv35_11 zv35_6 zv35_0 zv29_2 zv37_2 zv35_10 zv29_10 zv35_4 zv37_5 zv35_3 zv35_12 zv35_7 zv35_1 zv29_7 zv37_4 zv37_9 zv37_3 zv37_7 zv30_3 zv37_6
  have hi:intAt (bytesA kept) 0=x.toNat:=by rw [hkx];rfl
  have h00:(bytesA kept)[0]? =some (AVal.int .u8 x.toNat):=by rw [hkx];rfl
  have hl1:kept.length≤4:=by
    have:at' kept≤1:=by unfold at';split<;>(try split)<;>omega
    omega
  have hl0:0<kept.length:=by omega
  have hd1:(kept++ [c]).drop 1=kept.drop 1++ [c]:=by rw [hkx];rfl
  have hb1:=bytesA_len kept
  have hb2:=bytesA_len1 kept c
  have hpre:=feedPre_hold hold j0 j1 j2 j3 c hh hop
  have hL1:(x.toNat:Int)=27→(kept.length:Int)=1→False:=fun e e1=>by
    have hx:x=27:=UInt8.toNat_inj.1 (by show x.toNat=27;omega)
    have:at' kept=1:=by rw [hkx,hx];rfl
    omega
  have hL0:(kept.length:Int)=0→False:=fun e=>by omega
  have hL2: ¬ (0:Int)<kept.length→False:=fun e=>by omega
  rw [feedQ_hold hold j0 j1 j2 j3 c (by omega)]
  simp only [sA1,sA0,sB1,sB0,sC0,ofToNat,hd1,hi]
  refine⟨?_,fun e=>(hL2 e).elim⟩
  repeat' (first
    | assumption
    | exact hT1 (by omega) (by assumption) (by kernel_rfl) (by kernel_rfl) (by kernel_rfl) (by kernel_rfl) (by kernel_rfl) (by kernel_rfl) rfl
    | exact hB1 (by omega) (by assumption) (by assumption) (by kernel_rfl) (by kernel_rfl) (by kernel_rfl) (by kernel_rfl) (by kernel_rfl) (by kernel_rfl)
    | exact hE1 (by omega) (by assumption) (by assumption) (by kernel_rfl) (by kernel_rfl) (by kernel_rfl) (by kernel_rfl) (by kernel_rfl) (by kernel_rfl)
    | exact(bc ‹valid (kept.drop 1++ [c])=true› ‹valid (kept.drop 1++ [c])=false›).elim
    | exact hT0 (by omega) (by assumption) (by kernel_rfl) (by kernel_rfl) (by kernel_rfl) (by kernel_rfl) (by kernel_rfl) (by kernel_rfl) rfl
    | exact hB0 (by omega) (by assumption) (by assumption) (by kernel_rfl) (by kernel_rfl) (by kernel_rfl) (by kernel_rfl) (by kernel_rfl) (by kernel_rfl)
    | exact hE0 (by omega) (by assumption) (by assumption) (by kernel_rfl) (by kernel_rfl) (by kernel_rfl) (by kernel_rfl) (by kernel_rfl) (by kernel_rfl)
    | exact(bc ‹valid (kept++ [c])=true› ‹valid (kept++ [c])=false›).elim
    | exact(hL1 (by assumption) (by assumption)).elim
    | exact(hL0 (by assumption)).elim
    | intro _
    | refine And.intro ?_ ?_
    | exact True.intro
    | assumption
    | rfl
    | omega
    | exact tkA _ _ _
    | exact tkB _ _ _ _
    | (simp only [List.length_append,List.length_drop,List.length_cons,List.length_nil,bytesA_len];omega)
    | (refine Nat.succ_le_of_lt ?_;simp only [List.length_append,List.length_drop,List.length_cons,List.length_nil,bytesA_len];omega))
theorem feedN_len: ∀ (k:Nat) (s:Bytes),(feedN k s).2.length≤s.length
  | 0,s=>by simp [feedN]
  | k+1,[]=>by simp [feedN]
  | k +1,b::r=>by
    unfold feedN
    split
    · exact Nat.le_refl _
    · refine Nat.le_trans (feedN_len k _) ?_
      rw [List.length_drop];omega
theorem feed1_len(hold:Bytes)(c:UInt8):(feed1 hold c).2.length≤hold.length+1:=by
  have:=feedN_len (hold.length+1) (hold++ [c])
  rw [List.length_append]at this
  exact this
theorem feed1_some(hold:Bytes)(c:UInt8)(h:(feed1 hold c).1= []):0<(feed1 hold c).2.length:=by
  unfold feed1 at h ⊢
  cases hs:hold++ [c]with
  | nil=>simp at hs
  | cons b r =>
    rw [hs]at h
    unfold feedN at h ⊢
    split
    · simp
    · rename_i e;rw [if_neg e]at h;simp at h
theorem char_m0 {kept hold paste:Bytes}{c:UInt8}(h:(feed1 hold c).1= []):Keys.char ⟨.char,kept,hold,paste⟩ c=(⟨.char,kept++ [c],(feed1 hold c).2,paste⟩,[]):=by
  have h2:=feed1_some hold c h
  have h3:(feed1 hold c).2≠ []:=fun e=>by rw [e]at h2;simp at h2
  simp [Keys.char,char0,h,h3]
theorem char_mT {kept hold paste:Bytes}{c:UInt8}{a:Nat}(ha:at' kept=a)(h:(feed1 hold c).1≠ [])(hv:valid (kept.drop a++ [c])=true)(hd:(kept++ [c]).drop a=kept.drop a++ [c]):Keys.char ⟨.char,kept,hold,paste⟩ c=(⟨.ground,[],(feed1 hold c).2,paste⟩,[EvRune ((feed1 hold c).1.getD 0 0) (2*a)]):=by
  subst ha
  have e:(feed1 hold c).1.headD 0=(feed1 hold c).1.getD 0 0:=by cases (feed1 hold c).1<;>rfl
  unfold Keys.char char0
  simp only [h,and_false,if_false,hv,or_true,if_true,hd,tell,e]
theorem char_mB {kept hold paste:Bytes}{c:UInt8}{a:Nat}(ha:at' kept=a)(h:(feed1 hold c).1≠ [])(hl:kept.length≠a)(hv:valid (kept.drop a++ [c])=false):Keys.char ⟨.char,kept,hold,paste⟩ c=Keys.bad ⟨.char,kept,[],paste⟩ c:=by
  subst ha
  unfold Keys.char char0
  simp [h,hv,hl]
def charR(s:DS)(c:UInt8):Prop:=s.nx= .char∧s.hold=s.kept.drop (at' s.kept)∧0<s.hold.length∧s.hold.length≤3∧(first s.hold).2.2=true
theorem char_does {H:AHeap} {d:Nat} {I:Ids} {s:DS} {es:List Ev} {c:UInt8} (g:DAt H d I s es) (hes:es.length<2^30-8) (hR:charR s c): ∃ H',FDoes Tryz.prog cnd 90 [.ptr (some ⟨d,0,0,0,6⟩),.int .u8 c.toNat] H (.tuple []) H' ∧
    ∃ I',DAt H' d I' (Keys.char s c).1 (es++(Keys.char s c).2)∧Fr H H' d I I':=by
  refine step_lift ?_ g
  intro ks kv pv ov ty uty j0 j1 j2 j3 K P O I0 hs gs hI
  obtain⟨hk,hp,ho⟩:=gs_parts gs
  obtain⟨nx,kept,hold,paste⟩:=s
  obtain⟨h1,hd,hne,hh,hop⟩:=hR
  simp only at h1 hd hne hh hop hs gs hk hp ho ⊢
  subst h1
  have hks:ks= .grown []:=by
    cases ks with
    | grown j=>cases j with
      | nil=>rfl
      | cons a b=>exact hs.elim
    | _=>exact hs.elim
  subst hks
  have hke:kept≠ []:=hs
  obtain⟨x,t,hkx⟩: ∃ x t,kept=x::t:=by
    cases kept with
    | nil=>exact absurd rfl hke
    | cons x t=>exact⟨x,t,rfl⟩
  obtain⟨hk0,ver,m,fl,rfl,hK⟩:=hk
  have hk2:I0.k=2:=by omega
  rw [hk2,AHeap.of_get]at hK
  simp only [List.getElem?_cons_zero,List.getElem?_cons_succ,Option.some.injEq,List.nil_append]at hK
  subst hK
  rw [hk2]at hp ho ⊢
  simp only [List.length_nil]at hp ho ⊢
  have ha1:at' kept≤1:=by unfold at';split<;>(try split)<;>omega
  have hat:at' kept=if x=27 then 1 else 0:=by rw [hkx];rfl
  have hlen:kept.length=at' kept+hold.length:=by
    rw [hd,List.length_drop]
    have:0<kept.length:=by rw [hkx];simp
    omega
  have hq2:(feed1 hold c).2.length≤4:=by have:=feed1_len hold c;omega
  have at1:x.toNat=27→at' kept=1:=fun e=>by
    have:x=27:=UInt8.toNat_inj.1 (by show x.toNat=27;exact e)
    rw [hat,if_pos this]
  have at0:x.toNat≠27→at' kept=0:=fun e=>by rw [hat,if_neg (by rintro rfl;exact e rfl)]
  have hd1:(kept++ [c]).drop 1=kept.drop 1++ [c]:=by rw [hkx];rfl
  have nil2:((feed1 hold c).2.length:Int)=0→(feed1 hold c).2= []:=fun e=>List.eq_nil_of_length_eq_zero (by omega)
  have fin: ∀ {s':DS×List Ev},(∃ v h',FDoes Tryz.prog cnd 90 [.ptr (some ⟨0,0,0,0,6⟩),.int .u8 c.toNat] (AHeap.of [dRowV 0 (fnOf .char) 1 (.slice (some ⟨2,ver,0,0,1⟩) kept.length kept.length) pv false ov ty,uRowH hold j0 j1 j2 j3 uty,gRowB (bytesA kept) 1 ver m fl byteTy,P,O]) v h' ∧
      (v= .tuple []∧ ∃ I',DAt h' 0 I' s'.1 (es++s'.2)∧Fr (AHeap.of [dRowV 0 (fnOf .char) 1 (.slice (some ⟨2,ver,0,0,1⟩) kept.length kept.length) pv false ov ty,uRowH hold j0 j1 j2 j3 uty,gRowB (bytesA kept) 1 ver m fl byteTy,P,O]) h' 0 I0 I')) →
      ∃ h',FDoes Tryz.prog cnd 90 [.ptr (some ⟨0,0,0,0,6⟩),.int .u8 c.toNat] (AHeap.of [dRowV 0 (fnOf .char) 1 (.slice (some ⟨2,ver,0,0,1⟩) kept.length kept.length) pv false ov ty,uRowH hold j0 j1 j2 j3 uty,gRowB (bytesA kept) 1 ver m fl byteTy,P,O]) (.tuple []) h'∧ ∃ I',DAt h' 0 I' s'.1 (es++s'.2)∧Fr (AHeap.of [dRowV 0 (fnOf .char) 1 (.slice (some ⟨2,ver,0,0,1⟩) kept.length kept.length) pv false ov ty,uRowH hold j0 j1 j2 j3 uty,gRowB (bytesA kept) 1 ver m fl byteTy,P,O]) h' 0 I0 I':=by
    rintro s' ⟨v,h',hd,rfl,q⟩
    exact⟨h',hd,q⟩
  by_cases hq:(feed1 hold c).1= []
  · rw [char_m0 (kept:=kept) (paste:=paste) hq]
    refine fin (char_walk0 hkx hh hop hq hlen hne (fun e=>e (by have:=feed1_some hold c hq;omega)) (fun v h'=>v= .tuple []∧ ∃ I',DAt h' 0 I' _ (es++_)∧Fr _ h' 0 I0 I') ?_)
    intro h h5 e0 e1 e2 e3 e4
    refine⟨rfl,?_⟩
    rw [List.append_nil]
    exact charMore (kept:=kept++ [c]) h5 e0 e1 e2 e3 e4 (by simp) (bytesA_snoc _ _) (by simp) hp ho hI hk2
  · have T1:x.toNat=27→valid (kept.drop 1++ [c])=true→_:=fun hx hv=>char_mT (paste:=paste) (hold:=hold) (at1 hx) hq hv hd1
    have T0:x.toNat≠27→valid (kept++ [c])=true→_:=fun hx hv=>char_mT (paste:=paste) (hold:=hold) (at0 hx) hq hv rfl
    have B1:x.toNat=27→valid (kept.drop 1++ [c])=false→_:=fun hx hv=>char_mB (paste:=paste) (hold:=hold) (at1 hx) hq (by have:=at1 hx;omega) hv
    have B0:x.toNat≠27→valid (kept++ [c])=false→_:=fun hx hv=>char_mB (paste:=paste) (hold:=hold) (at0 hx) hq (by have:=at0 hx;omega) hv
    by_cases hq1:(feed1 hold c).1.length=1
    · refine fin (char_walk1 hkx hh hop hq1 hlen hne (fun v h'=>v= .tuple []∧ ∃ I',DAt h' 0 I' (Keys.char ⟨.char,kept,hold,paste⟩ c).1 (es++(Keys.char ⟨.char,kept,hold,paste⟩ c).2)∧Fr _ h' 0 I0 I') ?_ ?_ ?_ ?_ ?_ ?_)
      · intro h ev hx hv h5 e0 e1 e2 e3 e4 he
        exact charTell (kept:=kept++ [c]) h5 e0 e1 e2 e3 e4 (by simp) (bytesA_snoc _ _) hp ho hI hk2 he (by omega) hq2 fun h' I' g fr=>⟨rfl,I',by rw [T1 hx hv];exact g,fr⟩
      · intro h hx hv hz h5 e0 e1 e2 e3 e4
        rw [nil2 hz]at e1
        exact charBad h5 e0 e1 e2 e3 e4 hke hp ho hI hk2 hes fun h' I' g fr=>⟨rfl,I',by rw [B1 hx hv];exact g,fr⟩
      · intro h hx hv hz h5 e0 e1 e2 e3 e4
        exact charBad h5 e0 e1 e2 e3 e4 hke hp ho hI hk2 hes fun h' I' g fr=>⟨rfl,I',by rw [B1 hx hv];exact g,fr⟩
      · intro h ev hx hv h5 e0 e1 e2 e3 e4 he
        exact charTell (kept:=kept++ [c]) h5 e0 e1 e2 e3 e4 (by simp) (bytesA_snoc _ _) hp ho hI hk2 he (by omega) hq2 fun h' I' g fr=>⟨rfl,I',by rw [T0 hx hv];exact g,fr⟩
      · intro h hx hv hz h5 e0 e1 e2 e3 e4
        rw [nil2 hz]at e1
        exact charBad h5 e0 e1 e2 e3 e4 hke hp ho hI hk2 hes fun h' I' g fr=>⟨rfl,I',by rw [B0 hx hv];exact g,fr⟩
      · intro h hx hv hz h5 e0 e1 e2 e3 e4
        exact charBad h5 e0 e1 e2 e3 e4 hke hp ho hI hk2 hes fun h' I' g fr=>⟨rfl,I',by rw [B0 hx hv];exact g,fr⟩
    · refine fin (char_walk2 hkx hh hop hq hq1 hlen hne (fun v h'=>v= .tuple []∧ ∃ I',DAt h' 0 I' (Keys.char ⟨.char,kept,hold,paste⟩ c).1 (es++(Keys.char ⟨.char,kept,hold,paste⟩ c).2)∧Fr _ h' 0 I0 I') ?_ ?_ ?_ ?_ ?_ ?_)
      · intro h ev hx hv h5 e0 e1 e2 e3 e4 he
        exact charTell (kept:=kept++ [c]) h5 e0 e1 e2 e3 e4 (by simp) (bytesA_snoc _ _) hp ho hI hk2 he (by omega) hq2 fun h' I' g fr=>⟨rfl,I',by rw [T1 hx hv];exact g,fr⟩
      · intro h hx hv hz h5 e0 e1 e2 e3 e4
        rw [nil2 hz]at e1
        exact charBad h5 e0 e1 e2 e3 e4 hke hp ho hI hk2 hes fun h' I' g fr=>⟨rfl,I',by rw [B1 hx hv];exact g,fr⟩
      · intro h hx hv hz h5 e0 e1 e2 e3 e4
        exact charBad h5 e0 e1 e2 e3 e4 hke hp ho hI hk2 hes fun h' I' g fr=>⟨rfl,I',by rw [B1 hx hv];exact g,fr⟩
      · intro h ev hx hv h5 e0 e1 e2 e3 e4 he
        exact charTell (kept:=kept++ [c]) h5 e0 e1 e2 e3 e4 (by simp) (bytesA_snoc _ _) hp ho hI hk2 he (by omega) hq2 fun h' I' g fr=>⟨rfl,I',by rw [T0 hx hv];exact g,fr⟩
      · intro h hx hv hz h5 e0 e1 e2 e3 e4
        rw [nil2 hz]at e1
        exact charBad h5 e0 e1 e2 e3 e4 hke hp ho hI hk2 hes fun h' I' g fr=>⟨rfl,I',by rw [B0 hx hv];exact g,fr⟩
      · intro h hx hv hz h5 e0 e1 e2 e3 e4
        exact charBad h5 e0 e1 e2 e3 e4 hke hp ho hI hk2 hes fun h' I' g fr=>⟨rfl,I',by rw [B0 hx hv];exact g,fr⟩
theorem charS_ok: ∀ args h a,stepS (2^30-8) charR Keys.char args h=some a→a.Ok Tryz.prog cnd 90 args h:=stepS_ok fun H d I s es c g hes hl hR=>char_does g hes hR
noncomputable def specs8:Specs:=specs7.add 90 (stepS (2^30-8) charR Keys.char)
theorem specs8_ok:SpecsOk Tryz.prog cnd specs8:=specs7_ok.add charS_ok
abbrev zv38_0:AVal:=AVal.agg [.int .i64 13,.int .i64 9,.int .i64 127,.int .i64 27]
abbrev zv38_1(n:Int)(m:Int):AVal:=AVal.agg [.int .i8 1,.int .i32 n,.int .u8 m,.int .i64 0,.int .i64 0,.str []]
abbrev zv38_2(m:Int):AVal:=AVal.agg [.int .i8 2,.int .i32 1,.int .u8 m,.int .i64 0,.int .i64 0,.str []]
abbrev zv38_3(m:Int):AVal:=AVal.agg [.int .i8 2,.int .i32 2,.int .u8 m,.int .i64 0,.int .i64 0,.str []]
abbrev zv38_4(m:Int):AVal:=AVal.agg [.int .i8 2,.int .i32 3,.int .u8 m,.int .i64 0,.int .i64 0,.str []]
abbrev zv38_5(m:Int):AVal:=AVal.agg [.int .i8 2,.int .i32 4,.int .u8 m,.int .i64 0,.int .i64 0,.str []]
abbrev zv38_6:AVal:=AVal.agg [.int .i8 0,.int .i32 0,.int .u8 0,.int .i64 0,.int .i64 0,.str []]
abbrev zv38_7:ABlk:=(ABlk.made ([zv38_0]) 4 true (some (109,4)))
theorem coded_vc(n m:Int)(K0:AVal→AHeap→Prop)(vc:(13=n→K0 (.tuple [(zv38_2 m),.bool true]) (AHeap.rowsT 22 [(0,(ABlk.made ([(zv38_2 m)]) 6 true (some (42,6)))),(4,zv38_7)]))∧(¬13=n→(9=n→K0 (.tuple [(zv38_3 m),.bool true]) (AHeap.rowsT 32 [(0,(ABlk.made ([(zv38_3 m)]) 6 true (some (42,6)))),(4,zv38_7)]))∧(¬9=n→(127=n→K0 (.tuple [(zv38_4 m),.bool true]) (AHeap.rowsT 42 [(0,(ABlk.made ([(zv38_4 m)]) 6 true (some (42,6)))),(4,zv38_7)]))∧(¬127=n→(27=n→K0 (.tuple [(zv38_5 m),.bool true]) (AHeap.rowsT 52 [(0,(ABlk.made ([(zv38_5 m)]) 6 true (some (42,6)))),(4,zv38_7)]))∧(¬27=n→(2097152<n→K0 (.tuple [zv38_6,.bool false]) (AHeap.rowsT 59 [(0,(ABlk.made ([zv38_6]) 6 true (some (42,6)))),(4,zv38_7)]))∧(¬2097152<n→(-2147483648≤n∧n≤2147483647)∧(shown n=true→(-2147483648≤n∧n≤2147483647)∧K0 (.tuple [(zv38_1 n m),.bool true]) (AHeap.rowsT 62 [(0,(ABlk.made ([(zv38_1 n m)]) 6 true (some (42,6)))),(4,zv38_7)]))∧(shown n=false→K0 (.tuple [zv38_6,.bool false]) (AHeap.rowsT 59 [(0,(ABlk.made ([zv38_6]) 6 true (some (42,6)))),(4,zv38_7)])))))))) :
    ∃ v h1,FDoes Tryz.prog cnd 149 [.int .i64 n,.int .u8 m] (⟨0,.nil⟩) v h1∧K0 v h1 :=
  tcall_does env_ok mixed specs1_ok (hs:=he 1000 (.hint (.rounds 300) (.br 4002 .nil (.br 4002 .nil (.br 4002 .nil (.br 4002 .nil (.br 7001 .nil (hg 7004 (.br 7005 (hg 9001 .nil) .nil))))))))) (by kernel_rfl) vc
def ev0:Ev:= {kind:=0}
def evB(o:Option Ev):AVal:= .tuple [evA (o.getD ev0),.bool o.isSome]
theorem coded_does(n:Nat)(m:Int)(H:AHeap):FDoes Tryz.prog cnd 149 [.int .i64 n,.int .u8 m] H (evB (Keys.coded n m)) H:=by
  refine FDoes.ofVC (coded_vc n m (fun v _=>v=evB (Keys.coded n m)) ?_) rfl rfl H
  delta zv38_7 zv38_0 zv38_6 zv38_1 zv38_5 zv38_4 zv38_3 zv38_2
  refine⟨fun e=> ?_,fun h1=>⟨fun e=> ?_,fun h2=>⟨fun e=> ?_,fun h3=>⟨fun e=> ?_,fun h4=>⟨fun e=> ?_,fun h5=>⟨by omega,fun e=>⟨by omega,?_⟩,fun e=> ?_⟩⟩⟩⟩⟩⟩
  · have e:n=13:=by omega
    rw [show Keys.coded n m=some (EvKey 1 m)by simp [Keys.coded,e]];rfl
  · have e:n=9:=by omega
    rw [show Keys.coded n m=some (EvKey 2 m)by simp [Keys.coded,e]];rfl
  · have e:n=127:=by omega
    rw [show Keys.coded n m=some (EvKey 3 m)by simp [Keys.coded,e]];rfl
  · have e:n=27:=by omega
    rw [show Keys.coded n m=some (EvKey 4 m)by simp [Keys.coded,e]];rfl
  all_goals
    have n1:n≠13:=by omega
    have n2:n≠9:=by omega
    have n3:n≠127:=by omega
    have n4:n≠27:=by omega
  · have n5:2097152<n:=by omega
    rw [show Keys.coded n m=none by simp [Keys.coded,n1,n2,n3,n4,n5]];rfl
  · have n5: ¬ 2097152<n:=by omega
    rw [show Keys.coded n m=some (EvRune n m)by simp [Keys.coded,n1,n2,n3,n4,n5,e]];rfl
  · have n5: ¬ 2097152<n:=by omega
    rw [show Keys.coded n m=none by simp [Keys.coded,n1,n2,n3,n4,n5,e]];rfl
theorem trimB_vp(x:UInt8)(r:Bytes)(c:Int)(K0:AExit→Facts→AHeap→Prop)(vc:(0<(↑(List.length (x::r)):Int)→((↑(UInt8.toNat x):Int)=c→((0:Int)≤1∧1≤(↑(List.length (x::r)):Int))∧K0 .normal [(0,.str r),(1,.int .u8 c)] (AHeap.rowsT 12 []))∧(¬(↑(UInt8.toNat x):Int)=c→K0 (.exit 0) [(0,.str (x::r)),(1,.int .u8 c)] (AHeap.rowsT 9 [])))∧(¬0<(↑(List.length (x::r)):Int)→K0 (.exit 0) [(0,.str (x::r)),(1,.int .u8 c)] (AHeap.rowsT 9 []))) :
    ∃ e F1 h1,Runs Tryz.prog cnd 0 17 (loopAt Tryz.prog 142 0) [(0,.str (x::r)),(1,.int .u8 c)] (⟨0,.nil⟩) e F1 h1∧K0 e F1 h1 :=
  tpath_runs env_ok mixed noSpecs_ok (hs:= .br 1002 (.br 1007 (hg 2001 .nil) .nil) .nil) (keep:= [0,1]) (by kernel_rfl) vc
theorem trimE_vp(c:Int)(K0:AExit→Facts→AHeap→Prop)(vc:K0 (.exit 0) [(0,.str []),(1,.int .u8 c)] (AHeap.rowsT 9 [])) :
    ∃ e F1 h1,Runs Tryz.prog cnd 0 17 (loopAt Tryz.prog 142 0) [(0,.str []),(1,.int .u8 c)] (⟨0,.nil⟩) e F1 h1∧K0 e F1 h1 :=
  tpath_runs env_ok mixed noSpecs_ok (hs:= .nil) (keep:= [0,1]) (by kernel_rfl) vc
theorem trimB_vc(s t:Bytes)(c:Int)(h':AHeap)(K0:AVal→AHeap→Prop)(vc:Runs Tryz.prog cnd 0 17 (Code.loop (loopAt Tryz.prog 142 0)) [(0,.str s),(1,.int .u8 c)] (AHeap.rowsT 1 []) (.exit 0) [(0,.str t),(1,.int .u8 c)] h'∧K0 (.str t) (AHeap.mk (h'.next+2) (AHeap.blks h'))) :
    ∃ v h1,FDoes Tryz.prog cnd 142 [.str s,.int .u8 c] (⟨0,.nil⟩) v h1∧K0 v h1 :=
  tcall_does env_ok mixed noSpecs_ok (hs:= .hint (.keep [0,1]) (.hint (.loop [(0,.str t),(1,.int .u8 c)] h' (.exit 0)) .nil)) (by kernel_rfl) vc
theorem trim1_vc(s:Bytes)(K0:AVal→AHeap→Prop)(vc:(s= []→K0 (.str s) (AHeap.rowsT 9 []))∧(¬s= []→CallT Tryz.prog cnd 142 [.str s,.int .u8 48] (AHeap.rowsT 20 []) (.str (List.dropWhile (fun x=>x == 48) s)) (AHeap.rowsT 20 [])∧K0 (.str (List.dropWhile (fun x=>x == 48) s)) (AHeap.rowsT 20 []))) :
    ∃ v h1,FDoes Tryz.prog cnd 128 [.str s,.str [48]] (⟨0,.nil⟩) v h1∧K0 v h1 :=
  tcall_does env_ok mixed noSpecs_ok (hs:= .br 1001 .nil (.hint (.val 4003 (.str (List.dropWhile (fun x=>x == 48) s))) .nil)) (by kernel_rfl) vc
theorem hasPre_vc(s p:Bytes)(K0:AVal→AHeap→Prop)(vc:((↑(List.length p):Int)≤(↑(List.length s):Int)→(0≤(↑(List.length p):Int)∧(↑(List.length p):Int)≤(↑(List.length s):Int))∧(List.take (Int.toNat (↑(List.length p):Int)) s=p→K0 (.bool true) (AHeap.rowsT 20 []))∧(¬List.take (Int.toNat (↑(List.length p):Int)) s=p→K0 (.bool false) (AHeap.rowsT 20 [])))∧(¬(↑(List.length p):Int)≤(↑(List.length s):Int)→K0 (.bool false) (AHeap.rowsT 20 []))) :
    ∃ v h1,FDoes Tryz.prog cnd 146 [.str s,.str p] (⟨0,.nil⟩) v h1∧K0 v h1 :=
  tcall_does env_ok mixed noSpecs_ok (hs:=he 1002 (.br 1004 (hg 1009 (.br 1011 .nil .nil)) .nil)) (by kernel_rfl) vc
theorem cutPre_vc(s p:Bytes)(K0:AVal→AHeap→Prop)(vc:((↑(List.length p):Int)≤(↑(List.length s):Int)→(0≤(↑(List.length p):Int)∧(↑(List.length p):Int)≤(↑(List.length s):Int))∧(List.take (Int.toNat (↑(List.length p):Int)) s=p→(0≤(↑(List.length p):Int)∧(↑(List.length p):Int)≤(↑(List.length s):Int))∧K0 (.tuple [.str (List.drop (Int.toNat (↑(List.length p):Int)) s),.bool true]) (AHeap.rowsT 36 []))∧(¬List.take (Int.toNat (↑(List.length p):Int)) s=p→K0 (.tuple [.str s,.bool false]) (AHeap.rowsT 33 [])))∧(¬(↑(List.length p):Int)≤(↑(List.length s):Int)→K0 (.tuple [.str s,.bool false]) (AHeap.rowsT 33 []))) :
    ∃ v h1,FDoes Tryz.prog cnd 53 [.str s,.str p] (⟨0,.nil⟩) v h1∧K0 v h1 :=
  tcall_does env_ok mixed noSpecs_ok (hs:=he 1002 (he 1002 (.br 1004 (hg 1009 (.br 1011 (hg 3003 .nil) .nil)) .nil))) (by kernel_rfl) vc
abbrev tbF(s:Bytes)(c:UInt8):Facts:= [(0,.str s),(1,.int .u8 c.toNat)]
theorem tb_ent(s:Bytes)(c:UInt8)(h:AHeap):Ent 0 17 (tbF s c) h (tbF s c) ⟨0,.nil⟩ :=
  Ent.drop (K:=0) (l:= []) rfl rfl rfl rfl (All.cons trivial (All.cons trivial All.nil)) All.nil
theorem trimB_loop(c:UInt8): ∀ s:Bytes,∃ h',Loops Tryz.prog cnd 0 17 (loopAt Tryz.prog 142 0) (tbF s c) ⟨0,.nil⟩ (.exit 0) (tbF (s.dropWhile (· == c)) c) h'
  | []=>by
    obtain⟨e,F1,h1,hr,rfl,rfl⟩:=trimE_vp c.toNat (fun e F1 h1=>e= .exit 0∧F1=tbF [] c) ⟨rfl,rfl⟩
    exact⟨h1,Loops.last (by simp) hr⟩
  | x ::r=>by
    by_cases hx:x=c
    · subst hx
      obtain⟨e,F1,h1,hr,rfl,rfl⟩:=trimB_vp x r x.toNat (fun e F1 h1=>e= .normal∧F1=tbF r x) ⟨fun _=>⟨fun _=>⟨⟨by decide,by simp only [List.length_cons];omega⟩,rfl,rfl⟩,fun h=>absurd rfl h⟩,fun h=>by simp at h⟩
      obtain⟨h',hl⟩:=trimB_loop x r
      refine⟨h',?_⟩
      rw [List.dropWhile_cons_of_pos (by simp)]
      exact Loops.step (hr.post (tb_ent r x h1)) hl
    · have hne: ¬ (x.toNat:Int)=(c.toNat:Int):=fun h=>hx (UInt8.toNat_inj.1 (by omega))
      obtain⟨e,F1,h1,hr,rfl,rfl⟩:=trimB_vp x r c.toNat (fun e F1 h1=>e= .exit 0∧F1=tbF (x::r) c) ⟨fun _=>⟨fun h=>absurd h hne,fun _=>⟨rfl,rfl⟩⟩,fun h=>by simp at h⟩
      refine⟨h1,?_⟩
      rw [List.dropWhile_cons_of_neg (by simpa using hx)]
      exact Loops.last (by simp) hr
theorem trimB_does(s:Bytes)(c:UInt8)(H:AHeap):FDoes Tryz.prog cnd 142 [.str s,.int .u8 c.toNat] H (.str (s.dropWhile (· == c))) H:=by
  obtain⟨h',hl⟩:=trimB_loop c s
  exact FDoes.ofVC (trimB_vc s (s.dropWhile (· == c)) c.toNat h' (fun v _=>v= .str (s.dropWhile (· == c))) ⟨Runs.of_loops (hl.pre (tb_ent s c _)),rfl⟩) rfl rfl H
theorem trim1_does(s:Bytes)(H:AHeap):FDoes Tryz.prog cnd 128 [.str s,.str [48]] H (.str (s.dropWhile (· == 48))) H :=
  FDoes.ofVC (trim1_vc s (fun v _=>v= .str (s.dropWhile (· == 48))) ⟨fun h=>by subst h;rfl,fun h=>⟨⟨trimB_does s 48 _⟩,rfl⟩⟩) rfl rfl H
theorem pre_true {s p:Bytes}(h:s.take p.length=p):p.isPrefixOf s=true:=by rw [List.isPrefixOf_iff_prefix,List.prefix_iff_eq_take];exact h.symm
theorem pre_false {s p:Bytes}(h: ¬ s.take p.length=p):p.isPrefixOf s=false:=by
  cases hq:p.isPrefixOf s with
  | false=>rfl
  | true=>rw [List.isPrefixOf_iff_prefix,List.prefix_iff_eq_take]at hq;exact absurd hq.symm h
theorem take_len {s p:Bytes}(h: ¬ p.length≤s.length): ¬ s.take p.length=p:=fun e=>h (by have:=congrArg List.length e;simp at this;omega)
theorem hasPre_does(s p:Bytes)(H:AHeap):FDoes Tryz.prog cnd 146 [.str s,.str p] H (.bool (p.isPrefixOf s)) H:=by
  refine FDoes.ofVC (hasPre_vc s p (fun v _=>v= .bool (p.isPrefixOf s)) ⟨fun h=>⟨⟨by omega,h⟩,fun e=> ?_,fun e=> ?_⟩,fun h=> ?_⟩) rfl rfl H
  · rw [pre_true (by simpa using e)]
  · rw [pre_false (by simpa using e)]
  · rw [pre_false (take_len (by omega))]
def cutP(s p:Bytes):AVal:= .tuple [.str (if p.isPrefixOf s then s.drop p.length else s),.bool (p.isPrefixOf s)]
theorem cutPre_does(s p:Bytes)(H:AHeap):FDoes Tryz.prog cnd 53 [.str s,.str p] H (cutP s p) H:=by
  refine FDoes.ofVC (cutPre_vc s p (fun v _=>v=cutP s p) ⟨fun h=>⟨⟨by omega,h⟩,fun e=>⟨⟨by omega,h⟩,?_⟩,fun e=> ?_⟩,fun h=> ?_⟩) rfl rfl H
  · unfold cutP;rw [pre_true (by simpa using e)];simp
  · unfold cutP;rw [pre_false (by simpa using e)];simp
  · unfold cutP;rw [pre_false (take_len (by omega))];simp
end Go.Proofs.YtddnafghiejcoaaGreatDoor
namespace Go.Keys
theorem splitAt_ne(c:UInt8): ∀ s:Bytes,splitAt c s≠ []
  | []=>by simp [splitAt]
  | b ::r=>by
    unfold splitAt
    split
    · simp
    · cases h:splitAt c r with
      | nil=>exact absurd h (splitAt_ne c r)
      | cons w t=>simp
theorem splitAt_len (c:UInt8): ∀ s:Bytes,(splitAt c s).length=s.count c+1
  | []=>rfl
  | b ::r=>by
    have ih:=splitAt_len c r
    unfold splitAt
    split
    · rename_i h;subst h;simp [ih]
    · rename_i h
      cases hs:splitAt c r with
      | nil=>exact absurd hs (splitAt_ne c r)
      | cons w t =>
        rw [hs]at ih
        simp only [List.length_cons]at ih ⊢
        rw [List.count_cons_of_ne (by simpa using h)]
        omega
theorem split_none {c:UInt8} : ∀ {s:Bytes},s.count c=0→splitAt c s= [s]
  | [],_=>rfl
  | b ::r,h=>by
    have hb: ¬ b=c:=by
      intro e;subst e;simp at h
    rw [List.count_cons_of_ne (by simpa using hb)]at h
    unfold splitAt
    rw [if_neg hb,split_none h]
theorem split_step {c:UInt8} : ∀ {s:Bytes},s.count c≠0→ ∃ m:Nat,Go.Lib.indexByte s c=m∧m<s.length∧splitAt c s=s.take m::splitAt c (s.drop (m+1))∧s.count c=(s.drop (m+1)).count c+1
  | [],h=>by simp at h
  | b ::r,h=>by
    by_cases hb:b=c
    · subst hb
      refine⟨0,by simp [Go.Lib.indexByte],by simp,?_,by simp⟩
      rw [splitAt,if_pos rfl];simp
    · rw [List.count_cons_of_ne (by simpa using hb)]at h ⊢
      obtain⟨m,e1,e2,e3,e4⟩:=split_step h
      refine⟨m+1,?_,by simp;omega,?_,by simpa using e4⟩
      · unfold Go.Lib.indexByte
        rw [if_neg (by simpa using hb),e1,if_neg (by rw [beq_iff_eq];omega)];rfl
      · rw [splitAt,if_neg hb,e3];simp
def wordOk(w:Bytes):Bool:= !(decide (w= []) || decide (9<w.length) || w.all digit == false)
theorem numbersOf_ok: ∀ {l:List Bytes},(∀ w∈l,wordOk w=true)→numbersOf l=some (l.map number)
  | [],_=>rfl
  | w ::r,h=>by
    have h0:=h w List.mem_cons_self
    have hw: ¬ (w= []∨9<w.length∨w.all digit=false):=by
      intro q;unfold wordOk at h0
      rcases q with q | q | q<;>simp [q]at h0
    rw [numbersOf,if_neg hw,numbersOf_ok fun x hx=>h x (List.mem_cons_of_mem _ hx)];rfl
theorem numbersOf_bad: ∀ {a b:List Bytes} {w:Bytes},wordOk w=false→numbersOf (a++w::b)=none
  | [],b,w,h=>by
    have hw:w= []∨9<w.length∨w.all digit=false:=by
      unfold wordOk at h
      simp only [Bool.not_eq_false',Bool.or_eq_true,decide_eq_true_eq,beq_iff_eq]at h
      rcases h with (h | h) | h
      · exact .inl h
      · exact .inr (.inl h)
      · exact .inr (.inr h)
    rw [List.nil_append,numbersOf,if_pos hw]
  | x::a,b,w,h=>by
    rw [List.cons_append,numbersOf,numbersOf_bad h]
    split<;>rfl
theorem number_lt: ∀ (w:Bytes),w.all digit=true→number w<10^w.length:=by
  suffices h: ∀ (w:Bytes) (n k:Nat),w.all digit=true→n<10^k→w.foldl (fun n b=>10*n+(b.toNat-48)) n<10^(k+w.length)from fun w hw=>by
    have:=h w 0 0 hw (by decide)
    rwa [Nat.zero_add]at this
  intro w
  induction w with
  | nil=>intro n k _ h;exact h
  | cons b r ih =>
    intro n k hw h
    simp only [List.all_cons,Bool.and_eq_true,digit,decide_eq_true_eq]at hw
    rw [List.foldl_cons,List.length_cons,show k+(r.length+1)=k+1+r.length by omega]
    refine ih _ _ hw.2 ?_
    rw [Nat.pow_succ]
    omega
theorem numbersOf_lt: ∀ {l:List Bytes} {r:List Nat},numbersOf l=some r→ ∀ n∈r,n<1000000000
  | [],r,h=>by simp [numbersOf]at h;subst h;simp
  | w :: t, r,h=>by
    rw [numbersOf]at h
    split at h
    · cases h
    · rename_i hw
      cases ht:numbersOf t with
      | none=>rw [ht]at h;cases h
      | some x =>
        rw [ht]at h
        simp only [Option.map_some,Option.some.injEq]at h
        subst h
        intro n hn
        rcases List.mem_cons.1 hn with rfl | hn
        · have hall:w.all digit=true:=by
            cases hq:w.all digit with
            | true=>rfl
            | false=>exact absurd (.inr (.inr hq)) hw
          have:=number_lt w hall
          have hl:w.length≤9:=by omega
          exact Nat.lt_of_lt_of_le this (Nat.pow_le_pow_right (by decide) hl)
        · exact numbersOf_lt ht n hn
end Go.Keys
namespace Go.Lift
noncomputable section
open Go.RowKit Go.Shelf
section
variable {P:Program}{φ:Map}
theorem frozen_of_block {w w':World}{a:Addr}(e:w'.heap[a.block]? =w.heap[a.block]?):w'.frozen? a=w.frozen? a:=by
  unfold World.frozen?;rw [e]
theorem Alike.below {w w':World}(k:Below w.heap.size w w'):Alike w w' where
  size:=k.size
  cell a ha:=k.cell ha
  frozen a ha:=frozen_of_block (k.block _ ha)
  mark b hb:=markOf_of (k.block _ hb)
theorem Safe.belowBy {N0:Nat→Prop}{w0 w w':World}(h:Safe N0 w0 w)(hN:Low N0 w0.heap.size)(k:Below w.heap.size w w'):Safe N0 w0 w' :=
  h.trans ⟨k.os,k.tape,k.output,k.size,fun i hi=>k.block i (Nat.lt_of_lt_of_le (hN i hi) h.size)⟩
theorem text_call {N0:Nat→Prop}{w0 w:World}{h:AHeap}{f:FuncId}{args':Array Value}{s:List UInt8}(hN:Low N0 w0.heap.size)(hH:HRel φ N0 h w)(hB:Safe N0 w0 w)
    (hc:Calls P f args' w fun e w'=>e= .returned (.string ⟨s.toArray⟩)∧Below w.heap.size w w') :
    Calls P f args' w fun e w'=> ∃ v' φ',e= .returned v'∧Keep φ φ' h.next∧VRel φ' (.str s) v'∧HRel φ' N0 h w'∧Safe N0 w0 w'∧h.next≤h.next :=
  hc.mono fun e w' ⟨he,hb⟩=>⟨_,φ,he,Keep.refl _ _,by simp only [VRel];exact⟨_,rfl,by simp⟩,hH.alike (Alike.below hb),hB.belowBy hN hb,Nat.le_refl _⟩
def repeatPrim:APrim:=fun args h =>
  match args with
  | [.str s,.int .i64 c]=>if 0≤c∧c≤2^20∧s.length≤2^20 then some (.str (Lib.repeatL s c.toNat),h)else none
  | _=>none
def strsOf:List AVal→Option (List (List UInt8))
  | []=>some []
  | .str s::r=>(strsOf r).map fun l=>s::l
  | _=>none
def joinPrim:APrim:=fun args h =>
  match args with
  | [.slice (some a) n c,.str sep] =>
    if a.fld=0∧a.es=1∧0<n∧n≤2^20 then
      match h.get a.id with
      | some b =>
        if a.idx+n≤b.lim a.ver∧a.idx+n≤b.elems.length then
          match strsOf ((b.elems.drop a.idx).take n)with
          | some xs=>if(Lib.join xs sep).length≤2^20 then some (.str (Lib.join xs sep),h)else none
          | none=>none
        else none
      | none=>none
    else none
  | _=>none
def checkPrim (T:TypeId):APrim:=fun args h =>
  match args with
  | [.ptr (some a)] =>
    if a.idx=0∧a.fld=0 then
      match h.get a.id with
      | some b =>
        match b.elems with
        | [.agg [q,s]] =>
          if b.ro=false∧a.ver=b.ver∧b.ty=some (T,2)then
            match q with
            | .ptr none=>some (.tuple [],h.set a.id {b with elems:= [.agg [.ptr (some a),s]],minVer:=b.ver})
            | .ptr (some a')=>if a'=a then some (.tuple [],h)else none
            | _=>none
          else none
        | _=>none
      | none=>none
    else none
  | _=>none
end
end
end Go.Lift
namespace Go.Keys
theorem decFrom_digits: ∀ (w:Bytes) (n:Nat),w.all digit=true→Go.Lib.decFrom n w=some (w.foldl (fun n b=>10*n+(b.toNat-48)) n)
  | [],n,_=>rfl
  | b::r,n,h=>by
    simp only [List.all_cons,Bool.and_eq_true,digit,decide_eq_true_eq]at h
    have hd:Go.Lib.digitVal b=some (b.toNat-48):=by unfold Go.Lib.digitVal;rw [if_pos h.1]
    unfold Go.Lib.decFrom
    rw [hd]
    show Go.Lib.decFrom (n*10+(b.toNat-48)) r=_
    rw [decFrom_digits r _ h.2,List.foldl_cons,Nat.mul_comm]
theorem atoi_digits {w:Bytes}(h0:w≠ [])(h:w.all digit=true):Go.Lib.atoi w=some (number w:Int):=by
  cases w with
  | nil=>exact absurd rfl h0
  | cons b r =>
    have hb:48≤b.toNat∧b.toNat≤57:=by
      simp only [List.all_cons,Bool.and_eq_true,digit,decide_eq_true_eq]at h;exact h.1
    have n45:(b == 45)=false:=by
      rw [beq_eq_false_iff_ne];rintro rfl;revert hb;decide
    have n43:(b == 43)=false:=by
      rw [beq_eq_false_iff_ne];rintro rfl;revert hb;decide
    unfold Go.Lib.atoi
    simp only [n45,n43,Bool.false_eq_true,if_false]
    unfold Go.Lib.decNat
    rw [List.isEmpty_cons]
    simp only [Bool.false_eq_true,if_false]
    rw [decFrom_digits _ _ h];rfl
def digitsL:Bytes:= [48,49,50,51,52,53,54,55,56,57]
set_option maxRecDepth 100000 in
theorem digit_mem(b:UInt8):digitsL.contains b=digit b:=by
  have h: ∀ n:Fin 256,digitsL.contains (UInt8.ofNat n.val)=digit (UInt8.ofNat n.val):=by decide
  have:=h ⟨b.toNat,b.toNat_lt⟩
  simpa using this
theorem trim_digits (w:Bytes):Go.Lib.trimS w digitsL= []↔w.all digit=true:=by
  have e:(fun b=>digitsL.contains b)=digit:=funext digit_mem
  have dw: ∀ l:Bytes,l.dropWhile digit= []↔l.all digit=true:=by
    intro l
    induction l with
    | nil=>simp
    | cons b r ih =>
      rw [List.dropWhile_cons]
      cases hb:digit b with
      | true=>simp [ih,hb]
      | false=>simp [hb]
  unfold Go.Lib.trimS Go.Lib.trimLeftS Go.Lib.trimRightS
  rw [e,dw]
  constructor
  · intro h
    have h2:((w.reverse.dropWhile digit)).all digit=true:=by simpa using h
    cases hq:w.reverse.dropWhile digit with
    | nil =>
      have:=(dw _).1 hq
      simpa using this
    | cons b r =>
      have hnb:digit b=false:=by
        have:=List.head?_dropWhile_not digit w.reverse
        rw [hq]at this
        simpa using this
      rw [hq]at h2
      simp [hnb]at h2
  · intro h
    have:w.reverse.dropWhile digit= []:=(dw _).2 (by simpa using h)
    rw [this];rfl
end Go.Keys
namespace Go.Proofs.YtddnafghiejcoaaGreatDoor
open Go.Lift Go.Shelf Go.RowKit Go.Keys
set_option maxRecDepth 1000000
def rhoT:Ren where
  f:=fun x=>if x=119 then 165 else if x=120 then 171 else if x=137 then 164 else if x=151 then 155 else if x=152 then 159 else if x=160 then 157 else if x=197 then 154 else if x=217 then 115 else if x=224 then 117 else if x=225 then 116 else if x=227 then 143 else if x=228 then 153 else if x=231 then 142 else if x=232 then 161 else if x=233 then 144 else if x=234 then 162 else if x=235 then 145 else if x=236 then 163 else if x=260 then 158 else if x=266 then 133 else if x=271 then 168 else 0
  t:=fun x=>if x=0 then 0 else if x=3 then 3 else if x=4 then 4 else if x=5 then 5 else if x=9 then 9 else if x=21 then 21 else if x=46 then 108 else if x=105 then 85 else if x=116 then 192 else if x=117 then 193 else if x=119 then 113 else if x=124 then 196 else if x=138 then 208 else if x=139 then 209 else 0
  g:=fun x=>if x=3 then 8 else if x=4 then 9 else 0
theorem lays160:Lays.n160 Tryz.prog rhoT:=by
  constructor
  all_goals first | kernel_rfl | (intro w;kernel_rfl)
def rhoA:Ren where
  f:=fun x=>if x=129 then 136 else if x=171 then 49 else if x=172 then 55 else if x=205 then 127 else if x=243 then 75 else if x=244 then 84 else if x=245 then 85 else if x=246 then 96 else if x=247 then 100 else if x=279 then 101 else if x=280 then 102 else if x=281 then 103 else if x=282 then 104 else if x=283 then 119 else if x=284 then 120 else if x=285 then 121 else if x=286 then 122 else if x=287 then 125 else if x=316 then 126 else if x=317 then 135 else if x=318 then 137 else if x=319 then 138 else if x=320 then 139 else if x=321 then 140 else if x=322 then 141 else if x=337 then 151 else if x=338 then 152 else 0
  t:=fun x=>if x=0 then 0 else if x=2 then 2 else if x=3 then 3 else if x=4 then 4 else if x=5 then 5 else if x=9 then 9 else if x=20 then 20 else if x=21 then 21 else if x=37 then 34 else if x=46 then 108 else if x=51 then 132 else if x=53 then 151 else if x=75 then 89 else if x=76 then 90 else if x=80 then 212 else if x=85 then 138 else if x=127 then 186 else if x=143 then 187 else if x=145 then 189 else if x=167 then 137 else if x=168 then 140 else if x=171 then 154 else if x=173 then 157 else if x=175 then 170 else if x=210 then 173 else if x=212 then 179 else if x=213 then 180 else if x=232 then 203 else if x=233 then 204 else 0
  g:=fun x=>if x=15 then 3 else if x=16 then 4 else if x=17 then 5 else if x=18 then 6 else if x=19 then 7 else 0
theorem lays172:Lays.n172 Tryz.prog rhoA:=by
  constructor
  all_goals first | kernel_rfl | (intro w;kernel_rfl)
theorem trim_does(s:Bytes)(hs:s.length<2^40)(H:AHeap):FDoes Tryz.prog cnd 157 [.str s,.str digitsL] H (.str (Lib.trimS s digitsL)) H:=by
  intro N0 w0 hN hC φ w args' hH hB hA
  obtain⟨l⟩:=args'
  simp only [VRels,VRel]at hA
  obtain⟨a,t,rfl,⟨u,rfl,rfl⟩,b,t2,rfl,⟨c,rfl,hc⟩,rfl⟩:=hA
  refine⟨⟨Tryz.f157,_,by kernel_rfl,rfl⟩,text_call hN hH hB ?_⟩
  have hsz:u.size<2^40:=by simpa using hs
  have h10:c.size=10:=(congrArg List.length hc).trans rfl
  have k:=Any.strings_Trim_laid lays160 (by kernel_rfl) u c w (by omega) (by omega) (by rw [hc];exact ascii_of_all (by decide))
  rw [hc]at k
  exact k
theorem atoi_does(s:Bytes)(hs:s.length≤18)(n:Int)(hn:Lib.atoi s=some n)(H:AHeap):FDoes Tryz.prog cnd 55 [.str s] H (.tuple [.int .i64 n,.nilIface]) H:=by
  intro N0 w0 hN hC φ w args' hH hB hA
  obtain⟨l⟩:=args'
  simp only [VRels,VRel]at hA
  obtain⟨a,t,rfl,⟨u,rfl,rfl⟩,rfl⟩:=hA
  refine⟨⟨Tryz.f55,_,by kernel_rfl,rfl⟩,?_⟩
  have k:=Any.strconv_Atoi lays172 u n (by simpa using hs) hn w
  refine k.mono fun e w' ⟨he,t,hw⟩=> ?_
  have hb:Below w.heap.size w w':=by rw [hw];exact Lib.bytesWorld_below _ _ _
  exact⟨_,φ,he,Keep.refl _ _,by simp only [VRel,VRels];exact⟨_,rfl,_,_,rfl,rfl,_,_,rfl,rfl,rfl⟩,hH.alike (Alike.below hb),hB.belowBy hN hb,Nat.le_refl _⟩
end Go.Proofs.YtddnafghiejcoaaGreatDoor
namespace Go.Proofs.YtddnafghiejcoaaGreatDoor
open Go.Lift Go.Shelf Go.RowKit Go.Keys
set_option maxRecDepth 1000000
def rhoC:Ren where
  f:=fun x=>if x=138 then 167 else if x=143 then 74 else if x=195 then 169 else if x=217 then 115 else if x=218 then 170 else if x=219 then 95 else if x=224 then 117 else if x=225 then 116 else if x=266 then 133 else if x=267 then 118 else if x=314 then 134 else 0
  t:=fun x=>if x=0 then 0 else if x=3 then 3 else if x=4 then 4 else if x=5 then 5 else if x=9 then 9 else if x=46 then 108 else if x=51 then 132 else if x=146 then 176 else 0
  g:=fun x=>if x=1 then 2 else 0
theorem lays138:Lays.n138 Tryz.prog rhoC:=by
  constructor
  all_goals first | kernel_rfl | (intro w;kernel_rfl)
theorem lays143:Lays.n143 Tryz.prog rhoC:=by
  constructor
  all_goals first | kernel_rfl | (intro w;kernel_rfl)
theorem str_one {c:UInt8}{b:ByteArray}(h:b.data.toList= [c]):b=⟨#[c]⟩:=by
  obtain⟨d⟩:=b
  simp only at h
  congr 1
  exact Array.toList_inj.1 (by simpa using h)
theorem count_does(s:Bytes)(c:UInt8)(H:AHeap):FDoes Tryz.prog cnd 167 [.str s,.str [c]] H (.int .i64 (Lib.countByte s c)) H:=by
  intro N0 w0 hN hC φ w args' hH hB hA
  obtain⟨l⟩:=args'
  simp only [VRels,VRel]at hA
  obtain⟨a,t,rfl,⟨u,rfl,rfl⟩,b,t2,rfl,⟨d,rfl,hd⟩,rfl⟩:=hA
  refine⟨⟨Tryz.f167,_,by kernel_rfl,rfl⟩,?_⟩
  have k:=Any.strings_Count_one lays138 u c w
  rw [← str_one hd]at k
  exact k.mono fun e w' ⟨he,hw⟩=>by
    subst hw
    exact⟨_,φ,he,Keep.refl _ _,by simp only [VRel],hH,hB,Nat.le_refl _⟩
theorem index_does(s:Bytes)(c:UInt8)(H:AHeap):FDoes Tryz.prog cnd 74 [.str s,.str [c]] H (.int .i64 (Lib.indexByte s c)) H:=by
  intro N0 w0 hN hC φ w args' hH hB hA
  obtain⟨l⟩:=args'
  simp only [VRels,VRel]at hA
  obtain⟨a,t,rfl,⟨u,rfl,rfl⟩,b,t2,rfl,⟨d,rfl,hd⟩,rfl⟩:=hA
  refine⟨⟨Tryz.f74,_,by kernel_rfl,rfl⟩,?_⟩
  have k:=Any.strings_Index_one lays143 u c w
  rw [← str_one hd]at k
  exact k.mono fun e w' ⟨he,hw⟩=>by
    subst hw
    exact⟨_,φ,he,Keep.refl _ _,by simp only [VRel],hH,hB,Nat.le_refl _⟩
end Go.Proofs.YtddnafghiejcoaaGreatDoor
namespace Go.Proofs.YtddnafghiejcoaaGreatDoor
open Go.Lift Go.Keys
set_option maxRecDepth 1000000
abbrev sRow(l:List AVal)(mv:Nat):ABlk:= {elems:=l,es:=1,exact:=true,ro:=false,ver:=0,minVer:=mv,forkLen:=0,ty:=none}
theorem split_vc(s t:Bytes)(m i k:Nat)(l:List AVal)(K0:AVal→AHeap→Prop)(vc:CallT Tryz.prog cnd 167 [.str s,.str [59]] (AHeap.rowsT 12 []) (.int .i64 (k:Int)) (AHeap.rowsT 12 [])∧(-9223372036854775808≤(k:Int)+1∧(k:Int)+1≤9223372036854775807)∧(-9223372036854775808≤(↑(List.length s):Int)+1∧(↑(List.length s):Int)+1≤9223372036854775807)∧((0≤if(↑(List.length s):Int)+1<(k:Int)+1 then(↑(List.length s):Int)+1 else(k:Int)+1)∧((if(↑(List.length s):Int)+1<(k:Int)+1 then(↑(List.length s):Int)+1 else(k:Int)+1)≤if(↑(List.length s):Int)+1<(k:Int)+1 then(↑(List.length s):Int)+1 else(k:Int)+1)∧(if(↑(List.length s):Int)+1<(k:Int)+1 then(↑(List.length s):Int)+1 else(k:Int)+1)<4611686018427387904∧(16*if(↑(List.length s):Int)+1<(k:Int)+1 then(↑(List.length s):Int)+1 else(k:Int)+1)≤281474976710656)∧(-9223372036854775808≤(if(↑(List.length s):Int)+1<(k:Int)+1 then(↑(List.length s):Int)+1 else(k:Int)+1)-1∧(if(↑(List.length s):Int)+1<(k:Int)+1 then(↑(List.length s):Int)+1 else(k:Int)+1)-1≤9223372036854775807)∧Runs Tryz.prog cnd 0 66 (Code.loop (loopAt Tryz.prog 160 0)) [(0,.str s),(1,.str [59]),(2,.int .i64 0),(3,.int .i64 ((if(↑(List.length s):Int)+1<(k:Int)+1 then(↑(List.length s):Int)+1 else(k:Int)+1)-1)),(9,.slice (some ⟨19,0,0,0,1⟩) (Int.toNat (if(↑(List.length s):Int)+1<(k:Int)+1 then(↑(List.length s):Int)+1 else(k:Int)+1)) (Int.toNat (if(↑(List.length s):Int)+1<(k:Int)+1 then(↑(List.length s):Int)+1 else(k:Int)+1))),(10,.int .i64 0)] (AHeap.rowsT 25 [(19,ABlk.made (List.replicate (Int.toNat (if(↑(List.length s):Int)+1<(k:Int)+1 then(↑(List.length s):Int)+1 else(k:Int)+1)) (.str [])) 1 true)]) (.exit 0) [(0,.str t),(9,.slice (some ⟨50,0,0,0,1⟩) m m),(10,.int .i64 (i:Int))] (AHeap.rowsT 60 [(50,sRow l 0)])∧(0≤(i:Int)∧(i:Int)<(m:Int))∧(0=0∧l[0+Int.toNat (i:Int)]? =some (AVal.str []))∧(-9223372036854775808≤(i:Int)+1∧(i:Int)+1≤9223372036854775807)∧(0≤(i:Int)+1∧(i:Int)+1≤(m:Int))∧K0 (.slice (some ⟨50,0,0,0,1⟩) (i+1) m) (AHeap.rowsT 70 [(50,(ABlk.made (List.set l (0+Int.toNat (i:Int)) (.str t)) 1 true))])) :
    ∃ v h1,FDoes Tryz.prog cnd 160 [.str s,.str [59],.int .i64 0,.int .i64 (-1)] (⟨0,.nil⟩) v h1∧K0 v h1 :=
  tcall_does env_ok mixed noSpecs_ok (hs:= .hint (.val 6002 (.int .i64 (k:Int))) (hg 6003 (hg 7003 (hg 8001 (hg 9001 (.hint (.keep [0,1,2,3,9,10]) (.hint (.loop [(0,.str t),(9,.slice (some ⟨50,0,0,0,1⟩) m m),(10,.int .i64 (i:Int))] (AHeap.rowsT 60 [(50,sRow l 0)]) (.exit 0)) (hg 17003 (.hint (.st 17004 (.str [])) (hg 18002 (hg 18003 .nil))))))))))) (by kernel_rfl) vc
theorem splitS_vp(s:Bytes)(m n i k:Nat)(l:List AVal)(K0:AExit→Facts→AHeap→Prop)(vc:((i:Int)<(n:Int)→CallT Tryz.prog cnd 74 [.str s,.str [59]] (AHeap.rowsT 67 [(50,(ABlk.made (l) 1 true))]) (.int .i64 (k:Int)) (AHeap.rowsT 67 [(50,(ABlk.made (l) 1 true))])∧(-9223372036854775808≤(k:Int)+0∧(k:Int)+0≤9223372036854775807)∧(0≤(k:Int)+0∧(k:Int)+0≤(↑(List.length s):Int))∧(0≤(i:Int)∧(i:Int)<(m:Int))∧(0=0∧l[0+Int.toNat (i:Int)]? =some (AVal.str []))∧(-9223372036854775808≤(k:Int)+1∧(k:Int)+1≤9223372036854775807)∧(0≤(k:Int)+1∧(k:Int)+1≤(↑(List.length s):Int))∧(-9223372036854775808≤(i:Int)+1∧(i:Int)+1≤9223372036854775807)∧K0 .normal [(0,.str (List.drop (k+1) s)),(1,.str [59]),(2,.int .i64 0),(3,.int .i64 (n:Int)),(9,.slice (some ⟨50,0,0,0,1⟩) m m),(10,.int .i64 ((i:Int)+1))] (AHeap.rowsT 88 [(50,(ABlk.made (List.set l (0+Int.toNat (i:Int)) (.str (List.take (k+0) s))) 1 true))]))∧(¬(i:Int)<(n:Int)→K0 (.exit 0) [(0,.str s),(1,.str [59]),(2,.int .i64 0),(3,.int .i64 (n:Int)),(9,.slice (some ⟨50,0,0,0,1⟩) m m),(10,.int .i64 (i:Int))] (AHeap.rowsT 63 [(50,(ABlk.made (l) 1 true))]))) :
    ∃ e F1 h1,Runs Tryz.prog cnd 0 66 (loopAt Tryz.prog 160 0) [(0,.str s),(1,.str [59]),(2,.int .i64 0),(3,.int .i64 n),(9,.slice (some ⟨50,0,0,0,1⟩) m m),(10,.int .i64 i)] (AHeap.rows 60 [(50,sRow l 0)]) e F1 h1∧K0 e F1 h1 :=
  tpath_runs env_ok mixed noSpecs_ok (hs:= .br 11002 (.hint (.val 12002 (.int .i64 (k:Int))) (hg 14005 (hg 14006 (hg 14007 (.hint (.st 14008 (.str [])) (hg 15004 (hg 15005 (hg 16001 .nil)))))))) .nil) (keep:= [0,1,2,3,9,10]) (by kernel_rfl) vc
def sEl(d:List Bytes)(k:Nat):List AVal:=d.map AVal.str++List.replicate k (.str [])
theorem sEl_bare(d:List Bytes)(k:Nat): ∀ e∈sEl d k,Bare e:=by
  intro e he
  rcases List.mem_append.1 he with h | h
  · obtain⟨w,_,rfl⟩:=List.mem_map.1 h;exact Bare.str w
  · rw [(List.mem_replicate.1 h).2];exact Bare.str []
theorem sEl_get(d:List Bytes)(k:Nat):(sEl d (k+1))[d.length]? =some (.str []):=by
  unfold sEl
  rw [List.getElem?_append_right (by simp)]
  simp
theorem sEl_set(d:List Bytes)(k:Nat)(w:Bytes):(sEl d (k+1)).set d.length (.str w)=sEl (d++ [w]) k:=by
  unfold sEl
  rw [List.set_append_right _ _ (by simp),List.replicate_succ]
  simp
abbrev spF(s:Bytes)(n i:Nat):Facts:= [(0,.str s),(1,.str [59]),(2,.int .i64 0),(3,.int .i64 (n:Nat)),(9,.slice (some ⟨50,0,0,0,1⟩) (n+1) (n+1)),(10,.int .i64 (i:Nat))]
theorem clo50s {l c:Nat} :Clo (Go.Lift.Ids [50]) (.slice (some ⟨50,0,0,0,1⟩) l c):=(by show(50:Nat)∈ [50];simp)
theorem sp_ent {s:Bytes}{n i:Nat}{h:AHeap}{d:List Bytes}{k:Nat}(hg:h.get 50=some (sRow (sEl d k) 0)):Ent 0 66 (spF s n i) h (spF s n i) (AHeap.rows 60 [(50,sRow (sEl d k) 0)]) :=
  Ent.drop (K:=60) (l:= [(50,sRow (sEl d k) 0)]) (by simp [hg]) rfl rfl rfl (All.cons trivial (All.cons trivial (All.cons trivial (All.cons trivial (All.cons clo50s (All.cons trivial All.nil)))))) (All.cons (fun e he=>(sEl_bare d k e he).clo _) All.nil)
theorem split_loop (n:Nat) (hn:n<2^40): ∀ (k:Nat) (s:Bytes) (d:List Bytes),s.count 59=k→d.length+k=n→s.length<2^40→ ∃ (t:Bytes) (d':List Bytes),d'++ [t]=d++splitAt 59 s∧d'.length=n ∧
    Loops Tryz.prog cnd 0 66 (loopAt Tryz.prog 160 0) (spF s n d.length) (AHeap.rows 60 [(50,sRow (sEl d (k+1)) 0)]) (.exit 0) (spF t n n) (AHeap.rows 60 [(50,sRow (sEl d' 1) 0)]):=by
  intro k
  induction k with
  | zero =>
    intro s d hk hd hs
    obtain rfl:n=d.length:=by omega
    obtain⟨e,F1,h1,hr,rfl,rfl,hg⟩:=splitS_vp s (d.length+1) d.length d.length 0 (sEl d 1) (fun e F1 h1=>e= .exit 0∧F1=spF s d.length d.length∧h1.get 50=some (sRow (sEl d 1) 0)) ⟨fun h=>by omega,fun _=>⟨rfl,rfl,rfl⟩⟩
    exact⟨s,d,by rw [split_none hk],rfl,(Loops.last (by simp) hr).post (sp_ent hg)⟩
  | succ k ih =>
    intro s d hk hd hs
    obtain⟨m,e1,e2,e3,e4⟩:=split_step (c:=59) (s:=s) (by omega)
    obtain⟨e,F1,h1,hr,rfl,rfl,hg⟩:=splitS_vp s (n+1) n d.length m (sEl d (k+1+1)) (fun e F1 h1=>e= .normal∧F1=spF (s.drop (m+1)) n (d.length+1)∧h1.get 50=some (sRow (sEl (d++ [s.take m]) (k+1)) 0)) (by
      have si:((d.length:Int)+1)=((d.length+1:Nat):Int):=by omega
      have st:0+Int.toNat (d.length:Int)=d.length:=by simp
      refine⟨fun _=>⟨⟨?_⟩,⟨by omega,by omega⟩,⟨by omega,by omega⟩,⟨by omega,by omega⟩,⟨rfl,by rw [st];exact sEl_get d (k+1)⟩,⟨by omega,by omega⟩,⟨by omega,by omega⟩,⟨by omega,by omega⟩,rfl,by rw [si],?_⟩,fun h=>by omega⟩
      · have:=index_does s 59 (AHeap.rowsT 67 [(50,ABlk.made (sEl d (k+1+1)) 1 true)])
        rw [e1]at this;exact this
      · rw [← sEl_set d (k+1) (s.take m),st,Nat.add_zero];rfl)
    obtain⟨t,d',h1',h2,h3⟩:=ih (s.drop (m+1)) (d++ [s.take m]) (by omega) (by simp;omega) (by rw [List.length_drop];omega)
    refine⟨t,d',?_,h2,?_⟩
    · rw [h1',e3];simp
    · have el:(d++ [s.take m]).length=d.length+1:=by simp
      rw [show spF (s.drop (m+1)) n (d++ [s.take m]).length=spF (s.drop (m+1)) n (d.length+1)by rw [el]]at h3
      exact Loops.round hr (sp_ent hg) h3
theorem genSplit_does (s:Bytes) (hs:s.length<2^40) (H:AHeap):FDoes Tryz.prog cnd 160 [.str s,.str [59],.int .i64 0,.int .i64 (-1)] H
    (.slice (some ⟨H.next,0,0,0,1⟩) (splitAt 59 s).length (splitAt 59 s).length) (H.upd [] [sRow ((splitAt 59 s).map AVal.str) 0]):=by
  have hk:s.count 59≤s.length:=List.count_le_length
  obtain⟨t,d',h1,h2,h3⟩:=split_loop (s.count 59) (by omega) (s.count 59) s [] rfl (by simp) hs
  have hc: ¬ ((s.length:Int)+1<(s.count 59:Int)+1):=by omega
  have hn:Int.toNat ((s.count 59:Int)+1)=s.count 59+1:=by omega
  have h0:=count_does s 59 (AHeap.rowsT 12 [])
  obtain ⟨v,h4,hd,hv,hg⟩:=split_vc s t (s.count 59+1) (s.count 59) (s.count 59) (sEl d' 1) (fun v h4=>v= .slice (some ⟨50,0,0,0,1⟩) (s.count 59+1) (s.count 59+1)∧h4.get 50=some (sRow ((splitAt 59 s).map AVal.str) 0)) (by
    rw [if_neg hc,hn]
    refine⟨⟨h0⟩,⟨by omega,by omega⟩,⟨by omega,by omega⟩,⟨by omega,by omega,by omega,by omega⟩,⟨by omega,by omega⟩,?_,⟨by omega,by omega⟩,⟨rfl,?_⟩,⟨by omega,by omega⟩,⟨by omega,by omega⟩,rfl,?_⟩
    · have hL :=Runs.of_loops (h3.pre (Ent.move (F:= [(0,AVal.str s),(1,AVal.str [59]),(2,AVal.int .i64 0),(3,AVal.int .i64 ((s.count 59:Int)+1-1)),(9,AVal.slice (some ⟨19,0,0,0,1⟩) (s.count 59+1) (s.count 59+1)),(10,AVal.int .i64 0)]) (h:=AHeap.rowsT 25 [(19,ABlk.made (List.replicate (s.count 59+1) (AVal.str [])) 1 true)]) (K:=60) (l:= [(50,sRow (sEl [] (s.count 59+1)) 0)]) (fun _=>19) ?_ rfl (by simp) rfl rfl ?_ rfl (All.cons trivial (All.cons trivial (All.cons trivial (All.cons trivial (All.cons clo50s (All.cons trivial All.nil)))))) (All.cons (fun e he=>(sEl_bare [] _ e he).clo _) All.nil)))
      · exact (hL.post (Ent.facts (G:= [(0,AVal.str t),(9,AVal.slice (some ⟨50,0,0,0,1⟩) (s.count 59+1) (s.count 59+1)),(10,AVal.int .i64 (s.count 59:Nat))]) (by
          intro j u hu
          rw [lookF_cons]at hu
          split at hu
          · rename_i hj;subst hj;rw [← hu];rfl
          · rw [lookF_cons]at hu
            split at hu
            · rename_i hj;subst hj;rw [← hu];rfl
            · rw [lookF_cons]at hu
              split at hu
              · rename_i hj;subst hj;rw [← hu];rfl
              · cases hu))).post (by
            have:AHeap.rows 60 [(50,sRow (sEl d' 1) 0)]=AHeap.rowsT 60 [(50,sRow (sEl d' 1) 0)]:=by kernel_rfl
            rw [this];exact Ent.refl _ _ _ _)
      · simp only [List.map_cons,List.map_nil]
        rw [show(sRow (sEl [] (s.count 59+1)) 0).ren (fun _=>19)=sRow (sEl [] (s.count 59+1)) 0 from BareB.ren (b:=sRow (sEl [] (s.count 59+1)) 0) (sEl_bare [] _) _]
        rfl
      · simp [AVal.ren,AAddr.ren]
    · have:=sEl_get d' 0
      rw [h2]at this
      simpa using this
    · have:=sEl_set d' 0 t
      rw [h2,h1]at this
      show some (ABlk.made (List.set (sEl d' 1) (0+Int.toNat (s.count 59:Int)) (AVal.str t)) 1 true)=_
      rw [show 0+Int.toNat (s.count 59:Int)=s.count 59 by simp,this]
      simp [sEl,ABlk.made])
  subst hv
  rw [splitAt_len]
  exact FDoes.new1 (l:= []) (bn:=sRow ((splitAt 59 s).map AVal.str) 0) hd (fun b hb=>by cases hb) (by
    intro e he
    obtain⟨w,_,rfl⟩:=List.mem_map.1 he
    exact Bare.str w) rfl hg (by simp) (by exact⟨trivial,trivial,trivial,trivial,trivial⟩) [] List.nodup_nil (fun j hj=>by cases hj) rfl
noncomputable def genS:List AVal→AHeap→Option Alts:=fun args h=>match args with
  | [.str s,.str k,.int .i64 a,.int .i64 b]=>some (.one (.slice (some ⟨h.next,0,0,0,1⟩) (splitAt 59 s).length (splitAt 59 s).length) (h.upd [] [sRow ((splitAt 59 s).map AVal.str) 0]) [k= [59],a=0,b= -1,s.length<2^40])
  | _=>none
theorem genS_ok: ∀ args h a,genS args h=some a→a.Ok Tryz.prog cnd 160 args h:=by
  intro args h a e
  unfold genS at e
  split at e<;>first | (cases e;done) | skip
  simp only [Option.some.injEq]at e
  subst e
  intro hp
  rw [hp.head,hp.tail.head,hp.tail.tail.head]
  exact genSplit_does _ hp.tail.tail.tail.head h
noncomputable def specsG:Specs:=specs1.add 160 genS
theorem specsG_ok:SpecsOk Tryz.prog cnd specsG:=specs1_ok.add genS_ok
theorem splitW_vc(s:Bytes)(K0:AVal→AHeap→Prop)(vc: [(59:UInt8)]= [(59:UInt8)]∧(0:Int)=0∧(-1:Int)= -1∧List.length s<1099511627776∧K0 (.slice (some ⟨5,0,0,0,1⟩) (List.length (splitAt 59 s)) (List.length (splitAt 59 s))) (AHeap.upd (AHeap.rowsT 5 []) [] [(ABlk.made (List.map .str (splitAt 59 s)) 1 true)])) :
    ∃ v h1,FDoes Tryz.prog cnd 156 [.str s,.str [59]] (⟨0,.nil⟩) v h1∧K0 v h1 :=
  tcall_does env_ok mixed specsG_ok (hs:= .nil) (by kernel_rfl) vc
theorem split_does(s:Bytes)(hs:s.length<2^40)(H:AHeap):FDoes Tryz.prog cnd 156 [.str s,.str [59]] H (.slice (some ⟨H.next,0,0,0,1⟩) (splitAt 59 s).length (splitAt 59 s).length) (H.upd [] [sRow ((splitAt 59 s).map AVal.str) 0]):=by
  obtain⟨v,h1,hd,j,rfl,hg⟩:=splitW_vc s (fun v h1=> ∃ j,v= .slice (some ⟨j,0,0,0,1⟩) (splitAt 59 s).length (splitAt 59 s).length∧h1.get j=some (sRow ((splitAt 59 s).map AVal.str) 0)) ⟨rfl,rfl,rfl,hs,_,rfl,rfl⟩
  exact FDoes.new1 (l:= []) (bn:=sRow ((splitAt 59 s).map AVal.str) 0) hd (fun b hb=>by cases hb) (by
    intro e he
    obtain⟨w,_,rfl⟩:=List.mem_map.1 he
    exact Bare.str w) rfl hg (by simp) (by exact⟨trivial,trivial,trivial⟩) [] List.nodup_nil (fun j hj=>by cases hj) rfl
abbrev iRow(l:List AVal)(v f:Nat):ABlk:= {elems:=l,es:=1,exact:=false,ro:=false,ver:=v,minVer:=0,forkLen:=f,ty:=some (3,0)}
def trimDS:List AVal→AHeap→Option Alts:=pureS fun a=>match a with | [.str s,.str k]=>some (.str (Go.Lib.trimS s digitsL),[k=digitsL,s.length<2^40]) | _=>none
theorem trimDS_ok: ∀ args h a,trimDS args h=some a→a.Ok Tryz.prog cnd 157 args h:=by
  refine pureS_ok ?_
  intro args v ps e hp H
  split at e<;>first | (cases e;done) | skip
  simp only [Option.some.injEq,Prod.mk.injEq]at e
  obtain⟨rfl,rfl⟩:=e
  rw [hp.head]
  exact trim_does _ hp.tail.head H
noncomputable def splitDS:List AVal→AHeap→Option Alts:=fun args h=>match args with
  | [.str s,.str k]=>some (.one (.slice (some ⟨h.next,0,0,0,1⟩) (splitAt 59 s).length (splitAt 59 s).length) (h.upd [] [sRow ((splitAt 59 s).map AVal.str) 0]) [k= [59],s.length<2^40])
  | _=>none
noncomputable def specsU:Specs:=(specs1.add 157 trimDS).add 156 splitDS
theorem splitDS_ok: ∀ args h a,splitDS args h=some a→a.Ok Tryz.prog cnd 156 args h:=by
  intro args h a e
  unfold splitDS at e
  split at e<;>first | (cases e;done) | skip
  simp only [Option.some.injEq]at e
  subst e
  intro hp
  rw [hp.head]
  exact split_does _ hp.tail.head h
theorem specsU_ok:SpecsOk Tryz.prog cnd specsU:=(specs1_ok.add trimDS_ok).add splitDS_ok
abbrev zv48_0(m:Nat):AVal:=AVal.slice (some ⟨9,0,0,0,1⟩) m m
theorem num0_vp(w:Bytes)(m j x:Nat)(ws:List AVal)(K0:AExit→Facts→AHeap→Prop)(vc:((j:Int)<(m:Int)→(0≤(j:Int)∧(j:Int)<(m:Int))∧aload env.D 9 ⟨9,0,0+Int.toNat (j:Int),0,1⟩ (AHeap.rowsT 14 [(9,(ABlk.made (ws) 1 true))])=some (AVal.str w)∧(w= []→K0 .ret [(2,.slice none 0 0),(3,.bool false),(4,.slice none 0 0),(12,(zv48_0 m)),(13,.int .i64 (m:Int)),(14,.int .i64 (j:Int))] (AHeap.rowsT 28 [(9,(ABlk.made (ws) 1 true))]))∧(¬w= []→(9<(↑(List.length w):Int)→K0 .ret [(2,.slice none 0 0),(3,.bool false),(4,.slice none 0 0),(12,(zv48_0 m)),(13,.int .i64 (m:Int)),(14,.int .i64 (j:Int))] (AHeap.rowsT 28 [(9,(ABlk.made (ws) 1 true))]))∧(¬9<(↑(List.length w):Int)→ [(48:UInt8),(49:UInt8),(50:UInt8),(51:UInt8),(52:UInt8),(53:UInt8),(54:UInt8),(55:UInt8),(56:UInt8),(57:UInt8)]= [(48:UInt8),(49:UInt8),(50:UInt8),(51:UInt8),(52:UInt8),(53:UInt8),(54:UInt8),(55:UInt8),(56:UInt8),(57:UInt8)]∧List.length w<1099511627776∧(Lib.trimS w digitsL= []→CallT Tryz.prog cnd 55 [.str w] (AHeap.rowsT 33 [(9,(ABlk.made (ws) 1 true))]) (.tuple [.int .i64 (x:Int),AVal.nilIface]) (AHeap.rowsT 33 [(9,(ABlk.made (ws) 1 true))])∧(-9223372036854775808≤(j:Int)+1∧(j:Int)+1≤9223372036854775807)∧K0 .normal [(4,.slice (some ⟨36,0,0,0,1⟩) 1 1),(12,(zv48_0 m)),(13,.int .i64 (m:Int)),(14,.int .i64 ((j:Int)+1))] (AHeap.rowsT 40 [(9,(ABlk.made (ws) 1 true)),(35,ABlk.made [.int .i64 (x:Int)] 1 true),(36,ABlk.made [.int .i64 (x:Int)] 1 false (some (3,0)))]))∧(¬Lib.trimS w digitsL= []→K0 .ret [(2,.slice none 0 0),(3,.bool false),(4,.slice none 0 0),(12,(zv48_0 m)),(13,.int .i64 (m:Int)),(14,.int .i64 (j:Int))] (AHeap.rowsT 28 [(9,(ABlk.made (ws) 1 true))])))))∧(¬(j:Int)<(m:Int)→K0 (.exit 0) [(4,.slice none 0 0),(12,(zv48_0 m)),(13,.int .i64 (m:Int)),(14,.int .i64 (j:Int))] (AHeap.rowsT 11 [(9,(ABlk.made (ws) 1 true))]))) :
    ∃ e F1 h1,Runs Tryz.prog cnd 0 41 (loopAt Tryz.prog 148 0) [(4,.slice none 0 0),(12,.slice (some ⟨9,0,0,0,1⟩) m m),(13,.int .i64 m),(14,.int .i64 j)] (AHeap.rows 10 [(9,sRow ws 0)]) e F1 h1∧K0 e F1 h1 :=
  tpath_runs env_ok mixed specsU_ok (hs:= .br 5000 (hg 6000 (.hint (.val 6001 (.str w)) (.br 7001 .nil (.br 7005 .nil (.br 7010 (.hint (.val 9001 (.tuple [.int .i64 (x:Int),AVal.nilIface])) (hg 11000 .nil)) .nil))))) .nil) (keep:= [2,3,4,12,13,14]) (by kernel_rfl) vc
abbrev zv49_0(v:Nat)(f:Nat)(l:List AVal):ABlk:=⟨l,1,false,false,v,0,f,some (3,0)⟩
theorem num1_vp(w:Bytes)(m j x v f n:Nat)(ws l:List AVal)(K0:AExit→Facts→AHeap→Prop)(vc:((j:Int)<(m:Int)→(0≤(j:Int)∧(j:Int)<(m:Int))∧aload env.D 9 ⟨9,0,0+Int.toNat (j:Int),0,1⟩ (AHeap.rowsT 64 [(9,(ABlk.made (ws) 1 true)),(50,(zv49_0 v f l))])=some (AVal.str w)∧(w= []→K0 .ret [(2,.slice none 0 0),(3,.bool false),(4,.slice (some ⟨50,v,0,0,1⟩) n n),(12,(zv48_0 m)),(13,.int .i64 (m:Int)),(14,.int .i64 (j:Int))] (AHeap.rowsT 78 [(9,(ABlk.made (ws) 1 true)),(50,(zv49_0 v f l))]))∧(¬w= []→(9<(↑(List.length w):Int)→K0 .ret [(2,.slice none 0 0),(3,.bool false),(4,.slice (some ⟨50,v,0,0,1⟩) n n),(12,(zv48_0 m)),(13,.int .i64 (m:Int)),(14,.int .i64 (j:Int))] (AHeap.rowsT 78 [(9,(ABlk.made (ws) 1 true)),(50,(zv49_0 v f l))]))∧(¬9<(↑(List.length w):Int)→ [(48:UInt8),(49:UInt8),(50:UInt8),(51:UInt8),(52:UInt8),(53:UInt8),(54:UInt8),(55:UInt8),(56:UInt8),(57:UInt8)]= [(48:UInt8),(49:UInt8),(50:UInt8),(51:UInt8),(52:UInt8),(53:UInt8),(54:UInt8),(55:UInt8),(56:UInt8),(57:UInt8)]∧List.length w<1099511627776∧(Lib.trimS w digitsL= []→CallT Tryz.prog cnd 55 [.str w] (AHeap.rowsT 83 [(9,(ABlk.made (ws) 1 true)),(50,(zv49_0 v f l))]) (.tuple [.int .i64 (x:Int),AVal.nilIface]) (AHeap.rowsT 83 [(9,(ABlk.made (ws) 1 true)),(50,(zv49_0 v f l))])∧(v=v∧0+n=List.length l∧n<n+1∧(n+1+(n+1) / 4+512)*8≤281474976710656∧n+1<4611686018427387904)∧(-9223372036854775808≤(j:Int)+1∧(j:Int)+1≤9223372036854775807)∧K0 .normal [(4,.slice (some {id:=50,ver:=v+1,idx:=0,fld:=0,es:=1}) (n+1) (n+1)),(12,(zv48_0 m)),(13,.int .i64 (m:Int)),(14,.int .i64 ((j:Int)+1))] (AHeap.rowsT 90 [(9,(ABlk.made (ws) 1 true)),(50,⟨l++ [.int .i64 (x:Int)],1,false,false,v+1,0,if 0=v then List.length l else min f (List.length l),some (3,0)⟩),(85,ABlk.made [.int .i64 (x:Int)] 1 true)]))∧(¬Lib.trimS w digitsL= []→K0 .ret [(2,.slice none 0 0),(3,.bool false),(4,.slice (some ⟨50,v,0,0,1⟩) n n),(12,(zv48_0 m)),(13,.int .i64 (m:Int)),(14,.int .i64 (j:Int))] (AHeap.rowsT 78 [(9,(ABlk.made (ws) 1 true)),(50,(zv49_0 v f l))])))))∧(¬(j:Int)<(m:Int)→K0 (.exit 0) [(4,.slice (some ⟨50,v,0,0,1⟩) n n),(12,(zv48_0 m)),(13,.int .i64 (m:Int)),(14,.int .i64 (j:Int))] (AHeap.rowsT 61 [(9,(ABlk.made (ws) 1 true)),(50,(zv49_0 v f l))]))) :
    ∃ e F1 h1,Runs Tryz.prog cnd 0 41 (loopAt Tryz.prog 148 0) [(4,.slice (some ⟨50,v,0,0,1⟩) n n),(12,.slice (some ⟨9,0,0,0,1⟩) m m),(13,.int .i64 m),(14,.int .i64 j)] (AHeap.rows 60 [(9,sRow ws 0),(50,iRow l v f)]) e F1 h1∧K0 e F1 h1 :=
  tpath_runs env_ok mixed specsU_ok (hs:= .br 5000 (hg 6000 (.hint (.val 6001 (.str w)) (.br 7001 .nil (.br 7005 .nil (.br 7010 (.hint (.val 9001 (.tuple [.int .i64 (x:Int),AVal.nilIface])) (hg 10003 (hg 11000 .nil))) .nil))))) .nil) (keep:= [2,3,4,12,13,14]) (by kernel_rfl) vc
theorem numE_vc(K0:AVal→AHeap→Prop)(vc:K0 (.tuple [.slice none 0 0,.bool true]) (AHeap.rowsT 6 [])) :
    ∃ v h1,FDoes Tryz.prog cnd 148 [.str []] (⟨0,.nil⟩) v h1∧K0 v h1 :=
  tcall_does env_ok mixed specsU_ok (hs:= .nil) (by kernel_rfl) vc
theorem numL_vc(s:Bytes)(lv iv mv sv:AVal)(h':AHeap)(K0:AVal→AHeap→Prop)(vc:(s= []→K0 (.tuple [.slice none 0 0,.bool true]) (AHeap.rowsT 6 []))∧(¬s= []→ [(59:UInt8)]= [(59:UInt8)]∧List.length s<1099511627776∧Runs Tryz.prog cnd 0 41 (Code.loop (loopAt Tryz.prog 148 0)) [(4,.slice none 0 0),(12,.slice (some ⟨9,0,0,0,1⟩) (List.length (splitAt 59 s)) (List.length (splitAt 59 s))),(13,.int .i64 (↑(List.length (splitAt 59 s)):Int)),(14,.int .i64 0)] (AHeap.upd (AHeap.rowsT 9 []) [] [(ABlk.made (List.map .str (splitAt 59 s)) 1 true)]) (.exit 0) [(4,lv),(12,sv),(13,mv),(14,iv)] h'∧K0 (.tuple [lv,.bool true]) (AHeap.mk (h'.next+3) (AHeap.blks h')))) :
    ∃ v h1,FDoes Tryz.prog cnd 148 [.str s] (⟨0,.nil⟩) v h1∧K0 v h1 :=
  tcall_does env_ok mixed specsU_ok (hs:= .br 1001 .nil (.hint (.keep [4,12,13,14]) (.hint (.loop [(4,lv),(12,sv),(13,mv),(14,iv)] h' (.exit 0)) .nil))) (by kernel_rfl) vc
theorem numR_vc(s:Bytes)(h':AHeap)(K0:AVal→AHeap→Prop)(vc:(s= []→K0 (.tuple [.slice none 0 0,.bool true]) (AHeap.rowsT 6 []))∧(¬s= []→ [(59:UInt8)]= [(59:UInt8)]∧List.length s<1099511627776∧Runs Tryz.prog cnd 0 41 (Code.loop (loopAt Tryz.prog 148 0)) [(4,.slice none 0 0),(12,.slice (some ⟨9,0,0,0,1⟩) (List.length (splitAt 59 s)) (List.length (splitAt 59 s))),(13,.int .i64 (↑(List.length (splitAt 59 s)):Int)),(14,.int .i64 0)] (AHeap.upd (AHeap.rowsT 9 []) [] [(ABlk.made (List.map .str (splitAt 59 s)) 1 true)]) .ret [(2,.slice none 0 0),(3,.bool false)] h'∧K0 (.tuple [.slice none 0 0,.bool false]) h')) :
    ∃ v h1,FDoes Tryz.prog cnd 148 [.str s] (⟨0,.nil⟩) v h1∧K0 v h1 :=
  tcall_does env_ok mixed specsU_ok (hs:= .br 1001 .nil (.hint (.keep [4,12,13,14]) (.hint (.loop [(2,.slice none 0 0),(3,.bool false)] h' .ret) .nil))) (by kernel_rfl) vc
theorem aload_str {h:AHeap}{b:ABlk}{id i:Nat}{w:Bytes}(hg:h.get id=some b)(he:b.elem? 0 i=some (.str w)):aload (AEnv.D env) 9 ⟨id,0,i,0,1⟩ h=some (.str w):=by
  have hD:(AEnv.D env 9).map (fun d=>d.kind.isAgg)=some false:=by kernel_rfl
  obtain⟨d,h1,h2⟩:=Option.map_eq_some_iff.1 hD
  unfold aload
  rw [h1,hg]
  simp only [he,loadElem,h2,Bool.false_eq_true,if_false,if_true]
theorem sRow_elem {ws:List Bytes}{j:Nat}(h:j<ws.length):(sRow (ws.map AVal.str) 0).elem? 0 j=some (.str ws[j]):=by
  simp [ABlk.elem?,ABlk.lim,h]
def ns(l:List Nat):List AVal:=l.map fun(n:Nat)=>AVal.int .i64 n
theorem ns_len(l:List Nat):(ns l).length=l.length:=by simp [ns]
theorem ns_bare(l:List Nat): ∀ e∈ns l,Bare e:=Bare.ints l .i64 fun(n:Nat)=>(n:Int)
theorem strs_bare(ws:List Bytes):BareB (sRow (ws.map AVal.str) 0):=by
  intro e he
  obtain⟨w,_,rfl⟩:=List.mem_map.1 he
  exact Bare.str w
abbrev iRowL(l:List Nat):ABlk:=iRow (ns l) (l.length-1) (fk l.length)
abbrev nF(l m j:Nat):Facts:= [(4,.slice (some ⟨50,l-1,0,0,1⟩) l l),(12,.slice (some ⟨9,0,0,0,1⟩) m m),(13,.int .i64 (m:Nat)),(14,.int .i64 (j:Nat))]
theorem cloN {K:List Nat}{i v o l c e:Nat}(h:i∈K):Clo (Go.Lift.Ids K) (.slice (some ⟨i,v,o,0,e⟩) l c):=h
theorem num_ent {l m j k:Nat}{h:AHeap}{R B:ABlk}(hk:k≠9)(hR:BareB R)(hB:BareB B)(h0:h.get 9=some R)(hg:h.get k=some B) :
    Ent 0 41 [(4,.slice (some ⟨k,l-1,0,0,1⟩) l l),(12,.slice (some ⟨9,0,0,0,1⟩) m m),(13,.int .i64 (m:Nat)),(14,.int .i64 (j:Nat))] h (nF l m j) (AHeap.rows 60 [(9,R),(50,B)]):=by
  refine Ent.move (K:=60) (l:= [(9,R),(50,B)]) (fun i=>if i=9 then 9 else k) ?_ rfl ?_ rfl rfl ?_ rfl ?_ ?_
  · simp [h0,hg,hR.ren,hB.ren]
  · simp;exact fun e=>hk e.symm
  · simp [AVal.ren,AAddr.ren]
  · exact All.cons (cloN (by simp)) (All.cons (cloN (by simp)) (All.cons trivial (All.cons trivial All.nil)))
  · exact All.cons (fun e he=>(hR e he).clo _) (All.cons (fun e he=>(hB e he).clo _) All.nil)
abbrev retF:Facts:= [(2,.slice none 0 0),(3,.bool false)]
theorem wordOk_iff(w:Bytes):wordOk w=true↔w≠ []∧w.length≤9∧w.all digit=true:=by
  unfold wordOk
  simp only [Bool.not_eq_true',Bool.or_eq_false_iff,decide_eq_false_iff_not,beq_eq_false_iff_ne,ne_eq,Bool.not_eq_false,Nat.not_lt,and_assoc]
theorem ret_facts {a b c d:AVal}{n:Nat}{h:AHeap} :Ent 0 n [(2,AVal.slice none 0 0),(3,AVal.bool false),(4,a),(12,b),(13,c),(14,d)] h retF h :=
  Ent.facts (by
    intro j u hu
    rw [lookF_cons]at hu
    split at hu
    · rename_i hj;subst hj;rw [← hu];rfl
    · rw [lookF_cons]at hu
      split at hu
      · rename_i hj;subst hj;rw [← hu];rfl
      · cases hu)
theorem num1_round (ws:List Bytes) (L:List Nat) (j:Nat) (hj:j<ws.length) (hl:L.length<2^40) (h1:1≤L.length) (hw:ws[j].length<2^40) (hm:ws.length<2^40) :
    (wordOk ws[j]=true→ ∃ h',Runs Tryz.prog cnd 0 41 (loopAt Tryz.prog 148 0) (nF L.length ws.length j) (AHeap.rows 60 [(9,sRow (ws.map AVal.str) 0),(50,iRowL L)]) .normal (nF (L++ [number ws[j]]).length ws.length (j+1)) h'∧h'.get 9=some (sRow (ws.map AVal.str) 0)∧h'.get 50=some (iRowL (L++ [number ws[j]]))) ∧
    (wordOk ws[j]=false→ ∃ h',Runs Tryz.prog cnd 0 41 (loopAt Tryz.prog 148 0) (nF L.length ws.length j) (AHeap.rows 60 [(9,sRow (ws.map AVal.str) 0),(50,iRowL L)]) .ret retF h'):=by
  have st:0+Int.toNat (j:Int)=j:=by simp
  have si:((j:Int)+1)=((j+1:Nat):Int):=by omega
  have hld: ∀ n:Nat,aload (AEnv.D env) 9 ⟨9,0,0+Int.toNat (j:Int),0,1⟩ (AHeap.rowsT n [(9,sRow (ws.map AVal.str) 0),(50,iRow (ns L) (L.length-1) (fk L.length))])=some (.str ws[j]):=fun n=>by
    rw [st];exact aload_str (b:=sRow (ws.map AVal.str) 0) (by kernel_rfl) (sRow_elem hj)
  refine⟨fun ok=> ?_,fun bad=> ?_⟩
  · obtain⟨w0,w9,wd⟩:=(wordOk_iff _).1 ok
    have e5:(L++ [number ws[j]]).length=L.length+1:=by simp
    obtain⟨e,F1,h2,hr,rfl,rfl,k0,kg⟩:=num1_vp ws[j] ws.length j (number ws[j]) (L.length-1) (fk L.length) L.length (ws.map AVal.str) (ns L) (fun e F1 h2=>e= .normal∧F1=nF (L.length+1) ws.length (j+1)∧h2.get 9=some (sRow (ws.map AVal.str) 0)∧h2.get 50=some (iRowL (L++ [number ws[j]]))) (by
      delta zv49_0 zv48_0
      refine⟨fun _=>⟨⟨by omega,by omega⟩,hld _,fun h=>absurd h w0,fun _=>⟨fun h=>by omega,fun _=>⟨rfl,hw,fun _=>⟨⟨atoi_does _ (by omega) _ (atoi_digits w0 wd) _⟩,⟨rfl,by rw [ns_len];omega,by omega,by omega,by omega⟩,⟨by omega,by omega⟩,rfl,?_,rfl,?_⟩,fun h=>absurd ((trim_digits _).2 wd) h⟩⟩⟩,fun h=>by omega⟩
      · unfold nF;rw [si,show L.length+1-1=L.length-1+1 by omega]
      · have e1:ns (L++ [number ws[j]])=ns L++ [AVal.int .i64 (number ws[j]:Nat)]:=by simp [ns]
        have e2:(L++ [number ws[j]]).length-1=L.length-1+1:=by simp;omega
        have e3:fk (L++ [number ws[j]]).length=if 0=L.length-1 then(ns L).length else min (fk L.length) (ns L).length:=by
          rw [ns_len,e5];unfold fk
          by_cases c1:L.length=1
          · rw [if_neg (by omega),if_pos (by omega)];omega
          · rw [if_neg (by omega),if_neg (by omega),if_neg c1];omega
        show some _=some (iRow _ _ _)
        rw [e1,e2,e3])
    exact⟨h2,by rw [e5];exact hr,k0,kg⟩
  · obtain⟨e,F1,h2,hr,rfl,hf⟩:=num1_vp ws[j] ws.length j (number ws[j]) (L.length-1) (fk L.length) L.length (ws.map AVal.str) (ns L) (fun e F1 h2=>e= .ret∧F1= [(2,AVal.slice none 0 0),(3,AVal.bool false),(4,AVal.slice (some ⟨50,L.length-1,0,0,1⟩) L.length L.length),(12,AVal.slice (some ⟨9,0,0,0,1⟩) ws.length ws.length),(13,AVal.int IntKind.i64 ws.length),(14,AVal.int IntKind.i64 j)]) (by
      delta zv49_0 zv48_0
      refine⟨fun _=>⟨⟨by omega,by omega⟩,hld _,fun h=>⟨rfl,rfl⟩,fun w0=>⟨fun h=>⟨rfl,rfl⟩,fun w9=>⟨rfl,hw,fun h=> ?_,fun h=>⟨rfl,rfl⟩⟩⟩⟩,fun h=>by omega⟩
      have:=(wordOk_iff ws[j]).2 ⟨w0,by omega,(trim_digits _).1 h⟩
      rw [this]at bad;cases bad)
    subst hf
    exact⟨h2,hr.post ret_facts⟩
theorem num0_round(ws:List Bytes)(hj:0<ws.length)(hw:ws[0].length<2^40)(hm:ws.length<2^40) :
    (wordOk ws[0]=true→ ∃ h' k,k≠9∧Runs Tryz.prog cnd 0 41 (loopAt Tryz.prog 148 0) [(4,.slice none 0 0),(12,.slice (some ⟨9,0,0,0,1⟩) ws.length ws.length),(13,.int .i64 ws.length),(14,.int .i64 (0:Nat))] (AHeap.rows 10 [(9,sRow (ws.map AVal.str) 0)]) .normal [(4,.slice (some ⟨k,1-1,0,0,1⟩) 1 1),(12,.slice (some ⟨9,0,0,0,1⟩) ws.length ws.length),(13,.int .i64 ws.length),(14,.int .i64 (0+1:Nat))] h'∧h'.get 9=some (sRow (ws.map AVal.str) 0)∧h'.get k=some (iRowL [number ws[0]])) ∧
    (wordOk ws[0]=false→ ∃ h',Runs Tryz.prog cnd 0 41 (loopAt Tryz.prog 148 0) [(4,.slice none 0 0),(12,.slice (some ⟨9,0,0,0,1⟩) ws.length ws.length),(13,.int .i64 ws.length),(14,.int .i64 (0:Nat))] (AHeap.rows 10 [(9,sRow (ws.map AVal.str) 0)]) .ret retF h'):=by
  have st:0+Int.toNat ((0:Nat):Int)=0:=by simp
  have hld: ∀ n:Nat,aload (AEnv.D env) 9 ⟨9,0,0+Int.toNat ((0:Nat):Int),0,1⟩ (AHeap.rowsT n [(9,sRow (ws.map AVal.str) 0)])=some (.str ws[0]):=fun n=>by
    rw [st];exact aload_str (b:=sRow (ws.map AVal.str) 0) (by kernel_rfl) (sRow_elem hj)
  refine⟨fun ok=> ?_,fun bad=> ?_⟩
  · obtain⟨w0,w9,wd⟩:=(wordOk_iff _).1 ok
    obtain⟨e,F1,h2,hr,rfl,k,hk,rfl,k0,kg⟩:=num0_vp ws[0] ws.length 0 (number ws[0]) (ws.map AVal.str) (fun e F1 h2=>e= .normal∧ ∃ k,k≠9∧F1= [(4,.slice (some ⟨k,1-1,0,0,1⟩) 1 1),(12,.slice (some ⟨9,0,0,0,1⟩) ws.length ws.length),(13,.int .i64 ws.length),(14,.int .i64 (0+1:Nat))]∧h2.get 9=some (sRow (ws.map AVal.str) 0)∧h2.get k=some (iRowL [number ws[0]]))
      ⟨fun _=>⟨⟨by omega,by omega⟩,hld _,fun h=>absurd h w0,fun _=>⟨fun h=>by omega,fun _=>⟨rfl,hw,fun _=>⟨⟨atoi_does _ (by omega) _ (atoi_digits w0 wd) _⟩,⟨by omega,by omega⟩,rfl,_,(by decide),rfl,rfl,rfl⟩,fun h=>absurd ((trim_digits _).2 wd) h⟩⟩⟩,fun h=>by omega⟩
    exact⟨h2,k,hk,hr,k0,kg⟩
  · obtain⟨e,F1,h2,hr,rfl,hf⟩:=num0_vp ws[0] ws.length 0 (number ws[0]) (ws.map AVal.str) (fun e F1 h2=>e= .ret∧F1= [(2,AVal.slice none 0 0),(3,AVal.bool false),(4,AVal.slice none 0 0),(12,AVal.slice (some ⟨9,0,0,0,1⟩) ws.length ws.length),(13,AVal.int IntKind.i64 ws.length),(14,AVal.int IntKind.i64 (0:Nat))]) (by
      delta zv48_0
      refine⟨fun _=>⟨⟨by omega,by omega⟩,hld _,fun h=>⟨rfl,rfl⟩,fun w0=>⟨fun h=>⟨rfl,rfl⟩,fun w9=>⟨rfl,hw,fun h=> ?_,fun h=>⟨rfl,rfl⟩⟩⟩⟩,fun h=>by omega⟩
      have:=(wordOk_iff ws[0]).2 ⟨w0,by omega,(trim_digits _).1 h⟩
      rw [this]at bad;cases bad)
    subst hf
    exact⟨h2,hr.post ret_facts⟩
theorem num_loop (ws:List Bytes) (hw: ∀ w∈ws,w.length<2^40) (hm:ws.length<2^40): ∀ (k j:Nat),ws.length-j≤k→j≤ws.length→1≤j →
    ((∀ w∈ws.drop j,wordOk w=true)→ ∃ h',Loops Tryz.prog cnd 0 41 (loopAt Tryz.prog 148 0) (nF ((ws.take j).map number).length ws.length j) (AHeap.rows 60 [(9,sRow (ws.map AVal.str) 0),(50,iRowL ((ws.take j).map number))]) (.exit 0) (nF ws.length ws.length ws.length) h'∧h'.get 50=some (iRowL (ws.map number))) ∧
    ((∃ w∈ws.drop j,wordOk w=false)→ ∃ h',Loops Tryz.prog cnd 0 41 (loopAt Tryz.prog 148 0) (nF ((ws.take j).map number).length ws.length j) (AHeap.rows 60 [(9,sRow (ws.map AVal.str) 0),(50,iRowL ((ws.take j).map number))]) .ret retF h'):=by
  intro k
  have fin: ∀ h:(∀ w∈ws.drop ws.length,wordOk w=true),∃ h',Loops Tryz.prog cnd 0 41 (loopAt Tryz.prog 148 0) (nF ((ws.take ws.length).map number).length ws.length ws.length) (AHeap.rows 60 [(9,sRow (ws.map AVal.str) 0),(50,iRowL ((ws.take ws.length).map number))]) (.exit 0) (nF ws.length ws.length ws.length) h'∧h'.get 50=some (iRowL (ws.map number)):=by
    intro _
    rw [List.take_length]
    obtain⟨e,F1,h2,hr,rfl,rfl,hg⟩:=num1_vp [] ws.length ws.length 0 ((ws.map number).length-1) (fk (ws.map number).length) (ws.map number).length (ws.map AVal.str) (ns (ws.map number)) (fun e F1 h2=>e= .exit 0∧F1=nF (ws.map number).length ws.length ws.length∧h2.get 50=some (iRowL (ws.map number))) ⟨fun h=>by omega,fun _=>⟨rfl,rfl,rfl⟩⟩
    have el:(ws.map number).length=ws.length:=List.length_map _
    refine⟨h2,Loops.last (by simp) ?_,hg⟩
    rw [show nF ws.length ws.length ws.length=nF (ws.map number).length ws.length ws.length by rw [el]]
    exact hr
  induction k with
  | zero =>
    intro j hk hj h1
    obtain rfl:j=ws.length:=by omega
    exact⟨fin,fun⟨w,hw,_⟩=>by simp at hw⟩
  | succ k ih =>
    intro j hk hj h1
    by_cases hc:j<ws.length
    · have ht:(ws.take (j+1)).map number=(ws.take j).map number++ [number ws[j]]:=by
        rw [List.take_succ_eq_append_getElem hc,List.map_append];rfl
      have hd:ws.drop j=ws[j]::ws.drop (j+1):=List.drop_eq_getElem_cons hc
      have hll:((ws.take j).map number).length=j:=by rw [List.length_map,List.length_take];omega
      obtain⟨r1,r2⟩:=num1_round ws ((ws.take j).map number) j hc (by omega) (by omega) (hw _ (List.getElem_mem hc)) hm
      obtain⟨i1,i2⟩:=ih (j+1) (by omega) (by omega) (by omega)
      rw [ht]at i1 i2
      cases hq:wordOk ws[j]with
      | false =>
        refine⟨fun h=> ?_,fun _=> ?_⟩
        · have:=h ws[j] (by rw [hd];exact List.mem_cons_self);rw [hq]at this;cases this
        · obtain⟨h',hr⟩:=r2 hq
          exact⟨h',Loops.last (by simp) hr⟩
      | true =>
        obtain⟨h2,hr,k0,kg⟩:=r1 hq
        have ent:=num_ent (l:=((ws.take j).map number++ [number ws[j]]).length) (m:=ws.length) (j:=j+1) (k:=50) (by decide) (strs_bare ws) (B:=iRowL ((ws.take j).map number++ [number ws[j]])) (ns_bare _) k0 kg
        refine⟨fun h=> ?_,fun⟨w,hw',hb⟩=> ?_⟩
        · obtain⟨h',hl,hg⟩:=i1 (fun w hw'=>h w (by rw [hd];exact List.mem_cons_of_mem _ hw'))
          exact⟨h',Loops.step (hr.post ent) hl,hg⟩
        · rw [hd]at hw'
          rcases List.mem_cons.1 hw' with rfl | hw'
          · rw [hq]at hb;cases hb
          · obtain⟨h',hl⟩:=i2 ⟨w,hw',hb⟩
            exact⟨h',Loops.step (hr.post ent) hl⟩
    · obtain rfl:j=ws.length:=by omega
      exact⟨fin,fun⟨w,hw,_⟩=>by simp at hw⟩
theorem splitAt_short (c:UInt8): ∀ (s:Bytes),∀ w∈splitAt c s,w.length≤s.length
  | [],w,h=>by simp [splitAt]at h;simp [h]
  | b ::r,w,h=>by
    unfold splitAt at h
    split at h
    · rcases List.mem_cons.1 h with rfl | h
      · simp
      · have:=splitAt_short c r w h;simp only [List.length_cons];omega
    · cases hs:splitAt c r with
      | nil=>exact absurd hs (splitAt_ne c r)
      | cons x t =>
        rw [hs]at h
        have ih:=splitAt_short c r
        rw [hs]at ih
        rcases List.mem_cons.1 h with rfl | h
        · have:=ih x List.mem_cons_self;simp only [List.length_cons];omega
        · have:=ih w (List.mem_cons_of_mem _ h);simp only [List.length_cons];omega
theorem FDoes.newT {f:FuncId}{args:List AVal}{h':AHeap}{j es n c ver:Nat}{b:Bool}{bn:ABlk}(k:FDoes Tryz.prog cnd f args ⟨0,.nil⟩ (.tuple [.slice (some ⟨j,ver,0,0,es⟩) n c,.bool b]) h')(hbn:BareB bn)(hnew:h'.get j=some bn)(ha: ∀ a∈args,Bare a)(H:AHeap) :
    FDoes Tryz.prog cnd f args H (.tuple [.slice (some ⟨H.next,ver,0,0,es⟩) n c,.bool b]) (H.upd [] [bn]):=by
  have k0:FDoes Tryz.prog cnd f args (AHeap.of []) (.tuple [.slice (some ⟨j,ver,0,0,es⟩) n c,.bool b]) h':=k
  have k1:=k0.fin [j] [bn] (.tuple [.slice (some ⟨0,ver,0,0,es⟩) n c,.bool b]) (fun b hb=>by rw [List.mem_singleton.1 hb];exact hbn) rfl (by simp [finR,hnew]) (by simp [AVal.ren,AVal.rens,AAddr.ren,finR]) (by simp [Clo,Clos]) (by simp) (by simp)
  have hcl:Clos (fun i=>i<([]:List ABlk).length) args:=Clos_iff.2 fun a h=>(ha a h).clo _
  have k2:=k1.upN (l:= []) (l2:= [bn]) (fun b hb=>by cases hb) (fun b hb=>by rw [List.mem_singleton.1 hb];exact hbn) hcl (H:=H) [] List.nodup_nil (fun j hj=>by cases hj) rfl
  have e1:args.map (AVal.ren (toBig [] H.next))=args:=by
    conv=>rhs;rw [← List.map_id args]
    exact List.map_congr_left fun a h=>(ha a h).1 _
  rw [e1]at k2
  simpa [AVal.ren,AVal.rens,AAddr.ren,toBig]using k2
theorem num_head(ws:List Bytes)(n:Nat):Ent 0 41 [(4,.slice none 0 0),(12,.slice (some ⟨9,0,0,0,1⟩) n n),(13,.int .i64 n),(14,.int .i64 (0:Nat))] (AHeap.upd (AHeap.rowsT 9 []) [] [sRow (ws.map AVal.str) 0]) [(4,.slice none 0 0),(12,.slice (some ⟨9,0,0,0,1⟩) n n),(13,.int .i64 n),(14,.int .i64 (0:Nat))] (AHeap.rows 10 [(9,sRow (ws.map AVal.str) 0)]) :=
  Ent.drop (K:=10) (l:= [(9,sRow (ws.map AVal.str) 0)]) (by kernel_rfl) rfl rfl rfl (All.cons trivial (All.cons (cloN (by simp)) (All.cons trivial (All.cons trivial All.nil)))) (All.cons (fun e he=>(strs_bare ws e he).clo _) All.nil)
theorem numbers_does (w:Bytes) (hw:w.length<2^38) (H:AHeap) :
    (Keys.numbers w=none→FDoes Tryz.prog cnd 148 [.str w] H (.tuple [.slice none 0 0,.bool false]) H) ∧
    (Keys.numbers w=some []→FDoes Tryz.prog cnd 148 [.str w] H (.tuple [.slice none 0 0,.bool true]) H) ∧
    (∀ l,l≠ []→Keys.numbers w=some l→FDoes Tryz.prog cnd 148 [.str w] H (.tuple [.slice (some ⟨H.next,l.length-1,0,0,1⟩) l.length l.length,.bool true]) (H.upd [] [iRowL l])):=by
  by_cases hw0:w= []
  · subst hw0
    have hn:Keys.numbers []=some []:=rfl
    refine⟨(fun h=>by rw [hn]at h;cases h),fun _=> ?_,(fun l hl h=>by rw [hn]at h;simp only [Option.some.injEq]at h;exact absurd h.symm hl)⟩
    exact FDoes.ofVC (numE_vc (fun v _=>v= .tuple [.slice none 0 0,.bool true]) rfl) rfl rfl H
  · have hn :Keys.numbers w=numbersOf (splitAt 59 w):=by unfold Keys.numbers;rw [if_neg hw0]
    have hlen:=splitAt_len 59 w
    have hcnt:w.count 59≤w.length:=List.count_le_length
    have hsh:=splitAt_short 59 w
    generalize hdef:splitAt 59 w=ws at hn hlen hsh
    have hpos:0<ws.length:=by omega
    have hm:ws.length<2^40:=by omega
    have hws: ∀ x∈ws,x.length<2^40:=fun x hx=>by have:=hsh x hx;omega
    obtain⟨r1,r2⟩:=num0_round ws hpos (hws _ (List.getElem_mem hpos)) hm
    obtain⟨l1,l2⟩:=num_loop ws hws hm ws.length 1 (by omega) (by omega) (by omega)
    have t1:(ws.take 1).map number= [number ws[0]]:=by
      cases ws with
      | nil=>simp at hpos
      | cons x r=>rfl
    rw [t1]at l1 l2
    have hcons:ws=ws[0]::ws.drop 1:=by
      cases ws with
      | nil=>simp at hpos
      | cons x r=>rfl
    have key: ∀ (h2:AHeap) (k:Nat),k≠9→h2.get 9=some (sRow (ws.map AVal.str) 0)→h2.get k=some (iRowL [number ws[0]])→Ent 0 41 [(4,.slice (some ⟨k,1-1,0,0,1⟩) 1 1),(12,.slice (some ⟨9,0,0,0,1⟩) ws.length ws.length),(13,.int .i64 ws.length),(14,.int .i64 (0+1:Nat))] h2 (nF [number ws[0]].length ws.length 1) (AHeap.rows 60 [(9,sRow (ws.map AVal.str) 0),(50,iRowL [number ws[0]])]) :=
      fun h2 k hk k0 kg=>num_ent (l:=1) hk (strs_bare ws) (B:=iRowL [number ws[0]]) (ns_bare _) k0 kg
    by_cases hok: ∀ x∈ws,wordOk x=true
    · have hn2:Keys.numbers w=some (ws.map number):=by rw [hn,numbersOf_ok hok]
      have hne:ws.map number≠ []:=by intro h;have:=congrArg List.length h;simp at this;rw [this]at hpos;simp at hpos
      refine⟨(fun h=>by rw [hn2]at h;cases h),(fun h=>by rw [hn2]at h;simp only [Option.some.injEq]at h;exact absurd h hne),fun l hl h=> ?_⟩
      rw [hn2]at h
      simp only [Option.some.injEq]at h
      subst h
      obtain⟨h2,k,hk,hr,k0,kg⟩:=r1 (hok _ (List.getElem_mem hpos))
      obtain⟨h',hl',hg⟩:=l1 (fun x hx=>hok x (List.mem_of_mem_drop hx))
      have hL:=Runs.of_loops ((Loops.step (hr.post (key h2 k hk k0 kg)) hl').pre (num_head ws ws.length))
      obtain⟨v,h3,hd,rfl,hg3⟩:=numL_vc w (.slice (some ⟨50,ws.length-1,0,0,1⟩) ws.length ws.length) (.int .i64 ws.length) (.int .i64 ws.length) (.slice (some ⟨9,0,0,0,1⟩) ws.length ws.length) h' (fun v h3=>v= .tuple [.slice (some ⟨50,ws.length-1,0,0,1⟩) ws.length ws.length,.bool true]∧h3.get 50=some (iRowL (ws.map number))) (by rw [hdef];exact⟨fun h=>absurd h hw0,fun _=>⟨rfl,by omega,hL,rfl,hg⟩⟩)
      have:=FDoes.newT hd (bn:=iRowL (ws.map number)) (ns_bare _) hg3 (fun a ha=>by rw [List.mem_singleton.1 ha];exact Bare.str w) H
      rwa [List.length_map]
    · have hbad: ∃ x∈ws,wordOk x=false:=by
        apply Classical.byContradiction
        intro h
        apply hok
        intro x hx
        cases hq:wordOk x with
        | true=>rfl
        | false=>exact absurd ⟨x,hx,hq⟩ h
      have hnone:Keys.numbers w=none:=by
        obtain⟨x,hx,hb⟩:=hbad
        obtain⟨a,b,e⟩:=List.append_of_mem hx
        rw [hn,e,numbersOf_bad hb]
      refine⟨fun _=> ?_,(fun h=>by rw [hnone]at h;cases h),(fun l hl h=>by rw [hnone]at h;cases h)⟩
      have hL: ∃ h',Loops Tryz.prog cnd 0 41 (loopAt Tryz.prog 148 0) [(4,.slice none 0 0),(12,.slice (some ⟨9,0,0,0,1⟩) ws.length ws.length),(13,.int .i64 ws.length),(14,.int .i64 (0:Nat))] (AHeap.rows 10 [(9,sRow (ws.map AVal.str) 0)]) .ret retF h':=by
        cases hq:wordOk ws[0]with
        | false =>
          obtain⟨h',hr⟩:=r2 hq
          exact⟨h',Loops.last (by simp) hr⟩
        | true =>
          obtain⟨h2,k,hk,hr,k0,kg⟩:=r1 hq
          obtain⟨x,hx,hb⟩:=hbad
          rw [hcons]at hx
          rcases List.mem_cons.1 hx with rfl | hx
          · rw [hq]at hb;cases hb
          · obtain⟨h',hl'⟩:=l2 ⟨x,hx,hb⟩
            exact⟨h',Loops.step (hr.post (key h2 k hk k0 kg)) hl'⟩
      obtain⟨h',hL⟩:=hL
      exact FDoes.ofVC (numR_vc w h' (fun v _=>v= .tuple [.slice none 0 0,.bool false]) (by rw [hdef];exact⟨fun h=>absurd h hw0,fun _=>⟨rfl,by omega,Runs.of_loops (hL.pre (num_head ws ws.length)),rfl⟩⟩)) rfl rfl H
abbrev nRow(l:List AVal)(v f:Nat):ABlk:= {elems:=l,es:=1,exact:=false,ro:=false,ver:=v,minVer:=0,forkLen:=f,ty:=some (3,0)}
noncomputable def numC(o:Option (List Nat))(v:AVal)(rows:List ABlk):List AVal→AHeap→Option Alts:=fun args h =>
  match args with
  | [.str w]=>some (.one v (h.upd [] rows) [Keys.numbers w=o,w.length<100])
  | _=>none
noncomputable def numN:List AVal→AHeap→Option Alts:=numC none (.tuple [.slice none 0 0,.bool false]) []
noncomputable def num0:List AVal→AHeap→Option Alts:=numC (some []) (.tuple [.slice none 0 0,.bool true]) []
noncomputable def num1(a:Nat):List AVal→AHeap→Option Alts:=fun args h=>numC (some [a]) (.tuple [.slice (some ⟨h.next,0,0,0,1⟩) 1 1,.bool true]) [nRow [.int .i64 a] 0 0] args h
noncomputable def num2(a b:Nat):List AVal→AHeap→Option Alts:=fun args h=>numC (some [a,b]) (.tuple [.slice (some ⟨h.next,1,0,0,1⟩) 2 2,.bool true]) [nRow [.int .i64 a,.int .i64 b] 1 1] args h
noncomputable def num3(a b c:Nat):List AVal→AHeap→Option Alts:=fun args h=>numC (some [a,b,c]) (.tuple [.slice (some ⟨h.next,2,0,0,1⟩) 3 3,.bool true]) [nRow [.int .i64 a,.int .i64 b,.int .i64 c] 2 1] args h
def cutS:List AVal→AHeap→Option Alts:=pureS fun a=>match a with | [.str s,.str k]=>some (.tuple [.str (s.drop 1),.bool (s.head? == some 60)],[k= [60],s.head? =some 60]) | _=>none
def cutN:List AVal→AHeap→Option Alts:=pureS fun a=>match a with | [.str s,.str k]=>some (.tuple [.str s,.bool false],[k= [60],s.head? ≠some 60]) | _=>none
noncomputable def specsM(num:List AVal→AHeap→Option Alts):Specs:=(specs1.add 53 cutS).add 148 num
noncomputable def specsM3(a b c:Nat):Specs:=specsM (num3 a b c)
noncomputable def specsMN:Specs:=specsM numN
theorem cutS_ok: ∀ args h a,cutS args h=some a→a.Ok Tryz.prog cnd 53 args h:=by
  refine pureS_ok ?_
  intro args v ps e hp H
  split at e<;>first | (cases e;done) | skip
  rename_i s k
  simp only [Option.some.injEq,Prod.mk.injEq]at e
  obtain⟨rfl,rfl⟩:=e
  have h1:k= [60]:=hp.head
  have h2:s.head? =some 60:=hp.tail.head
  subst h1
  have:=cutPre_does s [60] H
  have hp:([60]:Bytes).isPrefixOf s=true:=by
    cases s with
    | nil=>cases h2
    | cons b r=>simp only [List.head?_cons,Option.some.injEq]at h2;subst h2;simp [List.isPrefixOf]
  unfold cutP at this
  rw [hp]at this
  simpa [h2]using this
theorem numC_ok {o:Option (List Nat)}{v:AHeap→AVal}{rows:List ABlk}(k: ∀ (w:Bytes),w.length<100→Keys.numbers w=o→ ∀ H,FDoes Tryz.prog cnd 148 [.str w] H (v H) (H.upd [] rows)): ∀ args h a,numC o (v h) rows args h=some a→a.Ok Tryz.prog cnd 148 args h:=by
  intro args h a e
  unfold numC at e
  split at e<;>first | (cases e;done) | skip
  simp only [Option.some.injEq]at e
  subst e
  exact fun hp=>k _ hp.tail.head hp.head h
theorem numN_ok: ∀ args h a,numN args h=some a→a.Ok Tryz.prog cnd 148 args h:=numC_ok (v:=fun _=> .tuple [.slice none 0 0,.bool false]) fun w hw h H=>(numbers_does w (by omega) H).1 h
theorem num0_ok: ∀ args h a,num0 args h=some a→a.Ok Tryz.prog cnd 148 args h:=numC_ok (v:=fun _=> .tuple [.slice none 0 0,.bool true]) fun w hw h H=>(numbers_does w (by omega) H).2.1 h
theorem num1_ok(x:Nat): ∀ args h a,num1 x args h=some a→a.Ok Tryz.prog cnd 148 args h:=numC_ok (v:=fun h=> .tuple [.slice (some ⟨h.next,0,0,0,1⟩) 1 1,.bool true]) fun w hw h H=>(numbers_does w (by omega) H).2.2 [x] (by simp) h
theorem num2_ok(x y:Nat): ∀ args h a,num2 x y args h=some a→a.Ok Tryz.prog cnd 148 args h:=numC_ok (v:=fun h=> .tuple [.slice (some ⟨h.next,1,0,0,1⟩) 2 2,.bool true]) fun w hw h H=>(numbers_does w (by omega) H).2.2 [x,y] (by simp) h
theorem num3_ok(x y z:Nat): ∀ args h a,num3 x y z args h=some a→a.Ok Tryz.prog cnd 148 args h:=numC_ok (v:=fun h=> .tuple [.slice (some ⟨h.next,2,0,0,1⟩) 3 3,.bool true]) fun w hw h H=>(numbers_does w (by omega) H).2.2 [x,y,z] (by simp) h
noncomputable def numG(l:List Nat):List AVal→AHeap→Option Alts:=fun args h=>match args with
  | [.str w]=>some (.one (.tuple [.slice (some ⟨h.next,l.length-1,0,0,1⟩) l.length l.length,.bool true]) (h.upd [] [nRow (ns l) (l.length-1) (fk l.length)]) [Keys.numbers w=some l,l≠ [],w.length<100])
  | _=>none
theorem numG_ok(l:List Nat): ∀ args h a,numG l args h=some a→a.Ok Tryz.prog cnd 148 args h:=by
  intro args h a e
  unfold numG at e
  split at e<;>first | (cases e;done) | skip
  rename_i w
  simp only [Option.some.injEq]at e
  subst e
  intro hp
  exact(numbers_does w (by have:=hp.tail.tail.head;omega) h).2.2 l hp.tail.head hp.head
noncomputable def specsM0:Specs:=specsM num0
noncomputable def specsMG(l:List Nat):Specs:=specsM (numG l)
theorem specsM0_ok:SpecsOk Tryz.prog cnd specsM0:=(specs1_ok.add cutS_ok).add num0_ok
theorem specsMG_ok(l:List Nat):SpecsOk Tryz.prog cnd (specsMG l):=(specs1_ok.add cutS_ok).add (numG_ok l)
theorem specsMN_ok:SpecsOk Tryz.prog cnd specsMN:=(specs1_ok.add cutS_ok).add numN_ok
theorem specsM3_ok(a b c:Nat):SpecsOk Tryz.prog cnd (specsM3 a b c):=(specs1_ok.add cutS_ok).add (num3_ok a b c)
theorem cutN_ok: ∀ args h a,cutN args h=some a→a.Ok Tryz.prog cnd 53 args h:=by
  refine pureS_ok ?_
  intro args v ps e hp H
  split at e<;>first | (cases e;done) | skip
  rename_i s k
  simp only [Option.some.injEq,Prod.mk.injEq]at e
  obtain⟨rfl,rfl⟩:=e
  have h1:k= [60]:=hp.head
  have h2:s.head? ≠some 60:=hp.tail.head
  subst h1
  have:=cutPre_does s [60] H
  have hp:([60]:Bytes).isPrefixOf s=false:=by
    cases s with
    | nil=>rfl
    | cons b r =>
      have hb: ¬ (60:UInt8)=b:=fun e=>h2 (by rw [← e];rfl)
      simp [List.isPrefixOf,hb]
  unfold cutP at this
  rw [hp]at this
  simpa using this
noncomputable def specsP(num:List AVal→AHeap→Option Alts):Specs:=(specs1.add 53 cutN).add 148 num
noncomputable def specsPN:Specs:=specsP numN
noncomputable def specsP0:Specs:=specsP num0
noncomputable def specsPG(l:List Nat):Specs:=specsP (numG l)
theorem specsPN_ok:SpecsOk Tryz.prog cnd specsPN:=(specs1_ok.add cutN_ok).add numN_ok
theorem specsP0_ok:SpecsOk Tryz.prog cnd specsP0:=(specs1_ok.add cutN_ok).add num0_ok
theorem specsPG_ok(l:List Nat):SpecsOk Tryz.prog cnd (specsPG l):=(specs1_ok.add cutN_ok).add (numG_ok l)
theorem mouseN_vc(w:Bytes)(c:Int)(K0:AVal→AHeap→Prop)(vc: [(60:UInt8)]= [(60:UInt8)]∧List.head? w=some (60:UInt8)∧((List.head? w == some 60)=true→numbers (List.drop 1 w)=none∧List.length (List.drop 1 w)<100∧K0 (.tuple [zv38_6,.bool false]) (AHeap.rowsT 30 [(0,(ABlk.made ([zv38_6]) 6 true (some (42,6))))]))∧((List.head? w == some 60)=false→numbers (List.drop 1 w)=none∧List.length (List.drop 1 w)<100∧K0 (.tuple [zv38_6,.bool false]) (AHeap.rowsT 30 [(0,(ABlk.made ([zv38_6]) 6 true (some (42,6))))]))) :
    ∃ v h1,FDoes Tryz.prog cnd 147 [.str w,.int .u8 c] (⟨0,.nil⟩) v h1∧K0 v h1 :=
  tcall_does env_ok mixed specsMN_ok (hs:= .br 1004 .nil .nil) (by kernel_rfl) vc
abbrev zv54_0:HT:=(.br 16001 (.br 16004 .nil (.br 18001 (.br 18004 .nil .nil) .nil)) (.br 18001 (.br 18004 .nil .nil) .nil))
abbrev zv54_1(n0:Nat)(n1:Nat)(n2:Nat):ABlk:=⟨[.int .i64 (n0:Int),.int .i64 (n1:Int),.int .i64 (n2:Int)],1,false,false,2,0,1,some (3,0)⟩
abbrev zv54_2(n0:Nat)(n1:Nat)(n2:Nat):AVal:=AVal.agg [.int .i8 3,.int .i32 0,.int .u8 (ishr IntKind.i64 (iand IntKind.i64 (n0:Int) (28)) (2)),.int .i64 ((n1:Int)-1),.int .i64 ((n2:Int)-1),.str []]
abbrev zv54_3(n0:Nat)(n1:Nat)(n2:Nat):AVal:=AVal.agg [.int .i8 3,.int .i32 3,.int .u8 (ishr IntKind.i64 (iand IntKind.i64 (n0:Int) (28)) (2)),.int .i64 ((n1:Int)-1),.int .i64 ((n2:Int)-1),.str []]
abbrev zv54_4(n0:Nat)(n1:Nat)(n2:Nat):AVal:=AVal.agg [.int .i8 3,.int .i32 4,.int .u8 (ishr IntKind.i64 (iand IntKind.i64 (n0:Int) (28)) (2)),.int .i64 ((n1:Int)-1),.int .i64 ((n2:Int)-1),.str []]
abbrev zv54_5(n0:Nat)(n1:Nat)(n2:Nat):AVal:=AVal.agg [.int .i8 3,.int .i32 5,.int .u8 (ishr IntKind.i64 (iand IntKind.i64 (n0:Int) (28)) (2)),.int .i64 ((n1:Int)-1),.int .i64 ((n2:Int)-1),.str []]
abbrev zv54_6(n0:Nat)(n1:Nat)(n2:Nat):AVal:=AVal.agg [.int .i8 3,.int .i32 6,.int .u8 (ishr IntKind.i64 (iand IntKind.i64 (n0:Int) (28)) (2)),.int .i64 ((n1:Int)-1),.int .i64 ((n2:Int)-1),.str []]
abbrev zv54_7(n0:Nat)(n1:Nat)(n2:Nat):AVal:=AVal.agg [.int .i8 3,.int .i32 (iandNot IntKind.i64 (n0:Int) (28)),.int .u8 (ishr IntKind.i64 (iand IntKind.i64 (n0:Int) (28)) (2)),.int .i64 ((n1:Int)-1),.int .i64 ((n2:Int)-1),.str []]
abbrev zv54_8:AVal:=AVal.tuple [zv38_6,.bool false]
abbrev zv54_9:ABlk:=(ABlk.made ([zv38_6]) 6 true (some (42,6)))
abbrev zv54_10(n0:Nat)(n1:Nat)(n2:Nat):AVal:=AVal.tuple [(zv54_4 n0 n1 n2),.bool true]
abbrev zv54_11(n0:Nat)(n1:Nat)(n2:Nat):AVal:=AVal.tuple [(zv54_5 n0 n1 n2),.bool true]
abbrev zv54_12(n0:Nat)(n1:Nat)(n2:Nat):ABlk:=(ABlk.made ([(zv54_2 n0 n1 n2)]) 6 true (some (42,6)))
abbrev zv54_13(n0:Nat)(n1:Nat)(n2:Nat):ABlk:=(ABlk.made ([(zv54_4 n0 n1 n2)]) 6 true (some (42,6)))
abbrev zv54_14(n0:Nat)(n1:Nat)(n2:Nat):ABlk:=(ABlk.made ([(zv54_5 n0 n1 n2)]) 6 true (some (42,6)))
abbrev zv54_15(n0:Nat)(n1:Nat)(n2:Nat):ABlk:=(ABlk.made ([(zv54_6 n0 n1 n2)]) 6 true (some (42,6)))
abbrev zv54_16:HT:=(.br 14001 (.br 14004 (.br 14008 .nil zv54_0) zv54_0) zv54_0)
abbrev zv54_17(n0:Nat)(n1:Nat)(n2:Nat):AHeap:=(AHeap.rowsT 90 [(0,(ABlk.made ([(zv54_7 n0 n1 n2)]) 6 true (some (42,6)))),(16,(zv54_1 n0 n1 n2)),(48,(ABlk.made ([(zv54_7 n0 n1 n2)]) 6 true (some (42,6))))])
abbrev zv54_18(n0:Nat)(n1:Nat)(n2:Nat):AHeap:=(AHeap.rowsT 72 [(0,zv54_9),(16,(zv54_1 n0 n1 n2)),(48,(zv54_12 n0 n1 n2))])
abbrev zv54_19(n0:Nat)(n1:Nat)(n2:Nat):AHeap:=(AHeap.rowsT 111 [(0,zv54_9),(16,(zv54_1 n0 n1 n2)),(48,(zv54_12 n0 n1 n2))])
abbrev zv54_20(n0:Nat)(n1:Nat)(n2:Nat):AHeap:=(AHeap.rowsT 99 [(0,(zv54_15 n0 n1 n2)),(16,(zv54_1 n0 n1 n2)),(48,(zv54_15 n0 n1 n2))])
abbrev zv54_21(n0:Nat)(n1:Nat)(n2:Nat):AHeap:=(AHeap.rowsT 106 [(0,(zv54_13 n0 n1 n2)),(16,(zv54_1 n0 n1 n2)),(48,(zv54_13 n0 n1 n2))])
abbrev zv54_22(n0:Nat)(n1:Nat)(n2:Nat):AHeap:=(AHeap.rowsT 113 [(0,(zv54_14 n0 n1 n2)),(16,(zv54_1 n0 n1 n2)),(48,(zv54_14 n0 n1 n2))])
abbrev zv54_23(n0:Nat)(n1:Nat)(n2:Nat)(K0:AVal→AHeap→Prop):Prop:=(iandNot IntKind.i64 (n0:Int) (28)≤2→(-2147483648≤iandNot IntKind.i64 (n0:Int) (28)∧iandNot IntKind.i64 (n0:Int) (28)≤2147483647)∧K0 (.tuple [(zv54_7 n0 n1 n2),.bool true]) (zv54_17 n0 n1 n2))
abbrev zv54_24(n0:Nat)(n1:Nat)(n2:Nat)(K0:AVal→AHeap→Prop):Prop:=(¬iandNot IntKind.i64 (n0:Int) (28)=65→K0 (zv54_8) (zv54_19 n0 n1 n2))
abbrev zv54_25(n0:Nat)(n1:Nat)(n2:Nat)(K0:AVal→AHeap→Prop):Prop:=(iandNot IntKind.i64 (n0:Int) (28)=64→K0 ((zv54_10 n0 n1 n2)) (zv54_21 n0 n1 n2))
abbrev zv54_26(n0:Nat)(n1:Nat)(n2:Nat)(K0:AVal→AHeap→Prop):Prop:=(iandNot IntKind.i64 (n0:Int) (28)=65→K0 ((zv54_11 n0 n1 n2)) (zv54_22 n0 n1 n2))
abbrev zv54_27(n0:Nat)(n1:Nat)(n2:Nat)(K0:AVal→AHeap→Prop):Prop:=(iandNot IntKind.i64 (n0:Int) (28)≤35→K0 (.tuple [(zv54_6 n0 n1 n2),.bool true]) (zv54_20 n0 n1 n2))
abbrev zv54_28(c:Int)(n0:Nat)(n1:Nat)(n2:Nat)(K0:AVal→AHeap→Prop):Prop:=(¬c=77→(c=77→(zv54_26 n0 n1 n2 K0)∧(zv54_24 n0 n1 n2 K0))∧(¬c=77→K0 (zv54_8) (zv54_19 n0 n1 n2)))
abbrev zv54_29(c:Int)(n0:Nat)(n1:Nat)(n2:Nat)(K0:AVal→AHeap→Prop):Prop:=(¬iandNot IntKind.i64 (n0:Int) (28)=64→(c=77→(zv54_26 n0 n1 n2 K0)∧(zv54_24 n0 n1 n2 K0))∧(¬c=77→K0 (zv54_8) (zv54_19 n0 n1 n2)))
theorem mouse3_vc(w:Bytes)(c:Int)(n0 n1 n2:Nat)(K0:AVal→AHeap→Prop)(vc: [(60:UInt8)]= [(60:UInt8)]∧List.head? w=some (60:UInt8)∧((List.head? w == some 60)=true→numbers (List.drop 1 w)=some [n0,n1,n2]∧List.length (List.drop 1 w)<100∧True∧True∧Int.NonNeg (2-0)∧(0≤ishr IntKind.i64 (iand IntKind.i64 (n0:Int) (28)) (2)∧ishr IntKind.i64 (iand IntKind.i64 (n0:Int) (28)) (2)≤255)∧(-9223372036854775808≤(n1:Int)-1∧(n1:Int)-1≤9223372036854775807)∧(-9223372036854775808≤(n2:Int)-1∧(n2:Int)-1≤9223372036854775807)∧((n1:Int)-1<0→K0 (zv54_8) (zv54_18 n0 n1 n2))∧(¬(n1:Int)-1<0→(4096≤(n1:Int)-1→K0 (zv54_8) (zv54_18 n0 n1 n2))∧(¬4096≤(n1:Int)-1→((n2:Int)-1<0→K0 (zv54_8) (zv54_18 n0 n1 n2))∧(¬(n2:Int)-1<0→(4096≤(n2:Int)-1→K0 (zv54_8) (zv54_18 n0 n1 n2))∧(¬4096≤(n2:Int)-1→(c=109→(iandNot IntKind.i64 (n0:Int) (28)≤3→K0 (.tuple [(zv54_3 n0 n1 n2),.bool true]) (AHeap.rowsT 81 [(0,(ABlk.made ([(zv54_3 n0 n1 n2)]) 6 true (some (42,6)))),(16,(zv54_1 n0 n1 n2)),(48,(ABlk.made ([(zv54_3 n0 n1 n2)]) 6 true (some (42,6))))]))∧(¬iandNot IntKind.i64 (n0:Int) (28)≤3→(c=77→(zv54_23 n0 n1 n2 K0)∧(¬iandNot IntKind.i64 (n0:Int) (28)≤2→(c=77→(32≤iandNot IntKind.i64 (n0:Int) (28)→(zv54_27 n0 n1 n2 K0)∧(¬iandNot IntKind.i64 (n0:Int) (28)≤35→(c=77→(zv54_25 n0 n1 n2 K0)∧(zv54_29 c n0 n1 n2 K0))∧(zv54_28 c n0 n1 n2 K0)))∧(¬32≤iandNot IntKind.i64 (n0:Int) (28)→(c=77→(zv54_25 n0 n1 n2 K0)∧(zv54_29 c n0 n1 n2 K0))∧(zv54_28 c n0 n1 n2 K0)))∧(¬c=77→(c=77→(zv54_25 n0 n1 n2 K0)∧(zv54_29 c n0 n1 n2 K0))∧(zv54_28 c n0 n1 n2 K0))))∧(¬c=77→(c=77→(32≤iandNot IntKind.i64 (n0:Int) (28)→(zv54_27 n0 n1 n2 K0)∧(¬iandNot IntKind.i64 (n0:Int) (28)≤35→(c=77→(zv54_25 n0 n1 n2 K0)∧(zv54_29 c n0 n1 n2 K0))∧(zv54_28 c n0 n1 n2 K0)))∧(¬32≤iandNot IntKind.i64 (n0:Int) (28)→(c=77→(zv54_25 n0 n1 n2 K0)∧(zv54_29 c n0 n1 n2 K0))∧(zv54_28 c n0 n1 n2 K0)))∧(¬c=77→(c=77→(zv54_25 n0 n1 n2 K0)∧(zv54_29 c n0 n1 n2 K0))∧(zv54_28 c n0 n1 n2 K0)))))∧(¬c=109→(c=77→(zv54_23 n0 n1 n2 K0)∧(¬iandNot IntKind.i64 (n0:Int) (28)≤2→(c=77→(32≤iandNot IntKind.i64 (n0:Int) (28)→(zv54_27 n0 n1 n2 K0)∧(¬iandNot IntKind.i64 (n0:Int) (28)≤35→(c=77→(zv54_25 n0 n1 n2 K0)∧(zv54_29 c n0 n1 n2 K0))∧(zv54_28 c n0 n1 n2 K0)))∧(¬32≤iandNot IntKind.i64 (n0:Int) (28)→(c=77→(zv54_25 n0 n1 n2 K0)∧(zv54_29 c n0 n1 n2 K0))∧(zv54_28 c n0 n1 n2 K0)))∧(¬c=77→(c=77→(zv54_25 n0 n1 n2 K0)∧(zv54_29 c n0 n1 n2 K0))∧(zv54_28 c n0 n1 n2 K0))))∧(¬c=77→(c=77→(32≤iandNot IntKind.i64 (n0:Int) (28)→(zv54_27 n0 n1 n2 K0)∧(¬iandNot IntKind.i64 (n0:Int) (28)≤35→(c=77→(zv54_25 n0 n1 n2 K0)∧(zv54_29 c n0 n1 n2 K0))∧(zv54_28 c n0 n1 n2 K0)))∧(¬32≤iandNot IntKind.i64 (n0:Int) (28)→(c=77→(zv54_25 n0 n1 n2 K0)∧(zv54_29 c n0 n1 n2 K0))∧(zv54_28 c n0 n1 n2 K0)))∧(¬c=77→(c=77→(zv54_25 n0 n1 n2 K0)∧(zv54_29 c n0 n1 n2 K0))∧(zv54_28 c n0 n1 n2 K0)))))))))∧((List.head? w == some 60)=false→numbers (List.drop 1 w)=some [n0,n1,n2]∧List.length (List.drop 1 w)<100∧K0 (zv54_8) (AHeap.rowsT 31 [(0,zv54_9),(16,(zv54_1 n0 n1 n2))]))) :
    ∃ v h1,FDoes Tryz.prog cnd 147 [.str w,.int .u8 c] (⟨0,.nil⟩) v h1∧K0 v h1 :=
  tcall_does env_ok mixed (specsM3_ok n0 n1 n2) (hs:= .br 1004 (hg 5003 (hg 6003 (hg 6004 (hg 6005 (hg 6009 (hg 6013 (.br 8002 .nil (.br 8006 .nil (.br 8011 .nil (.br 8016 .nil (.br 10001 (.br 10004 .nil (.br 12001 (.br 12004 (hg 13001 .nil) zv54_16) zv54_16)) (.br 12001 (.br 12004 (hg 13001 .nil) zv54_16) zv54_16)))))))))))) .nil) (by kernel_rfl) vc
theorem mouse0_vc(w:Bytes)(c:Int)(K0:AVal→AHeap→Prop)(vc: [(60:UInt8)]= [(60:UInt8)]∧List.head? w=some (60:UInt8)∧((List.head? w == some 60)=true→numbers (List.drop 1 w)=some []∧List.length (List.drop 1 w)<100∧K0 (zv54_8) (AHeap.rowsT 30 [(0,zv54_9)]))∧((List.head? w == some 60)=false→numbers (List.drop 1 w)=some []∧List.length (List.drop 1 w)<100∧K0 (zv54_8) (AHeap.rowsT 30 [(0,zv54_9)]))) :
    ∃ v h1,FDoes Tryz.prog cnd 147 [.str w,.int .u8 c] (⟨0,.nil⟩) v h1∧K0 v h1 :=
  tcall_does env_ok mixed specsM0_ok (hs:= .br 1004 .nil .nil) (by kernel_rfl) vc
abbrev zv56_0(l:List Nat):ABlk:=⟨ns l,1,false,false,List.length l-1,0,fk (List.length l),some (3,0)⟩
abbrev zv56_1(l:List Nat):AVal:=AVal.agg [.int .i8 3,.int .i32 0,.int .u8 (ishr IntKind.i64 (iand IntKind.i64 (intAt (ns l) 0) (28)) (2)),.int .i64 (intAt (ns l) 1-1),.int .i64 (intAt (ns l) 2-1),.str []]
abbrev zv56_2(l:List Nat):AVal:=AVal.agg [.int .i8 3,.int .i32 3,.int .u8 (ishr IntKind.i64 (iand IntKind.i64 (intAt (ns l) 0) (28)) (2)),.int .i64 (intAt (ns l) 1-1),.int .i64 (intAt (ns l) 2-1),.str []]
abbrev zv56_3(l:List Nat):AVal:=AVal.agg [.int .i8 3,.int .i32 4,.int .u8 (ishr IntKind.i64 (iand IntKind.i64 (intAt (ns l) 0) (28)) (2)),.int .i64 (intAt (ns l) 1-1),.int .i64 (intAt (ns l) 2-1),.str []]
abbrev zv56_4(l:List Nat):AVal:=AVal.agg [.int .i8 3,.int .i32 5,.int .u8 (ishr IntKind.i64 (iand IntKind.i64 (intAt (ns l) 0) (28)) (2)),.int .i64 (intAt (ns l) 1-1),.int .i64 (intAt (ns l) 2-1),.str []]
abbrev zv56_5(l:List Nat):AVal:=AVal.agg [.int .i8 3,.int .i32 6,.int .u8 (ishr IntKind.i64 (iand IntKind.i64 (intAt (ns l) 0) (28)) (2)),.int .i64 (intAt (ns l) 1-1),.int .i64 (intAt (ns l) 2-1),.str []]
abbrev zv56_6(l:List Nat):AVal:=AVal.agg [.int .i8 3,.int .i32 (iandNot IntKind.i64 (intAt (ns l) 0) (28)),.int .u8 (ishr IntKind.i64 (iand IntKind.i64 (intAt (ns l) 0) (28)) (2)),.int .i64 (intAt (ns l) 1-1),.int .i64 (intAt (ns l) 2-1),.str []]
abbrev zv56_7(l:List Nat):AVal:=AVal.tuple [(zv56_3 l),.bool true]
abbrev zv56_8(l:List Nat):AVal:=AVal.tuple [(zv56_4 l),.bool true]
abbrev zv56_9(l:List Nat):ABlk:=(ABlk.made ([(zv56_1 l)]) 6 true (some (42,6)))
abbrev zv56_10(l:List Nat):ABlk:=(ABlk.made ([(zv56_3 l)]) 6 true (some (42,6)))
abbrev zv56_11(l:List Nat):ABlk:=(ABlk.made ([(zv56_4 l)]) 6 true (some (42,6)))
abbrev zv56_12(l:List Nat):ABlk:=(ABlk.made ([(zv56_5 l)]) 6 true (some (42,6)))
abbrev zv56_13(l:List Nat):ABlk:=(ABlk.made ([(zv56_6 l)]) 6 true (some (42,6)))
abbrev zv56_14(l:List Nat):AHeap:=(AHeap.rowsT 72 [(0,zv54_9),(16,(zv56_0 l)),(48,(zv56_9 l))])
abbrev zv56_15(l:List Nat):AHeap:=(AHeap.rowsT 111 [(0,zv54_9),(16,(zv56_0 l)),(48,(zv56_9 l))])
abbrev zv56_16(l:List Nat):AHeap:=(AHeap.rowsT 99 [(0,(zv56_12 l)),(16,(zv56_0 l)),(48,(zv56_12 l))])
abbrev zv56_17(l:List Nat):AHeap:=(AHeap.rowsT 106 [(0,(zv56_10 l)),(16,(zv56_0 l)),(48,(zv56_10 l))])
abbrev zv56_18(l:List Nat):AHeap:=(AHeap.rowsT 113 [(0,(zv56_11 l)),(16,(zv56_0 l)),(48,(zv56_11 l))])
abbrev zv56_19(l:List Nat)(K0:AVal→AHeap→Prop):Prop:=(iandNot IntKind.i64 (intAt (ns l) 0) (28)≤2→(-2147483648≤iandNot IntKind.i64 (intAt (ns l) 0) (28)∧iandNot IntKind.i64 (intAt (ns l) 0) (28)≤2147483647)∧K0 (.tuple [(zv56_6 l),.bool true]) (AHeap.rowsT 90 [(0,(zv56_13 l)),(16,(zv56_0 l)),(48,(zv56_13 l))]))
abbrev zv56_20(l:List Nat)(K0:AVal→AHeap→Prop):Prop:=(¬iandNot IntKind.i64 (intAt (ns l) 0) (28)=65→K0 (zv54_8) (zv56_15 l))
abbrev zv56_21(l:List Nat)(K0:AVal→AHeap→Prop):Prop:=(iandNot IntKind.i64 (intAt (ns l) 0) (28)=64→K0 ((zv56_7 l)) (zv56_17 l))
abbrev zv56_22(l:List Nat)(K0:AVal→AHeap→Prop):Prop:=(iandNot IntKind.i64 (intAt (ns l) 0) (28)=65→K0 ((zv56_8 l)) (zv56_18 l))
abbrev zv56_23(l:List Nat)(K0:AVal→AHeap→Prop):Prop:=(iandNot IntKind.i64 (intAt (ns l) 0) (28)≤35→K0 (.tuple [(zv56_5 l),.bool true]) (zv56_16 l))
abbrev zv56_24(c:Int)(l:List Nat)(K0:AVal→AHeap→Prop):Prop:=(¬c=77→(c=77→(zv56_22 l K0)∧(zv56_20 l K0))∧(¬c=77→K0 (zv54_8) (zv56_15 l)))
abbrev zv56_25(c:Int)(l:List Nat)(K0:AVal→AHeap→Prop):Prop:=(¬iandNot IntKind.i64 (intAt (ns l) 0) (28)=64→(c=77→(zv56_22 l K0)∧(zv56_20 l K0))∧(¬c=77→K0 (zv54_8) (zv56_15 l)))
theorem mouseG_vc(w:Bytes)(c:Int)(l:List Nat)(K0:AVal→AHeap→Prop)(vc: [(60:UInt8)]= [(60:UInt8)]∧List.head? w=some (60:UInt8)∧((List.head? w == some 60)=true→numbers (List.drop 1 w)=some l∧(l= []→False)∧List.length (List.drop 1 w)<100∧((↑(List.length l):Int)=3→((0:Int)≤0∧0<(↑(List.length l):Int))∧List.length l-1=List.length l-1∧(ns l)[0]? =some (.int .i64 (intAt (ns l) 0))∧True∧((0:Int)≤0∧0<(↑(List.length l):Int))∧List.length l-1=List.length l-1∧(ns l)[0]? =some (.int .i64 (intAt (ns l) 0))∧True∧Int.NonNeg (2-0)∧(0≤ishr IntKind.i64 (iand IntKind.i64 (intAt (ns l) 0) (28)) (2)∧ishr IntKind.i64 (iand IntKind.i64 (intAt (ns l) 0) (28)) (2)≤255)∧((0:Int)≤1∧1<(↑(List.length l):Int))∧List.length l-1=List.length l-1∧(ns l)[1]? =some (.int .i64 (intAt (ns l) 1))∧(-9223372036854775808≤intAt (ns l) 1-1∧intAt (ns l) 1-1≤9223372036854775807)∧((0:Int)≤2∧2<(↑(List.length l):Int))∧List.length l-1=List.length l-1∧(ns l)[2]? =some (.int .i64 (intAt (ns l) 2))∧(-9223372036854775808≤intAt (ns l) 2-1∧intAt (ns l) 2-1≤9223372036854775807)∧(intAt (ns l) 1-1<0→K0 (zv54_8) (zv56_14 l))∧(¬intAt (ns l) 1-1<0→(4096≤intAt (ns l) 1-1→K0 (zv54_8) (zv56_14 l))∧(¬4096≤intAt (ns l) 1-1→(intAt (ns l) 2-1<0→K0 (zv54_8) (zv56_14 l))∧(¬intAt (ns l) 2-1<0→(4096≤intAt (ns l) 2-1→K0 (zv54_8) (zv56_14 l))∧(¬4096≤intAt (ns l) 2-1→(c=109→(iandNot IntKind.i64 (intAt (ns l) 0) (28)≤3→K0 (.tuple [(zv56_2 l),.bool true]) (AHeap.rowsT 81 [(0,(ABlk.made ([(zv56_2 l)]) 6 true (some (42,6)))),(16,(zv56_0 l)),(48,(ABlk.made ([(zv56_2 l)]) 6 true (some (42,6))))]))∧(¬iandNot IntKind.i64 (intAt (ns l) 0) (28)≤3→(c=77→(zv56_19 l K0)∧(¬iandNot IntKind.i64 (intAt (ns l) 0) (28)≤2→(c=77→(32≤iandNot IntKind.i64 (intAt (ns l) 0) (28)→(zv56_23 l K0)∧(¬iandNot IntKind.i64 (intAt (ns l) 0) (28)≤35→(c=77→(zv56_21 l K0)∧(zv56_25 c l K0))∧(zv56_24 c l K0)))∧(¬32≤iandNot IntKind.i64 (intAt (ns l) 0) (28)→(c=77→(zv56_21 l K0)∧(zv56_25 c l K0))∧(zv56_24 c l K0)))∧(¬c=77→(c=77→(zv56_21 l K0)∧(zv56_25 c l K0))∧(zv56_24 c l K0))))∧(¬c=77→(c=77→(32≤iandNot IntKind.i64 (intAt (ns l) 0) (28)→(zv56_23 l K0)∧(¬iandNot IntKind.i64 (intAt (ns l) 0) (28)≤35→(c=77→(zv56_21 l K0)∧(zv56_25 c l K0))∧(zv56_24 c l K0)))∧(¬32≤iandNot IntKind.i64 (intAt (ns l) 0) (28)→(c=77→(zv56_21 l K0)∧(zv56_25 c l K0))∧(zv56_24 c l K0)))∧(¬c=77→(c=77→(zv56_21 l K0)∧(zv56_25 c l K0))∧(zv56_24 c l K0)))))∧(¬c=109→(c=77→(zv56_19 l K0)∧(¬iandNot IntKind.i64 (intAt (ns l) 0) (28)≤2→(c=77→(32≤iandNot IntKind.i64 (intAt (ns l) 0) (28)→(zv56_23 l K0)∧(¬iandNot IntKind.i64 (intAt (ns l) 0) (28)≤35→(c=77→(zv56_21 l K0)∧(zv56_25 c l K0))∧(zv56_24 c l K0)))∧(¬32≤iandNot IntKind.i64 (intAt (ns l) 0) (28)→(c=77→(zv56_21 l K0)∧(zv56_25 c l K0))∧(zv56_24 c l K0)))∧(¬c=77→(c=77→(zv56_21 l K0)∧(zv56_25 c l K0))∧(zv56_24 c l K0))))∧(¬c=77→(c=77→(32≤iandNot IntKind.i64 (intAt (ns l) 0) (28)→(zv56_23 l K0)∧(¬iandNot IntKind.i64 (intAt (ns l) 0) (28)≤35→(c=77→(zv56_21 l K0)∧(zv56_25 c l K0))∧(zv56_24 c l K0)))∧(¬32≤iandNot IntKind.i64 (intAt (ns l) 0) (28)→(c=77→(zv56_21 l K0)∧(zv56_25 c l K0))∧(zv56_24 c l K0)))∧(¬c=77→(c=77→(zv56_21 l K0)∧(zv56_25 c l K0))∧(zv56_24 c l K0)))))))))∧(¬(↑(List.length l):Int)=3→K0 (zv54_8) (AHeap.rowsT 31 [(0,zv54_9),(16,(zv56_0 l))])))∧((List.head? w == some 60)=false→numbers (List.drop 1 w)=some l∧(l= []→False)∧List.length (List.drop 1 w)<100∧K0 (zv54_8) (AHeap.rowsT 31 [(0,zv54_9),(16,(zv56_0 l))]))) :
    ∃ v h1,FDoes Tryz.prog cnd 147 [.str w,.int .u8 c] (⟨0,.nil⟩) v h1∧K0 v h1 :=
  tcall_does env_ok mixed (specsMG_ok l) (hs:= .br 1004 (.br 3009 (hg 5001 (hg 5002 (hg 5003 (hg 6001 (hg 6002 (hg 6003 (hg 6004 (hg 6005 (hg 6007 (hg 6008 (hg 6009 (hg 6011 (hg 6012 (hg 6013 (.br 8002 .nil (.br 8006 .nil (.br 8011 .nil (.br 8016 .nil (.br 10001 (.br 10004 .nil (.br 12001 (.br 12004 (hg 13001 .nil) zv54_16) zv54_16)) (.br 12001 (.br 12004 (hg 13001 .nil) zv54_16) zv54_16)))))))))))))))))))) .nil) .nil) (by kernel_rfl) vc
theorem mouseCN_vc(w:Bytes)(c:Int)(K0:AVal→AHeap→Prop)(vc: [(60:UInt8)]= [(60:UInt8)]∧(List.head? w=some (60:UInt8)→False)∧numbers w=none∧List.length w<100∧K0 (zv54_8) (AHeap.rowsT 30 [(0,zv54_9)])) :
    ∃ v h1,FDoes Tryz.prog cnd 147 [.str w,.int .u8 c] (⟨0,.nil⟩) v h1∧K0 v h1 :=
  tcall_does env_ok mixed specsPN_ok (hs:= .nil) (by kernel_rfl) vc
theorem mouseC0_vc(w:Bytes)(c:Int)(K0:AVal→AHeap→Prop)(vc: [(60:UInt8)]= [(60:UInt8)]∧(List.head? w=some (60:UInt8)→False)∧numbers w=some []∧List.length w<100∧K0 (zv54_8) (AHeap.rowsT 30 [(0,zv54_9)])) :
    ∃ v h1,FDoes Tryz.prog cnd 147 [.str w,.int .u8 c] (⟨0,.nil⟩) v h1∧K0 v h1 :=
  tcall_does env_ok mixed specsP0_ok (hs:= .nil) (by kernel_rfl) vc
theorem mouseCG_vc(w:Bytes)(c:Int)(l:List Nat)(K0:AVal→AHeap→Prop)(vc: [(60:UInt8)]= [(60:UInt8)]∧(List.head? w=some (60:UInt8)→False)∧numbers w=some l∧(l= []→False)∧List.length w<100∧K0 (zv54_8) (AHeap.rowsT 31 [(0,zv54_9),(16,(zv56_0 l))])) :
    ∃ v h1,FDoes Tryz.prog cnd 147 [.str w,.int .u8 c] (⟨0,.nil⟩) v h1∧K0 v h1 :=
  tcall_does env_ok mixed (specsPG_ok l) (hs:= .nil) (by kernel_rfl) vc
theorem and28(n:Nat):n &&& 28=4* (n / 4 % 8):=by
  have h: ∀ r:Fin 32,(r.val &&& 28)=4* (r.val / 4 % 8):=by decide
  have e:n &&& 28=(n % 32) &&& 28:=by
    rw [show n % 32=n &&& 31 from(Nat.and_two_pow_sub_one_eq_mod n 5).symm,Nat.and_assoc];rfl
  have h2:n % 32 &&& 28=4* (n % 32 / 4 % 8):=h ⟨n % 32,Nat.mod_lt _ (by decide)⟩
  rw [e,h2]
  omega
theorem andNot28(n:Nat)(h:n<2^62):n &&& (2^64-29)=n-4* (n / 4 % 8):=by
  have e1:(n &&& (2^64-29)) / 2^5=n / 2^5:=by
    rw [Nat.and_div_two_pow,show(2^64-29) / 2^5=2^59-1 by decide,Nat.and_two_pow_sub_one_eq_mod]
    exact Nat.mod_eq_of_lt (by omega)
  have e2:(n &&& (2^64-29)) % 2^5=n % 4:=by
    rw [Nat.and_mod_two_pow,show(2^64-29) % 2^5=2^2-1 by decide,Nat.and_two_pow_sub_one_eq_mod]
    omega
  omega
theorem iand28(n:Nat)(h:n<2^30):iand .i64 (n:Int) 28=(4* (n / 4 % 8):Nat):=by
  unfold iand
  rw [BitVec.toNat_and]
  have a:(BitVec.ofInt IntKind.i64.bits (n:Int)).toNat=n:=by
    show(BitVec.ofInt 64 (n:Int)).toNat=n
    rw [BitVec.toNat_ofInt];omega
  have b:(BitVec.ofInt IntKind.i64.bits 28).toNat=28:=by decide
  rw [a,b,and28]
  have:4* (n / 4 % 8)<32:=by omega
  generalize 4* (n / 4 % 8)=k at this
  have w: ∀ k:Fin 32,IntKind.i64.wrap (k.val:Int)=k.val:=by decide
  exact w ⟨k,this⟩
theorem iandNot28(n:Nat)(h:n<2^30):iandNot .i64 (n:Int) 28=(n-4* (n / 4 % 8):Nat):=by
  unfold iandNot
  rw [BitVec.toNat_and]
  have a:(BitVec.ofInt IntKind.i64.bits (n:Int)).toNat=n:=by
    show(BitVec.ofInt 64 (n:Int)).toNat=n
    rw [BitVec.toNat_ofInt];omega
  have b:(~~~(BitVec.ofInt IntKind.i64.bits 28)).toNat=2^64-29:=by decide
  rw [a,b,andNot28 n (by omega)]
  generalize hk:n-4* (n / 4 % 8)=k
  have:k<2^30:=by omega
  exact wrap_id (by omega) (by omega) rfl
theorem ishr2(k:Nat):ishr .i64 ((4*k:Nat):Int) 2=k:=by
  unfold ishr
  show Int.fdiv ((4*k:Nat):Int) 4=k
  rw [Int.fdiv_eq_ediv_of_nonneg _ (by decide)]
  omega
set_option maxHeartbeats 8000000
def mouseF(held b n1 n2 c:Nat):Option Ev :=
  if n1<1∨4096<n1∨n2<1∨4096<n2 then none
  else if c=109∧b≤3 then some {kind:=3,code:=3,mods:=held,x:=(n1:Int)-1,y:=(n2:Int)-1}
  else if c=77∧b≤2 then some {kind:=3,code:=b,mods:=held,x:=(n1:Int)-1,y:=(n2:Int)-1}
  else if c=77∧32≤b∧b≤35 then some {kind:=3,code:=6,mods:=held,x:=(n1:Int)-1,y:=(n2:Int)-1}
  else if c=77∧b=64 then some {kind:=3,code:=4,mods:=held,x:=(n1:Int)-1,y:=(n2:Int)-1}
  else if c=77∧b=65 then some {kind:=3,code:=5,mods:=held,x:=(n1:Int)-1,y:=(n2:Int)-1}
  else none
theorem mouse_eq {rest:Bytes}{n0 n1 n2 c:Nat}(h:Keys.numbers rest=some [n0,n1,n2]):Keys.mouse (60::rest) c=mouseF (n0 / 4 % 8) (n0-4* (n0 / 4 % 8)) n1 n2 c:=by
  simp only [Keys.mouse,h,mouseF]
theorem mouse3_does {rest:Bytes}{n0 n1 n2 c:Nat}(h:Keys.numbers rest=some [n0,n1,n2])(hl:rest.length<100)(h0:n0<2^30)(h1:n1<2^30)(h2:n2<2^30)(H:AHeap):FDoes Tryz.prog cnd 147 [.str (60::rest),.int .u8 c] H (evB (Keys.mouse (60::rest) c)) H:=by
  refine FDoes.ofVC (mouse3_vc (60::rest) c n0 n1 n2 (fun v _=>v=evB (Keys.mouse (60::rest) c)) ?_) rfl rfl H
  delta zv54_1 zv54_9 zv38_6 zv54_8 zv54_28 zv54_19 zv54_12 zv54_2 zv54_24 zv54_26 zv54_22 zv54_14 zv54_5 zv54_11 zv54_29 zv54_25 zv54_21 zv54_13 zv54_4 zv54_10 zv54_27 zv54_20 zv54_15 zv54_6 zv54_23 zv54_17 zv54_7 zv54_3 zv54_18
  rw [mouse_eq h,iand28 n0 h0,iandNot28 n0 h0,ishr2]
  have hh:n0 / 4 % 8<8:=by omega
  have hb:n0-4* (n0 / 4 % 8)<2^30:=by omega
  generalize n0 / 4 % 8=held at hh hb ⊢
  generalize n0-4*held=b at hb ⊢
  refine⟨rfl,rfl,fun _=>⟨h,hl,?_⟩,fun e=>by cases e⟩
  repeat' (first | exact True.intro | apply And.intro | intro _)
  all_goals first
    | omega
    | decide
    | exact(show(0:Int)≤2 by decide)
    | (unfold mouseF;(repeat' split)<;>first | rfl | (exfalso;omega))
end Go.Proofs.YtddnafghiejcoaaGreatDoor
namespace Go.Keys
theorem numbers_lt {w:Bytes}{l:List Nat}(h:numbers w=some l): ∀ n∈l,n<1000000000:=by
  unfold numbers at h
  split at h
  · simp only [Option.some.injEq]at h;subst h;intro n hn;cases hn
  · exact numbersOf_lt h
theorem mouse_no {w:Bytes}{c:Nat}(h:w.head? ≠some 60):mouse w c=none:=by
  unfold mouse
  split
  · simp at h
  · rfl
theorem mouse_none {r:Bytes}{c:Nat}(h:numbers r=none):mouse (60::r) c=none:=by simp only [mouse,h]
theorem mouse_len {r:Bytes}{c:Nat}{l:List Nat}(h:numbers r=some l)(hl:l.length≠3):mouse (60::r) c=none:=by
  simp only [mouse,h]
  split
  · rename_i heq;simp only [Option.some.injEq]at heq;subst heq;simp at hl
  · rfl
end Go.Keys
namespace Go.Proofs.YtddnafghiejcoaaGreatDoor
open Go.Lift Go.Keys
set_option maxRecDepth 1000000
theorem mouse_does (w:Bytes) (c:Nat) (hw:w.length<100) (H:AHeap):FDoes Tryz.prog cnd 147 [.str w,.int .u8 c] H (evB (Keys.mouse w c)) H:=by
  by_cases h60:w.head? =some 60
  · cases w with
    | nil=>cases h60
    | cons b r =>
      simp only [List.head?_cons,Option.some.injEq]at h60
      subst h60
      have hr:r.length<100:=by simp only [List.length_cons]at hw;omega
      cases hn:Keys.numbers r with
      | none =>
        rw [mouse_none hn]
        exact FDoes.ofVC (mouseN_vc (60::r) c (fun v _=>v=evB none) ⟨rfl,rfl,fun _=>⟨hn,hr,rfl⟩,fun e=>by cases e⟩) rfl rfl H
      | some l =>
        match l,hn with
        | [],hn =>
          rw [mouse_len hn (by simp)]
          exact FDoes.ofVC (mouse0_vc (60::r) c (fun v _=>v=evB none) ⟨rfl,rfl,fun _=>⟨hn,hr,rfl⟩,fun e=>by cases e⟩) rfl rfl H
        | [a,b,d],hn =>
          have hlt:=numbers_lt hn
          exact mouse3_does hn hr (by have:=hlt a (by simp);omega) (by have:=hlt b (by simp);omega) (by have:=hlt d (by simp);omega) H
        | [a],hn =>
          rw [mouse_len hn (by simp)]
          exact FDoes.ofVC (mouseG_vc (60::r) c [a] (fun v _=>v=evB none) ⟨rfl,rfl,fun _=>⟨hn,by simp,hr,(fun h=>by simp only [List.length_cons,List.length_nil]at h;omega),fun _=>rfl⟩,fun e=>by cases e⟩) rfl rfl H
        | [a,b],hn =>
          rw [mouse_len hn (by simp)]
          exact FDoes.ofVC (mouseG_vc (60::r) c [a,b] (fun v _=>v=evB none) ⟨rfl,rfl,fun _=>⟨hn,by simp,hr,(fun h=>by simp only [List.length_cons,List.length_nil]at h;omega),fun _=>rfl⟩,fun e=>by cases e⟩) rfl rfl H
        | a::b::d::e::t,hn =>
          rw [mouse_len hn (by simp)]
          exact FDoes.ofVC (mouseG_vc (60::r) c (a::b::d::e::t) (fun v _=>v=evB none) ⟨rfl,rfl,fun _=>⟨hn,by simp,hr,(fun h=>by simp only [List.length_cons]at h;omega),fun _=>rfl⟩,fun e=>by cases e⟩) rfl rfl H
  · rw [mouse_no h60]
    cases hn:Keys.numbers w with
    | none=>exact FDoes.ofVC (mouseCN_vc w c (fun v _=>v=evB none) ⟨rfl,h60,hn,hw,rfl⟩) rfl rfl H
    | some l =>
      cases l with
      | nil=>exact FDoes.ofVC (mouseC0_vc w c (fun v _=>v=evB none) ⟨rfl,h60,hn,hw,rfl⟩) rfl rfl H
      | cons a t=>exact FDoes.ofVC (mouseCG_vc w c (a::t) (fun v _=>v=evB none) ⟨rfl,h60,hn,by simp,hw,rfl⟩) rfl rfl H
noncomputable def mouseS:List AVal→AHeap→Option Alts:=pureS fun a=>match a with | [.str w,.int .u8 c]=>some (evB (Keys.mouse w c.toNat),[w.length<100,0≤c∧c≤255]) | _=>none
theorem mouseS_ok: ∀ args h a,mouseS args h=some a→a.Ok Tryz.prog cnd 147 args h:=by
  refine pureS_ok ?_
  intro args v ps e hp H
  split at e<;>first | (cases e;done) | skip
  rename_i w c
  simp only [Option.some.injEq,Prod.mk.injEq]at e
  obtain⟨rfl,rfl⟩:=e
  have h0:=hp.tail.head.1
  have:=mouse_does w c.toNat hp.head H
  rwa [Int.toNat_of_nonneg h0]at this
noncomputable def codedS:List AVal→AHeap→Option Alts:=pureS fun a=>match a with | [.int .i64 n,.int .u8 m]=>some (evB (Keys.coded n.toNat m),[0≤n]) | _=>none
theorem codedS_ok: ∀ args h a,codedS args h=some a→a.Ok Tryz.prog cnd 149 args h:=by
  refine pureS_ok ?_
  intro args v ps e hp H
  split at e<;>first | (cases e;done) | skip
  rename_i n m
  simp only [Option.some.injEq,Prod.mk.injEq]at e
  obtain⟨rfl,rfl⟩:=e
  have h0:0≤n:=hp _ List.mem_cons_self
  have:=coded_does n.toNat m H
  rwa [Int.toNat_of_nonneg h0]at this
noncomputable def specsT(num:List AVal→AHeap→Option Alts):Specs:=((specs1.add 147 mouseS).add 149 codedS).add 148 num
noncomputable def specsTN:Specs:=specsT numN
noncomputable def specsT0:Specs:=specsT num0
noncomputable def specsT1(a:Nat):Specs:=specsT (num1 a)
noncomputable def specsT2(a b:Nat):Specs:=specsT (num2 a b)
theorem specsTN_ok:SpecsOk Tryz.prog cnd specsTN:=((specs1_ok.add mouseS_ok).add codedS_ok).add numN_ok
theorem specsT0_ok:SpecsOk Tryz.prog cnd specsT0:=((specs1_ok.add mouseS_ok).add codedS_ok).add num0_ok
theorem specsT1_ok(a:Nat):SpecsOk Tryz.prog cnd (specsT1 a):=((specs1_ok.add mouseS_ok).add codedS_ok).add (num1_ok a)
theorem specsT2_ok(a b:Nat):SpecsOk Tryz.prog cnd (specsT2 a b):=((specs1_ok.add mouseS_ok).add codedS_ok).add (num2_ok a b)
noncomputable def specsTG(l:List Nat):Specs:=specsT (numG l)
theorem specsTG_ok(l:List Nat):SpecsOk Tryz.prog cnd (specsTG l):=((specs1_ok.add mouseS_ok).add codedS_ok).add (numG_ok l)
abbrev zv60_0(w:Bytes)(c:Int):AVal:=AVal.agg [.int .i8 6,.int .i32 0,.int .u8 0,.int .i64 0,.int .i64 0,.str (w++ [UInt8.ofNat (Int.toNat c)])]
abbrev zv60_1(w:Bytes)(c:Int):AVal:=AVal.agg [.int .i8 (Ev.kind (Option.getD (mouse w (Int.toNat c)) ev0)),.int .i32 (Ev.code (Option.getD (mouse w (Int.toNat c)) ev0)),.int .u8 (Ev.mods (Option.getD (mouse w (Int.toNat c)) ev0)),.int .i64 (Ev.x (Option.getD (mouse w (Int.toNat c)) ev0)),.int .i64 (Ev.y (Option.getD (mouse w (Int.toNat c)) ev0)),.str (Option.getD (mouse w (Int.toNat c)) ev0).6]
abbrev zv60_2(w:Bytes)(c:Int):ABlk:=(ABlk.made ([(zv60_1 w c)]) 6 true (some (42,6)))
theorem toldN_vc(w:Bytes)(c:Int)(K0:AVal→AHeap→Prop)(vc:(c=82→Nat.le (Nat.succ (List.length w+List.length [UInt8.ofNat (Int.toNat c)])) (2^62)∧K0 (.tuple [(zv60_0 w c),.bool true]) (AHeap.rowsT 14 [(0,(ABlk.made ([(zv60_0 w c)]) 6 true (some (42,6)))),(2,ABlk.made [zv38_6] 6 true (some (42,6))),(8,ABlk.made [.int .u8 c] 1 true)]))∧(¬c=82→(c=99→Nat.le (Nat.succ (List.length w+List.length [UInt8.ofNat (Int.toNat c)])) (2^62)∧K0 (.tuple [(zv60_0 w c),.bool true]) (AHeap.rowsT 16 [(0,(ABlk.made ([(zv60_0 w c)]) 6 true (some (42,6)))),(2,ABlk.made [zv38_6] 6 true (some (42,6))),(10,ABlk.made [.int .u8 c] 1 true)]))∧(¬c=99→(c=110→Nat.le (Nat.succ (List.length w+List.length [UInt8.ofNat (Int.toNat c)])) (2^62)∧K0 (.tuple [(zv60_0 w c),.bool true]) (AHeap.rowsT 18 [(0,(ABlk.made ([(zv60_0 w c)]) 6 true (some (42,6)))),(2,ABlk.made [zv38_6] 6 true (some (42,6))),(12,ABlk.made [.int .u8 c] 1 true)]))∧(¬c=110→(c=77→List.length w<100∧(0≤c∧c≤255)∧(Option.isSome (mouse w (Int.toNat c))=true→K0 (.tuple [(zv60_1 w c),.bool true]) (AHeap.rowsT 19 [(0,(zv60_2 w c)),(2,ABlk.made [zv38_6] 6 true (some (42,6)))]))∧(Option.isSome (mouse w (Int.toNat c))=false→K0 (.tuple [(zv60_1 w c),.bool false]) (AHeap.rowsT 19 [(0,(zv60_2 w c)),(2,ABlk.made [zv38_6] 6 true (some (42,6)))])))∧(¬c=77→(c=109→List.length w<100∧(0≤c∧c≤255)∧(Option.isSome (mouse w (Int.toNat c))=true→K0 (.tuple [(zv60_1 w c),.bool true]) (AHeap.rowsT 21 [(0,(zv60_2 w c)),(2,ABlk.made [zv38_6] 6 true (some (42,6)))]))∧(Option.isSome (mouse w (Int.toNat c))=false→K0 (.tuple [(zv60_1 w c),.bool false]) (AHeap.rowsT 21 [(0,(zv60_2 w c)),(2,ABlk.made [zv38_6] 6 true (some (42,6)))])))∧(¬c=109→numbers w=none∧List.length w<100∧K0 (zv54_8) (AHeap.rowsT 26 [(0,zv54_9),(2,ABlk.made [zv38_6] 6 true (some (42,6)))]))))))) :
    ∃ v h1,FDoes Tryz.prog cnd 130 [.str w,.int .u8 c] (⟨0,.nil⟩) v h1∧K0 v h1 :=
  tcall_does env_ok mixed specsTN_ok (hs:= .br 3000 (hg 6004 .nil) (.br 4000 (hg 6004 .nil) (.br 5000 (hg 6004 .nil) (.br 7000 (.br 9004 .nil .nil) (.br 8000 (.br 9004 .nil .nil) .nil))))) (by kernel_rfl) vc
abbrev zv61_0:AVal:=AVal.agg [.int .i8 2,.int .i32 2,.int .u8 1,.int .i64 0,.int .i64 0,.str []]
abbrev zv61_1:AVal:=AVal.agg [.int .i8 5,.int .i32 0,.int .u8 0,.int .i64 0,.int .i64 0,.str []]
abbrev zv61_2:AVal:=AVal.agg [.int .i8 5,.int .i32 1,.int .u8 0,.int .i64 0,.int .i64 0,.str []]
theorem told0_vc(w:Bytes)(c:Int)(K0:AVal→AHeap→Prop)(vc:(c=82→Nat.le (Nat.succ (List.length w+List.length [UInt8.ofNat (Int.toNat c)])) (2^62)∧K0 (.tuple [(zv60_0 w c),.bool true]) (AHeap.rowsT 14 [(0,(ABlk.made ([(zv60_0 w c)]) 6 true (some (42,6)))),(2,ABlk.made [zv38_6] 6 true (some (42,6))),(8,ABlk.made [.int .u8 c] 1 true)]))∧(¬c=82→(c=99→Nat.le (Nat.succ (List.length w+List.length [UInt8.ofNat (Int.toNat c)])) (2^62)∧K0 (.tuple [(zv60_0 w c),.bool true]) (AHeap.rowsT 16 [(0,(ABlk.made ([(zv60_0 w c)]) 6 true (some (42,6)))),(2,ABlk.made [zv38_6] 6 true (some (42,6))),(10,ABlk.made [.int .u8 c] 1 true)]))∧(¬c=99→(c=110→Nat.le (Nat.succ (List.length w+List.length [UInt8.ofNat (Int.toNat c)])) (2^62)∧K0 (.tuple [(zv60_0 w c),.bool true]) (AHeap.rowsT 18 [(0,(ABlk.made ([(zv60_0 w c)]) 6 true (some (42,6)))),(2,ABlk.made [zv38_6] 6 true (some (42,6))),(12,ABlk.made [.int .u8 c] 1 true)]))∧(¬c=110→(c=77→List.length w<100∧(0≤c∧c≤255)∧(Option.isSome (mouse w (Int.toNat c))=true→K0 (.tuple [(zv60_1 w c),.bool true]) (AHeap.rowsT 19 [(0,(zv60_2 w c)),(2,ABlk.made [zv38_6] 6 true (some (42,6)))]))∧(Option.isSome (mouse w (Int.toNat c))=false→K0 (.tuple [(zv60_1 w c),.bool false]) (AHeap.rowsT 19 [(0,(zv60_2 w c)),(2,ABlk.made [zv38_6] 6 true (some (42,6)))])))∧(¬c=77→(c=109→List.length w<100∧(0≤c∧c≤255)∧(Option.isSome (mouse w (Int.toNat c))=true→K0 (.tuple [(zv60_1 w c),.bool true]) (AHeap.rowsT 21 [(0,(zv60_2 w c)),(2,ABlk.made [zv38_6] 6 true (some (42,6)))]))∧(Option.isSome (mouse w (Int.toNat c))=false→K0 (.tuple [(zv60_1 w c),.bool false]) (AHeap.rowsT 21 [(0,(zv60_2 w c)),(2,ABlk.made [zv38_6] 6 true (some (42,6)))])))∧(¬c=109→numbers w=some []∧List.length w<100∧(c=90→K0 (.tuple [zv61_0,.bool true]) (AHeap.rowsT 32 [(0,(ABlk.made ([zv61_0]) 6 true (some (42,6)))),(2,ABlk.made [zv38_6] 6 true (some (42,6)))]))∧(¬c=90→(c=73→K0 (.tuple [zv61_2,.bool true]) (AHeap.rowsT 34 [(0,(ABlk.made ([zv61_2]) 6 true (some (42,6)))),(2,ABlk.made [zv38_6] 6 true (some (42,6)))]))∧(¬c=73→(c=79→K0 (.tuple [zv61_1,.bool true]) (AHeap.rowsT 36 [(0,(ABlk.made ([zv61_1]) 6 true (some (42,6)))),(2,ABlk.made [zv38_6] 6 true (some (42,6)))]))∧(¬c=79→(0<arrowI c→K0 (.tuple [(zv34_3 c),.bool true]) (AHeap.rowsT 42 [(0,(ABlk.made ([(zv34_3 c)]) 6 true (some (42,6)))),(2,ABlk.made [zv38_6] 6 true (some (42,6)))]))∧(¬0<arrowI c→K0 (zv54_8) (AHeap.rowsT 41 [(0,zv54_9),(2,ABlk.made [zv38_6] 6 true (some (42,6)))]))))))))))) :
    ∃ v h1,FDoes Tryz.prog cnd 130 [.str w,.int .u8 c] (⟨0,.nil⟩) v h1∧K0 v h1 :=
  tcall_does env_ok mixed specsT0_ok (hs:= .br 3000 (hg 6004 .nil) (.br 4000 (hg 6004 .nil) (.br 5000 (hg 6004 .nil) (.br 7000 (.br 9004 .nil .nil) (.br 8000 (.br 9004 .nil .nil) (.br 15000 .nil (.br 17000 .nil (.br 19000 .nil (.br 22001 .nil .nil))))))))) (by kernel_rfl) vc
abbrev zv62_0(n0:Nat):ABlk:=(ABlk.made ([.int .i64 (n0:Int)]) 1 false (some (3,0)))
abbrev zv62_1:HT:=(.br 33001 (.br 33007 .nil (.br 35001 (.br 36006 .nil .nil) .nil)) (.br 35001 (.br 36006 .nil .nil) .nil))
abbrev zv62_2(n0:Nat):AVal:=AVal.agg [.int .i8 2,.int .i32 (tildeI (n0:Int)),.int .u8 0,.int .i64 0,.int .i64 0,.str []]
abbrev zv62_3(n0:Nat):AVal:=AVal.agg [.int .i8 (Ev.kind (Option.getD (coded n0 0) ev0)),.int .i32 (Ev.code (Option.getD (coded n0 0) ev0)),.int .u8 (Ev.mods (Option.getD (coded n0 0) ev0)),.int .i64 (Ev.x (Option.getD (coded n0 0) ev0)),.int .i64 (Ev.y (Option.getD (coded n0 0) ev0)),.str (Option.getD (coded n0 (0)) ev0).6]
abbrev zv62_4(n0:Nat):AVal:=AVal.tuple [(zv62_3 n0),.bool true]
abbrev zv62_5(n0:Nat):AVal:=AVal.tuple [(zv62_3 n0),.bool false]
abbrev zv62_6(n0:Nat):ABlk:=(ABlk.made ([(zv62_3 n0)]) 6 true (some (42,6)))
abbrev zv62_7(n0:Nat):AHeap:=(AHeap.rowsT 79 [(0,(ABlk.made ([(zv62_2 n0)]) 6 true (some (42,6)))),(2,ABlk.made [zv38_6] 6 true (some (42,6))),(21,(zv62_0 n0))])
abbrev zv62_8(n0:Nat)(K0:AVal→AHeap→Prop):Prop:=(0<tildeI (n0:Int)→K0 (.tuple [(zv62_2 n0),.bool true]) (zv62_7 n0))
abbrev zv62_9(n0:Nat):AHeap:=(AHeap.rowsT 77 [(0,zv54_9),(2,ABlk.made [zv38_6] 6 true (some (42,6))),(21,(zv62_0 n0))])
abbrev zv62_10(n0:Nat):AHeap:=(AHeap.rowsT 83 [(0,(zv62_6 n0)),(2,ABlk.made [zv38_6] 6 true (some (42,6))),(21,(zv62_0 n0))])
abbrev zv62_11(n0:Nat)(K0:AVal→AHeap→Prop):Prop:=(Option.isSome (coded n0 0)=true→K0 ((zv62_4 n0)) (zv62_10 n0))
abbrev zv62_12(n0:Nat)(K0:AVal→AHeap→Prop):Prop:=(Option.isSome (coded n0 0)=false→K0 ((zv62_5 n0)) (zv62_10 n0))
abbrev zv62_13(c:Int)(n0:Nat)(K0:AVal→AHeap→Prop):Prop:=(¬c=126→(c=117→0≤(n0:Int)∧(zv62_11 n0 K0)∧(zv62_12 n0 K0))∧(¬c=117→K0 (zv54_8) (zv62_9 n0)))
abbrev zv62_14(c:Int)(n0:Nat)(K0:AVal→AHeap→Prop):Prop:=(¬0<tildeI (n0:Int)→(c=117→0≤(n0:Int)∧(zv62_11 n0 K0)∧(zv62_12 n0 K0))∧(¬c=117→K0 (zv54_8) (zv62_9 n0)))
theorem told1_vc(w:Bytes)(c:Int)(n0:Nat)(K0:AVal→AHeap→Prop)(vc:(c=82→Nat.le (Nat.succ (List.length w+List.length [UInt8.ofNat (Int.toNat c)])) (2^62)∧K0 (.tuple [(zv60_0 w c),.bool true]) (AHeap.rowsT 14 [(0,(ABlk.made ([(zv60_0 w c)]) 6 true (some (42,6)))),(2,ABlk.made [zv38_6] 6 true (some (42,6))),(8,ABlk.made [.int .u8 c] 1 true)]))∧(¬c=82→(c=99→Nat.le (Nat.succ (List.length w+List.length [UInt8.ofNat (Int.toNat c)])) (2^62)∧K0 (.tuple [(zv60_0 w c),.bool true]) (AHeap.rowsT 16 [(0,(ABlk.made ([(zv60_0 w c)]) 6 true (some (42,6)))),(2,ABlk.made [zv38_6] 6 true (some (42,6))),(10,ABlk.made [.int .u8 c] 1 true)]))∧(¬c=99→(c=110→Nat.le (Nat.succ (List.length w+List.length [UInt8.ofNat (Int.toNat c)])) (2^62)∧K0 (.tuple [(zv60_0 w c),.bool true]) (AHeap.rowsT 18 [(0,(ABlk.made ([(zv60_0 w c)]) 6 true (some (42,6)))),(2,ABlk.made [zv38_6] 6 true (some (42,6))),(12,ABlk.made [.int .u8 c] 1 true)]))∧(¬c=110→(c=77→List.length w<100∧(0≤c∧c≤255)∧(Option.isSome (mouse w (Int.toNat c))=true→K0 (.tuple [(zv60_1 w c),.bool true]) (AHeap.rowsT 19 [(0,(zv60_2 w c)),(2,ABlk.made [zv38_6] 6 true (some (42,6)))]))∧(Option.isSome (mouse w (Int.toNat c))=false→K0 (.tuple [(zv60_1 w c),.bool false]) (AHeap.rowsT 19 [(0,(zv60_2 w c)),(2,ABlk.made [zv38_6] 6 true (some (42,6)))])))∧(¬c=77→(c=109→List.length w<100∧(0≤c∧c≤255)∧(Option.isSome (mouse w (Int.toNat c))=true→K0 (.tuple [(zv60_1 w c),.bool true]) (AHeap.rowsT 21 [(0,(zv60_2 w c)),(2,ABlk.made [zv38_6] 6 true (some (42,6)))]))∧(Option.isSome (mouse w (Int.toNat c))=false→K0 (.tuple [(zv60_1 w c),.bool false]) (AHeap.rowsT 21 [(0,(zv60_2 w c)),(2,ABlk.made [zv38_6] 6 true (some (42,6)))])))∧(¬c=109→numbers w=some [n0]∧List.length w<100∧(0<arrowI c→((n0:Int)=1→(c=126→(zv62_8 n0 K0)∧(zv62_14 c n0 K0))∧(zv62_13 c n0 K0))∧(¬(n0:Int)=1→(c=126→(zv62_8 n0 K0)∧(zv62_14 c n0 K0))∧(zv62_13 c n0 K0)))∧(¬0<arrowI c→(c=126→(zv62_8 n0 K0)∧(zv62_14 c n0 K0))∧(zv62_13 c n0 K0)))))))) :
    ∃ v h1,FDoes Tryz.prog cnd 130 [.str w,.int .u8 c] (⟨0,.nil⟩) v h1∧K0 v h1 :=
  tcall_does env_ok mixed (specsT1_ok n0) (hs:= .br 3000 (hg 6004 .nil) (.br 4000 (hg 6004 .nil) (.br 5000 (hg 6004 .nil) (.br 7000 (.br 9004 .nil .nil) (.br 8000 (.br 9004 .nil .nil) (.br 31002 (.br 31007 zv62_1 zv62_1) zv62_1)))))) (by kernel_rfl) vc
abbrev zv63_0(c:Int)(n1:Nat):AVal:=AVal.agg [.int .i8 2,.int .i32 (arrowI c),.int .u8 ((n1:Int)-1),.int .i64 0,.int .i64 0,.str []]
abbrev zv63_1(n0:Nat)(n1:Nat):ABlk:=⟨[.int .i64 (n0:Int),.int .i64 (n1:Int)],1,false,false,1,0,1,some (3,0)⟩
abbrev zv63_2(n0:Nat)(n1:Nat):AVal:=AVal.agg [.int .i8 2,.int .i32 (tildeI (n0:Int)),.int .u8 ((n1:Int)-1),.int .i64 0,.int .i64 0,.str []]
abbrev zv63_3(n0:Nat)(n1:Nat):AVal:=AVal.agg [.int .i8 (Ev.kind (Option.getD (coded n0 ((n1:Int)-1)) ev0)),.int .i32 (Ev.code (Option.getD (coded n0 ((n1:Int)-1)) ev0)),.int .u8 (Ev.mods (Option.getD (coded n0 ((n1:Int)-1)) ev0)),.int .i64 (Ev.x (Option.getD (coded n0 ((n1:Int)-1)) ev0)),.int .i64 (Ev.y (Option.getD (coded n0 ((n1:Int)-1)) ev0)),.str (Option.getD (coded n0 ((n1:Int)-1)) ev0).6]
abbrev zv63_4(n0:Nat)(n1:Nat):ABlk:=(ABlk.made ([(zv63_3 n0 n1)]) 6 true (some (42,6)))
abbrev zv63_5(n0:Nat)(n1:Nat):AHeap:=(AHeap.rowsT 83 [(0,(ABlk.made ([(zv63_2 n0 n1)]) 6 true (some (42,6)))),(2,ABlk.made [zv38_6] 6 true (some (42,6))),(21,(zv63_1 n0 n1))])
abbrev zv63_6(n0:Nat)(n1:Nat):AHeap:=(AHeap.rowsT 81 [(0,zv54_9),(2,ABlk.made [zv38_6] 6 true (some (42,6))),(21,(zv63_1 n0 n1))])
abbrev zv63_7(n0:Nat)(n1:Nat):AHeap:=(AHeap.rowsT 87 [(0,(zv63_4 n0 n1)),(2,ABlk.made [zv38_6] 6 true (some (42,6))),(21,(zv63_1 n0 n1))])
abbrev zv63_8(n0:Nat)(n1:Nat)(K0:AVal→AHeap→Prop):Prop:=(Option.isSome (coded n0 ((n1:Int)-1))=true→K0 (.tuple [(zv63_3 n0 n1),.bool true]) (zv63_7 n0 n1))
abbrev zv63_9(n0:Nat)(n1:Nat)(K0:AVal→AHeap→Prop):Prop:=(Option.isSome (coded n0 ((n1:Int)-1))=false→K0 (.tuple [(zv63_3 n0 n1),.bool false]) (zv63_7 n0 n1))
abbrev zv63_10(c:Int)(n0:Nat)(n1:Nat)(K0:AVal→AHeap→Prop):Prop:=(c=126→(0<tildeI (n0:Int)→K0 (.tuple [(zv63_2 n0 n1),.bool true]) (zv63_5 n0 n1))∧(¬0<tildeI (n0:Int)→(c=117→0≤(n0:Int)∧(zv63_8 n0 n1 K0)∧(zv63_9 n0 n1 K0))∧(¬c=117→K0 (zv54_8) (zv63_6 n0 n1))))
theorem told2_vc(w:Bytes)(c:Int)(n0 n1:Nat)(K0:AVal→AHeap→Prop)(vc:(c=82→Nat.le (Nat.succ (List.length w+List.length [UInt8.ofNat (Int.toNat c)])) (2^62)∧K0 (.tuple [(zv60_0 w c),.bool true]) (AHeap.rowsT 14 [(0,(ABlk.made ([(zv60_0 w c)]) 6 true (some (42,6)))),(2,ABlk.made [zv38_6] 6 true (some (42,6))),(8,ABlk.made [.int .u8 c] 1 true)]))∧(¬c=82→(c=99→Nat.le (Nat.succ (List.length w+List.length [UInt8.ofNat (Int.toNat c)])) (2^62)∧K0 (.tuple [(zv60_0 w c),.bool true]) (AHeap.rowsT 16 [(0,(ABlk.made ([(zv60_0 w c)]) 6 true (some (42,6)))),(2,ABlk.made [zv38_6] 6 true (some (42,6))),(10,ABlk.made [.int .u8 c] 1 true)]))∧(¬c=99→(c=110→Nat.le (Nat.succ (List.length w+List.length [UInt8.ofNat (Int.toNat c)])) (2^62)∧K0 (.tuple [(zv60_0 w c),.bool true]) (AHeap.rowsT 18 [(0,(ABlk.made ([(zv60_0 w c)]) 6 true (some (42,6)))),(2,ABlk.made [zv38_6] 6 true (some (42,6))),(12,ABlk.made [.int .u8 c] 1 true)]))∧(¬c=110→(c=77→List.length w<100∧(0≤c∧c≤255)∧(Option.isSome (mouse w (Int.toNat c))=true→K0 (.tuple [(zv60_1 w c),.bool true]) (AHeap.rowsT 19 [(0,(zv60_2 w c)),(2,ABlk.made [zv38_6] 6 true (some (42,6)))]))∧(Option.isSome (mouse w (Int.toNat c))=false→K0 (.tuple [(zv60_1 w c),.bool false]) (AHeap.rowsT 19 [(0,(zv60_2 w c)),(2,ABlk.made [zv38_6] 6 true (some (42,6)))])))∧(¬c=77→(c=109→List.length w<100∧(0≤c∧c≤255)∧(Option.isSome (mouse w (Int.toNat c))=true→K0 (.tuple [(zv60_1 w c),.bool true]) (AHeap.rowsT 21 [(0,(zv60_2 w c)),(2,ABlk.made [zv38_6] 6 true (some (42,6)))]))∧(Option.isSome (mouse w (Int.toNat c))=false→K0 (.tuple [(zv60_1 w c),.bool false]) (AHeap.rowsT 21 [(0,(zv60_2 w c)),(2,ABlk.made [zv38_6] 6 true (some (42,6)))])))∧(¬c=109→numbers w=some [n0,n1]∧List.length w<100∧((n1:Int)<1→K0 (zv54_8) (AHeap.rowsT 49 [(0,zv54_9),(2,ABlk.made [zv38_6] 6 true (some (42,6))),(21,(zv63_1 n0 n1))]))∧(¬(n1:Int)<1→(8<(n1:Int)→K0 (zv54_8) (AHeap.rowsT 49 [(0,zv54_9),(2,ABlk.made [zv38_6] 6 true (some (42,6))),(21,(zv63_1 n0 n1))]))∧(¬8<(n1:Int)→(-9223372036854775808≤(n1:Int)-1∧(n1:Int)-1≤9223372036854775807)∧(0≤(n1:Int)-1∧(n1:Int)-1≤255)∧(0<arrowI c→((n0:Int)=1→K0 (.tuple [(zv63_0 c n1),.bool true]) (AHeap.rowsT 71 [(0,(ABlk.made ([(zv63_0 c n1)]) 6 true (some (42,6)))),(2,ABlk.made [zv38_6] 6 true (some (42,6))),(21,(zv63_1 n0 n1))]))∧(¬(n0:Int)=1→(zv63_10 c n0 n1 K0)∧(¬c=126→(c=117→0≤(n0:Int)∧(zv63_8 n0 n1 K0)∧(zv63_9 n0 n1 K0))∧(¬c=117→K0 (zv54_8) (zv63_6 n0 n1)))))∧(¬0<arrowI c→(zv63_10 c n0 n1 K0)∧(¬c=126→(c=117→0≤(n0:Int)∧(zv63_8 n0 n1 K0)∧(zv63_9 n0 n1 K0))∧(¬c=117→K0 (zv54_8) (zv63_6 n0 n1)))))))))))) :
    ∃ v h1,FDoes Tryz.prog cnd 130 [.str w,.int .u8 c] (⟨0,.nil⟩) v h1∧K0 v h1 :=
  tcall_does env_ok mixed (specsT2_ok n0 n1) (hs:= .br 3000 (hg 6004 .nil) (.br 4000 (hg 6004 .nil) (.br 5000 (hg 6004 .nil) (.br 7000 (.br 9004 .nil .nil) (.br 8000 (.br 9004 .nil .nil) (.br 28005 .nil (.br 28009 .nil (hg 30001 (hg 30002 (.br 31002 (.br 31007 .nil zv62_1) zv62_1)))))))))) (by kernel_rfl) vc
abbrev zv64_0:HT:=(hg 36001 (hg 36002 (.br 36006 .nil .nil)))
abbrev zv64_1(l:List Nat):AVal:=AVal.agg [.int .i8 2,.int .i32 (tildeI (intAt (ns l) 0)),.int .u8 0,.int .i64 0,.int .i64 0,.str []]
abbrev zv64_2(c:Int)(l:List Nat):AVal:=AVal.agg [.int .i8 2,.int .i32 (arrowI c),.int .u8 (intAt (ns l) 1-1),.int .i64 0,.int .i64 0,.str []]
abbrev zv64_3(l:List Nat):AVal:=AVal.agg [.int .i8 2,.int .i32 (tildeI (intAt (ns l) 0)),.int .u8 (intAt (ns l) 1-1),.int .i64 0,.int .i64 0,.str []]
abbrev zv64_4(l:List Nat):AVal:=AVal.agg [.int .i8 (Ev.kind (Option.getD (coded (Int.toNat (intAt (ns l) 0)) 0) ev0)),.int .i32 (Ev.code (Option.getD (coded (Int.toNat (intAt (ns l) 0)) 0) ev0)),.int .u8 (Ev.mods (Option.getD (coded (Int.toNat (intAt (ns l) 0)) 0) ev0)),.int .i64 (Ev.x (Option.getD (coded (Int.toNat (intAt (ns l) 0)) 0) ev0)),.int .i64 (Ev.y (Option.getD (coded (Int.toNat (intAt (ns l) 0)) 0) ev0)),.str (Option.getD (coded (Int.toNat (intAt (ns l) 0)) (0)) ev0).6]
abbrev zv64_5(l:List Nat):AVal:=AVal.agg [.int .i8 (Ev.kind (Option.getD (coded (Int.toNat (intAt (ns l) 0)) (intAt (ns l) 1-1)) ev0)),.int .i32 (Ev.code (Option.getD (coded (Int.toNat (intAt (ns l) 0)) (intAt (ns l) 1-1)) ev0)),.int .u8 (Ev.mods (Option.getD (coded (Int.toNat (intAt (ns l) 0)) (intAt (ns l) 1-1)) ev0)),.int .i64 (Ev.x (Option.getD (coded (Int.toNat (intAt (ns l) 0)) (intAt (ns l) 1-1)) ev0)),.int .i64 (Ev.y (Option.getD (coded (Int.toNat (intAt (ns l) 0)) (intAt (ns l) 1-1)) ev0)),.str (Option.getD (coded (Int.toNat (intAt (ns l) 0)) (intAt (ns l) 1-1)) ev0).6]
abbrev zv64_6(l:List Nat):AVal:=AVal.tuple [(zv64_4 l),.bool true]
abbrev zv64_7(l:List Nat):AVal:=AVal.tuple [(zv64_5 l),.bool true]
abbrev zv64_8(l:List Nat):AVal:=AVal.tuple [(zv64_4 l),.bool false]
abbrev zv64_9(l:List Nat):AVal:=AVal.tuple [(zv64_5 l),.bool false]
abbrev zv64_10(l:List Nat):ABlk:=(ABlk.made ([(zv64_4 l)]) 6 true (some (42,6)))
abbrev zv64_11(l:List Nat):ABlk:=(ABlk.made ([(zv64_5 l)]) 6 true (some (42,6)))
abbrev zv64_12:HT:=(.br 33007 (hg 34001 (hg 34002 .nil)) (.br 35001 zv64_0 .nil))
abbrev zv64_13(l:List Nat):AHeap:=(AHeap.rowsT 79 [(0,(ABlk.made ([(zv64_1 l)]) 6 true (some (42,6)))),(2,ABlk.made [zv38_6] 6 true (some (42,6))),(21,(zv56_0 l))])
abbrev zv64_14(l:List Nat):AHeap:=(AHeap.rowsT 83 [(0,(ABlk.made ([(zv64_3 l)]) 6 true (some (42,6)))),(2,ABlk.made [zv38_6] 6 true (some (42,6))),(21,(zv56_0 l))])
abbrev zv64_15:HT:=(.br 33001 (hg 33004 (hg 33005 zv64_12)) (.br 35001 zv64_0 .nil))
abbrev zv64_16(l:List Nat):AHeap:=(AHeap.rowsT 49 [(0,zv54_9),(2,ABlk.made [zv38_6] 6 true (some (42,6))),(21,(zv56_0 l))])
abbrev zv64_17(l:List Nat):AHeap:=(AHeap.rowsT 77 [(0,zv54_9),(2,ABlk.made [zv38_6] 6 true (some (42,6))),(21,(zv56_0 l))])
abbrev zv64_18(l:List Nat):AHeap:=(AHeap.rowsT 81 [(0,zv54_9),(2,ABlk.made [zv38_6] 6 true (some (42,6))),(21,(zv56_0 l))])
abbrev zv64_19(l:List Nat):AHeap:=(AHeap.rowsT 83 [(0,(zv64_10 l)),(2,ABlk.made [zv38_6] 6 true (some (42,6))),(21,(zv56_0 l))])
abbrev zv64_20(l:List Nat):AHeap:=(AHeap.rowsT 87 [(0,(zv64_11 l)),(2,ABlk.made [zv38_6] 6 true (some (42,6))),(21,(zv56_0 l))])
abbrev zv64_21(l:List Nat)(K0:AVal→AHeap→Prop):Prop:=(0<tildeI (intAt (ns l) 0)→((0:Int)≤0∧0<(↑(List.length l):Int))∧List.length l-1=List.length l-1∧(ns l)[0]? =some (.int .i64 (intAt (ns l) 0))∧K0 (.tuple [(zv64_1 l),.bool true]) (zv64_13 l))
abbrev zv64_22(l:List Nat)(K0:AVal→AHeap→Prop):Prop:=(0<tildeI (intAt (ns l) 0)→((0:Int)≤0∧0<(↑(List.length l):Int))∧List.length l-1=List.length l-1∧(ns l)[0]? =some (.int .i64 (intAt (ns l) 0))∧K0 (.tuple [(zv64_3 l),.bool true]) (zv64_14 l))
abbrev zv64_23:HT:=(.br 31002 (hg 31005 (hg 31006 (.br 31007 (.br 31012 .nil zv64_15) zv64_15))) zv64_15)
abbrev zv64_24(c:Int)(l:List Nat)(K0:AVal→AHeap→Prop):Prop:=(c=117→((0:Int)≤0∧0<(↑(List.length l):Int))∧List.length l-1=List.length l-1∧(ns l)[0]? =some (.int .i64 (intAt (ns l) 0))∧0≤intAt (ns l) 0∧(Option.isSome (coded (Int.toNat (intAt (ns l) 0)) 0)=true→K0 ((zv64_6 l)) (zv64_19 l))∧(Option.isSome (coded (Int.toNat (intAt (ns l) 0)) 0)=false→K0 ((zv64_8 l)) (zv64_19 l)))
abbrev zv64_25(c:Int)(l:List Nat)(K0:AVal→AHeap→Prop):Prop:=(c=117→((0:Int)≤0∧0<(↑(List.length l):Int))∧List.length l-1=List.length l-1∧(ns l)[0]? =some (.int .i64 (intAt (ns l) 0))∧0≤intAt (ns l) 0∧(Option.isSome (coded (Int.toNat (intAt (ns l) 0)) (intAt (ns l) 1-1))=true→K0 ((zv64_7 l)) (zv64_20 l))∧(Option.isSome (coded (Int.toNat (intAt (ns l) 0)) (intAt (ns l) 1-1))=false→K0 ((zv64_9 l)) (zv64_20 l)))
abbrev zv64_26(c:Int)(l:List Nat)(K0:AVal→AHeap→Prop):Prop:=(¬0<tildeI (intAt (ns l) 0)→(zv64_24 c l K0)∧(¬c=117→K0 (zv54_8) (zv64_17 l)))
abbrev zv64_27(c:Int)(l:List Nat)(K0:AVal→AHeap→Prop):Prop:=(¬0<tildeI (intAt (ns l) 0)→(zv64_25 c l K0)∧(¬c=117→K0 (zv54_8) (zv64_18 l)))
theorem toldG_vc(w:Bytes)(c:Int)(l:List Nat)(K0:AVal→AHeap→Prop)(vc:(c=82→Nat.le (Nat.succ (List.length w+List.length [UInt8.ofNat (Int.toNat c)])) (2^62)∧K0 (.tuple [(zv60_0 w c),.bool true]) (AHeap.rowsT 14 [(0,(ABlk.made ([(zv60_0 w c)]) 6 true (some (42,6)))),(2,ABlk.made [zv38_6] 6 true (some (42,6))),(8,ABlk.made [.int .u8 c] 1 true)]))∧(¬c=82→(c=99→Nat.le (Nat.succ (List.length w+List.length [UInt8.ofNat (Int.toNat c)])) (2^62)∧K0 (.tuple [(zv60_0 w c),.bool true]) (AHeap.rowsT 16 [(0,(ABlk.made ([(zv60_0 w c)]) 6 true (some (42,6)))),(2,ABlk.made [zv38_6] 6 true (some (42,6))),(10,ABlk.made [.int .u8 c] 1 true)]))∧(¬c=99→(c=110→Nat.le (Nat.succ (List.length w+List.length [UInt8.ofNat (Int.toNat c)])) (2^62)∧K0 (.tuple [(zv60_0 w c),.bool true]) (AHeap.rowsT 18 [(0,(ABlk.made ([(zv60_0 w c)]) 6 true (some (42,6)))),(2,ABlk.made [zv38_6] 6 true (some (42,6))),(12,ABlk.made [.int .u8 c] 1 true)]))∧(¬c=110→(c=77→List.length w<100∧(0≤c∧c≤255)∧(Option.isSome (mouse w (Int.toNat c))=true→K0 (.tuple [(zv60_1 w c),.bool true]) (AHeap.rowsT 19 [(0,(zv60_2 w c)),(2,ABlk.made [zv38_6] 6 true (some (42,6)))]))∧(Option.isSome (mouse w (Int.toNat c))=false→K0 (.tuple [(zv60_1 w c),.bool false]) (AHeap.rowsT 19 [(0,(zv60_2 w c)),(2,ABlk.made [zv38_6] 6 true (some (42,6)))])))∧(¬c=77→(c=109→List.length w<100∧(0≤c∧c≤255)∧(Option.isSome (mouse w (Int.toNat c))=true→K0 (.tuple [(zv60_1 w c),.bool true]) (AHeap.rowsT 21 [(0,(zv60_2 w c)),(2,ABlk.made [zv38_6] 6 true (some (42,6)))]))∧(Option.isSome (mouse w (Int.toNat c))=false→K0 (.tuple [(zv60_1 w c),.bool false]) (AHeap.rowsT 21 [(0,(zv60_2 w c)),(2,ABlk.made [zv38_6] 6 true (some (42,6)))])))∧(¬c=109→numbers w=some l∧(l= []→False)∧List.length w<100∧((↑(List.length l):Int)=0→(c=90→K0 (.tuple [zv61_0,.bool true]) (AHeap.rowsT 33 [(0,(ABlk.made ([zv61_0]) 6 true (some (42,6)))),(2,ABlk.made [zv38_6] 6 true (some (42,6))),(21,(zv56_0 l))]))∧(¬c=90→(c=73→K0 (.tuple [zv61_2,.bool true]) (AHeap.rowsT 35 [(0,(ABlk.made ([zv61_2]) 6 true (some (42,6)))),(2,ABlk.made [zv38_6] 6 true (some (42,6))),(21,(zv56_0 l))]))∧(¬c=73→(c=79→K0 (.tuple [zv61_1,.bool true]) (AHeap.rowsT 37 [(0,(ABlk.made ([zv61_1]) 6 true (some (42,6)))),(2,ABlk.made [zv38_6] 6 true (some (42,6))),(21,(zv56_0 l))]))∧(¬c=79→(0<arrowI c→K0 (.tuple [(zv34_3 c),.bool true]) (AHeap.rowsT 43 [(0,(ABlk.made ([(zv34_3 c)]) 6 true (some (42,6)))),(2,ABlk.made [zv38_6] 6 true (some (42,6))),(21,(zv56_0 l))]))∧(¬0<arrowI c→K0 (zv54_8) (AHeap.rowsT 42 [(0,zv54_9),(2,ABlk.made [zv38_6] 6 true (some (42,6))),(21,(zv56_0 l))]))))))∧(¬(↑(List.length l):Int)=0→((↑(List.length l):Int)=2→((0:Int)≤1∧1<(↑(List.length l):Int))∧List.length l-1=List.length l-1∧(ns l)[1]? =some (.int .i64 (intAt (ns l) 1))∧(2<(↑(List.length l):Int)→K0 (zv54_8) (zv64_16 l))∧(¬2<(↑(List.length l):Int)→(intAt (ns l) 1<1→K0 (zv54_8) (zv64_16 l))∧(¬intAt (ns l) 1<1→(8<intAt (ns l) 1→K0 (zv54_8) (zv64_16 l))∧(¬8<intAt (ns l) 1→(-9223372036854775808≤intAt (ns l) 1-1∧intAt (ns l) 1-1≤9223372036854775807)∧(0≤intAt (ns l) 1-1∧intAt (ns l) 1-1≤255)∧(0<arrowI c→((0:Int)≤0∧0<(↑(List.length l):Int))∧List.length l-1=List.length l-1∧(ns l)[0]? =some (.int .i64 (intAt (ns l) 0))∧(intAt (ns l) 0=1→((↑(List.length l):Int)=2→K0 (.tuple [(zv64_2 c l),.bool true]) (AHeap.rowsT 71 [(0,(ABlk.made ([(zv64_2 c l)]) 6 true (some (42,6)))),(2,ABlk.made [zv38_6] 6 true (some (42,6))),(21,(zv56_0 l))]))∧(¬(↑(List.length l):Int)=2→(c=126→((0:Int)≤0∧0<(↑(List.length l):Int))∧List.length l-1=List.length l-1∧(ns l)[0]? =some (.int .i64 (intAt (ns l) 0))∧(zv64_22 l K0)∧(zv64_27 c l K0))∧(¬c=126→(zv64_25 c l K0)∧(¬c=117→K0 (zv54_8) (zv64_18 l)))))∧(¬intAt (ns l) 0=1→(c=126→((0:Int)≤0∧0<(↑(List.length l):Int))∧List.length l-1=List.length l-1∧(ns l)[0]? =some (.int .i64 (intAt (ns l) 0))∧(zv64_22 l K0)∧(zv64_27 c l K0))∧(¬c=126→(zv64_25 c l K0)∧(¬c=117→K0 (zv54_8) (zv64_18 l)))))∧(¬0<arrowI c→(c=126→((0:Int)≤0∧0<(↑(List.length l):Int))∧List.length l-1=List.length l-1∧(ns l)[0]? =some (.int .i64 (intAt (ns l) 0))∧(zv64_22 l K0)∧(zv64_27 c l K0))∧(¬c=126→(zv64_25 c l K0)∧(¬c=117→K0 (zv54_8) (zv64_18 l))))))))∧(¬(↑(List.length l):Int)=2→(2<(↑(List.length l):Int)→K0 (zv54_8) (AHeap.rowsT 45 [(0,zv54_9),(2,ABlk.made [zv38_6] 6 true (some (42,6))),(21,(zv56_0 l))]))∧(¬2<(↑(List.length l):Int)→(0<arrowI c→((0:Int)≤0∧0<(↑(List.length l):Int))∧List.length l-1=List.length l-1∧(ns l)[0]? =some (.int .i64 (intAt (ns l) 0))∧(intAt (ns l) 0=1→((↑(List.length l):Int)=2→K0 (.tuple [(zv34_3 c),.bool true]) (AHeap.rowsT 67 [(0,(ABlk.made ([(zv34_3 c)]) 6 true (some (42,6)))),(2,ABlk.made [zv38_6] 6 true (some (42,6))),(21,(zv56_0 l))]))∧(¬(↑(List.length l):Int)=2→(c=126→((0:Int)≤0∧0<(↑(List.length l):Int))∧List.length l-1=List.length l-1∧(ns l)[0]? =some (.int .i64 (intAt (ns l) 0))∧(zv64_21 l K0)∧(zv64_26 c l K0))∧(¬c=126→(zv64_24 c l K0)∧(¬c=117→K0 (zv54_8) (zv64_17 l)))))∧(¬intAt (ns l) 0=1→(c=126→((0:Int)≤0∧0<(↑(List.length l):Int))∧List.length l-1=List.length l-1∧(ns l)[0]? =some (.int .i64 (intAt (ns l) 0))∧(zv64_21 l K0)∧(zv64_26 c l K0))∧(¬c=126→(zv64_24 c l K0)∧(¬c=117→K0 (zv54_8) (zv64_17 l)))))∧(¬0<arrowI c→(c=126→((0:Int)≤0∧0<(↑(List.length l):Int))∧List.length l-1=List.length l-1∧(ns l)[0]? =some (.int .i64 (intAt (ns l) 0))∧(zv64_21 l K0)∧(zv64_26 c l K0))∧(¬c=126→(zv64_24 c l K0)∧(¬c=117→K0 (zv54_8) (zv64_17 l))))))))))))) :
    ∃ v h1,FDoes Tryz.prog cnd 130 [.str w,.int .u8 c] (⟨0,.nil⟩) v h1∧K0 v h1 :=
  tcall_does env_ok mixed (specsTG_ok l) (hs:= .br 3000 (hg 6004 .nil) (.br 4000 (hg 6004 .nil) (.br 5000 (hg 6004 .nil) (.br 7000 (.br 9004 .nil .nil) (.br 8000 (.br 9004 .nil .nil) (.br 13002 (.br 15000 .nil (.br 17000 .nil (.br 19000 .nil (.br 22001 .nil .nil)))) (.br 26002 (hg 27001 (hg 27002 (.br 28002 .nil (.br 28005 .nil (.br 28009 .nil (hg 30001 (hg 30002 zv64_23))))))) (.br 28002 .nil zv64_23)))))))) (by kernel_rfl) vc
set_option maxHeartbeats 4000000
theorem u8_eq {c:UInt8}{k:UInt8}(h:c.toNat=k.toNat):c=k:=UInt8.toNat_inj.1 h
theorem evB_of {o:Option Ev}{b:Bool}(h:o.isSome=b):AVal.tuple [evA (o.getD ev0),.bool b]=evB o:=by subst h;rfl
theorem toldN_does {w:Bytes}{c:UInt8}(h:Keys.numbers w=none)(hw:w.length<100)(H:AHeap):FDoes Tryz.prog cnd 130 [.str w,.int .u8 c.toNat] H (evB (Keys.told w c)) H:=by
  refine FDoes.ofVC (toldN_vc w c.toNat (fun v _=>v=evB (Keys.told w c)) ?_) rfl rfl H
  delta zv38_6 zv54_9 zv54_8 zv60_2 zv60_1 zv60_0
  have hc:=c.toNat_lt
  rw [ofToNat,show Int.toNat (c.toNat:Int)=c.toNat by simp]
  have k82:(c.toNat:Int)=82→c=82:=fun e=>u8_eq (by show c.toNat=82;omega)
  have k99:(c.toNat:Int)=99→c=99:=fun e=>u8_eq (by show c.toNat=99;omega)
  have k110:(c.toNat:Int)=110→c=110:=fun e=>u8_eq (by show c.toNat=110;omega)
  have k77:(c.toNat:Int)=77→c=77:=fun e=>u8_eq (by show c.toNat=77;omega)
  have k109:(c.toNat:Int)=109→c=109:=fun e=>u8_eq (by show c.toNat=109;omega)
  have mR:c=82∨c=99∨c=110→Keys.told w c=some {kind:=6,text:=w++ [c]} :=fun e=>by simp only [Keys.told,if_pos e]
  have mM: ¬ (c=82∨c=99∨c=110)→c=77∨c=109→Keys.told w c=Keys.mouse w c.toNat:=fun e e2=>by simp only [Keys.told,if_neg e,if_pos e2]
  have mN: ¬ (c=82∨c=99∨c=110)→ ¬ (c=77∨c=109)→Keys.told w c=none:=fun e e2=>by simp only [Keys.told,if_neg e,if_neg e2,h]
  have n82: ¬ (c.toNat:Int)=82→c≠82:=fun e f=>e (by rw [f];rfl)
  have n99: ¬ (c.toNat:Int)=99→c≠99:=fun e f=>e (by rw [f];rfl)
  have n110: ¬ (c.toNat:Int)=110→c≠110:=fun e f=>e (by rw [f];rfl)
  have n77: ¬ (c.toNat:Int)=77→c≠77:=fun e f=>e (by rw [f];rfl)
  have n109: ¬ (c.toNat:Int)=109→c≠109:=fun e f=>e (by rw [f];rfl)
  have lw:List.length w+List.length [c]<2^62:=by simp;omega
  repeat' (first | assumption | exact Nat.succ_le_of_lt lw | apply And.intro | intro _)
  all_goals first
    | omega
    | (rw [mR (by first | exact .inl (k82 ‹_›) | exact .inr (.inl (k99 ‹_›)) | exact .inr (.inr (k110 ‹_›)))];rfl)
    | (rw [mM (by simp only [n82 ‹_›,n99 ‹_›,n110 ‹_›,or_self,not_false_eq_true]) (by first | exact .inl (k77 ‹_›) | exact .inr (k109 ‹_›))];exact evB_of ‹_›)
    | (rw [mN (by simp only [n82 ‹_›,n99 ‹_›,n110 ‹_›,or_self,not_false_eq_true]) (by simp only [n77 ‹_›,n109 ‹_›,or_self,not_false_eq_true])];rfl)
theorem toldZ_does {w:Bytes}{c:UInt8}(h:Keys.numbers w=some [])(hw:w.length<100)(H:AHeap):FDoes Tryz.prog cnd 130 [.str w,.int .u8 c.toNat] H (evB (Keys.told w c)) H:=by
  refine FDoes.ofVC (told0_vc w c.toNat (fun v _=>v=evB (Keys.told w c)) ?_) rfl rfl H
  delta zv38_6 zv54_9 zv54_8 zv34_3 zv61_1 zv61_2 zv61_0 zv60_2 zv60_1 zv60_0
  have hc:=c.toNat_lt
  rw [ofToNat,show Int.toNat (c.toNat:Int)=c.toNat by simp,arrowI_nat]
  have k82:(c.toNat:Int)=82→c=82:=fun e=>u8_eq (by show c.toNat=82;omega)
  have k99:(c.toNat:Int)=99→c=99:=fun e=>u8_eq (by show c.toNat=99;omega)
  have k110:(c.toNat:Int)=110→c=110:=fun e=>u8_eq (by show c.toNat=110;omega)
  have k77:(c.toNat:Int)=77→c=77:=fun e=>u8_eq (by show c.toNat=77;omega)
  have k109:(c.toNat:Int)=109→c=109:=fun e=>u8_eq (by show c.toNat=109;omega)
  have mR:c=82∨c=99∨c=110→Keys.told w c=some {kind:=6,text:=w++ [c]} :=fun e=>by simp only [Keys.told,if_pos e]
  have mM: ¬ (c=82∨c=99∨c=110)→c=77∨c=109→Keys.told w c=Keys.mouse w c.toNat:=fun e e2=>by simp only [Keys.told,if_neg e,if_pos e2]
  have k90:(c.toNat:Int)=90→c=90:=fun e=>u8_eq (by show c.toNat=90;omega)
  have k73:(c.toNat:Int)=73→c=73:=fun e=>u8_eq (by show c.toNat=73;omega)
  have k79:(c.toNat:Int)=79→c=79:=fun e=>u8_eq (by show c.toNat=79;omega)
  have n90: ¬ (c.toNat:Int)=90→c≠90:=fun e f=>e (by rw [f];rfl)
  have n73: ¬ (c.toNat:Int)=73→c≠73:=fun e f=>e (by rw [f];rfl)
  have n79: ¬ (c.toNat:Int)=79→c≠79:=fun e f=>e (by rw [f];rfl)
  have m90:c=90→Keys.told w c=some (EvKey 2 1):=fun e=>by subst e;simp [Keys.told,h]
  have m73:c=73→Keys.told w c=some {kind:=5,code:=1} :=fun e=>by subst e;simp [Keys.told,h]
  have m79:c=79→Keys.told w c=some {kind:=5} :=fun e=>by subst e;simp [Keys.told,h]
  have mA: ¬ (c=82∨c=99∨c=110)→ ¬ (c=77∨c=109)→c≠90→c≠73→c≠79→0<arrow c.toNat→Keys.told w c=some (EvKey (arrow c.toNat)):=fun e e2 e3 e4 e5 e6=>by simp only [Keys.told,if_neg e,if_neg e2,h,if_neg e3,if_neg e4,if_neg e5,if_pos e6]
  have mN: ¬ (c=82∨c=99∨c=110)→ ¬ (c=77∨c=109)→c≠90→c≠73→c≠79→ ¬ 0<arrow c.toNat→Keys.told w c=none:=fun e e2 e3 e4 e5 e6=>by simp only [Keys.told,if_neg e,if_neg e2,h,if_neg e3,if_neg e4,if_neg e5,if_neg e6]
  have n82: ¬ (c.toNat:Int)=82→c≠82:=fun e f=>e (by rw [f];rfl)
  have n99: ¬ (c.toNat:Int)=99→c≠99:=fun e f=>e (by rw [f];rfl)
  have n110: ¬ (c.toNat:Int)=110→c≠110:=fun e f=>e (by rw [f];rfl)
  have n77: ¬ (c.toNat:Int)=77→c≠77:=fun e f=>e (by rw [f];rfl)
  have n109: ¬ (c.toNat:Int)=109→c≠109:=fun e f=>e (by rw [f];rfl)
  have lw:List.length w+List.length [c]<2^62:=by simp;omega
  repeat' (first | assumption | exact Nat.succ_le_of_lt lw | apply And.intro | intro _)
  all_goals first
    | omega
    | (rw [mR (by first | exact .inl (k82 ‹_›) | exact .inr (.inl (k99 ‹_›)) | exact .inr (.inr (k110 ‹_›)))];rfl)
    | (rw [mM (by simp only [n82 ‹_›,n99 ‹_›,n110 ‹_›,or_self,not_false_eq_true]) (by first | exact .inl (k77 ‹_›) | exact .inr (k109 ‹_›))];exact evB_of ‹_›)
    | (rw [m90 (k90 ‹_›)];rfl)
    | (rw [m73 (k73 ‹_›)];rfl)
    | (rw [m79 (k79 ‹_›)];rfl)
    | (rw [mA (by simp only [n82 ‹_›,n99 ‹_›,n110 ‹_›,or_self,not_false_eq_true]) (by simp only [n77 ‹_›,n109 ‹_›,or_self,not_false_eq_true]) (n90 ‹_›) (n73 ‹_›) (n79 ‹_›) ‹_›];rfl)
    | (rw [mN (by simp only [n82 ‹_›,n99 ‹_›,n110 ‹_›,or_self,not_false_eq_true]) (by simp only [n77 ‹_›,n109 ‹_›,or_self,not_false_eq_true]) (n90 ‹_›) (n73 ‹_›) (n79 ‹_›) ‹_›];rfl)
end Go.Proofs.YtddnafghiejcoaaGreatDoor
namespace Go.Keys
theorem c_of {c k:UInt8}(h:(c.toNat:Int)=(k.toNat:Int)):c=k:=UInt8.toNat_inj.1 (by omega)
theorem c_iff(c k:UInt8):(c=k)=((c.toNat:Int)=(k.toNat:Int)):=propext ⟨fun e=>by rw [e],c_of⟩
structure Other(c:UInt8):Prop where
  q1: ¬ (c.toNat:Int)=82
  q2: ¬ (c.toNat:Int)=99
  q3: ¬ (c.toNat:Int)=110
  q4: ¬ (c.toNat:Int)=77
  q5: ¬ (c.toNat:Int)=109
def mOf(r:List Nat):Int:=match r with | [x]=>(x:Int) | _=>1
theorem told_other {w:Bytes}{c:UInt8}(o:Other c){n0:Nat}{r:List Nat}(h:numbers w=some (n0::r)):told w c =
    (let m:Int:=mOf r
      if 1<r.length∨m<1∨8<m then none
      else if 0<arrow c.toNat∧n0=1∧r.length=1 then some (EvKey (arrow c.toNat) (m-1))
      else if(c.toNat:Int)=126∧0<tilde n0 then some (EvKey (tilde n0) (m-1))
      else if(c.toNat:Int)=117 then coded n0 (m-1)
      else none):=by
  have h1: ¬ (c=82∨c=99∨c=110):=by
    rintro (e | e | e)
    · exact o.q1 (by rw [e];rfl)
    · exact o.q2 (by rw [e];rfl)
    · exact o.q3 (by rw [e];rfl)
  have h2: ¬ (c=77∨c=109):=by
    rintro (e | e)
    · exact o.q4 (by rw [e];rfl)
    · exact o.q5 (by rw [e];rfl)
  have e126:(c=126)=((c.toNat:Int)=126):=c_iff c 126
  have e117:(c=117)=((c.toNat:Int)=117):=c_iff c 117
  simp only [told,if_neg h1,if_neg h2,h,e126,e117]
  cases r with
  | nil=>rfl
  | cons a t=>cases t<;>rfl
theorem told_1 {w:Bytes}{c:UInt8}(o:Other c){n0:Nat}(h:numbers w=some [n0]):told w c=if(c.toNat:Int)=126∧0<tilde n0 then some (EvKey (tilde n0) 0)else if(c.toNat:Int)=117 then coded n0 0 else none:=by
  rw [told_other o h];simp [show mOf []=1 from rfl]
theorem told_2 {w:Bytes}{c:UInt8}(o:Other c){n0 n1:Nat}(h:numbers w=some [n0,n1]):told w c=if(n1:Int)<1∨8<(n1:Int)then none else if 0<arrow c.toNat∧n0=1 then some (EvKey (arrow c.toNat) ((n1:Int)-1))else if(c.toNat:Int)=126∧0<tilde n0 then some (EvKey (tilde n0) ((n1:Int)-1))else if(c.toNat:Int)=117 then coded n0 ((n1:Int)-1)else none:=by
  have e1:(1< [n1].length∨(n1:Int)<1∨8<(n1:Int))=((n1:Int)<1∨8<(n1:Int)):=propext (by simp)
  have e2:(0<arrow c.toNat∧n0=1∧ [n1].length=1)=(0<arrow c.toNat∧n0=1):=propext (by simp)
  rw [told_other o h];simp only [show mOf [n1]=(n1:Int)from rfl,e1,e2]
theorem told_m {w:Bytes}{c:UInt8}(o:Other c){l:List Nat}(h:numbers w=some l)(hl:2<l.length):told w c=none:=by
  cases l with
  | nil=>simp at hl
  | cons a r =>
    rw [told_other o h]
    simp only [List.length_cons]at hl
    have hq:1<r.length:=by omega
    simp [hq]
theorem told_r {w:Bytes}{c:UInt8}(h:(c.toNat:Int)=82∨(c.toNat:Int)=99∨(c.toNat:Int)=110):told w c=some {kind:=6,text:=w++ [c]} :=by
  have h1:c=82∨c=99∨c=110:=by
    rcases h with h | h | h
    · exact .inl (c_of h)
    · exact .inr (.inl (c_of h))
    · exact .inr (.inr (c_of h))
  simp only [told,if_pos h1]
theorem told_mouse {w:Bytes}{c:UInt8}(h:(c.toNat:Int)=77∨(c.toNat:Int)=109):told w c=mouse w c.toNat:=by
  have h2:c=77∨c=109:=by
    rcases h with h | h
    · exact .inl (c_of h)
    · exact .inr (c_of h)
  have h1: ¬ (c=82∨c=99∨c=110):=by
    rcases h2 with rfl | rfl<;>decide
  simp only [told,if_neg h1,if_pos h2]
end Go.Keys
namespace Go.Proofs.YtddnafghiejcoaaGreatDoor
open Go.Lift Go.Keys
set_option maxRecDepth 1000000
set_option maxHeartbeats 4000000
theorem tildeI_nat(n:Nat):tildeI (n:Int)=tilde n:=by
  unfold tildeI tilde
  have a1:((n:Int)=1∨(n:Int)=7)=(n=1∨n=7):=propext (by omega)
  have a2:((n:Int)=4∨(n:Int)=8)=(n=4∨n=8):=propext (by omega)
  have a3:((n:Int)=2∨(n:Int)=3)=(n=2∨n=3):=propext (by omega)
  have a4:((n:Int)=5∨(n:Int)=6)=(n=5∨n=6):=propext (by omega)
  have a5:(11≤(n:Int)∧(n:Int)≤15)=(11≤n∧n≤15):=propext (by omega)
  have a6:(17≤(n:Int)∧(n:Int)≤21)=(17≤n∧n≤21):=propext (by omega)
  have a7:((n:Int)=23∨(n:Int)=24)=(n=23∨n=24):=propext (by omega)
  simp only [a1,a2,a3,a4,a5,a6,a7]
theorem told1_does {w:Bytes}{c:UInt8}{n0:Nat}(h:Keys.numbers w=some [n0])(hw:w.length<100)(H:AHeap):FDoes Tryz.prog cnd 130 [.str w,.int .u8 c.toNat] H (evB (Keys.told w c)) H:=by
  refine FDoes.ofVC (told1_vc w c.toNat n0 (fun v _=>v=evB (Keys.told w c)) ?_) rfl rfl H
  delta zv62_13 zv62_9 zv62_0 zv38_6 zv54_9 zv54_8 zv62_12 zv62_10 zv62_6 zv62_3 zv62_5 zv62_11 zv62_4 zv62_14 zv62_8 zv62_7 zv62_2 zv60_2 zv60_1 zv60_0
  have hc:=c.toNat_lt
  rw [ofToNat,show Int.toNat (c.toNat:Int)=c.toNat by simp,arrowI_nat,tildeI_nat]
  have lw:List.length w+List.length [c]<2^62:=by simp;omega
  have n0':(0:Int)≤(n0:Int):=by omega
  repeat' (first | assumption | exact Nat.succ_le_of_lt lw | apply And.intro | intro _)
  all_goals first
    | omega
    | (rw [told_r (by omega)];rfl)
    | (rw [told_mouse (by omega)];exact evB_of ‹_›)
    | (rw [told_1 ⟨by omega,by omega,by omega,by omega,by omega⟩ h,if_pos (by omega)];rfl)
    | (rw [told_1 ⟨by omega,by omega,by omega,by omega,by omega⟩ h,if_neg (by omega),if_pos (by omega)];exact evB_of ‹_›)
    | (rw [told_1 ⟨by omega,by omega,by omega,by omega,by omega⟩ h,if_neg (by omega),if_neg (by omega)];rfl)
theorem told2_does {w:Bytes}{c:UInt8}{n0 n1:Nat}(h:Keys.numbers w=some [n0,n1])(hw:w.length<100)(H:AHeap):FDoes Tryz.prog cnd 130 [.str w,.int .u8 c.toNat] H (evB (Keys.told w c)) H:=by
  have hlt:=numbers_lt h
  have l0:=hlt n0 (by simp)
  have l1:=hlt n1 (by simp)
  refine FDoes.ofVC (told2_vc w c.toNat n0 n1 (fun v _=>v=evB (Keys.told w c)) ?_) rfl rfl H
  delta zv63_6 zv63_1 zv38_6 zv54_9 zv54_8 zv63_9 zv63_7 zv63_4 zv63_3 zv63_8 zv63_10 zv63_5 zv63_2 zv63_0 zv60_2 zv60_1 zv60_0
  have hc:=c.toNat_lt
  rw [ofToNat,show Int.toNat (c.toNat:Int)=c.toNat by simp,arrowI_nat,tildeI_nat]
  have lw:List.length w+List.length [c]<2^62:=by simp;omega
  have n0':(0:Int)≤(n0:Int):=by omega
  repeat' (first | assumption | exact Nat.succ_le_of_lt lw | apply And.intro | intro _)
  all_goals first
    | omega
    | (rw [told_r (by omega)];rfl)
    | (rw [told_mouse (by omega)];exact evB_of ‹_›)
    | (rw [told_2 ⟨by omega,by omega,by omega,by omega,by omega⟩ h,if_pos (by omega)];rfl)
    | (rw [told_2 ⟨by omega,by omega,by omega,by omega,by omega⟩ h,if_neg (by omega),if_pos (by omega)];rfl)
    | (rw [told_2 ⟨by omega,by omega,by omega,by omega,by omega⟩ h,if_neg (by omega),if_neg (by omega),if_pos (by omega)];rfl)
    | (rw [told_2 ⟨by omega,by omega,by omega,by omega,by omega⟩ h,if_neg (by omega),if_neg (by omega),if_neg (by omega),if_pos (by omega)];exact evB_of ‹_›)
    | (rw [told_2 ⟨by omega,by omega,by omega,by omega,by omega⟩ h,if_neg (by omega),if_neg (by omega),if_neg (by omega),if_neg (by omega)];rfl)
theorem toldM_does {w:Bytes}{c:UInt8}{l:List Nat}(h:Keys.numbers w=some l)(hl:2<l.length)(hw:w.length<100)(H:AHeap):FDoes Tryz.prog cnd 130 [.str w,.int .u8 c.toNat] H (evB (Keys.told w c)) H:=by
  refine FDoes.ofVC (toldG_vc w c.toNat l (fun v _=>v=evB (Keys.told w c)) ?_) rfl rfl H
  delta zv64_17 zv56_0 zv38_6 zv54_9 zv54_8 zv64_24 zv64_19 zv64_10 zv64_4 zv64_8 zv64_6 zv64_26 zv64_21 zv64_13 zv64_1 zv34_3 zv64_18 zv64_25 zv64_20 zv64_11 zv64_5 zv64_9 zv64_7 zv64_27 zv64_22 zv64_14 zv64_3 zv64_2 zv64_16 zv61_1 zv61_2 zv61_0 zv60_2 zv60_1 zv60_0
  have hc:=c.toNat_lt
  rw [ofToNat,show Int.toNat (c.toNat:Int)=c.toNat by simp,arrowI_nat]
  have lw:List.length w+List.length [c]<2^62:=by simp;omega
  have hne:l= []→False:=by rintro rfl;simp at hl
  repeat' (first | assumption | exact Nat.succ_le_of_lt lw | apply And.intro | intro _)
  all_goals first
    | (exfalso;omega)
    | omega
    | (rw [told_r (by omega)];rfl)
    | (rw [told_mouse (by omega)];exact evB_of ‹_›)
    | (rw [told_m ⟨by omega,by omega,by omega,by omega,by omega⟩ h hl];rfl)
theorem told_does(w:Bytes)(c:UInt8)(hw:w.length<100)(H:AHeap):FDoes Tryz.prog cnd 130 [.str w,.int .u8 c.toNat] H (evB (Keys.told w c)) H:=by
  cases h:Keys.numbers w with
  | none=>exact toldN_does h hw H
  | some l =>
    match l,h with
    | [],h=>exact toldZ_does h hw H
    | [a],h=>exact told1_does h hw H
    | [a,b],h=>exact told2_does h hw H
    | a::b::d::t,h=>exact toldM_does h (by simp only [List.length_cons];omega) hw H
noncomputable def trimS:List AVal→AHeap→Option Alts:=pureS fun a=>match a with | [.str s,.str k]=>some (.str (s.dropWhile (· == 48)),[k= [48],s.length<2^40]) | _=>none
noncomputable def toldS:List AVal→AHeap→Option Alts:=pureS fun a=>match a with | [.str w,.int .u8 c]=>some (.tuple [evA ((Keys.told w (byteI c)).getD ev0),.bool (Keys.told w (byteI c)).isSome],[w.length<100,0≤c∧c≤255]) | _=>none
theorem trimS_ok: ∀ args h a,trimS args h=some a→a.Ok Tryz.prog cnd 128 args h:=by
  refine pureS_ok ?_
  intro args v ps e hp H
  split at e<;>first | (cases e;done) | skip
  simp only [Option.some.injEq,Prod.mk.injEq]at e
  obtain⟨rfl,rfl⟩:=e
  rw [hp.head]
  exact trim1_does _ H
theorem toldS_ok: ∀ args h a,toldS args h=some a→a.Ok Tryz.prog cnd 130 args h:=by
  refine pureS_ok ?_
  intro args v ps e hp H
  split at e<;>first | (cases e;done) | skip
  rename_i w c
  simp only [Option.some.injEq,Prod.mk.injEq]at e
  obtain⟨rfl,rfl⟩:=e
  have:=told_does w (byteI c) hp.head H
  rwa [byteT hp.tail.head]at this
noncomputable def specs9:Specs:=(specs8.add 128 trimS).add 130 toldS
theorem specs9_ok:SpecsOk Tryz.prog cnd specs9:=(specs8_ok.add trimS_ok).add toldS_ok
abbrev zv65_0:AVal:= .func (.func 129) [.ptr (some ⟨0,0,0,0,6⟩)] []
abbrev zv65_1:HT:=(.br 12 (.br 17 .nil (.br 4005 .nil (hg 6004 .nil))) (.br 4005 .nil (hg 6004 .nil)))
abbrev zv65_2(l:List AVal)(len:Nat):AVal:=AVal.agg [.int .i8 7,.int .i32 0,.int .u8 0,.int .i64 0,.int .i64 0,.str (strOf (List.take len l))]
abbrev zv65_3(c:Int)(w:Bytes):AVal:=AVal.agg [.int .i8 (Ev.kind (Option.getD (told w (byteI c)) ev0)),.int .i32 (Ev.code (Option.getD (told w (byteI c)) ev0)),.int .u8 (Ev.mods (Option.getD (told w (byteI c)) ev0)),.int .i64 (Ev.x (Option.getD (told w (byteI c)) ev0)),.int .i64 (Ev.y (Option.getD (told w (byteI c)) ev0)),.str (Option.getD (told w (byteI c)) ev0).6]
abbrev zv65_4(c:Int)(w:Bytes):ABlk:=(ABlk.made ([(zv65_3 c w)]) 6 true (some (42,6)))
abbrev zv65_5(l:List AVal)(len:Nat):ABlk:=(ABlk.made ([(zv65_2 l len)]) 6 true (some (42,6)))
abbrev zv65_6(pv:AVal)(ov:AVal):AVal:=AVal.agg [zv65_0,.slice none 0 0,pv,.bool true,.ptr (some ⟨1,0,0,0,5⟩),ov]
abbrev zv65_7(pv:AVal)(ov:AVal)(dty:Option (TypeId×Nat))(ver:Nat):ABlk:=⟨[(zv65_6 pv ov)],6,true,false,0,0,0,dty⟩
abbrev zv65_8(f:Nat)(pv:AVal)(ov:AVal)(dty:Option (TypeId×Nat))(U:ABlk)(P:ABlk)(O:ABlk)(l:List AVal)(ver:Nat)(m:Nat)(fl:Nat)(len:Nat)(c:Int)(w:Bytes):AHeap:=(AHeap.rowsT 39 [(0,(zv35_11 f pv ov dty ver len)),(1,U),(2,(zv32_0 l ver m fl)),(3,P),(4,O),(31,(zv65_4 c w))])
abbrev zv65_9(f:Nat)(pv:AVal)(ov:AVal)(dty:Option (TypeId×Nat))(U:ABlk)(P:ABlk)(O:ABlk)(l:List AVal)(ver:Nat)(m:Nat)(fl:Nat)(len:Nat):AHeap:=(AHeap.rowsT 46 [(0,(zv35_11 f pv ov dty ver len)),(1,U),(2,(zv32_0 l ver m fl)),(3,P),(4,O),(31,(zv65_5 l len))])
theorem done_vc(f:Nat)(pv ov:AVal)(dty:Option (TypeId×Nat))(U P O:ABlk)(l:List AVal)(ver m fl len:Nat)(c:Int)(w:Bytes)(K0:AVal→AHeap→Prop)(vc:(c=126→(w= [(50:UInt8),(48:UInt8),(48:UInt8)]→K0 (.tuple []) (AHeap.rowsT 39 [(0,(zv65_7 pv ov dty ver)),(1,U),(2,(zv32_0 l ver m fl)),(3,P),(4,O)]))∧(¬w= [(50:UInt8),(48:UInt8),(48:UInt8)]→(c=126→ [(48:UInt8)]= [(48:UInt8)]∧List.length w<1099511627776∧(List.dropWhile (fun x=>x == 48) w= [(50:UInt8),(48:UInt8),(48:UInt8)]→((↑(List.length w):Int)≤9→K0 (.tuple []) (AHeap.rowsT 39 [(0,(zv65_7 pv ov dty ver)),(1,U),(2,(zv32_0 l ver m fl)),(3,P),(4,O)]))∧(¬(↑(List.length w):Int)≤9→List.length w<100∧(0≤c∧c≤255)∧(Option.isSome (told w (byteI c))=true→TellPre (zv65_8 f pv ov dty U P O l ver m fl len c w) ⟨0,0,0,0,6⟩ ((zv65_3 c w))∧ ∀ (h7002:AHeap),TellP (zv65_8 f pv ov dty U P O l ver m fl len c w) ⟨0,0,0,0,6⟩ ((zv65_3 c w)) h7002→bif Nat.ble 5 (h7002.next)then K0 (.tuple []) h7002 else False)∧(Option.isSome (told w (byteI c))=false→ver=ver∧0+len≤List.length l∧(∃ l_1,List.take len (List.drop (AAddr.idx ⟨2,ver,0,0,1⟩) (ABlk.elems (zv32_0 l ver m fl)))=bytesA l_1)∧TellPre (zv65_9 f pv ov dty U P O l ver m fl len) ⟨0,0,0,0,6⟩ ((zv65_2 l len))∧ ∀ (h7002:AHeap),TellP (zv65_9 f pv ov dty U P O l ver m fl len) ⟨0,0,0,0,6⟩ ((zv65_2 l len)) h7002→bif Nat.ble 5 (h7002.next)then K0 (.tuple []) h7002 else False)))∧(¬List.dropWhile (fun x=>x == 48) w= [(50:UInt8),(48:UInt8),(48:UInt8)]→List.length w<100∧(0≤c∧c≤255)∧(Option.isSome (told w (byteI c))=true→TellPre (zv65_8 f pv ov dty U P O l ver m fl len c w) ⟨0,0,0,0,6⟩ ((zv65_3 c w))∧ ∀ (h7002:AHeap),TellP (zv65_8 f pv ov dty U P O l ver m fl len c w) ⟨0,0,0,0,6⟩ ((zv65_3 c w)) h7002→bif Nat.ble 5 (h7002.next)then K0 (.tuple []) h7002 else False)∧(Option.isSome (told w (byteI c))=false→ver=ver∧0+len≤List.length l∧(∃ l_1,List.take len (List.drop (AAddr.idx ⟨2,ver,0,0,1⟩) (ABlk.elems (zv32_0 l ver m fl)))=bytesA l_1)∧TellPre (zv65_9 f pv ov dty U P O l ver m fl len) ⟨0,0,0,0,6⟩ ((zv65_2 l len))∧ ∀ (h7002:AHeap),TellP (zv65_9 f pv ov dty U P O l ver m fl len) ⟨0,0,0,0,6⟩ ((zv65_2 l len)) h7002→bif Nat.ble 5 (h7002.next)then K0 (.tuple []) h7002 else False)))∧(¬c=126→List.length w<100∧(0≤c∧c≤255)∧(Option.isSome (told w (byteI c))=true→TellPre (zv65_8 f pv ov dty U P O l ver m fl len c w) ⟨0,0,0,0,6⟩ ((zv65_3 c w))∧ ∀ (h7002:AHeap),TellP (zv65_8 f pv ov dty U P O l ver m fl len c w) ⟨0,0,0,0,6⟩ ((zv65_3 c w)) h7002→bif Nat.ble 5 (h7002.next)then K0 (.tuple []) h7002 else False)∧(Option.isSome (told w (byteI c))=false→ver=ver∧0+len≤List.length l∧(∃ l_1,List.take len (List.drop (AAddr.idx ⟨2,ver,0,0,1⟩) (ABlk.elems (zv32_0 l ver m fl)))=bytesA l_1)∧TellPre (zv65_9 f pv ov dty U P O l ver m fl len) ⟨0,0,0,0,6⟩ ((zv65_2 l len))∧ ∀ (h7002:AHeap),TellP (zv65_9 f pv ov dty U P O l ver m fl len) ⟨0,0,0,0,6⟩ ((zv65_2 l len)) h7002→bif Nat.ble 5 (h7002.next)then K0 (.tuple []) h7002 else False))))∧(¬c=126→(c=126→ [(48:UInt8)]= [(48:UInt8)]∧List.length w<1099511627776∧(List.dropWhile (fun x=>x == 48) w= [(50:UInt8),(48:UInt8),(48:UInt8)]→((↑(List.length w):Int)≤9→K0 (.tuple []) (AHeap.rowsT 39 [(0,(zv65_7 pv ov dty ver)),(1,U),(2,(zv32_0 l ver m fl)),(3,P),(4,O)]))∧(¬(↑(List.length w):Int)≤9→List.length w<100∧(0≤c∧c≤255)∧(Option.isSome (told w (byteI c))=true→TellPre (zv65_8 f pv ov dty U P O l ver m fl len c w) ⟨0,0,0,0,6⟩ ((zv65_3 c w))∧ ∀ (h7002:AHeap),TellP (zv65_8 f pv ov dty U P O l ver m fl len c w) ⟨0,0,0,0,6⟩ ((zv65_3 c w)) h7002→bif Nat.ble 5 (h7002.next)then K0 (.tuple []) h7002 else False)∧(Option.isSome (told w (byteI c))=false→ver=ver∧0+len≤List.length l∧(∃ l_1,List.take len (List.drop (AAddr.idx ⟨2,ver,0,0,1⟩) (ABlk.elems (zv32_0 l ver m fl)))=bytesA l_1)∧TellPre (zv65_9 f pv ov dty U P O l ver m fl len) ⟨0,0,0,0,6⟩ ((zv65_2 l len))∧ ∀ (h7002:AHeap),TellP (zv65_9 f pv ov dty U P O l ver m fl len) ⟨0,0,0,0,6⟩ ((zv65_2 l len)) h7002→bif Nat.ble 5 (h7002.next)then K0 (.tuple []) h7002 else False)))∧(¬List.dropWhile (fun x=>x == 48) w= [(50:UInt8),(48:UInt8),(48:UInt8)]→List.length w<100∧(0≤c∧c≤255)∧(Option.isSome (told w (byteI c))=true→TellPre (zv65_8 f pv ov dty U P O l ver m fl len c w) ⟨0,0,0,0,6⟩ ((zv65_3 c w))∧ ∀ (h7002:AHeap),TellP (zv65_8 f pv ov dty U P O l ver m fl len c w) ⟨0,0,0,0,6⟩ ((zv65_3 c w)) h7002→bif Nat.ble 5 (h7002.next)then K0 (.tuple []) h7002 else False)∧(Option.isSome (told w (byteI c))=false→ver=ver∧0+len≤List.length l∧(∃ l_1,List.take len (List.drop (AAddr.idx ⟨2,ver,0,0,1⟩) (ABlk.elems (zv32_0 l ver m fl)))=bytesA l_1)∧TellPre (zv65_9 f pv ov dty U P O l ver m fl len) ⟨0,0,0,0,6⟩ ((zv65_2 l len))∧ ∀ (h7002:AHeap),TellP (zv65_9 f pv ov dty U P O l ver m fl len) ⟨0,0,0,0,6⟩ ((zv65_2 l len)) h7002→bif Nat.ble 5 (h7002.next)then K0 (.tuple []) h7002 else False)))∧(¬c=126→List.length w<100∧(0≤c∧c≤255)∧(Option.isSome (told w (byteI c))=true→TellPre (zv65_8 f pv ov dty U P O l ver m fl len c w) ⟨0,0,0,0,6⟩ ((zv65_3 c w))∧ ∀ (h7002:AHeap),TellP (zv65_8 f pv ov dty U P O l ver m fl len c w) ⟨0,0,0,0,6⟩ ((zv65_3 c w)) h7002→bif Nat.ble 5 (h7002.next)then K0 (.tuple []) h7002 else False)∧(Option.isSome (told w (byteI c))=false→ver=ver∧0+len≤List.length l∧(∃ l_1,List.take len (List.drop (AAddr.idx ⟨2,ver,0,0,1⟩) (ABlk.elems (zv32_0 l ver m fl)))=bytesA l_1)∧TellPre (zv65_9 f pv ov dty U P O l ver m fl len) ⟨0,0,0,0,6⟩ ((zv65_2 l len))∧ ∀ (h7002:AHeap),TellP (zv65_9 f pv ov dty U P O l ver m fl len) ⟨0,0,0,0,6⟩ ((zv65_2 l len)) h7002→bif Nat.ble 5 (h7002.next)then K0 (.tuple []) h7002 else False)))) :
    ∃ v h1,FDoes Tryz.prog cnd 105 [.ptr (some ⟨0,0,0,0,6⟩),.str w,.int .u8 c] (AHeap.of [dRowV 0 f 1 (.slice (some ⟨2,ver,0,0,1⟩) len len) pv false ov dty,U,gRowB l 1 ver m fl byteTy,P,O]) v h1∧K0 v h1 :=
  tcall_does env_ok mixed specs9_ok (hs:= .br 1 (.br 4 .nil (.br 8 zv65_1 (.br 4005 .nil (hg 6004 .nil)))) (.br 8 zv65_1 (.br 4005 .nil (hg 6004 .nil)))) (by kernel_rfl) vc
set_option maxHeartbeats 4000000
structure DonePre(N:Nat)(h:AHeap)(a:AAddr)(w:Bytes)(c:Int):Prop where
  at':a=⟨a.id,0,0,0,6⟩
  ex: ∃ I s es,DAt h a.id I s es∧es.length<N∧s.hold= []∧s.nx= .sequence
  c:0≤c∧c≤255
  w:w.length<100
structure DoneP(h:AHeap)(a:AAddr)(w:Bytes)(c:Int)(h':AHeap):Prop where
  all: ∀ I s es,DAt h a.id I s es→s.hold.length≤4→ ∃ I',DAt h' a.id I' (Keys.done s w (byteI c)).1 (es++(Keys.done s w (byteI c)).2)∧Fr h h' a.id I I'
  next:h.next≤h'.next
def doneS(N:Nat):List AVal→AHeap→Option Alts:=fun args h =>
  match args with
  | [.ptr (some a),.str w,.int .u8 c]=>some (.some (.tuple []) [DonePre N h a w c] (DoneP h a w c))
  | _=>none
theorem done_paste {kept paste w:Bytes}{c:UInt8}(hc:c.toNat=126)(hw:isPaste w=true):Keys.done ⟨.sequence,kept,[],paste⟩ w c=(⟨.pasted,[],[],paste⟩,[]):=by
  have:c=126:=UInt8.toNat_inj.1 (by show c.toNat=126;exact hc)
  simp [Keys.done,this,hw]
theorem done_tell {kept paste w:Bytes}{c:UInt8}(h: ¬ (c.toNat=126∧isPaste w=true)):Keys.done ⟨.sequence,kept,[],paste⟩ w c=(⟨.ground,[],[],paste⟩,[(Keys.told w c).getD (EvBad kept)]):=by
  have: ¬ (c=126∧isPaste w=true):=fun e=>h ⟨by rw [e.1];rfl,e.2⟩
  simp only [Keys.done,this,if_false,tell]
theorem told_some {w kept:Bytes}{c:UInt8}(h:(Keys.told w c).isSome=true):(Keys.told w c).getD (EvBad kept)=(Keys.told w c).getD ev0:=by
  cases hh:Keys.told w c with
  | none=>rw [hh]at h;cases h
  | some e=>rfl
theorem told_none {w kept:Bytes}{c:UInt8}(h:(Keys.told w c).isSome=false):(Keys.told w c).getD (EvBad kept)=EvBad kept:=by
  cases hh:Keys.told w c with
  | none=>rfl
  | some e=>rw [hh]at h;cases h
set_option hygiene false in
theorem done_does {H:AHeap} {d:Nat} {I:Ids} {s:DS} {es:List Ev} {c:UInt8} {w:Bytes} (g:DAt H d I s es) (hes:es.length<2^30) (h1:s.hold= []) (h2:s.nx= .sequence) (hw:w.length<100): ∃ H',FDoes Tryz.prog cnd 105 [.ptr (some ⟨d,0,0,0,6⟩),.str w,.int .u8 c.toNat] H (.tuple []) H' ∧
    ∃ I',DAt H' d I' (Keys.done s w c).1 (es++(Keys.done s w c).2)∧Fr H H' d I I':=by
  obtain⟨ks,g,hs⟩:=g
  refine g.lift (Q:=fun h d I=>DAt h d I (Keys.done s w c).1 (es++(Keys.done s w c).2)) (rest:= [.str w,.int .u8 c.toNat]) (fun a ha=>by
    rcases List.mem_cons.1 ha with e | e
    · rw [e];exact Bare.of rfl
    · rw [List.mem_singleton.1 e];exact Bare.int _ _) (Bare.of rfl) (fun h' H' r d I hr hinj hlt q=>q.big hr hinj hlt) ?_
  intro kv pv ov ty uty j0 j1 j2 j3 K P O I0 gs hI
  obtain⟨hk,hp,ho⟩:=gs_parts gs
  obtain⟨nx,kept,hold,paste⟩:=s
  simp only at h1 h2 hs gs hk hp ho ⊢
  subst h1 h2
  have hks:ks= .grown []:=by
    cases ks with
    | grown j=>cases j with
      | nil=>rfl
      | cons a b=>exact hs.elim
    | _=>exact hs.elim
  subst hks
  obtain⟨hk0,ver,m,fl,rfl,hK⟩:=hk
  have hk2:I0.k=2:=by omega
  rw [hk2,AHeap.of_get]at hK
  simp only [List.getElem?_cons_zero,List.getElem?_cons_succ,Option.some.injEq,List.nil_append]at hK
  subst hK
  rw [hk2]at hp ho ⊢
  simp only [List.length_nil]at hp ho ⊢
  have hc0:=c.toNat_lt
  have hb1:=bytesA_len kept
  suffices hh: ∃ v h',FDoes Tryz.prog cnd 105 [.ptr (some ⟨0,0,0,0,6⟩),.str w,.int .u8 c.toNat] (AHeap.of [dRowV 0 (fnOf .sequence) 1 (.slice (some ⟨2,ver,0,0,1⟩) kept.length kept.length) pv false ov ty,uRowH [] j0 j1 j2 j3 uty,gRowB (bytesA kept) 1 ver m fl byteTy,P,O]) v h' ∧
      (v= .tuple []∧ ∃ I',DAt h' 0 I' (Keys.done ⟨.sequence,kept,[],paste⟩ w c).1 (es++(Keys.done ⟨.sequence,kept,[],paste⟩ w c).2)∧Fr (AHeap.of [dRowV 0 (fnOf .sequence) 1 (.slice (some ⟨2,ver,0,0,1⟩) kept.length kept.length) pv false ov ty,uRowH [] j0 j1 j2 j3 uty,gRowB (bytesA kept) 1 ver m fl byteTy,P,O]) h' 0 I0 I')by
    obtain⟨v,h',hd,rfl,q⟩:=hh
    exact⟨h',hd,q⟩
  refine done_vc (fnOf .sequence) pv ov ty (uRowH [] j0 j1 j2 j3 uty) P O (bytesA kept) ver m fl kept.length c.toNat w _ ?_
  delta zv65_2 zv65_9 zv65_5 zv32_0 zv35_11 zv35_6 zv35_0 zv29_2 zv65_3 zv65_8 zv65_4 zv65_7 zv65_6 zv65_0
  rw [show byteI (c.toNat:Int)=c from byteI_b c,show strOf (List.take kept.length (bytesA kept))=kept by rw [take_bytesA,strOf_bytesA]]
  by_cases hpa:c.toNat=126∧isPaste w=true
  · obtain⟨hc,hpw⟩:=hpa
    have hM: ∀ {h:AHeap},h.get 0=some (dRowV 0 (fnOf .pasted) 1 (.slice none 0 0) pv true ov ty)→h.get 1=some (uRowH [] j0 j1 j2 j3 uty)→h.get 3=some P→h.get 4=some O→Nat.ble 5 h.next=true→AVal.tuple []= .tuple []∧ ∃ I',DAt h 0 I' (Keys.done ⟨.sequence,kept,[],paste⟩ w c).1 (es++(Keys.done ⟨.sequence,kept,[],paste⟩ w c).2)∧Fr (AHeap.of [dRowV 0 (fnOf .sequence) 1 (.slice (some ⟨2,ver,0,0,1⟩) kept.length kept.length) pv false ov ty,uRowH [] j0 j1 j2 j3 uty,gRowB (bytesA kept) 1 ver m fl byteTy,P,O]) h 0 I0 I':=by
      intro h e0 e1 e3 e4 h5
      have h5:=Nat.le_of_ble_eq_true h5
      refine⟨rfl,?_⟩
      rw [done_paste hc hpw,List.append_nil]
      exact dat_leaf (s:=⟨.pasted,[],[],paste⟩) (ks:= .nil) (mk5 (k:=0) rfl h5 e0 e1 (.inr hk2) e3 e4 (kNil _) (by omega) hp ho hI (.inl rfl)) trivial
    have hci:(c.toNat:Int)=126:=by omega
    have hor:w= [(50:UInt8),(48:UInt8),(48:UInt8)]∨(List.dropWhile (fun x=>x == 48) w= [(50:UInt8),(48:UInt8),(48:UInt8)]∧(w.length:Int)≤9):=by
      simp only [isPaste,Bool.or_eq_true,beq_iff_eq,Bool.and_eq_true,decide_eq_true_eq]at hpw
      rcases hpw with e | ⟨e,e2⟩
      · exact .inl e
      · exact .inr ⟨e,by omega⟩
    rcases hor with e1 | ⟨e1,e2⟩
    · repeat' (first
        | exact True.intro
        | assumption
        | contradiction
        | exact hM (by kernel_rfl) (by kernel_rfl) (by kernel_rfl) (by kernel_rfl) (by kernel_rfl)
        | exact hT (by assumption) (by kernel_rfl) (by kernel_rfl) (by kernel_rfl) (by kernel_rfl) (by kernel_rfl) (by kernel_rfl) rfl
        | exact hN (by assumption) (by kernel_rfl) (by kernel_rfl) (by kernel_rfl) (by kernel_rfl) (by kernel_rfl) (by kernel_rfl) rfl
        | intro _
        | refine And.intro ?_ ?_
        | rfl
        | omega
        | exact tkA _ _ _)
    · repeat' (first
        | exact True.intro
        | assumption
        | contradiction
        | exact hM (by kernel_rfl) (by kernel_rfl) (by kernel_rfl) (by kernel_rfl) (by kernel_rfl)
        | exact hT (by assumption) (by kernel_rfl) (by kernel_rfl) (by kernel_rfl) (by kernel_rfl) (by kernel_rfl) (by kernel_rfl) rfl
        | exact hN (by assumption) (by kernel_rfl) (by kernel_rfl) (by kernel_rfl) (by kernel_rfl) (by kernel_rfl) (by kernel_rfl) rfl
        | intro _
        | refine And.intro ?_ ?_
        | rfl
        | omega
        | exact tkA _ _ _)
  · have hT: ∀ {h:AHeap} {ev:AVal},(Keys.told w c).isSome=true→Nat.ble 5 h.next=true→h.get 0=some (dRowV 0 (fnOf .sequence) 1 (.slice (some ⟨2,ver,0,0,1⟩) kept.length kept.length) pv false ov ty)→h.get 1=some (uRowH [] j0 j1 j2 j3 uty)→h.get 2=some (gRowB (bytesA kept) 1 ver m fl byteTy)→h.get 3=some P→h.get 4=some O→ev=evA ((Keys.told w c).getD ev0) →
        TellPre h ⟨0,0,0,0,6⟩ ev∧ ∀ h',TellP h ⟨0,0,0,0,6⟩ ev h'→_root_.cond (Nat.ble 5 h'.next) (AVal.tuple []= .tuple []∧ ∃ I',DAt h' 0 I' (Keys.done ⟨.sequence,kept,[],paste⟩ w c).1 (es++(Keys.done ⟨.sequence,kept,[],paste⟩ w c).2)∧Fr (AHeap.of [dRowV 0 (fnOf .sequence) 1 (.slice (some ⟨2,ver,0,0,1⟩) kept.length kept.length) pv false ov ty,uRowH [] j0 j1 j2 j3 uty,gRowB (bytesA kept) 1 ver m fl byteTy,P,O]) h' 0 I0 I') False:=by
      intro h ev hs h5 e0 e1 e2 e3 e4 he
      exact charTell h5 e0 e1 e2 e3 e4 rfl rfl hp ho hI hk2 he hes (by simp) fun h' I' g fr=>⟨rfl,I',by rw [done_tell hpa,told_some hs];exact g,fr⟩
    have hN: ∀ {h:AHeap} {ev:AVal},(Keys.told w c).isSome=false→Nat.ble 5 h.next=true→h.get 0=some (dRowV 0 (fnOf .sequence) 1 (.slice (some ⟨2,ver,0,0,1⟩) kept.length kept.length) pv false ov ty)→h.get 1=some (uRowH [] j0 j1 j2 j3 uty)→h.get 2=some (gRowB (bytesA kept) 1 ver m fl byteTy)→h.get 3=some P→h.get 4=some O→ev=evA (EvBad kept) →
        TellPre h ⟨0,0,0,0,6⟩ ev∧ ∀ h',TellP h ⟨0,0,0,0,6⟩ ev h'→_root_.cond (Nat.ble 5 h'.next) (AVal.tuple []= .tuple []∧ ∃ I',DAt h' 0 I' (Keys.done ⟨.sequence,kept,[],paste⟩ w c).1 (es++(Keys.done ⟨.sequence,kept,[],paste⟩ w c).2)∧Fr (AHeap.of [dRowV 0 (fnOf .sequence) 1 (.slice (some ⟨2,ver,0,0,1⟩) kept.length kept.length) pv false ov ty,uRowH [] j0 j1 j2 j3 uty,gRowB (bytesA kept) 1 ver m fl byteTy,P,O]) h' 0 I0 I') False:=by
      intro h ev hs h5 e0 e1 e2 e3 e4 he
      exact charTell h5 e0 e1 e2 e3 e4 rfl rfl hp ho hI hk2 he hes (by simp) fun h' I' g fr=>⟨rfl,I',by rw [done_tell hpa,told_none hs];exact g,fr⟩
    by_cases hc:(c.toNat:Int)=126
    · have hnp:isPaste w=false:=by
        cases hi:isPaste w with
        | false=>rfl
        | true=>exact absurd ⟨by omega,hi⟩ hpa
      simp only [isPaste,Bool.or_eq_false_iff,Bool.and_eq_false_iff,beq_eq_false_iff_ne,decide_eq_false_iff_not]at hnp
      obtain⟨n1,n2⟩:=hnp
      have n1': ¬ w= [(50:UInt8),(48:UInt8),(48:UInt8)]:=n1
      rcases n2 with n2 | n2
      · have n2': ¬ List.dropWhile (fun x=>x == 48) w= [(50:UInt8),(48:UInt8),(48:UInt8)]:=n2
        repeat' (first
          | exact True.intro
          | assumption
          | contradiction
          | exact hM (by kernel_rfl) (by kernel_rfl) (by kernel_rfl) (by kernel_rfl) (by kernel_rfl)
          | exact hT (by assumption) (by kernel_rfl) (by kernel_rfl) (by kernel_rfl) (by kernel_rfl) (by kernel_rfl) (by kernel_rfl) rfl
          | exact hN (by assumption) (by kernel_rfl) (by kernel_rfl) (by kernel_rfl) (by kernel_rfl) (by kernel_rfl) (by kernel_rfl) rfl
          | intro _
          | refine And.intro ?_ ?_
          | rfl
          | omega
          | exact tkA _ _ _)
      · have n2': ¬ (w.length:Int)≤9:=by omega
        repeat' (first
          | exact True.intro
          | assumption
          | contradiction
          | exact hM (by kernel_rfl) (by kernel_rfl) (by kernel_rfl) (by kernel_rfl) (by kernel_rfl)
          | exact hT (by assumption) (by kernel_rfl) (by kernel_rfl) (by kernel_rfl) (by kernel_rfl) (by kernel_rfl) (by kernel_rfl) rfl
          | exact hN (by assumption) (by kernel_rfl) (by kernel_rfl) (by kernel_rfl) (by kernel_rfl) (by kernel_rfl) (by kernel_rfl) rfl
          | intro _
          | refine And.intro ?_ ?_
          | rfl
          | omega
          | exact tkA _ _ _)
    · repeat' (first
        | exact True.intro
        | assumption
        | contradiction
        | exact hM (by kernel_rfl) (by kernel_rfl) (by kernel_rfl) (by kernel_rfl) (by kernel_rfl)
        | exact hT (by assumption) (by kernel_rfl) (by kernel_rfl) (by kernel_rfl) (by kernel_rfl) (by kernel_rfl) (by kernel_rfl) rfl
        | exact hN (by assumption) (by kernel_rfl) (by kernel_rfl) (by kernel_rfl) (by kernel_rfl) (by kernel_rfl) (by kernel_rfl) rfl
        | intro _
        | refine And.intro ?_ ?_
        | rfl
        | omega
        | exact tkA _ _ _)
theorem doneS_ok: ∀ args h a,doneS (2^30) args h=some a→a.Ok Tryz.prog cnd 105 args h:=by
  intro args h a e
  unfold doneS at e
  split at e<;>first | (cases e;done) | skip
  rename_i a w c
  simp only [Option.some.injEq]at e
  subst e
  intro hp
  have ha:=hp.head.at'
  obtain⟨_,⟨I,s,es,g,hes,hl,hn⟩,hc,hw⟩:=hp.head
  obtain⟨h',hd,I',g',fr⟩:=done_does (c:=byteI c) g hes hl hn hw
  rw [← ha,byteI_toNat hc]at hd
  refine⟨h',hd,⟨?_,fr.next⟩⟩
  intro I2 s2 es2 g2 hl2
  obtain⟨rfl,rfl,rfl⟩:=g.uniq g2 (by rw [hl];simp)
  exact⟨I',g',fr⟩
noncomputable def specs10:Specs:=specs9.add 105 (doneS (2^30))
theorem specs10_ok:SpecsOk Tryz.prog cnd specs10:=specs9_ok.add doneS_ok
abbrev zv66_0:HT:=(.br 5001 (.br 5004 .nil (hg 7007 (.br 8005 (hg 9005 .nil) .nil))) (hg 7007 (.br 8005 (hg 9005 .nil) .nil)))
abbrev zv66_1(f:Nat)(pv:AVal)(ov:AVal)(dty:Option (TypeId×Nat))(U:ABlk)(P:ABlk)(O:ABlk)(l:List AVal)(ver:Nat)(m:Nat)(fl:Nat)(len:Nat):AHeap:=(AHeap.rowsT 35 [(0,(zv35_11 f pv ov dty ver len)),(1,U),(2,(zv32_0 l ver m fl)),(3,P),(4,O)])
abbrev zv66_2(f:Nat)(pv:AVal)(ov:AVal)(dty:Option (TypeId×Nat))(U:ABlk)(P:ABlk)(O:ABlk)(l:List AVal)(ver:Nat)(m:Nat)(fl:Nat)(len:Nat)(c:Int):AHeap:=(AHeap.rowsT 56 [(0,(zv35_12 f pv ov dty ver len)),(1,U),(2,(zv35_3 l ver m fl c)),(3,P),(4,O),(45,ABlk.made [.int .u8 c] 1 true)])
abbrev zv66_3(f:Nat)(pv:AVal)(ov:AVal)(dty:Option (TypeId×Nat))(U:ABlk)(P:ABlk)(O:ABlk)(l:List AVal)(ver:Nat)(m:Nat)(fl:Nat)(len:Nat)(c:Int):AHeap:=(AHeap.rowsT 64 [(0,(zv35_12 f pv ov dty ver len)),(1,U),(2,(zv35_3 l ver m fl c)),(3,P),(4,O),(45,ABlk.made [.int .u8 c] 1 true)])
theorem sequence_vc(f:Nat)(pv ov:AVal)(dty:Option (TypeId×Nat))(U P O:ABlk)(l:List AVal)(ver m fl len:Nat)(c:Int)(K0:AVal→AHeap→Prop)(vc:(-9223372036854775808≤(len:Int)-1∧(len:Int)-1≤9223372036854775807)∧(0≤(len:Int)-1∧(len:Int)-1<(len:Int))∧ver=ver∧l[0+Int.toNat ((len:Int)-1)]? =some (.int .u8 (intAt l (0+Int.toNat ((len:Int)-1))))∧(64≤c→(c≤126→(ver=ver∧0+len=List.length l∧len<len+1∧(len+1+(len+1) / 4+512)*1≤281474976710656∧len+1<4611686018427387904)∧(-9223372036854775808≤(↑(len+1):Int)-1∧(↑(len+1):Int)-1≤9223372036854775807)∧((0:Int)≤2∧2≤(↑(len+1):Int)-1∧(↑(len+1):Int)-1≤(↑(len+1):Int))∧ver+1=ver+1∧2+(Int.toNat ((↑(len+1):Int)-1)-2)≤List.length (l++ [.int .u8 c])∧(∃ l_1,List.take (Int.toNat ((↑(len+1):Int)-1)-2) (List.drop (AAddr.idx {id:=2,ver:=ver+1,idx:=2,fld:=0,es:=1}) (ABlk.elems (zv35_3 l ver m fl c)))=bytesA l_1)∧DonePre (2^30) (AHeap.rowsT 51 [(0,(zv35_12 f pv ov dty ver len)),(1,U),(2,(zv35_3 l ver m fl c)),(3,P),(4,O),(31,ABlk.made [.int .u8 c] 1 true)]) ⟨0,0,0,0,6⟩ (strOf (List.take (Int.toNat ((↑(len+1):Int)-1)-2) (List.drop 2 (List.append l [.int .u8 c])))) c∧ ∀ (h3014:AHeap),DoneP (AHeap.rowsT 51 [(0,(zv35_12 f pv ov dty ver len)),(1,U),(2,(zv35_3 l ver m fl c)),(3,P),(4,O),(31,ABlk.made [.int .u8 c] 1 true)]) ⟨0,0,0,0,6⟩ (strOf (List.take (Int.toNat ((↑(len+1):Int)-1)-2) (List.drop 2 (List.append l [.int .u8 c])))) c h3014→bif Nat.ble 5 (h3014.next)then K0 (.tuple []) h3014 else False)∧(¬c≤126→(c<32→StepPre (2^30-8) badR (zv66_1 f pv ov dty U P O l ver m fl len) ⟨0,0,0,0,6⟩ c∧ ∀ (h6002:AHeap),StepP bad (zv66_1 f pv ov dty U P O l ver m fl len) ⟨0,0,0,0,6⟩ c h6002→bif Nat.ble 5 (h6002.next)then K0 (.tuple []) h6002 else False)∧(¬c<32→(63<c→StepPre (2^30-8) badR (zv66_1 f pv ov dty U P O l ver m fl len) ⟨0,0,0,0,6⟩ c∧ ∀ (h6002:AHeap),StepP bad (zv66_1 f pv ov dty U P O l ver m fl len) ⟨0,0,0,0,6⟩ c h6002→bif Nat.ble 5 (h6002.next)then K0 (.tuple []) h6002 else False)∧(¬63<c→(48≤c→(intAt l (0+Int.toNat ((len:Int)-1))<48→StepPre (2^30-8) badR (AHeap.rowsT 42 [(0,(zv35_11 f pv ov dty ver len)),(1,U),(2,(zv32_0 l ver m fl)),(3,P),(4,O)]) ⟨0,0,0,0,6⟩ c∧ ∀ (h6002:AHeap),StepP bad (AHeap.rowsT 42 [(0,(zv35_11 f pv ov dty ver len)),(1,U),(2,(zv32_0 l ver m fl)),(3,P),(4,O)]) ⟨0,0,0,0,6⟩ c h6002→bif Nat.ble 5 (h6002.next)then K0 (.tuple []) h6002 else False)∧(¬intAt l (0+Int.toNat ((len:Int)-1))<48→(ver=ver∧0+len=List.length l∧len<len+1∧(len+1+(len+1) / 4+512)*1≤281474976710656∧len+1<4611686018427387904)∧((↑(len+1):Int)=64→ver+1=ver+1∧0+(len+1)≤List.length (l++ [.int .u8 c])∧(∃ l_1,List.take (len+1) (List.drop (AAddr.idx {id:=2,ver:=ver+1,idx:=0,fld:=0,es:=1}) (ABlk.elems (zv35_3 l ver m fl c)))=bytesA l_1)∧TellPre (zv66_3 f pv ov dty U P O l ver m fl len c) ⟨0,0,0,0,6⟩ ((zv35_4 l len c))∧ ∀ (h9007:AHeap),TellP (zv66_3 f pv ov dty U P O l ver m fl len c) ⟨0,0,0,0,6⟩ ((zv35_4 l len c)) h9007→bif Nat.ble 5 (h9007.next)then K0 (.tuple []) h9007 else False)∧(¬(↑(len+1):Int)=64→K0 (.tuple []) (zv66_2 f pv ov dty U P O l ver m fl len c))))∧(¬48≤c→(ver=ver∧0+len=List.length l∧len<len+1∧(len+1+(len+1) / 4+512)*1≤281474976710656∧len+1<4611686018427387904)∧((↑(len+1):Int)=64→ver+1=ver+1∧0+(len+1)≤List.length (l++ [.int .u8 c])∧(∃ l_1,List.take (len+1) (List.drop (AAddr.idx {id:=2,ver:=ver+1,idx:=0,fld:=0,es:=1}) (ABlk.elems (zv35_3 l ver m fl c)))=bytesA l_1)∧TellPre (zv66_3 f pv ov dty U P O l ver m fl len c) ⟨0,0,0,0,6⟩ ((zv35_4 l len c))∧ ∀ (h9007:AHeap),TellP (zv66_3 f pv ov dty U P O l ver m fl len c) ⟨0,0,0,0,6⟩ ((zv35_4 l len c)) h9007→bif Nat.ble 5 (h9007.next)then K0 (.tuple []) h9007 else False)∧(¬(↑(len+1):Int)=64→K0 (.tuple []) (zv66_2 f pv ov dty U P O l ver m fl len c)))))))∧(¬64≤c→(c<32→StepPre (2^30-8) badR (zv66_1 f pv ov dty U P O l ver m fl len) ⟨0,0,0,0,6⟩ c∧ ∀ (h6002:AHeap),StepP bad (zv66_1 f pv ov dty U P O l ver m fl len) ⟨0,0,0,0,6⟩ c h6002→bif Nat.ble 5 (h6002.next)then K0 (.tuple []) h6002 else False)∧(¬c<32→(63<c→StepPre (2^30-8) badR (zv66_1 f pv ov dty U P O l ver m fl len) ⟨0,0,0,0,6⟩ c∧ ∀ (h6002:AHeap),StepP bad (zv66_1 f pv ov dty U P O l ver m fl len) ⟨0,0,0,0,6⟩ c h6002→bif Nat.ble 5 (h6002.next)then K0 (.tuple []) h6002 else False)∧(¬63<c→(48≤c→(intAt l (0+Int.toNat ((len:Int)-1))<48→StepPre (2^30-8) badR (AHeap.rowsT 42 [(0,(zv35_11 f pv ov dty ver len)),(1,U),(2,(zv32_0 l ver m fl)),(3,P),(4,O)]) ⟨0,0,0,0,6⟩ c∧ ∀ (h6002:AHeap),StepP bad (AHeap.rowsT 42 [(0,(zv35_11 f pv ov dty ver len)),(1,U),(2,(zv32_0 l ver m fl)),(3,P),(4,O)]) ⟨0,0,0,0,6⟩ c h6002→bif Nat.ble 5 (h6002.next)then K0 (.tuple []) h6002 else False)∧(¬intAt l (0+Int.toNat ((len:Int)-1))<48→(ver=ver∧0+len=List.length l∧len<len+1∧(len+1+(len+1) / 4+512)*1≤281474976710656∧len+1<4611686018427387904)∧((↑(len+1):Int)=64→ver+1=ver+1∧0+(len+1)≤List.length (l++ [.int .u8 c])∧(∃ l_1,List.take (len+1) (List.drop (AAddr.idx {id:=2,ver:=ver+1,idx:=0,fld:=0,es:=1}) (ABlk.elems (zv35_3 l ver m fl c)))=bytesA l_1)∧TellPre (zv66_3 f pv ov dty U P O l ver m fl len c) ⟨0,0,0,0,6⟩ ((zv35_4 l len c))∧ ∀ (h9007:AHeap),TellP (zv66_3 f pv ov dty U P O l ver m fl len c) ⟨0,0,0,0,6⟩ ((zv35_4 l len c)) h9007→bif Nat.ble 5 (h9007.next)then K0 (.tuple []) h9007 else False)∧(¬(↑(len+1):Int)=64→K0 (.tuple []) (zv66_2 f pv ov dty U P O l ver m fl len c))))∧(¬48≤c→(ver=ver∧0+len=List.length l∧len<len+1∧(len+1+(len+1) / 4+512)*1≤281474976710656∧len+1<4611686018427387904)∧((↑(len+1):Int)=64→ver+1=ver+1∧0+(len+1)≤List.length (l++ [.int .u8 c])∧(∃ l_1,List.take (len+1) (List.drop (AAddr.idx {id:=2,ver:=ver+1,idx:=0,fld:=0,es:=1}) (ABlk.elems (zv35_3 l ver m fl c)))=bytesA l_1)∧TellPre (zv66_3 f pv ov dty U P O l ver m fl len c) ⟨0,0,0,0,6⟩ ((zv35_4 l len c))∧ ∀ (h9007:AHeap),TellP (zv66_3 f pv ov dty U P O l ver m fl len c) ⟨0,0,0,0,6⟩ ((zv35_4 l len c)) h9007→bif Nat.ble 5 (h9007.next)then K0 (.tuple []) h9007 else False)∧(¬(↑(len+1):Int)=64→K0 (.tuple []) (zv66_2 f pv ov dty U P O l ver m fl len c))))))) :
    ∃ v h1,FDoes Tryz.prog cnd 87 [.ptr (some ⟨0,0,0,0,6⟩),.int .u8 c] (AHeap.of [dRowV 0 f 1 (.slice (some ⟨2,ver,0,0,1⟩) len len) pv false ov dty,U,gRowB l 1 ver m fl byteTy,P,O]) v h1∧K0 v h1 :=
  tcall_does env_ok mixed specs10_ok (hs:=hg 9 (hg 10 (hg 11 (.br 1001 (.br 1004 (hg 2007 (hg 3010 (hg 3011 (hg 3012 .nil)))) (.br 4001 .nil (.br 4004 .nil zv66_0))) (.br 4001 .nil (.br 4004 .nil zv66_0)))))) (by kernel_rfl) vc
end Go.Proofs.YtddnafghiejcoaaGreatDoor
