/-
  Parts of the proof of KeysBack.
-/
import Derived.Lib.Bytealg
import Derived.Shelf.Strings.OnBuilder
import Derived.Shelf.Strings.Repeat
import Derived.Lib.Atoi
import Derived.Lib.SlTrimSet
import Derived.Shelf.Strings.SlTrimAscii
import Derived.Shelf.Strconv.Atoi
import Derived.Lib.AtoiErrMem
import Derived.Shelf.Strings.Count
import Derived.Shelf.Strings.Search3
import Derived.Test.YtddnafghiejcoaaGreatDoorKKeysBackD
set_option linter.unusedVariables false
set_option linter.unusedSimpArgs false
namespace Go.Proofs.YtddnafghiejcoaaGreatDoor
open Go.cf Go.Keys
set_option maxRecDepth 1000000
abbrev qB(ad:Nat)(a0 av a2 a3 n c:Int):af:=⟨[.int .i32 (↑(List.getD (Prod.fst (b6 a0 av a2 a3 n c)) 0 0):Int),.int .i32 (↑(List.getD (Prod.fst (b6 a0 av a2 a3 n c)) 1 0):Int)],1,false,false,1,0,1,some (21,0)⟩
abbrev Ox:c':=(.aI 4005 (ak 6019 (ak 6023 Hp)) (ak 6019 (ak 6023 Hp)))
abbrev qC(f:Nat)(pv ov:aa)(dty uty:bL)(P O:af)(l:List aa)(ad m aG len:Nat)(a0 av a2 a3 n c:Int):J:=(J.ar 95 [(0,(hx f pv ov dty ad len)),(1,(gP uty ad a0 av a2 a3 n c)),(2,(ee l ad m aG)),(3,P),(4,O),(27,(cV c)),(30,(qB ad a0 av a2 a3 n c)),(71,af.an [.int .u8 c] 1 true)])
abbrev yC(f:Nat)(pv ov:aa)(dty uty:bL)(P O:af)(l:List aa)(ad m aG len:Nat)(a0 av a2 a3 n c:Int):J:=(J.ar 97 [(0,(hx f pv ov dty ad len)),(1,(gP uty ad a0 av a2 a3 n c)),(2,(ee l ad m aG)),(3,P),(4,O),(29,(cV c)),(32,(qB ad a0 av a2 a3 n c)),(73,af.an [.int .u8 c] 1 true)])
abbrev qD(f:Nat)(pv ov:aa)(dty uty:bL)(P O:af)(l:List aa)(ad m aG len:Nat)(a0 av a2 a3 n c:Int):J:=(J.ar 104 [(0,(hy f pv ov dty ad len)),(1,(gP uty ad a0 av a2 a3 n c)),(2,(dn l ad m aG c)),(3,P),(4,O),(27,(cV c)),(30,(qB ad a0 av a2 a3 n c)),(71,af.an [.int .u8 c] 1 true),(82,af.an [.int .u8 c] 1 true)])
abbrev qE(f:Nat)(pv ov:aa)(dty uty:bL)(P O:af)(l:List aa)(ad m aG len:Nat)(a0 av a2 a3 n c:Int):J:=(J.ar 105 [(0,(hy f pv ov dty ad len)),(1,(gP uty ad a0 av a2 a3 n c)),(2,(dn l ad m aG c)),(3,P),(4,O),(27,(cV c)),(30,(qB ad a0 av a2 a3 n c)),(71,af.an [.int .u8 c] 1 true),(82,af.an [.int .u8 c] 1 true)])
abbrev yD(f:Nat)(pv ov:aa)(dty uty:bL)(P O:af)(l:List aa)(ad m aG len:Nat)(a0 av a2 a3 n c:Int):J:=(J.ar 106 [(0,(hy f pv ov dty ad len)),(1,(gP uty ad a0 av a2 a3 n c)),(2,(dn l ad m aG c)),(3,P),(4,O),(29,(cV c)),(32,(qB ad a0 av a2 a3 n c)),(73,af.an [.int .u8 c] 1 true),(84,af.an [.int .u8 c] 1 true)])
abbrev yE(f:Nat)(pv ov:aa)(dty uty:bL)(P O:af)(l:List aa)(ad m aG len:Nat)(a0 av a2 a3 n c:Int):J:=(J.ar 107 [(0,(hy f pv ov dty ad len)),(1,(gP uty ad a0 av a2 a3 n c)),(2,(dn l ad m aG c)),(3,P),(4,O),(29,(cV c)),(32,(qB ad a0 av a2 a3 n c)),(73,af.an [.int .u8 c] 1 true),(84,af.an [.int .u8 c] 1 true)])
abbrev qF(f:Nat)(pv ov:aa)(dty uty:bL)(P O:af)(l:List aa)(ad m aG len:Nat)(a0 av a2 a3 n c:Int):J:=(J.ar 100 [(0,(hx f pv ov dty ad len)),(1,(pw uty ad a0 av a2 a3 n c)),(2,(ee l ad m aG)),(3,P),(4,O),(27,(cV c)),(30,(qB ad a0 av a2 a3 n c)),(71,af.an [.int .u8 c] 1 true),(95,af.an [.int .i32 65533] 1 true)])
abbrev yF(f:Nat)(pv ov:aa)(dty uty:bL)(P O:af)(l:List aa)(ad m aG len:Nat)(a0 av a2 a3 n c:Int):J:=(J.ar 102 [(0,(hx f pv ov dty ad len)),(1,(pw uty ad a0 av a2 a3 n c)),(2,(ee l ad m aG)),(3,P),(4,O),(29,(cV c)),(32,(qB ad a0 av a2 a3 n c)),(73,af.an [.int .u8 c] 1 true),(97,af.an [.int .i32 65533] 1 true)])
theorem YP(f:Nat)(pv ov:aa)(dty uty:bL)(P O:af)(l:List aa)(ad m aG len:Nat)(a0 av a2 a3 n c:Int)(ae:bI)(aW:(0<(len:Int)→((0:Int)≤0∧0<(len:Int))∧ad=ad∧l[0]? =some (.int .u8 (ba l 0))∧(ba l 0=27→ ¬(b6 a0 av a2 a3 n c).1=[]∧¬List.length (Prod.fst (b6 a0 av a2 a3 n c))=1∧ix a0 av a2 a3 n c∧(0<(↑(List.length (Prod.snd (b6 a0 av a2 a3 n c))):Int)→((0:Int)≤1∧1≤(len:Int)∧len≤len)∧ad=ad∧1+(len-1)≤List.length l∧(∃b3,List.take (len-1) (List.drop (bA.idx ⟨2,ad,1,0,1⟩) (af.bk (ee l ad m aG)))=aN b3)∧Nat.le (Nat.succ (List.length (strOf (List.take (len-1) (List.drop 1 l)))+List.length [UInt8.ofNat (Int.toNat c)])) (2^62)∧List.length (strOf (List.take (len-1) (List.drop 1 l))++[UInt8.ofNat (Int.toNat c)])<1099511627776∧(valid (strOf (List.take (len-1) (List.drop 1 l))++[UInt8.ofNat (Int.toNat c)])=true→(ad=ad∧0+len=List.length l∧len<len+1∧(len+1+(len+1)/4+512)*1≤281474976710656∧len+1<4611686018427387904)∧((0:Int)≤1∧1≤(↑(len+1):Int)∧len+1≤len+1)∧ad+1=ad+1∧1+(len+1-1)≤List.length (l++[.int .u8 c])∧(∃b3,List.take (len+1-1) (List.drop (bA.idx {id:=2,ad:=ad+1,idx:=1,fld:=0,es:=1}) (af.bk (dn l ad m aG c)))=aN b3)∧List.length (strOf (List.take (len+1-1) (List.drop 1 (List.append l [.int .u8 c]))))<1099511627776∧(valid (strOf (List.take (len+1-1) (List.drop 1 (List.append l [.int .u8 c]))))=true→cq (yD f pv ov dty uty P O l ad m aG len a0 av a2 a3 n c) ⟨0,0,0,0,6⟩ ((ie a0 av a2 a3 n c))∧∀(cl:J),cr (yD f pv ov dty uty P O l ad m aG len a0 av a2 a3 n c) ⟨0,0,0,0,6⟩ ((ie a0 av a2 a3 n c)) cl→bC 5 (cl.U) (ae (.tuple []) cl))∧(valid (strOf (List.take (len+1-1) (List.drop 1 (List.append l [.int .u8 c]))))=false→ad+1=ad+1∧0+(len+1)≤List.length (l++[.int .u8 c])∧(∃b3,List.take (len+1) (List.drop (bA.idx {id:=2,ad:=ad+1,idx:=0,fld:=0,es:=1}) (af.bk (dn l ad m aG c)))=aN b3)∧cq (yE f pv ov dty uty P O l ad m aG len a0 av a2 a3 n c) ⟨0,0,0,0,6⟩ ((ef l len c))∧∀(b5:J),cr (yE f pv ov dty uty P O l ad m aG len a0 av a2 a3 n c) ⟨0,0,0,0,6⟩ ((ef l len c)) b5→bC 5 (b5.U) (ae (.tuple []) b5)))∧(valid (strOf (List.take (len-1) (List.drop 1 l))++[UInt8.ofNat (Int.toNat c)])=false→((↑(List.length (Prod.snd (b6 a0 av a2 a3 n c))):Int)=0→dA (2^30-8) ez (yC f pv ov dty uty P O l ad m aG len a0 av a2 a3 n c) ⟨0,0,0,0,6⟩ c∧∀(cg:J),dB bad (yC f pv ov dty uty P O l ad m aG len a0 av a2 a3 n c) ⟨0,0,0,0,6⟩ c cg→bC 5 (cg.U) (ae (.tuple []) cg))∧(¬(↑(List.length (Prod.snd (b6 a0 av a2 a3 n c))):Int)=0→dA (2^30-8) ez (yF f pv ov dty uty P O l ad m aG len a0 av a2 a3 n c) ⟨0,0,0,0,6⟩ c∧∀(cg:J),dB bad (yF f pv ov dty uty P O l ad m aG len a0 av a2 a3 n c) ⟨0,0,0,0,6⟩ c cg→bC 5 (cg.U) (ae (.tuple []) cg))))∧(¬0<(↑(List.length (Prod.snd (b6 a0 av a2 a3 n c))):Int)→((0:Int)≤1∧1≤(len:Int)∧len≤len)∧ad=ad∧1+(len-1)≤List.length l∧(∃b3,List.take (len-1) (List.drop (bA.idx ⟨2,ad,1,0,1⟩) (af.bk (ee l ad m aG)))=aN b3)∧Nat.le (Nat.succ (List.length (strOf (List.take (len-1) (List.drop 1 l)))+List.length [UInt8.ofNat (Int.toNat c)])) (2^62)∧List.length (strOf (List.take (len-1) (List.drop 1 l))++[UInt8.ofNat (Int.toNat c)])<1099511627776∧(valid (strOf (List.take (len-1) (List.drop 1 l))++[UInt8.ofNat (Int.toNat c)])=true→(ad=ad∧0+len=List.length l∧len<len+1∧(len+1+(len+1)/4+512)*1≤281474976710656∧len+1<4611686018427387904)∧((0:Int)≤1∧1≤(↑(len+1):Int)∧len+1≤len+1)∧ad+1=ad+1∧1+(len+1-1)≤List.length (l++[.int .u8 c])∧(∃b3,List.take (len+1-1) (List.drop (bA.idx {id:=2,ad:=ad+1,idx:=1,fld:=0,es:=1}) (af.bk (dn l ad m aG c)))=aN b3)∧List.length (strOf (List.take (len+1-1) (List.drop 1 (List.append l [.int .u8 c]))))<1099511627776∧(valid (strOf (List.take (len+1-1) (List.drop 1 (List.append l [.int .u8 c]))))=true→cq (yD f pv ov dty uty P O l ad m aG len a0 av a2 a3 n c) ⟨0,0,0,0,6⟩ ((ie a0 av a2 a3 n c))∧∀(cl:J),cr (yD f pv ov dty uty P O l ad m aG len a0 av a2 a3 n c) ⟨0,0,0,0,6⟩ ((ie a0 av a2 a3 n c)) cl→bC 5 (cl.U) (ae (.tuple []) cl))∧(valid (strOf (List.take (len+1-1) (List.drop 1 (List.append l [.int .u8 c]))))=false→ad+1=ad+1∧0+(len+1)≤List.length (l++[.int .u8 c])∧(∃b3,List.take (len+1) (List.drop (bA.idx {id:=2,ad:=ad+1,idx:=0,fld:=0,es:=1}) (af.bk (dn l ad m aG c)))=aN b3)∧cq (yE f pv ov dty uty P O l ad m aG len a0 av a2 a3 n c) ⟨0,0,0,0,6⟩ ((ef l len c))∧∀(b5:J),cr (yE f pv ov dty uty P O l ad m aG len a0 av a2 a3 n c) ⟨0,0,0,0,6⟩ ((ef l len c)) b5→bC 5 (b5.U) (ae (.tuple []) b5)))∧(valid (strOf (List.take (len-1) (List.drop 1 l))++[UInt8.ofNat (Int.toNat c)])=false→((↑(List.length (Prod.snd (b6 a0 av a2 a3 n c))):Int)=0→dA (2^30-8) ez (yC f pv ov dty uty P O l ad m aG len a0 av a2 a3 n c) ⟨0,0,0,0,6⟩ c∧∀(cg:J),dB bad (yC f pv ov dty uty P O l ad m aG len a0 av a2 a3 n c) ⟨0,0,0,0,6⟩ c cg→bC 5 (cg.U) (ae (.tuple []) cg))∧(¬(↑(List.length (Prod.snd (b6 a0 av a2 a3 n c))):Int)=0→dA (2^30-8) ez (yF f pv ov dty uty P O l ad m aG len a0 av a2 a3 n c) ⟨0,0,0,0,6⟩ c∧∀(cg:J),dB bad (yF f pv ov dty uty P O l ad m aG len a0 av a2 a3 n c) ⟨0,0,0,0,6⟩ c cg→bC 5 (cg.U) (ae (.tuple []) cg)))))∧(¬ba l 0=27→ ¬(b6 a0 av a2 a3 n c).1=[]∧¬List.length (Prod.fst (b6 a0 av a2 a3 n c))=1∧ix a0 av a2 a3 n c∧(0<(↑(List.length (Prod.snd (b6 a0 av a2 a3 n c))):Int)→ad=ad∧0+(len-0)≤List.length l∧(∃b3,List.take (len-0) (List.drop (bA.idx ⟨2,ad,0,0,1⟩) (af.bk (ee l ad m aG)))=aN b3)∧Nat.le (Nat.succ (List.length (strOf (List.take (len-0) l))+List.length [UInt8.ofNat (Int.toNat c)])) (2^62)∧List.length (strOf (List.take (len-0) l)++[UInt8.ofNat (Int.toNat c)])<1099511627776∧(valid (strOf (List.take (len-0) l)++[UInt8.ofNat (Int.toNat c)])=true→(ad=ad∧0+len=List.length l∧len<len+1∧(len+1+(len+1)/4+512)*1≤281474976710656∧len+1<4611686018427387904)∧ad+1=ad+1∧0+(len+1-0)≤List.length (l++[.int .u8 c])∧(∃b3,List.take (len+1-0) (List.drop (bA.idx {id:=2,ad:=ad+1,idx:=0,fld:=0,es:=1}) (af.bk (dn l ad m aG c)))=aN b3)∧List.length (strOf (List.take (len+1-0) (List.drop 0 (List.append l [.int .u8 c]))))<1099511627776∧(valid (strOf (List.take (len+1-0) (List.drop 0 (List.append l [.int .u8 c]))))=true→cq (qD f pv ov dty uty P O l ad m aG len a0 av a2 a3 n c) ⟨0,0,0,0,6⟩ ((fQ a0 av a2 a3 n c))∧∀(cl:J),cr (qD f pv ov dty uty P O l ad m aG len a0 av a2 a3 n c) ⟨0,0,0,0,6⟩ ((fQ a0 av a2 a3 n c)) cl→bC 5 (cl.U) (ae (.tuple []) cl))∧(valid (strOf (List.take (len+1-0) (List.drop 0 (List.append l [.int .u8 c]))))=false→ad+1=ad+1∧0+(len+1)≤List.length (l++[.int .u8 c])∧(∃b3,List.take (len+1) (List.drop (bA.idx {id:=2,ad:=ad+1,idx:=0,fld:=0,es:=1}) (af.bk (dn l ad m aG c)))=aN b3)∧cq (qE f pv ov dty uty P O l ad m aG len a0 av a2 a3 n c) ⟨0,0,0,0,6⟩ ((ef l len c))∧∀(b5:J),cr (qE f pv ov dty uty P O l ad m aG len a0 av a2 a3 n c) ⟨0,0,0,0,6⟩ ((ef l len c)) b5→bC 5 (b5.U) (ae (.tuple []) b5)))∧(valid (strOf (List.take (len-0) l)++[UInt8.ofNat (Int.toNat c)])=false→((↑(List.length (Prod.snd (b6 a0 av a2 a3 n c))):Int)=0→dA (2^30-8) ez (qC f pv ov dty uty P O l ad m aG len a0 av a2 a3 n c) ⟨0,0,0,0,6⟩ c∧∀(cg:J),dB bad (qC f pv ov dty uty P O l ad m aG len a0 av a2 a3 n c) ⟨0,0,0,0,6⟩ c cg→bC 5 (cg.U) (ae (.tuple []) cg))∧(¬(↑(List.length (Prod.snd (b6 a0 av a2 a3 n c))):Int)=0→dA (2^30-8) ez (qF f pv ov dty uty P O l ad m aG len a0 av a2 a3 n c) ⟨0,0,0,0,6⟩ c∧∀(cg:J),dB bad (qF f pv ov dty uty P O l ad m aG len a0 av a2 a3 n c) ⟨0,0,0,0,6⟩ c cg→bC 5 (cg.U) (ae (.tuple []) cg))))∧(¬0<(↑(List.length (Prod.snd (b6 a0 av a2 a3 n c))):Int)→ad=ad∧0+(len-0)≤List.length l∧(∃b3,List.take (len-0) (List.drop (bA.idx ⟨2,ad,0,0,1⟩) (af.bk (ee l ad m aG)))=aN b3)∧Nat.le (Nat.succ (List.length (strOf (List.take (len-0) l))+List.length [UInt8.ofNat (Int.toNat c)])) (2^62)∧List.length (strOf (List.take (len-0) l)++[UInt8.ofNat (Int.toNat c)])<1099511627776∧(valid (strOf (List.take (len-0) l)++[UInt8.ofNat (Int.toNat c)])=true→(ad=ad∧0+len=List.length l∧len<len+1∧(len+1+(len+1)/4+512)*1≤281474976710656∧len+1<4611686018427387904)∧ad+1=ad+1∧0+(len+1-0)≤List.length (l++[.int .u8 c])∧(∃b3,List.take (len+1-0) (List.drop (bA.idx {id:=2,ad:=ad+1,idx:=0,fld:=0,es:=1}) (af.bk (dn l ad m aG c)))=aN b3)∧List.length (strOf (List.take (len+1-0) (List.drop 0 (List.append l [.int .u8 c]))))<1099511627776∧(valid (strOf (List.take (len+1-0) (List.drop 0 (List.append l [.int .u8 c]))))=true→cq (qD f pv ov dty uty P O l ad m aG len a0 av a2 a3 n c) ⟨0,0,0,0,6⟩ ((fQ a0 av a2 a3 n c))∧∀(cl:J),cr (qD f pv ov dty uty P O l ad m aG len a0 av a2 a3 n c) ⟨0,0,0,0,6⟩ ((fQ a0 av a2 a3 n c)) cl→bC 5 (cl.U) (ae (.tuple []) cl))∧(valid (strOf (List.take (len+1-0) (List.drop 0 (List.append l [.int .u8 c]))))=false→ad+1=ad+1∧0+(len+1)≤List.length (l++[.int .u8 c])∧(∃b3,List.take (len+1) (List.drop (bA.idx {id:=2,ad:=ad+1,idx:=0,fld:=0,es:=1}) (af.bk (dn l ad m aG c)))=aN b3)∧cq (qE f pv ov dty uty P O l ad m aG len a0 av a2 a3 n c) ⟨0,0,0,0,6⟩ ((ef l len c))∧∀(b5:J),cr (qE f pv ov dty uty P O l ad m aG len a0 av a2 a3 n c) ⟨0,0,0,0,6⟩ ((ef l len c)) b5→bC 5 (b5.U) (ae (.tuple []) b5)))∧(valid (strOf (List.take (len-0) l)++[UInt8.ofNat (Int.toNat c)])=false→((↑(List.length (Prod.snd (b6 a0 av a2 a3 n c))):Int)=0→dA (2^30-8) ez (qC f pv ov dty uty P O l ad m aG len a0 av a2 a3 n c) ⟨0,0,0,0,6⟩ c∧∀(cg:J),dB bad (qC f pv ov dty uty P O l ad m aG len a0 av a2 a3 n c) ⟨0,0,0,0,6⟩ c cg→bC 5 (cg.U) (ae (.tuple []) cg))∧(¬(↑(List.length (Prod.snd (b6 a0 av a2 a3 n c))):Int)=0→dA (2^30-8) ez (qF f pv ov dty uty P O l ad m aG len a0 av a2 a3 n c) ⟨0,0,0,0,6⟩ c∧∀(cg:J),dB bad (qF f pv ov dty uty P O l ad m aG len a0 av a2 a3 n c) ⟨0,0,0,0,6⟩ c cg→bC 5 (cg.U) (ae (.tuple []) cg))))))∧(¬0<(len:Int)→ ¬(b6 a0 av a2 a3 n c).1=[]∧¬List.length (Prod.fst (b6 a0 av a2 a3 n c))=1∧ix a0 av a2 a3 n c∧(0<(↑(List.length (Prod.snd (b6 a0 av a2 a3 n c))):Int)→ad=ad∧0+(len-0)≤List.length l∧(∃b3,List.take (len-0) (List.drop (bA.idx ⟨2,ad,0,0,1⟩) (af.bk (ee l ad m aG)))=aN b3)∧Nat.le (Nat.succ (List.length (strOf (List.take (len-0) l))+List.length [UInt8.ofNat (Int.toNat c)])) (2^62)∧List.length (strOf (List.take (len-0) l)++[UInt8.ofNat (Int.toNat c)])<1099511627776∧(valid (strOf (List.take (len-0) l)++[UInt8.ofNat (Int.toNat c)])=true→(ad=ad∧0+len=List.length l∧len<len+1∧(len+1+(len+1)/4+512)*1≤281474976710656∧len+1<4611686018427387904)∧ad+1=ad+1∧0+(len+1-0)≤List.length (l++[.int .u8 c])∧(∃b3,List.take (len+1-0) (List.drop (bA.idx {id:=2,ad:=ad+1,idx:=0,fld:=0,es:=1}) (af.bk (dn l ad m aG c)))=aN b3)∧List.length (strOf (List.take (len+1-0) (List.drop 0 (List.append l [.int .u8 c]))))<1099511627776∧(valid (strOf (List.take (len+1-0) (List.drop 0 (List.append l [.int .u8 c]))))=true→cq (qD f pv ov dty uty P O l ad m aG len a0 av a2 a3 n c) ⟨0,0,0,0,6⟩ ((fQ a0 av a2 a3 n c))∧∀(cl:J),cr (qD f pv ov dty uty P O l ad m aG len a0 av a2 a3 n c) ⟨0,0,0,0,6⟩ ((fQ a0 av a2 a3 n c)) cl→bC 5 (cl.U) (ae (.tuple []) cl))∧(valid (strOf (List.take (len+1-0) (List.drop 0 (List.append l [.int .u8 c]))))=false→ad+1=ad+1∧0+(len+1)≤List.length (l++[.int .u8 c])∧(∃b3,List.take (len+1) (List.drop (bA.idx {id:=2,ad:=ad+1,idx:=0,fld:=0,es:=1}) (af.bk (dn l ad m aG c)))=aN b3)∧cq (qE f pv ov dty uty P O l ad m aG len a0 av a2 a3 n c) ⟨0,0,0,0,6⟩ ((ef l len c))∧∀(b5:J),cr (qE f pv ov dty uty P O l ad m aG len a0 av a2 a3 n c) ⟨0,0,0,0,6⟩ ((ef l len c)) b5→bC 5 (b5.U) (ae (.tuple []) b5)))∧(valid (strOf (List.take (len-0) l)++[UInt8.ofNat (Int.toNat c)])=false→((↑(List.length (Prod.snd (b6 a0 av a2 a3 n c))):Int)=0→dA (2^30-8) ez (qC f pv ov dty uty P O l ad m aG len a0 av a2 a3 n c) ⟨0,0,0,0,6⟩ c∧∀(cg:J),dB bad (qC f pv ov dty uty P O l ad m aG len a0 av a2 a3 n c) ⟨0,0,0,0,6⟩ c cg→bC 5 (cg.U) (ae (.tuple []) cg))∧(¬(↑(List.length (Prod.snd (b6 a0 av a2 a3 n c))):Int)=0→dA (2^30-8) ez (qF f pv ov dty uty P O l ad m aG len a0 av a2 a3 n c) ⟨0,0,0,0,6⟩ c∧∀(cg:J),dB bad (qF f pv ov dty uty P O l ad m aG len a0 av a2 a3 n c) ⟨0,0,0,0,6⟩ c cg→bC 5 (cg.U) (ae (.tuple []) cg))))∧(¬0<(↑(List.length (Prod.snd (b6 a0 av a2 a3 n c))):Int)→ad=ad∧0+(len-0)≤List.length l∧(∃b3,List.take (len-0) (List.drop (bA.idx ⟨2,ad,0,0,1⟩) (af.bk (ee l ad m aG)))=aN b3)∧Nat.le (Nat.succ (List.length (strOf (List.take (len-0) l))+List.length [UInt8.ofNat (Int.toNat c)])) (2^62)∧List.length (strOf (List.take (len-0) l)++[UInt8.ofNat (Int.toNat c)])<1099511627776∧(valid (strOf (List.take (len-0) l)++[UInt8.ofNat (Int.toNat c)])=true→(ad=ad∧0+len=List.length l∧len<len+1∧(len+1+(len+1)/4+512)*1≤281474976710656∧len+1<4611686018427387904)∧ad+1=ad+1∧0+(len+1-0)≤List.length (l++[.int .u8 c])∧(∃b3,List.take (len+1-0) (List.drop (bA.idx {id:=2,ad:=ad+1,idx:=0,fld:=0,es:=1}) (af.bk (dn l ad m aG c)))=aN b3)∧List.length (strOf (List.take (len+1-0) (List.drop 0 (List.append l [.int .u8 c]))))<1099511627776∧(valid (strOf (List.take (len+1-0) (List.drop 0 (List.append l [.int .u8 c]))))=true→cq (qD f pv ov dty uty P O l ad m aG len a0 av a2 a3 n c) ⟨0,0,0,0,6⟩ ((fQ a0 av a2 a3 n c))∧∀(cl:J),cr (qD f pv ov dty uty P O l ad m aG len a0 av a2 a3 n c) ⟨0,0,0,0,6⟩ ((fQ a0 av a2 a3 n c)) cl→bC 5 (cl.U) (ae (.tuple []) cl))∧(valid (strOf (List.take (len+1-0) (List.drop 0 (List.append l [.int .u8 c]))))=false→ad+1=ad+1∧0+(len+1)≤List.length (l++[.int .u8 c])∧(∃b3,List.take (len+1) (List.drop (bA.idx {id:=2,ad:=ad+1,idx:=0,fld:=0,es:=1}) (af.bk (dn l ad m aG c)))=aN b3)∧cq (qE f pv ov dty uty P O l ad m aG len a0 av a2 a3 n c) ⟨0,0,0,0,6⟩ ((ef l len c))∧∀(b5:J),cr (qE f pv ov dty uty P O l ad m aG len a0 av a2 a3 n c) ⟨0,0,0,0,6⟩ ((ef l len c)) b5→bC 5 (b5.U) (ae (.tuple []) b5)))∧(valid (strOf (List.take (len-0) l)++[UInt8.ofNat (Int.toNat c)])=false→((↑(List.length (Prod.snd (b6 a0 av a2 a3 n c))):Int)=0→dA (2^30-8) ez (qC f pv ov dty uty P O l ad m aG len a0 av a2 a3 n c) ⟨0,0,0,0,6⟩ c∧∀(cg:J),dB bad (qC f pv ov dty uty P O l ad m aG len a0 av a2 a3 n c) ⟨0,0,0,0,6⟩ c cg→bC 5 (cg.U) (ae (.tuple []) cg))∧(¬(↑(List.length (Prod.snd (b6 a0 av a2 a3 n c))):Int)=0→dA (2^30-8) ez (qF f pv ov dty uty P O l ad m aG len a0 av a2 a3 n c) ⟨0,0,0,0,6⟩ c∧∀(cg:J),dB bad (qF f pv ov dty uty P O l ad m aG len a0 av a2 a3 n c) ⟨0,0,0,0,6⟩ c cg→bC 5 (cg.U) (ae (.tuple []) cg)))))) :
 b4 90 [.ptr (aJ 0),.int .u8 c] (J.of [b0 0 f 1 (.slice (some ⟨2,ad,0,0,1⟩) len len) pv false ov dty,hg a0 av a2 a3 n uty,ct l 1 ad m aG cA,P,O]) ae :=
 b9 YL (.aI 1005 (ak 1011 (ak 1012 (.aI 1013 (he 4004 (.aI 4005 (ak 6018 (ak 6019 B1)) (ak 6018 (ak 6019 B1)))) (he 4004 Ox)))) (he 4004 Ox)) aW
theorem vE(b:UInt8):eo (b.toNat:Int)=b:=by unfold eo;simp
theorem Oy:∀(aF:Bytes)(j0 j1 j2 j3:Int),aF.length≤4→og (b8 aF 0 j0) (b8 aF 1 j1) (b8 aF 2 j2) (b8 aF 3 j3) aF.length=aF
 |[],_,_,_,_,_=>rfl
 |[a],_,_,_,_,_=>by simp [og,b8,vE]
 |[a,b],_,_,_,_,_=>by simp [og,b8,vE]
 |[a,b,c],_,_,_,_,_=>by simp [og,b8,vE]
 |[a,b,c,d],_,_,_,_,_=>by simp [og,b8,vE]
 |_::_::_::_::_::_,_,_,_,_,h=>by simp at h
theorem Hq(aF:Bytes)(j0 j1 j2 j3:Int)(c:UInt8)(h:aF.length≤4):b6 (b8 aF 0 j0) (b8 aF 1 j1) (b8 aF 2 j2) (b8 aF 3 j3) aF.length c.toNat=b' aF c:=by unfold b6;rw [Oy aF _ _ _ _ h,vE]
theorem Hr(aF:Bytes)(i:Nat)(j:Int)(h:i<aF.length):0≤b8 aF i j∧b8 aF i j≤255:=by
 have:∃b:UInt8,b8 aF i j=(b.toNat:Int):=by unfold b8;rw [List.getElem?_eq_getElem h];exact⟨_,rfl⟩
 obtain⟨b,e⟩:=this;have:=b.toNat_lt;rw [e];omega
theorem Hs(aF:Bytes)(j0 j1 j2 j3:Int)(c:UInt8)(h:aF.length≤3)(ao:(first aF).2.2=true):ix (b8 aF 0 j0) (b8 aF 1 j1) (b8 aF 2 j2) (b8 aF 3 j3) aF.length c.toNat where
 aR:= ab
 aA:=fun k=>Hr _ _ _ ab
 a':=fun k=>Hr _ _ _ ab
 bP:=fun k=>Hr _ _ _ ab
 aw:=by have:=c.toNat_lt;omega
 op:= .inr (by rw [Oy aF _ _ _ _ ab];exact ao)
theorem px(x:Bytes)(n k:Nat):∃l,List.take n (List.drop k (aN x))=aN l:=⟨(x.drop k).take n,by simp [aN,List.map_drop,List.map_take]⟩
theorem nw(x:Bytes)(c:UInt8):aN x++[aa.int .u8 c.toNat]=aN (x++[c]):=by simp [aN]
theorem B3(x:Bytes)(c:UInt8)(n k:Nat):∃l,List.take n (List.drop k (aN x++[aa.int .u8 c.toNat]))=aN l:=by rw [nw];exact px _ _ _
theorem oq(x:Bytes):(aN x).length=x.length:=by simp [aN]
theorem B4(x:Bytes)(c:UInt8):(aN x++[aa.int .u8 c.toNat]).length=x.length+1:=by simp [aN]
theorem Ht(x:Bytes)(n k:Nat)(h:n=(x.drop k).length):List.take n (List.drop k (aN x))=aN (x.drop k):=by
 subst h;have:=yl (x.drop k)
 rwa [show aN (List.drop k x)=List.drop k (aN x)by simp [aN,List.map_drop]]at this⊢
theorem Hu(x:Bytes):strOf (List.take (x.length-1) (List.drop 1 (aN x)))=x.drop 1:=by rw [Ht _ _ _ aM,jh]
theorem Hv(x:Bytes):strOf (List.take (x.length-0) (aN x))=x:=by rw [Nat.sub_zero,yl,jh]
theorem Hw(x:Bytes)(c:UInt8):strOf (List.take (x.length+1-1) (List.drop 1 (List.append (aN x) [aa.int .u8 c.toNat])))=(x++[c]).drop 1:=by show strOf (List.take _ (List.drop 1 (aN x++_)))=_;rw [nw,Ht _ _ _ aM,jh]
theorem B5(x:Bytes)(c:UInt8):strOf (List.take (x.length+1-0) (List.drop 0 (List.append (aN x) [aa.int .u8 c.toNat])))=x++[c]:=by show strOf (List.take _ (List.drop 0 (aN x++_)))=_;rw [nw,Ht _ _ _ aM,jh];rfl
theorem B6(x:Bytes)(c:UInt8):strOf (List.take (x.length+1) (List.drop 0 (List.append (aN x) [aa.int .u8 c.toNat])))=x++[c]:=B5 x c
theorem tI{D bj K P O:af}{h:J}{f:Nat}{pv ov cD:aa}{ty uty:bL}{ad m aG len:Nat}{l:List aa}{al aF aD:Bytes}{es:List bl}{e:bl}{a7:cp}{j0 j1 j2 j3:Int}(bF:Nat.ble 5 h.U=true)(e0:h.get 0=some (b0 0 f 1 (.slice (some ⟨2,ad,0,0,1⟩) len len) pv false ov ty))(bi:h.get 1=some (cb aF j0 j1 j2 j3 uty))
 (bu:h.get 2=some (ct l 1 ad m aG cA)) (b7:h.get 3=some P) (cc:h.get 4=some O) (hlen:len=al.length) (hle:l=aN al) (ah:jm (J.of [D,bj,K,P,O]) 0 a7.p pv aD) (ao:jn (J.of [D,bj,K,P,O]) 0 a7.o ov es) (cL:a7.u=1∧(a7.k=0∨a7.k=2)∧(a7.p=0∨a7.p=3)∧(a7.o=0∨a7.o=4)) (cn:a7.k=2)
 (he:cD=cB e) (ck:es.length<2^30) (aC:aF.length≤4) {R:J→Prop} (dX:∀ag aO,ci ag 0 aO ⟨.ground,[],aF,aD⟩ (es++[e])→Fr (J.of [D,bj,K,P,O]) ag 0 a7 aO→R ag) :
 cq h ⟨0,0,0,0,6⟩ cD∧∀ag,cr h ⟨0,0,0,0,6⟩ cD ag→_root_.cond (Nat.ble 5 ag.U) (R ag) False:=by
 have bF:=Nat.le_of_ble_eq_true bF;exact tE rfl bF (iy rfl bF e0 bi (.inr cn) b7 cc (oj aS hlen hle bu) ab ah ao cL (.inr (.inr ⟨rfl,cn⟩))) he ck aC fun ag aO g cF=>dX ag aO (yd g) cF
theorem sd{D bj K P O:af}{h:J}{pv ov:aa}{ty uty:bL}{ad m aG:Nat}{al aD:Bytes}{es:List bl}{a7:cp}{j0 j1 j2 j3:Int}{c:UInt8}(bF:Nat.ble 5 h.U=true)(e0:h.get 0=some (b0 0 (cy .da) 1 (.slice (some ⟨2,ad,0,0,1⟩) al.length al.length) pv false ov ty))(bi:h.get 1=some (cb [] j0 j1 j2 j3 uty))
 (bu:h.get 2=some (ct (aN al) 1 ad m aG cA)) (b7:h.get 3=some P) (cc:h.get 4=some O) (gx:al≠[]) (ah:jm (J.of [D,bj,K,P,O]) 0 a7.p pv aD) (ao:jn (J.of [D,bj,K,P,O]) 0 a7.o ov es) (cL:a7.u=1∧(a7.k=0∨a7.k=2)∧(a7.p=0∨a7.p=3)∧(a7.o=0∨a7.o=4)) (cn:a7.k=2)
 (ck:es.length<2^30-8) {R:J→Prop} (dX:∀ag aO,ci ag 0 aO (Keys.bad ⟨.da,al,[],aD⟩ c).1 (es++(Keys.bad ⟨.da,al,[],aD⟩ c).2)→Fr (J.of [D,bj,K,P,O]) ag 0 a7 aO→R ag) :
 dA (2^30-8) ez h ⟨0,0,0,0,6⟩ c.toNat∧∀ag,dB Keys.bad h ⟨0,0,0,0,6⟩ c.toNat ag→_root_.cond (Nat.ble 5 ag.U) (R ag) False:=by
 have bF:=Nat.le_of_ble_eq_true bF;exact yh (s:=⟨.da,al,[],aD⟩) rfl bF (BX (ks:= .grown []) (iy rfl bF e0 bi (.inr cn) b7 cc (oj aS rfl rfl bu) ab ah ao cL (.inr (.inr ⟨rfl,cn⟩))) gx) ck aM ⟨rfl,.inl rfl⟩ dX
theorem YQ{D bj K P O:af}{h:J}{pv ov:aa}{ty uty:bL}{ad m aG len:Nat}{l:List aa}{al aF aD:Bytes}{es:List bl}{a7:cp}{j0 j1 j2 j3:Int}(bF:Nat.ble 5 h.U=true)(e0:h.get 0=some (b0 0 (cy .da) 1 (.slice (some ⟨2,ad,0,0,1⟩) len len) pv false ov ty))(bi:h.get 1=some (cb aF j0 j1 j2 j3 uty))
 (bu:h.get 2=some (ct l 1 ad m aG cA)) (b7:h.get 3=some P) (cc:h.get 4=some O) (hlen:len=al.length) (hle:l=aN al) (gx:al≠[]) (ah:jm (J.of [D,bj,K,P,O]) 0 a7.p pv aD) (ao:jn (J.of [D,bj,K,P,O]) 0 a7.o ov es) (cL:a7.u=1∧(a7.k=0∨a7.k=2)∧(a7.p=0∨a7.p=3)∧(a7.o=0∨a7.o=4)) (cn:a7.k=2) :
 ∃aO,ci h 0 aO ⟨.da,al,aF,aD⟩ es∧Fr (J.of [D,bj,K,P,O]) h 0 a7 aO:=by
 have bF:=Nat.le_of_ble_eq_true bF;exact pr (s:=⟨.da,al,aF,aD⟩) (ks:= .grown []) (iy rfl bF e0 bi (.inr cn) b7 cc (oj aS hlen hle bu) ab ah ao cL (.inr (.inr ⟨rfl,cn⟩))) gx
set_option maxHeartbeats 4000000
theorem rY{b:Bool}(h:b=true)(k:b=false):False:=by rw [h]at k;cases k
set_option hygiene false in
theorem YR{pv ov:aa}{ty uty:bL}{P O:af}{al aF:Bytes}{c:UInt8}{j0 j1 j2 j3:Int}{ad m aG:Nat}{x:UInt8}{t:Bytes}(iP:al=x::t)(bU:aF.length≤3)(gZ:(first aF).2.2=true)(aB:(b' aF c).1=[])(hlen:al.length=at' al+aF.length)(bX:0<aF.length)(bf:¬(0:Int)<(b' aF c).2.length→False)(ae:bI)
 (py:∀{h:J},Nat.ble 5 h.U=true→h.get 0=some (b0 0 (cy .da) 1 (.slice (some ⟨2,ad+1,0,0,1⟩) (al.length+1) (al.length+1)) pv false ov ty)→h.get 1=some (cb (b' aF c).2 (b8 aF 0 j0) (b8 aF 1 j1) (b8 aF 2 j2) (b8 aF 3 j3) uty)→h.get 2=some (ct (aN al++[.int .u8 c.toNat]) 1 (ad+1) m (if m=ad then(aN al).length else min aG (aN al).length) cA)→h.get 3=some P→h.get 4=some O→ae (.tuple []) h) :
 ∃v ag,bS 90 [.ptr (some ⟨0,0,0,0,6⟩),.int .u8 c.toNat] (J.of [b0 0 (cy .da) 1 (.slice (some ⟨2,ad,0,0,1⟩) al.length al.length) pv false ov ty,cb aF j0 j1 j2 j3 uty,ct (aN al) 1 ad m aG cA,P,O]) v ag∧ae v ag:=by
 refine YN (cy .da) pv ov ty uty P O (aN al) ad m aG al.length (b8 aF 0 j0) (b8 aF 1 j1) (b8 aF 2 j2) (b8 aF 3 j3) aF.length c.toNat ae ?_
 delta yv cV ee pw B0 hx vD vC eF yt gP tB ef yu dn hy yr yq
 have aq:ba (aN al) 0=x.toNat:=by rw [iP];rfl
 have Oz:(aN al)[0]? =some (aa.int .u8 x.toNat):=by rw [iP];rfl
 have EF:al.length≤4:=by
  have:at' al≤1:=by unfold at';split<;>(try split)<;>omega
  omega
 have jO:0<al.length:= ab;have n4:(al++[c]).drop 1=al.drop 1++[c]:=by rw [iP];rfl
 have hE:=oq al;have kV:=B4 al c;have s8:=Hs aF j0 j1 j2 j3 c bU gZ
 have B7:(x.toNat:Int)=27→(al.length:Int)=1→False:=fun e bi=>by
  have aj:x=27:=UInt8.toNat_inj.1 (by show x.toNat=27;omega);have:at' al=1:=by rw [iP,aj];rfl
  omega
 have B8:(al.length:Int)=0→False:=fun e=> ab
 have ot:¬(0:Int)<al.length→False:=fun e=> ab
 rw [Hq aF j0 j1 j2 j3 c ab];simp only [Hu,Hv,Hw,B5,B6,pt,n4,aq];refine⟨?_,fun e=>(ot e).elim⟩
 repeat' (first
  |assumption
  |exact py ay ay ay ay ay ay
  |exact(bf (by assumption)).elim
  |intro _
  |refine And.intro ?_ ?_
  |exact True.intro
  |assumption
  |rfl
  |omega
  |exact px _ _ _
  |exact B3 _ _ _ _
  |(simp only [List.length_append,List.length_drop,List.length_cons,List.length_nil,oq];omega)
  |(refine Nat.succ_le_of_lt ?_;simp only [List.length_append,List.length_drop,List.length_cons,List.length_nil,oq];omega))
set_option maxHeartbeats 4000000
set_option hygiene false in
theorem YS{pv ov:aa}{ty uty:bL}{P O:af}{al aF:Bytes}{c:UInt8}{j0 j1 j2 j3:Int}{ad m aG:Nat}{x:UInt8}{t:Bytes}(iP:al=x::t)(bU:aF.length≤3)(gZ:(first aF).2.2=true)(aB:(b' aF c).1.length=1)(hlen:al.length=at' al+aF.length)(bX:0<aF.length)(ae:bI)
 (Hx:∀{h:J}{cD:aa},x.toNat=27→valid (al.drop 1++[c])=true→Nat.ble 5 h.U=true→h.get 0=some (b0 0 (cy .da) 1 (.slice (some ⟨2,ad+1,0,0,1⟩) (al.length+1) (al.length+1)) pv false ov ty)→h.get 1=some (cb (b' aF c).2 (b8 aF 0 j0) (b8 aF 1 j1) (b8 aF 2 j2) (b8 aF 3 j3) uty)→h.get 2=some (ct (aN al++[.int .u8 c.toNat]) 1 (ad+1) m (if m=ad then(aN al).length else min aG (aN al).length) cA)→h.get 3=some P→h.get 4=some O→cD=cB (fi ((b' aF c).1.getD 0 0) 2)→cq h ⟨0,0,0,0,6⟩ cD∧∀ag,cr h ⟨0,0,0,0,6⟩ cD ag→_root_.cond (Nat.ble 5 ag.U) (ae (.tuple []) ag) False)
 (Hy:∀{h:J},x.toNat=27→valid (al.drop 1++[c])=false→((b' aF c).2.length:Int)=0→Nat.ble 5 h.U=true→h.get 0=some (b0 0 (cy .da) 1 (.slice (some ⟨2,ad,0,0,1⟩) al.length al.length) pv false ov ty)→h.get 1=some (cb (b' aF c).2 (b8 aF 0 j0) (b8 aF 1 j1) (b8 aF 2 j2) (b8 aF 3 j3) uty)→h.get 2=some (ct (aN al) 1 ad m aG cA)→h.get 3=some P→h.get 4=some O→dA (2^30-8) ez h ⟨0,0,0,0,6⟩ c.toNat∧∀ag,dB Keys.bad h ⟨0,0,0,0,6⟩ c.toNat ag→_root_.cond (Nat.ble 5 ag.U) (ae (.tuple []) ag) False)
 (Hz:∀{h:J},x.toNat=27→valid (al.drop 1++[c])=false→ ¬((b' aF c).2.length:Int)=0→Nat.ble 5 h.U=true→h.get 0=some (b0 0 (cy .da) 1 (.slice (some ⟨2,ad,0,0,1⟩) al.length al.length) pv false ov ty)→h.get 1=some (cb [] (b8 (b' aF c).2 0 (b8 aF 0 j0)) (b8 (b' aF c).2 1 (b8 aF 1 j1)) (b8 (b' aF c).2 2 (b8 aF 2 j2)) (b8 (b' aF c).2 3 (b8 aF 3 j3)) uty)→h.get 2=some (ct (aN al) 1 ad m aG cA)→h.get 3=some P→h.get 4=some O→dA (2^30-8) ez h ⟨0,0,0,0,6⟩ c.toNat∧∀ag,dB Keys.bad h ⟨0,0,0,0,6⟩ c.toNat ag→_root_.cond (Nat.ble 5 ag.U) (ae (.tuple []) ag) False)
 (HA:∀{h:J}{cD:aa},x.toNat≠27→valid (al++[c])=true→Nat.ble 5 h.U=true→h.get 0=some (b0 0 (cy .da) 1 (.slice (some ⟨2,ad+1,0,0,1⟩) (al.length+1) (al.length+1)) pv false ov ty)→h.get 1=some (cb (b' aF c).2 (b8 aF 0 j0) (b8 aF 1 j1) (b8 aF 2 j2) (b8 aF 3 j3) uty)→h.get 2=some (ct (aN al++[.int .u8 c.toNat]) 1 (ad+1) m (if m=ad then(aN al).length else min aG (aN al).length) cA)→h.get 3=some P→h.get 4=some O→cD=cB (fi ((b' aF c).1.getD 0 0) 0)→cq h ⟨0,0,0,0,6⟩ cD∧∀ag,cr h ⟨0,0,0,0,6⟩ cD ag→_root_.cond (Nat.ble 5 ag.U) (ae (.tuple []) ag) False)
 (HB:∀{h:J},x.toNat≠27→valid (al++[c])=false→((b' aF c).2.length:Int)=0→Nat.ble 5 h.U=true→h.get 0=some (b0 0 (cy .da) 1 (.slice (some ⟨2,ad,0,0,1⟩) al.length al.length) pv false ov ty)→h.get 1=some (cb (b' aF c).2 (b8 aF 0 j0) (b8 aF 1 j1) (b8 aF 2 j2) (b8 aF 3 j3) uty)→h.get 2=some (ct (aN al) 1 ad m aG cA)→h.get 3=some P→h.get 4=some O→dA (2^30-8) ez h ⟨0,0,0,0,6⟩ c.toNat∧∀ag,dB Keys.bad h ⟨0,0,0,0,6⟩ c.toNat ag→_root_.cond (Nat.ble 5 ag.U) (ae (.tuple []) ag) False)
 (HC:∀{h:J},x.toNat≠27→valid (al++[c])=false→ ¬((b' aF c).2.length:Int)=0→Nat.ble 5 h.U=true→h.get 0=some (b0 0 (cy .da) 1 (.slice (some ⟨2,ad,0,0,1⟩) al.length al.length) pv false ov ty)→h.get 1=some (cb [] (b8 (b' aF c).2 0 (b8 aF 0 j0)) (b8 (b' aF c).2 1 (b8 aF 1 j1)) (b8 (b' aF c).2 2 (b8 aF 2 j2)) (b8 (b' aF c).2 3 (b8 aF 3 j3)) uty)→h.get 2=some (ct (aN al) 1 ad m aG cA)→h.get 3=some P→h.get 4=some O→dA (2^30-8) ez h ⟨0,0,0,0,6⟩ c.toNat∧∀ag,dB Keys.bad h ⟨0,0,0,0,6⟩ c.toNat ag→_root_.cond (Nat.ble 5 ag.U) (ae (.tuple []) ag) False) :
 ∃v ag,bS 90 [.ptr (some ⟨0,0,0,0,6⟩),.int .u8 c.toNat] (J.of [b0 0 (cy .da) 1 (.slice (some ⟨2,ad,0,0,1⟩) al.length al.length) pv false ov ty,cb aF j0 j1 j2 j3 uty,ct (aN al) 1 ad m aG cA,P,O]) v ag∧ae v ag:=by
 refine YO (cy .da) pv ov ty uty P O (aN al) ad m aG al.length (b8 aF 0 j0) (b8 aF 1 j1) (b8 aF 2 j2) (b8 aF 3 j3) aF.length c.toNat ae ?_
 delta qA jE cV ee pw B0 hx vD vC eF qv gP tB ef qz dn hy yr yq fQ qy qx qw yB yw yA ie yz yy yx
 have aq:ba (aN al) 0=x.toNat:=by rw [iP];rfl
 have Oz:(aN al)[0]? =some (aa.int .u8 x.toNat):=by rw [iP];rfl
 have EF:al.length≤4:=by
  have:at' al≤1:=by unfold at';split<;>(try split)<;>omega
  omega
 have jO:0<al.length:= ab;have n4:(al++[c]).drop 1=al.drop 1++[c]:=by rw [iP];rfl
 have hE:=oq al;have kV:=B4 al c;have s8:=Hs aF j0 j1 j2 j3 c bU gZ;have YT:¬(b' aF c).1=[]:=fun e=>by rw [e]at aB;simp at aB
 have B7:(x.toNat:Int)=27→(al.length:Int)=1→False:=fun e bi=>by
  have aj:x=27:=UInt8.toNat_inj.1 (by show x.toNat=27;omega);have:at' al=1:=by rw [iP,aj];rfl
  omega
 have B8:(al.length:Int)=0→False:=fun e=> ab
 have ot:¬(0:Int)<al.length→False:=fun e=> ab
 rw [Hq aF j0 j1 j2 j3 c ab];simp only [Hu,Hv,Hw,B5,B6,pt,n4,aq];refine⟨?_,fun e=>(ot e).elim⟩
 repeat' (first
  |assumption
  |exact Hx ab (by assumption) ay ay ay ay ay ay rfl
  |exact Hy ab (by assumption) (by assumption) ay ay ay ay ay ay
  |exact Hz ab (by assumption) (by assumption) ay ay ay ay ay ay
  |exact(rY ‹valid (al.drop 1++[c])=true› ‹valid (al.drop 1++[c])=false›).elim
  |exact HA ab (by assumption) ay ay ay ay ay ay rfl
  |exact HB ab (by assumption) (by assumption) ay ay ay ay ay ay
  |exact HC ab (by assumption) (by assumption) ay ay ay ay ay ay
  |exact(rY ‹valid (al++[c])=true› ‹valid (al++[c])=false›).elim
  |exact(B7 (by assumption) (by assumption)).elim
  |exact(B8 (by assumption)).elim
  |intro _
  |refine And.intro ?_ ?_
  |exact True.intro
  |assumption
  |rfl
  |omega
  |exact px _ _ _
  |exact B3 _ _ _ _
  |(simp only [List.length_append,List.length_drop,List.length_cons,List.length_nil,oq];omega)
  |(refine Nat.succ_le_of_lt ?_;simp only [List.length_append,List.length_drop,List.length_cons,List.length_nil,oq];omega))
set_option maxHeartbeats 4000000
set_option hygiene false in
theorem YU{pv ov:aa}{ty uty:bL}{P O:af}{al aF:Bytes}{c:UInt8}{j0 j1 j2 j3:Int}{ad m aG:Nat}{x:UInt8}{t:Bytes}(iP:al=x::t)(bU:aF.length≤3)(gZ:(first aF).2.2=true)(YT:(b' aF c).1≠[])(aB:(b' aF c).1.length≠1)(hlen:al.length=at' al+aF.length)(bX:0<aF.length)(ae:bI)
 (Hx:∀{h:J}{cD:aa},x.toNat=27→valid (al.drop 1++[c])=true→Nat.ble 5 h.U=true→h.get 0=some (b0 0 (cy .da) 1 (.slice (some ⟨2,ad+1,0,0,1⟩) (al.length+1) (al.length+1)) pv false ov ty)→h.get 1=some (cb (b' aF c).2 (b8 aF 0 j0) (b8 aF 1 j1) (b8 aF 2 j2) (b8 aF 3 j3) uty)→h.get 2=some (ct (aN al++[.int .u8 c.toNat]) 1 (ad+1) m (if m=ad then(aN al).length else min aG (aN al).length) cA)→h.get 3=some P→h.get 4=some O→cD=cB (fi ((b' aF c).1.getD 0 0) 2)→cq h ⟨0,0,0,0,6⟩ cD∧∀ag,cr h ⟨0,0,0,0,6⟩ cD ag→_root_.cond (Nat.ble 5 ag.U) (ae (.tuple []) ag) False)
 (Hy:∀{h:J},x.toNat=27→valid (al.drop 1++[c])=false→((b' aF c).2.length:Int)=0→Nat.ble 5 h.U=true→h.get 0=some (b0 0 (cy .da) 1 (.slice (some ⟨2,ad,0,0,1⟩) al.length al.length) pv false ov ty)→h.get 1=some (cb (b' aF c).2 (b8 aF 0 j0) (b8 aF 1 j1) (b8 aF 2 j2) (b8 aF 3 j3) uty)→h.get 2=some (ct (aN al) 1 ad m aG cA)→h.get 3=some P→h.get 4=some O→dA (2^30-8) ez h ⟨0,0,0,0,6⟩ c.toNat∧∀ag,dB Keys.bad h ⟨0,0,0,0,6⟩ c.toNat ag→_root_.cond (Nat.ble 5 ag.U) (ae (.tuple []) ag) False)
 (Hz:∀{h:J},x.toNat=27→valid (al.drop 1++[c])=false→ ¬((b' aF c).2.length:Int)=0→Nat.ble 5 h.U=true→h.get 0=some (b0 0 (cy .da) 1 (.slice (some ⟨2,ad,0,0,1⟩) al.length al.length) pv false ov ty)→h.get 1=some (cb [] (b8 (b' aF c).2 0 (b8 aF 0 j0)) (b8 (b' aF c).2 1 (b8 aF 1 j1)) (b8 (b' aF c).2 2 (b8 aF 2 j2)) (b8 (b' aF c).2 3 (b8 aF 3 j3)) uty)→h.get 2=some (ct (aN al) 1 ad m aG cA)→h.get 3=some P→h.get 4=some O→dA (2^30-8) ez h ⟨0,0,0,0,6⟩ c.toNat∧∀ag,dB Keys.bad h ⟨0,0,0,0,6⟩ c.toNat ag→_root_.cond (Nat.ble 5 ag.U) (ae (.tuple []) ag) False)
 (HA:∀{h:J}{cD:aa},x.toNat≠27→valid (al++[c])=true→Nat.ble 5 h.U=true→h.get 0=some (b0 0 (cy .da) 1 (.slice (some ⟨2,ad+1,0,0,1⟩) (al.length+1) (al.length+1)) pv false ov ty)→h.get 1=some (cb (b' aF c).2 (b8 aF 0 j0) (b8 aF 1 j1) (b8 aF 2 j2) (b8 aF 3 j3) uty)→h.get 2=some (ct (aN al++[.int .u8 c.toNat]) 1 (ad+1) m (if m=ad then(aN al).length else min aG (aN al).length) cA)→h.get 3=some P→h.get 4=some O→cD=cB (fi ((b' aF c).1.getD 0 0) 0)→cq h ⟨0,0,0,0,6⟩ cD∧∀ag,cr h ⟨0,0,0,0,6⟩ cD ag→_root_.cond (Nat.ble 5 ag.U) (ae (.tuple []) ag) False)
 (HB:∀{h:J},x.toNat≠27→valid (al++[c])=false→((b' aF c).2.length:Int)=0→Nat.ble 5 h.U=true→h.get 0=some (b0 0 (cy .da) 1 (.slice (some ⟨2,ad,0,0,1⟩) al.length al.length) pv false ov ty)→h.get 1=some (cb (b' aF c).2 (b8 aF 0 j0) (b8 aF 1 j1) (b8 aF 2 j2) (b8 aF 3 j3) uty)→h.get 2=some (ct (aN al) 1 ad m aG cA)→h.get 3=some P→h.get 4=some O→dA (2^30-8) ez h ⟨0,0,0,0,6⟩ c.toNat∧∀ag,dB Keys.bad h ⟨0,0,0,0,6⟩ c.toNat ag→_root_.cond (Nat.ble 5 ag.U) (ae (.tuple []) ag) False)
 (HC:∀{h:J},x.toNat≠27→valid (al++[c])=false→ ¬((b' aF c).2.length:Int)=0→Nat.ble 5 h.U=true→h.get 0=some (b0 0 (cy .da) 1 (.slice (some ⟨2,ad,0,0,1⟩) al.length al.length) pv false ov ty)→h.get 1=some (cb [] (b8 (b' aF c).2 0 (b8 aF 0 j0)) (b8 (b' aF c).2 1 (b8 aF 1 j1)) (b8 (b' aF c).2 2 (b8 aF 2 j2)) (b8 (b' aF c).2 3 (b8 aF 3 j3)) uty)→h.get 2=some (ct (aN al) 1 ad m aG cA)→h.get 3=some P→h.get 4=some O→dA (2^30-8) ez h ⟨0,0,0,0,6⟩ c.toNat∧∀ag,dB Keys.bad h ⟨0,0,0,0,6⟩ c.toNat ag→_root_.cond (Nat.ble 5 ag.U) (ae (.tuple []) ag) False) :
 ∃v ag,bS 90 [.ptr (some ⟨0,0,0,0,6⟩),.int .u8 c.toNat] (J.of [b0 0 (cy .da) 1 (.slice (some ⟨2,ad,0,0,1⟩) al.length al.length) pv false ov ty,cb aF j0 j1 j2 j3 uty,ct (aN al) 1 ad m aG cA,P,O]) v ag∧ae v ag:=by
 refine YP (cy .da) pv ov ty uty P O (aN al) ad m aG al.length (b8 aF 0 j0) (b8 aF 1 j1) (b8 aF 2 j2) (b8 aF 3 j3) aF.length c.toNat ae ?_
 delta qF qB cV ee pw B0 hx vD vC eF qC gP tB ef qE dn hy yr yq fQ qD yF yC yE ie yD
 have aq:ba (aN al) 0=x.toNat:=by rw [iP];rfl
 have Oz:(aN al)[0]? =some (aa.int .u8 x.toNat):=by rw [iP];rfl
 have EF:al.length≤4:=by
  have:at' al≤1:=by unfold at';split<;>(try split)<;>omega
  omega
 have jO:0<al.length:= ab;have n4:(al++[c]).drop 1=al.drop 1++[c]:=by rw [iP];rfl
 have hE:=oq al;have kV:=B4 al c;have s8:=Hs aF j0 j1 j2 j3 c bU gZ
 have B7:(x.toNat:Int)=27→(al.length:Int)=1→False:=fun e bi=>by
  have aj:x=27:=UInt8.toNat_inj.1 (by show x.toNat=27;omega);have:at' al=1:=by rw [iP,aj];rfl
  omega
 have B8:(al.length:Int)=0→False:=fun e=> ab
 have ot:¬(0:Int)<al.length→False:=fun e=> ab
 rw [Hq aF j0 j1 j2 j3 c ab];simp only [Hu,Hv,Hw,B5,B6,pt,n4,aq];refine⟨?_,fun e=>(ot e).elim⟩
 repeat' (first
  |assumption
  |exact Hx ab (by assumption) ay ay ay ay ay ay rfl
  |exact Hy ab (by assumption) (by assumption) ay ay ay ay ay ay
  |exact Hz ab (by assumption) (by assumption) ay ay ay ay ay ay
  |exact(rY ‹valid (al.drop 1++[c])=true› ‹valid (al.drop 1++[c])=false›).elim
  |exact HA ab (by assumption) ay ay ay ay ay ay rfl
  |exact HB ab (by assumption) (by assumption) ay ay ay ay ay ay
  |exact HC ab (by assumption) (by assumption) ay ay ay ay ay ay
  |exact(rY ‹valid (al++[c])=true› ‹valid (al++[c])=false›).elim
  |exact(B7 (by assumption) (by assumption)).elim
  |exact(B8 (by assumption)).elim
  |intro _
  |refine And.intro ?_ ?_
  |exact True.intro
  |assumption
  |rfl
  |omega
  |exact px _ _ _
  |exact B3 _ _ _ _
  |(simp only [List.length_append,List.length_drop,List.length_cons,List.length_nil,oq];omega)
  |(refine Nat.succ_le_of_lt ?_;simp only [List.length_append,List.length_drop,List.length_cons,List.length_nil,oq];omega))
theorem OA:∀(k:Nat)(s:Bytes),(hv k s).2.length≤s.length
 |0,s=>by simp [hv]
 |k+1,[]=>by simp [hv]
 |k +1,b::r=>by
  unfold hv;split
  ·exact Nat.le_refl _
  ·refine Nat.le_trans (OA k _) ?_;rw [List.length_drop];omega
theorem YV(aF:Bytes)(c:UInt8):(b' aF c).2.length≤aF.length+1:=by have:=OA (aF.length+1) (aF++[c]);rw [List.length_append]at this;exact this
theorem OB(aF:Bytes)(c:UInt8)(h:(b' aF c).1=[]):0<(b' aF c).2.length:=by
 unfold b' at h⊢;cases hs:aF++[c]with
 |nil=>simp at hs
 |cons b r =>
  rw [hs]at h;unfold hv at h⊢;split
  ·simp
  ·rename_i e;rw [if_neg e]at h;simp at h
theorem YW{al aF aD:Bytes}{c:UInt8}(h:(b' aF c).1=[]):Keys.da ⟨.da,al,aF,aD⟩ c=(⟨.da,al++[c],(b' aF c).2,aD⟩,[]):=by
 have ai:=OB aF c h;have a8:(b' aF c).2≠[]:=fun e=>by rw [e]at ai;simp at ai
 simp [Keys.da,gv,h,a8]
theorem OC{al aF aD:Bytes}{c:UInt8}{a:Nat}(aT:at' al=a)(h:(b' aF c).1≠[])(bh:valid (al.drop a++[c])=true)(aE:(al++[c]).drop a=al.drop a++[c]):Keys.da ⟨.da,al,aF,aD⟩ c=(⟨.ground,[],(b' aF c).2,aD⟩,[fi ((b' aF c).1.getD 0 0) (2*a)]):=by
 subst aT;have e:(b' aF c).1.headD 0=(b' aF c).1.getD 0 0:=by cases (b' aF c).1<;>rfl
 unfold Keys.da gv;simp only [h,and_false,if_false,bh,or_true,if_true,aE,tell,e]
theorem OD{al aF aD:Bytes}{c:UInt8}{a:Nat}(aT:at' al=a)(h:(b' aF c).1≠[])(aC:al.length≠a)(bh:valid (al.drop a++[c])=false):Keys.da ⟨.da,al,aF,aD⟩ c=Keys.bad ⟨.da,al,[],aD⟩ c:=by subst aT;unfold Keys.da gv;simp [h,bh,aC]
def yG(s:bK)(c:UInt8):Prop:=s.nx=.da∧s.aF=s.al.drop (at' s.al)∧0<s.aF.length∧s.aF.length≤3∧(first s.aF).2.2=true
theorem YX{H:J}{d:Nat}{I:cp}{s:bK}{es:List bl}{c:UInt8}(g:ci H d I s es)(ck:es.length<2^30-8)(dX:yG s c):∃aQ,bS 90 [.ptr (some ⟨d,0,0,0,6⟩),.int .u8 c.toNat] H (.tuple []) aQ ∧
 ∃aO,ci aQ d aO (Keys.da s c).1 (es++(Keys.da s c).2)∧Fr H aQ d I aO:=by
 refine tG ?_ g;intro ks kv pv ov ty uty j0 j1 j2 j3 K P O a7 hs gs cL;obtain⟨au,ah,ao⟩:=nv gs;obtain⟨nx,al,aF,aD⟩:=s;obtain⟨ac,aE,bX,bU,gZ⟩:=dX;simp only at ac aE bX bU gZ hs gs au ah ao⊢;subst ac
 have nb:ks=.grown []:=by
  cases ks with
  |grown j=>cases j with
   |nil=>rfl
   |cons a b=>exact hs.elim
  |_=>exact hs.elim
 subst nb;have gx:al≠[]:=hs
 obtain⟨x,t,iP⟩:∃x t,al=x::t:=by
  cases al with
  |nil=>exact absurd rfl gx
  |cons x t=>exact⟨x,t,rfl⟩
 obtain⟨kE,ad,m,aG,rfl,c8⟩:=au;have cn:a7.k=2:= ab;rw [cn,J.eV]at c8;simp only [List.getElem?_cons_zero,List.getElem?_cons_succ,Option.some.injEq,List.nil_append]at c8;subst c8;rw [cn]at ah ao⊢;simp only [List.length_nil]at ah ao⊢;have rs:at' al≤1:=by unfold at';split<;>(try split)<;>omega
 have me:at' al=if x=27 then 1 else 0:=by rw [iP];rfl
 have hlen:al.length=at' al+aF.length:=by
  rw [aE,List.length_drop];have:0<al.length:=by rw [iP];simp
  omega
 have uv:(b' aF c).2.length≤4:=by have:=YV aF c;omega
 have HD:x.toNat=27→at' al=1:=fun e=>by have:x=27:=UInt8.toNat_inj.1 (by show x.toNat=27;exact e);rw [me,if_pos this]
 have HE:x.toNat≠27→at' al=0:=fun e=>by rw [me,if_neg (by rintro rfl;exact e rfl)]
 have n4:(al++[c]).drop 1=al.drop 1++[c]:=by rw [iP];rfl
 have B9:((b' aF c).2.length:Int)=0→(b' aF c).2=[]:=fun e=>List.eq_nil_of_length_eq_zero ab
 have fin:∀{bG:bK×List bl},(∃v ag,bS 90 [.ptr (some ⟨0,0,0,0,6⟩),.int .u8 c.toNat] (J.of [b0 0 (cy .da) 1 (.slice (some ⟨2,ad,0,0,1⟩) al.length al.length) pv false ov ty,cb aF j0 j1 j2 j3 uty,ct (aN al) 1 ad m aG cA,P,O]) v ag ∧
  (v=.tuple []∧∃aO,ci ag 0 aO bG.1 (es++bG.2)∧Fr (J.of [b0 0 (cy .da) 1 (.slice (some ⟨2,ad,0,0,1⟩) al.length al.length) pv false ov ty,cb aF j0 j1 j2 j3 uty,ct (aN al) 1 ad m aG cA,P,O]) ag 0 a7 aO)) →
  ∃ag,bS 90 [.ptr (some ⟨0,0,0,0,6⟩),.int .u8 c.toNat] (J.of [b0 0 (cy .da) 1 (.slice (some ⟨2,ad,0,0,1⟩) al.length al.length) pv false ov ty,cb aF j0 j1 j2 j3 uty,ct (aN al) 1 ad m aG cA,P,O]) (.tuple []) ag∧∃aO,ci ag 0 aO bG.1 (es++bG.2)∧Fr (J.of [b0 0 (cy .da) 1 (.slice (some ⟨2,ad,0,0,1⟩) al.length al.length) pv false ov ty,cb aF j0 j1 j2 j3 uty,ct (aN al) 1 ad m aG cA,P,O]) ag 0 a7 aO:=by
  rintro bG ⟨v,ag,aE,rfl,q⟩;exact⟨ag,aE,q⟩
 by_cases aB:(b' aF c).1=[]
 ·rw [YW (al:=al) (aD:=aD) aB];refine fin (YR iP bU gZ aB hlen bX (fun e=>e (by have:=OB aF c aB;omega)) (fun v ag=>v=.tuple []∧∃aO,ci ag 0 aO _ (es++_)∧Fr _ ag 0 a7 aO) ?_);intro h bF e0 bi bu b7 cc;refine⟨rfl,?_⟩;rw [List.append_nil];exact YQ (al:=al++[c]) bF e0 bi bu b7 cc aM (nw _ _) aM ah ao cL cn
 ·have vF:x.toNat=27→valid (al.drop 1++[c])=true→_:=fun aj bh=>OC (aD:=aD) (aF:=aF) (HD aj) aB bh n4
  have OE:x.toNat≠27→valid (al++[c])=true→_:=fun aj bh=>OC (aD:=aD) (aF:=aF) (HE aj) aB bh rfl
  have k9:x.toNat=27→valid (al.drop 1++[c])=false→_:=fun aj bh=>OD (aD:=aD) (aF:=aF) (HD aj) aB (by have:=HD aj;omega) bh
  have hU:x.toNat≠27→valid (al++[c])=false→_:=fun aj bh=>OD (aD:=aD) (aF:=aF) (HE aj) aB (by have:=HE aj;omega) bh
  by_cases wF:(b' aF c).1.length=1
  ·refine fin (YS iP bU gZ wF hlen bX (fun v ag=>v=.tuple []∧∃aO,ci ag 0 aO (Keys.da ⟨.da,al,aF,aD⟩ c).1 (es++(Keys.da ⟨.da,al,aF,aD⟩ c).2)∧Fr _ ag 0 a7 aO) ?_ ?_ ?_ ?_ ?_ ?_)
   ·intro h cD aj bh bF e0 bi bu b7 cc he;exact tI (al:=al++[c]) bF e0 bi bu b7 cc aM (nw _ _) ah ao cL cn he ab uv fun ag aO g cF=>⟨rfl,aO,by rw [vF aj bh];exact g,cF⟩
   ·intro h aj bh eK bF e0 bi bu b7 cc;rw [B9 eK]at bi;exact sd bF e0 bi bu b7 cc gx ah ao cL cn ck fun ag aO g cF=>⟨rfl,aO,by rw [k9 aj bh];exact g,cF⟩
   ·intro h aj bh eK bF e0 bi bu b7 cc;exact sd bF e0 bi bu b7 cc gx ah ao cL cn ck fun ag aO g cF=>⟨rfl,aO,by rw [k9 aj bh];exact g,cF⟩
   ·intro h cD aj bh bF e0 bi bu b7 cc he;exact tI (al:=al++[c]) bF e0 bi bu b7 cc aM (nw _ _) ah ao cL cn he ab uv fun ag aO g cF=>⟨rfl,aO,by rw [OE aj bh];exact g,cF⟩
   ·intro h aj bh eK bF e0 bi bu b7 cc;rw [B9 eK]at bi;exact sd bF e0 bi bu b7 cc gx ah ao cL cn ck fun ag aO g cF=>⟨rfl,aO,by rw [hU aj bh];exact g,cF⟩
   ·intro h aj bh eK bF e0 bi bu b7 cc;exact sd bF e0 bi bu b7 cc gx ah ao cL cn ck fun ag aO g cF=>⟨rfl,aO,by rw [hU aj bh];exact g,cF⟩
  ·refine fin (YU iP bU gZ aB wF hlen bX (fun v ag=>v=.tuple []∧∃aO,ci ag 0 aO (Keys.da ⟨.da,al,aF,aD⟩ c).1 (es++(Keys.da ⟨.da,al,aF,aD⟩ c).2)∧Fr _ ag 0 a7 aO) ?_ ?_ ?_ ?_ ?_ ?_)
   ·intro h cD aj bh bF e0 bi bu b7 cc he;exact tI (al:=al++[c]) bF e0 bi bu b7 cc aM (nw _ _) ah ao cL cn he ab uv fun ag aO g cF=>⟨rfl,aO,by rw [vF aj bh];exact g,cF⟩
   ·intro h aj bh eK bF e0 bi bu b7 cc;rw [B9 eK]at bi;exact sd bF e0 bi bu b7 cc gx ah ao cL cn ck fun ag aO g cF=>⟨rfl,aO,by rw [k9 aj bh];exact g,cF⟩
   ·intro h aj bh eK bF e0 bi bu b7 cc;exact sd bF e0 bi bu b7 cc gx ah ao cL cn ck fun ag aO g cF=>⟨rfl,aO,by rw [k9 aj bh];exact g,cF⟩
   ·intro h cD aj bh bF e0 bi bu b7 cc he;exact tI (al:=al++[c]) bF e0 bi bu b7 cc aM (nw _ _) ah ao cL cn he ab uv fun ag aO g cF=>⟨rfl,aO,by rw [OE aj bh];exact g,cF⟩
   ·intro h aj bh eK bF e0 bi bu b7 cc;rw [B9 eK]at bi;exact sd bF e0 bi bu b7 cc gx ah ao cL cn ck fun ag aO g cF=>⟨rfl,aO,by rw [hU aj bh];exact g,cF⟩
   ·intro h aj bh eK bF e0 bi bu b7 cc;exact sd bF e0 bi bu b7 cc gx ah ao cL cn ck fun ag aO g cF=>⟨rfl,aO,by rw [hU aj bh];exact g,cF⟩
theorem YY:∀args h a,j5 (2^30-8) yG Keys.da args h=some a→a.dt Tryz.prog cX 90 args h:=r9 fun H d I s es c g ck aC dX=>YX g ck dX
noncomputable def OF:e1:=yo.add 90 (j5 (2^30-8) yG Keys.da)
theorem YZ:eJ Tryz.prog cX OF:=BZ.add YY
abbrev OG:aa:=aa.agg [.int .i64 13,.int .i64 9,.int .i64 127,.int .i64 27]
abbrev HF(n m:Int):aa:=aa.agg [.int .i8 1,.int .i32 n,.int .u8 m,.int .i64 0,.int .i64 0,.str []]
abbrev HG(m:Int):aa:=aa.agg [.int .i8 2,.int .i32 1,.int .u8 m,.int .i64 0,.int .i64 0,.str []]
abbrev HH(m:Int):aa:=aa.agg [.int .i8 2,.int .i32 2,.int .u8 m,.int .i64 0,.int .i64 0,.str []]
abbrev HI(m:Int):aa:=aa.agg [.int .i8 2,.int .i32 3,.int .u8 m,.int .i64 0,.int .i64 0,.str []]
abbrev HJ(m:Int):aa:=aa.agg [.int .i8 2,.int .i32 4,.int .u8 m,.int .i64 0,.int .i64 0,.str []]
abbrev cP:aa:=aa.agg [.int .i8 0,.int .i32 0,.int .u8 0,.int .i64 0,.int .i64 0,.str []]
abbrev se:af:=(af.an ([OG]) 4 true (some (109,4)))
theorem Y0(n m:Int)(ae:bI)(aW:(13=n→ae (.tuple [(HG m),.bool true]) (J.ar 22 [(0,(af.an ([(HG m)]) 6 true (some (42,6)))),(4,se)]))∧(¬13=n→(9=n→ae (.tuple [(HH m),.bool true]) (J.ar 32 [(0,(af.an ([(HH m)]) 6 true (some (42,6)))),(4,se)]))∧(¬9=n→(127=n→ae (.tuple [(HI m),.bool true]) (J.ar 42 [(0,(af.an ([(HI m)]) 6 true (some (42,6)))),(4,se)]))∧(¬127=n→(27=n→ae (.tuple [(HJ m),.bool true]) (J.ar 52 [(0,(af.an ([(HJ m)]) 6 true (some (42,6)))),(4,se)]))∧(¬27=n→(2097152<n→ae (.tuple [cP,.bool false]) (J.ar 59 [(0,(af.an ([cP]) 6 true (some (42,6)))),(4,se)]))∧(¬2097152<n→(-2147483648≤n∧n≤2147483647)∧(shown n=true→(-2147483648≤n∧n≤2147483647)∧ae (.tuple [(HF n m),.bool true]) (J.ar 62 [(0,(af.an ([(HF n m)]) 6 true (some (42,6)))),(4,se)]))∧(shown n=false→ae (.tuple [cP,.bool false]) (J.ar 59 [(0,(af.an ([cP]) 6 true (some (42,6)))),(4,se)])))))))) :
 b4 149 [.int .i64 n,.int .u8 m] (⟨0,.nil⟩) ae :=
 b9 cx (he 1000 (.az (.rounds 300) (.aI 4002 .nil (.aI 4002 .nil (.aI 4002 .nil (.aI 4002 .nil (.aI 7001 .nil (ak 7004 (.aI 7005 (ak 9001 .nil) .nil))))))))) aW
def fk:bl:= {kind:=0}
def hi(o:Option bl):aa:= .tuple [cB (o.getD fk),.bool o.isSome]
theorem Y1(n:Nat)(m:Int)(H:J):bS 149 [.int .i64 n,.int .u8 m] H (hi (Keys.dL n m)) H:=by
 refine b1.eT (Y0 n m (fun v _=>v=hi (Keys.dL n m)) ?_) rfl rfl H
 delta se OG cP HF HJ HI HH HG
 refine⟨fun e=> ?_,fun ac=>⟨fun e=> ?_,fun ai=>⟨fun e=> ?_,fun a8=>⟨fun e=> ?_,fun bQ=>⟨fun e=> ?_,fun bF=>⟨ab,fun e=>⟨ab,?_⟩,fun e=> ?_⟩⟩⟩⟩⟩⟩
 ·have e:n=13:= ab;rw [show Keys.dL n m=some (er 1 m)by simp [Keys.dL,e]];rfl
 ·have e:n=9:= ab;rw [show Keys.dL n m=some (er 2 m)by simp [Keys.dL,e]];rfl
 ·have e:n=127:= ab;rw [show Keys.dL n m=some (er 3 m)by simp [Keys.dL,e]];rfl
 ·have e:n=27:= ab;rw [show Keys.dL n m=some (er 4 m)by simp [Keys.dL,e]];rfl
 all_goals
  have a6:n≠13:= ab;have n2:n≠9:= ab;have eY:n≠127:= ab;have hN:n≠27:= ab
 ·have ha:2097152<n:= ab;rw [show Keys.dL n m=none by simp [Keys.dL,a6,n2,eY,hN,ha]];rfl
 ·have ha:¬2097152<n:= ab;rw [show Keys.dL n m=some (fi n m)by simp [Keys.dL,a6,n2,eY,hN,ha,e]];rfl
 ·have ha:¬2097152<n:= ab;rw [show Keys.dL n m=none by simp [Keys.dL,a6,n2,eY,hN,ha,e]];rfl
theorem OH(x:UInt8)(r:Bytes)(c:Int)(ae:cW→bJ→J→Prop)(aW:(0<(↑(List.length (x::r)):Int)→((↑(UInt8.toNat x):Int)=c→((0:Int)≤1∧1≤(↑(List.length (x::r)):Int))∧ae .normal [(0,.str r),(1,.int .u8 c)] (J.ar 12 []))∧(¬(↑(UInt8.toNat x):Int)=c→ae (.exit 0) [(0,.str (x::r)),(1,.int .u8 c)] (J.ar 9 [])))∧(¬0<(↑(List.length (x::r)):Int)→ae (.exit 0) [(0,.str (x::r)),(1,.int .u8 c)] (J.ar 9 []))) :
 ∃e aU ac,dc 0 17 (cs 142 0) [(0,.str (x::r)),(1,.int .u8 c)] (⟨0,.nil⟩) e aU ac∧ae e aU ac :=
 fP eN mixed gC (hs:= .aI 1002 (.aI 1007 (ak 2001 .nil) .nil) .nil) (keep:=[0,1]) ay aW
theorem Y2(c:Int)(ae:cW→bJ→J→Prop)(aW:ae (.exit 0) [(0,.str []),(1,.int .u8 c)] (J.ar 9 [])) :
 ∃e aU ac,dc 0 17 (cs 142 0) [(0,.str []),(1,.int .u8 c)] (⟨0,.nil⟩) e aU ac∧ae e aU ac :=
 fP eN mixed gC (hs:= .nil) (keep:=[0,1]) ay aW
theorem Y3(s t:Bytes)(c:Int)(ag:J)(ae:bI)(aW:dc 0 17 (Code.loop (cs 142 0)) [(0,.str s),(1,.int .u8 c)] (J.ar 1 []) (.exit 0) [(0,.str t),(1,.int .u8 c)] ag∧ae (.str t) (J.mk (ag.U+2) (J.aH ag))) :
 b4 142 [.str s,.int .u8 c] (⟨0,.nil⟩) ae :=
 b9 gC (.az (.keep [0,1]) (.az (.loop [(0,.str t),(1,.int .u8 c)] ag (.exit 0)) .nil)) aW
theorem Y4(s:Bytes)(ae:bI)(aW:(s=[]→ae (.str s) (J.ar 9 []))∧(¬s=[]→ca 142 [.str s,.int .u8 48] (J.ar 20 []) (.str (List.dropWhile (fun x=>x == 48) s)) (J.ar 20 [])∧ae (.str (List.dropWhile (fun x=>x == 48) s)) (J.ar 20 []))) :
 b4 128 [.str s,.str [48]] (⟨0,.nil⟩) ae :=
 b9 gC (.aI 1001 .nil (.az (.val 4003 (.str (List.dropWhile (fun x=>x == 48) s))) .nil)) aW
theorem Y5(s p:Bytes)(ae:bI)(aW:((↑(List.length p):Int)≤(↑(List.length s):Int)→(0≤(↑(List.length p):Int)∧(↑(List.length p):Int)≤(↑(List.length s):Int))∧(List.take (Int.toNat (↑(List.length p):Int)) s=p→ae (.bool true) (J.ar 20 []))∧(¬List.take (Int.toNat (↑(List.length p):Int)) s=p→ae (.bool false) (J.ar 20 [])))∧(¬(↑(List.length p):Int)≤(↑(List.length s):Int)→ae (.bool false) (J.ar 20 []))) :
 b4 146 [.str s,.str p] (⟨0,.nil⟩) ae :=
 b9 gC (he 1002 (.aI 1004 (ak 1009 (.aI 1011 .nil .nil)) .nil)) aW
theorem Y6(s p:Bytes)(ae:bI)(aW:((↑(List.length p):Int)≤(↑(List.length s):Int)→(0≤(↑(List.length p):Int)∧(↑(List.length p):Int)≤(↑(List.length s):Int))∧(List.take (Int.toNat (↑(List.length p):Int)) s=p→(0≤(↑(List.length p):Int)∧(↑(List.length p):Int)≤(↑(List.length s):Int))∧ae (.tuple [.str (List.drop (Int.toNat (↑(List.length p):Int)) s),.bool true]) (J.ar 36 []))∧(¬List.take (Int.toNat (↑(List.length p):Int)) s=p→ae (.tuple [.str s,.bool false]) (J.ar 33 [])))∧(¬(↑(List.length p):Int)≤(↑(List.length s):Int)→ae (.tuple [.str s,.bool false]) (J.ar 33 []))) :
 b4 53 [.str s,.str p] (⟨0,.nil⟩) ae :=
 b9 gC (he 1002 (he 1002 (.aI 1004 (ak 1009 (.aI 1011 (ak 3003 .nil) .nil)) .nil))) aW
abbrev tJ(s:Bytes)(c:UInt8):bJ:=[(0,.str s),(1,.int .u8 c.toNat)]
theorem OI(s:Bytes)(c:UInt8)(h:J):eL 0 17 (tJ s c) h (tJ s c) ⟨0,.nil⟩ :=
 eL.drop (K:=0) (l:=[]) rfl rfl rfl rfl (bR.cons trivial (bR.cons trivial bR.nil)) bR.nil
theorem OJ(c:UInt8):∀s:Bytes,∃ag,hd 0 17 (cs 142 0) (tJ s c) ⟨0,.nil⟩ (.exit 0) (tJ (s.dropWhile (· == c)) c) ag
 |[]=>by obtain⟨e,aU,ac,bc,rfl,rfl⟩:=Y2 c.toNat (fun e aU ac=>e=.exit 0∧aU=tJ [] c) ⟨rfl,rfl⟩;exact⟨ac,dK.last aM bc⟩
 |x ::r=>by
  by_cases aj:x=c
  ·subst aj;obtain⟨e,aU,ac,bc,rfl,rfl⟩:=OH x r x.toNat (fun e aU ac=>e=.normal∧aU=tJ r x) ⟨fun _=>⟨fun _=>⟨⟨aS,by simp only [List.length_cons];omega⟩,rfl,rfl⟩,fun h=>absurd rfl h⟩,fun h=>by simp at h⟩;obtain⟨ag,aC⟩:=OJ x r;refine⟨ag,?_⟩;rw [List.dropWhile_cons_of_pos aM];exact dK.step (bc.post (OI r x ac)) aC
  ·have bX:¬(x.toNat:Int)=(c.toNat:Int):=fun h=>aj (UInt8.toNat_inj.1 ab)
   obtain⟨e,aU,ac,bc,rfl,rfl⟩:=OH x r c.toNat (fun e aU ac=>e=.exit 0∧aU=tJ (x::r) c) ⟨fun _=>⟨fun h=>absurd h bX,fun _=>⟨rfl,rfl⟩⟩,fun h=>by simp at h⟩;refine⟨ac,?_⟩;rw [List.dropWhile_cons_of_neg (by simpa using aj)];exact dK.last aM bc
theorem Y7(s:Bytes)(c:UInt8)(H:J):bS 142 [.str s,.int .u8 c.toNat] H (.str (s.dropWhile (· == c))) H:=by obtain⟨ag,aC⟩:=OJ c s;exact b1.eT (Y3 s (s.dropWhile (· == c)) c.toNat ag (fun v _=>v=.str (s.dropWhile (· == c))) ⟨fw.hQ (aC.pre (OI s c _)),rfl⟩) rfl rfl H
theorem Y8(s:Bytes)(H:J):bS 128 [.str s,.str [48]] H (.str (s.dropWhile (· == 48))) H :=
 b1.eT (Y4 s (fun v _=>v=.str (s.dropWhile (· == 48))) ⟨fun h=>by subst h;rfl,fun h=>⟨⟨Y7 s 48 _⟩,rfl⟩⟩) rfl rfl H
theorem pre_true{s p:Bytes}(h:s.take p.length=p):p.isPrefixOf s=true:=by rw [List.isPrefixOf_iff_prefix,List.prefix_iff_eq_take];exact h.symm
theorem vG{s p:Bytes}(h:¬s.take p.length=p):p.isPrefixOf s=false:=by
 cases aB:p.isPrefixOf s with
 |false=>rfl
 |true=>rw [List.isPrefixOf_iff_prefix,List.prefix_iff_eq_take]at aB;exact absurd aB.symm h
theorem take_len{s p:Bytes}(h:¬p.length≤s.length):¬s.take p.length=p:=fun e=>h (by have:=congrArg List.length e;simp at this;omega)
theorem Y9(s p:Bytes)(H:J):bS 146 [.str s,.str p] H (.bool (p.isPrefixOf s)) H:=by
 refine b1.eT (Y5 s p (fun v _=>v=.bool (p.isPrefixOf s)) ⟨fun h=>⟨⟨ab,h⟩,fun e=> ?_,fun e=> ?_⟩,fun h=> ?_⟩) rfl rfl H
 ·rw [pre_true (by simpa using e)]
 ·rw [vG (by simpa using e)]
 ·rw [vG (take_len ab)]
def tK(s p:Bytes):aa:= .tuple [.str (if p.isPrefixOf s then s.drop p.length else s),.bool (p.isPrefixOf s)]
theorem HK(s p:Bytes)(H:J):bS 53 [.str s,.str p] H (tK s p) H:=by
 refine b1.eT (Y6 s p (fun v _=>v=tK s p) ⟨fun h=>⟨⟨ab,h⟩,fun e=>⟨⟨ab,h⟩,?_⟩,fun e=> ?_⟩,fun h=> ?_⟩) rfl rfl H
 ·unfold tK;rw [pre_true (by simpa using e)];simp
 ·unfold tK;rw [vG (by simpa using e)];simp
 ·unfold tK;rw [vG (take_len ab)];simp
end Go.Proofs.YtddnafghiejcoaaGreatDoor
namespace Go.Keys
theorem HL(c:UInt8):∀s:Bytes,splitAt c s≠[]
 |[]=>by simp [splitAt]
 |b ::r=>by
  unfold splitAt;split
  ·simp
  ·cases h:splitAt c r with
   |nil=>exact absurd h (HL c r)
   |cons w t=>simp
theorem HM(c:UInt8):∀s:Bytes,(splitAt c s).length=s.count c+1
 |[]=>rfl
 |b ::r=>by
  have ih:=HM c r;unfold splitAt;split
  ·rename_i h;subst h;simp [ih]
  ·rename_i h;cases hs:splitAt c r with
   |nil=>exact absurd hs (HL c r)
   |cons w t =>
    rw [hs]at ih;simp only [List.length_cons]at ih⊢;rw [List.count_cons_of_ne (by simpa using h)];omega
theorem OK{c:UInt8} :∀{s:Bytes},s.count c=0→splitAt c s=[s]
 |[],_=>rfl
 |b ::r,h=>by
  have ax:¬b=c:=by intro e;subst e;simp at h
  rw [List.count_cons_of_ne (by simpa using ax)]at h;unfold splitAt;rw [if_neg ax,OK h]
theorem OL{c:UInt8} :∀{s:Bytes},s.count c≠0→ ∃m:Nat,Go.Lib.indexByte s c=m∧m<s.length∧splitAt c s=s.take m::splitAt c (s.drop (m+1))∧s.count c=(s.drop (m+1)).count c+1
 |[],h=>by simp at h
 |b ::r,h=>by
  by_cases ax:b=c
  ·subst ax;refine⟨0,by simp [Go.Lib.indexByte],aM,?_,aM⟩;rw [splitAt,if_pos rfl];simp
  ·rw [List.count_cons_of_ne (by simpa using ax)]at h⊢;obtain⟨m,bi,bu,b7,cc⟩:=OL h;refine⟨m+1,?_,by simp;omega,?_,by simpa using cc⟩
   ·unfold Go.Lib.indexByte;rw [if_neg (by simpa using ax),bi,if_neg (by rw [beq_iff_eq];omega)];rfl
   ·rw [splitAt,if_neg ax,b7];simp
def j6(w:Bytes):Bool:= !(decide (w=[]) || decide (9<w.length) || w.all digit == false)
theorem OM:∀{l:List Bytes},(∀w∈l,j6 w=true)→lI l=some (l.map number)
 |[],_=>rfl
 |w ::r,h=>by
  have bf:=h w List.mem_cons_self
  have hw:¬(w=[]∨9<w.length∨w.all digit=false):=by intro q;unfold j6 at bf;rcases q with q|q|q<;>simp [q]at bf
  rw [lI,if_neg hw,OM fun x aj=>h x (List.mem_cons_of_mem _ aj)];rfl
theorem ON:∀{a b:List Bytes}{w:Bytes},j6 w=false→lI (a++w::b)=none
 |[],b,w,h=>by
  have hw:w=[]∨9<w.length∨w.all digit=false:=by
   unfold j6 at h;simp only [Bool.not_eq_false',Bool.or_eq_true,decide_eq_true_eq,beq_iff_eq]at h;rcases h with (h|h)|h
   ·exact .inl h
   ·exact .inr (.inl h)
   ·exact .inr (.inr h)
  rw [List.nil_append,lI,if_pos hw]
 |x::a,b,w,h=>by rw [List.cons_append,lI,ON h];split<;>rfl
theorem Y':∀(w:Bytes),w.all digit=true→number w<10^w.length:=by
 suffices h:∀(w:Bytes)(n k:Nat),w.all digit=true→n<10^k→w.foldl (fun n b=>10*n+(b.toNat-48)) n<10^(k+w.length)from fun w hw=>by
  have:=h w 0 0 hw aS
  rwa [Nat.zero_add]at this
 intro w;induction w with
 |nil=>intro n k _ h;exact h
 |cons b r ih =>
  intro n k hw h;simp only [List.all_cons,Bool.and_eq_true,digit,decide_eq_true_eq]at hw;rw [List.foldl_cons,List.length_cons,show k+(r.length+1)=k+1+r.length by omega];refine ih _ _ hw.2 ?_;rw [Nat.pow_succ];omega
theorem OO:∀{l:List Bytes}{r:List Nat},lI l=some r→ ∀n∈r,n<1000000000
 |[],r,h=>by simp [lI]at h;subst h;simp
 |w :: t, r,h=>by
  rw [lI]at h;split at h
  ·cases h
  ·rename_i hw;cases bW:lI t with
   |none=>rw [bW]at h;cases h
   |some x =>
    rw [bW]at h;simp only [Option.map_some,Option.some.injEq]at h;subst h;intro n aR;rcases List.mem_cons.1 aR with rfl|aR
    ·have h3:w.all digit=true:=by
      cases aB:w.all digit with
      |true=>rfl
      |false=>exact absurd (.inr (.inr aB)) hw
     have:=Y' w h3;have aC:w.length≤9:= ab;exact Nat.lt_of_lt_of_le this (Nat.pow_le_pow_right aS aC)
    ·exact OO bW n aR
end Go.Keys
namespace Go.cf
noncomputable section
open Go.RowKit Go.Shelf
section
variable {P:Program}{φ:Map}
theorem Za{w bq:World}{a:Addr}(e:bq.heap[a.block]? =w.heap[a.block]?):bq.frozen? a=w.frozen? a:=by unfold World.frozen?;rw [e]
theorem Alike.below{w bq:World}(k:Below w.heap.size w bq):Alike w bq where
 size:=k.size
 cell a aT:=k.cell aT
 frozen a aT:=Za (k.block _ aT)
 mark b ax:=sL (k.block _ ax)
theorem Safe.B'{be:Nat→Prop}{bo w bq:World}(h:Safe be bo w)(db:fu be bo.heap.size)(k:Below w.heap.size w bq):Safe be bo bq :=
 h.trans ⟨k.os,k.tape,k.output,k.size,fun i aq=>k.block i (Nat.lt_of_lt_of_le (db i aq) h.size)⟩
theorem Zb{be:Nat→Prop}{bo w:World}{h:J}{f:FuncId}{dk:Array Value}{s:List UInt8}(db:fu be bo.heap.size)(ed:cS φ be h w)(cH:Safe be bo w)
 (aw:Calls P f dk w fun e bq=>e=.returned (.string ⟨s.toArray⟩)∧Below w.heap.size w bq) :
 Calls P f dk w fun e bq=> ∃br bE,e=.returned br∧eW φ bE h.U∧aL bE (.str s) br∧cS bE be h bq∧Safe be bo bq∧h.U≤h.U :=
 aw.mono fun e bq ⟨he,ax⟩=>⟨_,φ,he,eW.refl _ _,by simp only [aL];exact⟨_,rfl,aM⟩,ed.alike (Alike.below ax),cH.B' db ax,Nat.le_refl _⟩
end
end
end Go.cf
namespace Go.Keys
theorem OP:∀(w:Bytes)(n:Nat),w.all digit=true→Go.Lib.decFrom n w=some (w.foldl (fun n b=>10*n+(b.toNat-48)) n)
 |[],n,_=>rfl
 |b::r,n,h=>by
  simp only [List.all_cons,Bool.and_eq_true,digit,decide_eq_true_eq]at h;have aE:Go.Lib.digitVal b=some (b.toNat-48):=by unfold Go.Lib.digitVal;rw [if_pos h.1]
  unfold Go.Lib.decFrom;rw [aE];show Go.Lib.decFrom (n*10+(b.toNat-48)) r=_;rw [OP r _ h.2,List.foldl_cons,Nat.mul_comm]
theorem OQ{w:Bytes}(bf:w≠[])(h:w.all digit=true):Go.Lib.atoi w=some (number w:Int):=by
 cases w with
 |nil=>exact absurd rfl bf
 |cons b r =>
  have ax:48≤b.toNat∧b.toNat≤57:=by simp only [List.all_cons,Bool.and_eq_true,digit,decide_eq_true_eq]at h;exact h.1
  have Zc:(b == 45)=false:=by rw [beq_eq_false_iff_ne];rintro rfl;revert ax;decide
  have Zd:(b == 43)=false:=by rw [beq_eq_false_iff_ne];rintro rfl;revert ax;decide
  unfold Go.Lib.atoi;simp only [Zc,Zd,Bool.false_eq_true,if_false];unfold Go.Lib.decNat;rw [List.isEmpty_cons];simp only [Bool.false_eq_true,if_false];rw [OP _ _ h];rfl
def ny:Bytes:=[48,49,50,51,52,53,54,55,56,57]
set_option maxRecDepth 100000 in
theorem Ze(b:UInt8):ny.contains b=digit b:=by have h:∀n:Fin 256,ny.contains (UInt8.ofNat n.val)=digit (UInt8.ofNat n.val):= aS;have:=h ⟨b.toNat,b.toNat_lt⟩;simpa using this
theorem Ca(w:Bytes):Go.Lib.trimS w ny=[]↔w.all digit=true:=by
 have e:(fun b=>ny.contains b)=digit:=funext Ze
 have HN:∀l:Bytes,l.dropWhile digit=[]↔l.all digit=true:=by
  intro l;induction l with
  |nil=>simp
  |cons b r ih =>
   rw [List.dropWhile_cons];cases ax:digit b with
   |true=>simp [ih,ax]
   |false=>simp [ax]
 unfold Go.Lib.trimS Go.Lib.trimLeftS Go.Lib.trimRightS;rw [e,HN];constructor
 ·intro h;have ai:((w.reverse.dropWhile digit)).all digit=true:=by simpa using h
  cases aB:w.reverse.dropWhile digit with
  |nil =>
   have:=(HN _).1 aB;simpa using this
  |cons b r =>
   have Zf:digit b=false:=by have:=List.head?_dropWhile_not digit w.reverse;rw [aB]at this;simpa using this
   rw [aB]at ai;simp [Zf]at ai
 ·intro h;have:w.reverse.dropWhile digit=[]:=(HN _).2 (by simpa using h);rw [this];rfl
end Go.Keys
namespace Go.Proofs.YtddnafghiejcoaaGreatDoor
open Go.cf Go.Shelf Go.RowKit Go.Keys
set_option maxRecDepth 1000000
def Zg:Ren where
 f:=fun x=>if x=119 then 165 else if x=120 then 171 else if x=137 then 164 else if x=151 then 155 else if x=152 then 159 else if x=160 then 157 else if x=197 then 154 else if x=217 then 115 else if x=224 then 117 else if x=225 then 116 else if x=227 then 143 else if x=228 then 153 else if x=231 then 142 else if x=232 then 161 else if x=233 then 144 else if x=234 then 162 else if x=235 then 145 else if x=236 then 163 else if x=260 then 158 else if x=266 then 133 else if x=271 then 168 else 0
 t:=fun x=>if x=0 then 0 else if x=3 then 3 else if x=4 then 4 else if x=5 then 5 else if x=9 then 9 else if x=21 then 21 else if x=46 then 108 else if x=105 then 85 else if x=116 then 192 else if x=117 then 193 else if x=119 then 113 else if x=124 then 196 else if x=138 then 208 else if x=139 then 209 else 0
 g:=fun x=>if x=3 then 8 else if x=4 then 9 else 0
theorem Zh:Lays.n160 Tryz.prog Zg:=by constructor;all_goals first|kernel_rfl|(intro w;kernel_rfl)
def Zi:Ren where
 f:=fun x=>if x=129 then 136 else if x=171 then 49 else if x=172 then 55 else if x=205 then 127 else if x=243 then 75 else if x=244 then 84 else if x=245 then 85 else if x=246 then 96 else if x=247 then 100 else if x=279 then 101 else if x=280 then 102 else if x=281 then 103 else if x=282 then 104 else if x=283 then 119 else if x=284 then 120 else if x=285 then 121 else if x=286 then 122 else if x=287 then 125 else if x=316 then 126 else if x=317 then 135 else if x=318 then 137 else if x=319 then 138 else if x=320 then 139 else if x=321 then 140 else if x=322 then 141 else if x=337 then 151 else if x=338 then 152 else 0
 t:=fun x=>if x=0 then 0 else if x=2 then 2 else if x=3 then 3 else if x=4 then 4 else if x=5 then 5 else if x=9 then 9 else if x=20 then 20 else if x=21 then 21 else if x=37 then 34 else if x=46 then 108 else if x=51 then 132 else if x=53 then 151 else if x=75 then 89 else if x=76 then 90 else if x=80 then 212 else if x=85 then 138 else if x=127 then 186 else if x=143 then 187 else if x=145 then 189 else if x=167 then 137 else if x=168 then 140 else if x=171 then 154 else if x=173 then 157 else if x=175 then 170 else if x=210 then 173 else if x=212 then 179 else if x=213 then 180 else if x=232 then 203 else if x=233 then 204 else 0
 g:=fun x=>if x=15 then 3 else if x=16 then 4 else if x=17 then 5 else if x=18 then 6 else if x=19 then 7 else 0
theorem Zj:Lays.n172 Tryz.prog Zi:=by constructor;all_goals first|kernel_rfl|(intro w;kernel_rfl)
theorem Zk(s:Bytes)(hs:s.length<2^40)(H:J):bS 157 [.str s,.str ny] H (.str (Lib.trimS s ny)) H:=by
 intro be bo db fm φ w dk ed cH ea;obtain⟨l⟩:=dk;simp only [bz,aL]at ea;obtain⟨a,t,rfl,⟨u,rfl,rfl⟩,b,t2,rfl,⟨c,rfl,aw⟩,rfl⟩:=ea;refine⟨⟨Tryz.f157,_,ay,rfl⟩,Zb db ed cH ?_⟩;have fq:u.size<2^40:=by simpa using hs
 have pX:c.size=10:=(congrArg List.length aw).trans rfl;have k:=Any.strings_Trim_laid Zh ay u c w ab ab (by rw [aw];exact ascii_of_all aS);rw [aw]at k;exact k
theorem OR(s:Bytes)(hs:s.length≤18)(n:Int)(aR:Lib.atoi s=some n)(H:J):bS 55 [.str s] H (.tuple [.int .i64 n,.nilIface]) H:=by
 intro be bo db fm φ w dk ed cH ea;obtain⟨l⟩:=dk;simp only [bz,aL]at ea;obtain⟨a,t,rfl,⟨u,rfl,rfl⟩,rfl⟩:=ea;refine⟨⟨Tryz.f55,_,ay,rfl⟩,?_⟩;have k:=Any.strconv_Atoi Zj u n (by simpa using hs) aR w;refine k.mono fun e bq ⟨he,t,hw⟩=> ?_
 have ax:Below w.heap.size w bq:=by rw [hw];exact Lib.bytesWorld_below _ _ _
 exact⟨_,φ,he,eW.refl _ _,by simp only [aL,bz];exact⟨_,rfl,_,_,rfl,rfl,_,_,rfl,rfl,rfl⟩,ed.alike (Alike.below ax),cH.B' db ax,Nat.le_refl _⟩
end Go.Proofs.YtddnafghiejcoaaGreatDoor
namespace Go.Proofs.YtddnafghiejcoaaGreatDoor
open Go.cf Go.Shelf Go.RowKit Go.Keys
set_option maxRecDepth 1000000
def OS:Ren where
 f:=fun x=>if x=138 then 167 else if x=143 then 74 else if x=195 then 169 else if x=217 then 115 else if x=218 then 170 else if x=219 then 95 else if x=224 then 117 else if x=225 then 116 else if x=266 then 133 else if x=267 then 118 else if x=314 then 134 else 0
 t:=fun x=>if x=0 then 0 else if x=3 then 3 else if x=4 then 4 else if x=5 then 5 else if x=9 then 9 else if x=46 then 108 else if x=51 then 132 else if x=146 then 176 else 0
 g:=fun x=>if x=1 then 2 else 0
theorem Zl:Lays.n138 Tryz.prog OS:=by constructor;all_goals first|kernel_rfl|(intro w;kernel_rfl)
theorem Zm:Lays.n143 Tryz.prog OS:=by constructor;all_goals first|kernel_rfl|(intro w;kernel_rfl)
theorem OT{c:UInt8}{b:ByteArray}(h:b.data.toList=[c]):b=⟨#[c]⟩:=by
 obtain⟨d⟩:=b;simp only at h
 congr 1
 exact Array.toList_inj.1 (by simpa using h)
theorem Zn(s:Bytes)(c:UInt8)(H:J):bS 167 [.str s,.str [c]] H (.int .i64 (Lib.countByte s c)) H:=by
 intro be bo db fm φ w dk ed cH ea;obtain⟨l⟩:=dk;simp only [bz,aL]at ea;obtain⟨a,t,rfl,⟨u,rfl,rfl⟩,b,t2,rfl,⟨d,rfl,aE⟩,rfl⟩:=ea;refine⟨⟨Tryz.f167,_,ay,rfl⟩,?_⟩;have k:=Any.strings_Count_one Zl u c w;rw [←OT aE]at k
 exact k.mono fun e bq ⟨he,hw⟩=>by subst hw;exact⟨_,φ,he,eW.refl _ _,by simp only [aL],ed,cH,Nat.le_refl _⟩
theorem Zo(s:Bytes)(c:UInt8)(H:J):bS 74 [.str s,.str [c]] H (.int .i64 (Lib.indexByte s c)) H:=by
 intro be bo db fm φ w dk ed cH ea;obtain⟨l⟩:=dk;simp only [bz,aL]at ea;obtain⟨a,t,rfl,⟨u,rfl,rfl⟩,b,t2,rfl,⟨d,rfl,aE⟩,rfl⟩:=ea;refine⟨⟨Tryz.f74,_,ay,rfl⟩,?_⟩;have k:=Any.strings_Index_one Zm u c w;rw [←OT aE]at k
 exact k.mono fun e bq ⟨he,hw⟩=>by subst hw;exact⟨_,φ,he,eW.refl _ _,by simp only [aL],ed,cH,Nat.le_refl _⟩
end Go.Proofs.YtddnafghiejcoaaGreatDoor
namespace Go.Proofs.YtddnafghiejcoaaGreatDoor
open Go.cf Go.Keys
set_option maxRecDepth 1000000
abbrev eG(l:List aa)(ga:Nat):af:= {bk:=l,es:=1,exact:=true,ro:=false,ad:=0,gd:=ga,hj:=0,ty:=none}
theorem Zp(s t:Bytes)(m i k:Nat)(l:List aa)(ae:bI)(aW:ca 167 [.str s,.str [59]] (J.ar 12 []) (.int .i64 (k:Int)) (J.ar 12 [])∧(-9223372036854775808≤(k:Int)+1∧(k:Int)+1≤9223372036854775807)∧(-9223372036854775808≤(↑(List.length s):Int)+1∧(↑(List.length s):Int)+1≤9223372036854775807)∧((0≤if(↑(List.length s):Int)+1<(k:Int)+1 then(↑(List.length s):Int)+1 else(k:Int)+1)∧((if(↑(List.length s):Int)+1<(k:Int)+1 then(↑(List.length s):Int)+1 else(k:Int)+1)≤if(↑(List.length s):Int)+1<(k:Int)+1 then(↑(List.length s):Int)+1 else(k:Int)+1)∧(if(↑(List.length s):Int)+1<(k:Int)+1 then(↑(List.length s):Int)+1 else(k:Int)+1)<4611686018427387904∧(16*if(↑(List.length s):Int)+1<(k:Int)+1 then(↑(List.length s):Int)+1 else(k:Int)+1)≤281474976710656)∧(-9223372036854775808≤(if(↑(List.length s):Int)+1<(k:Int)+1 then(↑(List.length s):Int)+1 else(k:Int)+1)-1∧(if(↑(List.length s):Int)+1<(k:Int)+1 then(↑(List.length s):Int)+1 else(k:Int)+1)-1≤9223372036854775807)∧dc 0 66 (Code.loop (cs 160 0)) [(0,.str s),(1,.str [59]),(2,.int .i64 0),(3,.int .i64 ((if(↑(List.length s):Int)+1<(k:Int)+1 then(↑(List.length s):Int)+1 else(k:Int)+1)-1)),(9,.slice (cm 19) (Int.toNat (if(↑(List.length s):Int)+1<(k:Int)+1 then(↑(List.length s):Int)+1 else(k:Int)+1)) (Int.toNat (if(↑(List.length s):Int)+1<(k:Int)+1 then(↑(List.length s):Int)+1 else(k:Int)+1))),(10,.int .i64 0)] (J.ar 25 [(19,af.an (List.replicate (Int.toNat (if(↑(List.length s):Int)+1<(k:Int)+1 then(↑(List.length s):Int)+1 else(k:Int)+1)) (.str [])) 1 true)]) (.exit 0) [(0,.str t),(9,.slice (cm 50) m m),(10,.int .i64 (i:Int))] (J.ar 60 [(50,eG l 0)])∧(0≤(i:Int)∧(i:Int)<(m:Int))∧(0=0∧l[0+Int.toNat (i:Int)]? =some (aa.str []))∧(-9223372036854775808≤(i:Int)+1∧(i:Int)+1≤9223372036854775807)∧(0≤(i:Int)+1∧(i:Int)+1≤(m:Int))∧ae (.slice (cm 50) (i+1) m) (J.ar 70 [(50,(af.an (List.set l (0+Int.toNat (i:Int)) (.str t)) 1 true))])) :
 b4 160 [.str s,.str [59],.int .i64 0,.int .i64 (-1)] (⟨0,.nil⟩) ae :=
 b9 gC (.az (.val 6002 (.int .i64 (k:Int))) (ak 6003 (ak 7003 (ak 8001 (ak 9001 (.az (.keep [0,1,2,3,9,10]) (.az (.loop [(0,.str t),(9,.slice (cm 50) m m),(10,.int .i64 (i:Int))] (J.ar 60 [(50,eG l 0)]) (.exit 0)) (ak 17003 (.az (.iK 17004 (.str [])) (ak 18002 (ak 18003 .nil))))))))))) aW
theorem OU(s:Bytes)(m n i k:Nat)(l:List aa)(ae:cW→bJ→J→Prop)(aW:((i:Int)<(n:Int)→ca 74 [.str s,.str [59]] (J.ar 67 [(50,(af.an (l) 1 true))]) (.int .i64 (k:Int)) (J.ar 67 [(50,(af.an (l) 1 true))])∧(-9223372036854775808≤(k:Int)+0∧(k:Int)+0≤9223372036854775807)∧(0≤(k:Int)+0∧(k:Int)+0≤(↑(List.length s):Int))∧(0≤(i:Int)∧(i:Int)<(m:Int))∧(0=0∧l[0+Int.toNat (i:Int)]? =some (aa.str []))∧(-9223372036854775808≤(k:Int)+1∧(k:Int)+1≤9223372036854775807)∧(0≤(k:Int)+1∧(k:Int)+1≤(↑(List.length s):Int))∧(-9223372036854775808≤(i:Int)+1∧(i:Int)+1≤9223372036854775807)∧ae .normal [(0,.str (List.drop (k+1) s)),(1,.str [59]),(2,.int .i64 0),(3,.int .i64 (n:Int)),(9,.slice (cm 50) m m),(10,.int .i64 ((i:Int)+1))] (J.ar 88 [(50,(af.an (List.set l (0+Int.toNat (i:Int)) (.str (List.take (k+0) s))) 1 true))]))∧(¬(i:Int)<(n:Int)→ae (.exit 0) [(0,.str s),(1,.str [59]),(2,.int .i64 0),(3,.int .i64 (n:Int)),(9,.slice (cm 50) m m),(10,.int .i64 (i:Int))] (J.ar 63 [(50,(af.an (l) 1 true))]))) :
 ∃e aU ac,dc 0 66 (cs 160 0) [(0,.str s),(1,.str [59]),(2,.int .i64 0),(3,.int .i64 n),(9,.slice (cm 50) m m),(10,.int .i64 i)] (J.rows 60 [(50,eG l 0)]) e aU ac∧ae e aU ac :=
 fP eN mixed gC (hs:= .aI 11002 (.az (.val 12002 (.int .i64 (k:Int))) (ak 14005 (ak 14006 (ak 14007 (.az (.iK 14008 (.str [])) (ak 15004 (ak 15005 (ak 16001 .nil)))))))) .nil) (keep:=[0,1,2,3,9,10]) ay aW
def hJ(d:List Bytes)(k:Nat):List aa:=d.map aa.str++List.replicate k (.str [])
theorem HO(d:List Bytes)(k:Nat):∀e∈hJ d k,cU e:=by
 intro e he;rcases List.mem_append.1 he with h|h
 ·obtain⟨w,_,rfl⟩:=List.mem_map.1 h;exact cU.str w
 ·rw [(List.mem_replicate.1 h).2];exact cU.str []
theorem OV(d:List Bytes)(k:Nat):(hJ d (k+1))[d.length]? =some (.str []):=by unfold hJ;rw [List.getElem?_append_right aM];simp
theorem OW(d:List Bytes)(k:Nat)(w:Bytes):(hJ d (k+1)).set d.length (.str w)=hJ (d++[w]) k:=by unfold hJ;rw [List.set_append_right _ _ aM,List.replicate_succ];simp
abbrev sf(s:Bytes)(n i:Nat):bJ:=[(0,.str s),(1,.str [59]),(2,.int .i64 0),(3,.int .i64 (n:Nat)),(9,.slice (some ⟨50,0,0,0,1⟩) (n+1) (n+1)),(10,.int .i64 (i:Nat))]
theorem OX{l c:Nat} :ch (Go.cf.cp [50]) (.slice (some ⟨50,0,0,0,1⟩) l c):=(by show(50:Nat)∈ [50];simp)
theorem OY{s:Bytes}{n i:Nat}{h:J}{d:List Bytes}{k:Nat}(ak:h.get 50=some (eG (hJ d k) 0)):eL 0 66 (sf s n i) h (sf s n i) (J.rows 60 [(50,eG (hJ d k) 0)]) :=
 eL.drop (K:=60) (l:=[(50,eG (hJ d k) 0)]) (by simp [ak]) rfl rfl rfl (bR.cons trivial (bR.cons trivial (bR.cons trivial (bR.cons trivial (bR.cons OX (bR.cons trivial bR.nil)))))) (bR.cons (fun e he=>(HO d k e he).eM _) bR.nil)
theorem Zq(n:Nat)(aR:n<2^40):∀(k:Nat)(s:Bytes)(d:List Bytes),s.count 59=k→d.length+k=n→s.length<2^40→ ∃(t:Bytes)(nz:List Bytes),nz++[t]=d++splitAt 59 s∧nz.length=n ∧
 hd 0 66 (cs 160 0) (sf s n d.length) (J.rows 60 [(50,eG (hJ d (k+1)) 0)]) (.exit 0) (sf t n n) (J.rows 60 [(50,eG (hJ nz 1) 0)]):=by
 intro k;induction k with
 |zero =>
  intro s d au aE hs;obtain rfl:n=d.length:= ab;obtain⟨e,aU,ac,bc,rfl,rfl,ak⟩:=OU s (d.length+1) d.length d.length 0 (hJ d 1) (fun e aU ac=>e=.exit 0∧aU=sf s d.length d.length∧ac.get 50=some (eG (hJ d 1) 0)) ⟨fun h=> ab,fun _=>⟨rfl,rfl,rfl⟩⟩;exact⟨s,d,by rw [OK au],rfl,(dK.last aM bc).post (OY ak)⟩
 |succ k ih =>
  intro s d au aE hs;obtain⟨m,bi,bu,b7,cc⟩:=OL (c:=59) (s:=s) ab
  obtain⟨e,aU,ac,bc,rfl,rfl,ak⟩:=OU s (n+1) n d.length m (hJ d (k+1+1)) (fun e aU ac=>e=.normal∧aU=sf (s.drop (m+1)) n (d.length+1)∧ac.get 50=some (eG (hJ (d++[s.take m]) (k+1)) 0)) (by
   have ho:((d.length:Int)+1)=((d.length+1:Nat):Int):= ab;have iK:0+Int.toNat (d.length:Int)=d.length:= aM;refine⟨fun _=>⟨⟨?_⟩,⟨ab,ab⟩,⟨ab,ab⟩,⟨ab,ab⟩,⟨rfl,by rw [iK];exact OV d (k+1)⟩,⟨ab,ab⟩,⟨ab,ab⟩,⟨ab,ab⟩,rfl,by rw [ho],?_⟩,fun h=> ab⟩
   ·have:=Zo s 59 (J.ar 67 [(50,af.an (hJ d (k+1+1)) 1 true)]);rw [bi]at this;exact this
   ·rw [←OW d (k+1) (s.take m),iK,Nat.add_zero];rfl)
  obtain⟨t,nz,l',ai,a8⟩:=ih (s.drop (m+1)) (d++[s.take m]) ab (by simp;omega) (by rw [List.length_drop];omega);refine⟨t,nz,?_,ai,?_⟩
  ·rw [l',b7];simp
  ·have el:(d++[s.take m]).length=d.length+1:= aM;rw [show sf (s.drop (m+1)) n (d++[s.take m]).length=sf (s.drop (m+1)) n (d.length+1)by rw [el]]at a8;exact dK.round bc (OY ak) a8
theorem Zr(s:Bytes)(hs:s.length<2^40)(H:J):bS 160 [.str s,.str [59],.int .i64 0,.int .i64 (-1)] H
 (.slice (some ⟨H.U,0,0,0,1⟩) (splitAt 59 s).length (splitAt 59 s).length) (H.hp [] [eG ((splitAt 59 s).map aa.str) 0]):=by
 have au:s.count 59≤s.length:=List.count_le_length;obtain⟨t,nz,ac,ai,a8⟩:=Zq (s.count 59) ab (s.count 59) s [] rfl aM hs;have aw:¬((s.length:Int)+1<(s.count 59:Int)+1):= ab;have aR:Int.toNat ((s.count 59:Int)+1)=s.count 59+1:= ab;have bf:=Zn s 59 (J.ar 12 [])
 obtain ⟨v,bQ,aE,bh,ak⟩:=Zp s t (s.count 59+1) (s.count 59) (s.count 59) (hJ nz 1) (fun v bQ=>v=.slice (some ⟨50,0,0,0,1⟩) (s.count 59+1) (s.count 59+1)∧bQ.get 50=some (eG ((splitAt 59 s).map aa.str) 0)) (by
  rw [if_neg aw,aR];refine⟨⟨bf⟩,⟨ab,ab⟩,⟨ab,ab⟩,⟨ab,ab,ab,ab⟩,⟨ab,ab⟩,?_,⟨ab,ab⟩,⟨rfl,?_⟩,⟨ab,ab⟩,⟨ab,ab⟩,rfl,?_⟩
  ·have dN :=fw.hQ (a8.pre (eL.move (F:=[(0,aa.str s),(1,aa.str [59]),(2,aa.int .i64 0),(3,aa.int .i64 ((s.count 59:Int)+1-1)),(9,aa.slice (some ⟨19,0,0,0,1⟩) (s.count 59+1) (s.count 59+1)),(10,aa.int .i64 0)]) (h:=J.ar 25 [(19,af.an (List.replicate (s.count 59+1) (aa.str [])) 1 true)]) (K:=60) (l:=[(50,eG (hJ [] (s.count 59+1)) 0)]) (fun _=>19) ?_ rfl aM rfl rfl ?_ rfl (bR.cons trivial (bR.cons trivial (bR.cons trivial (bR.cons trivial (bR.cons OX (bR.cons trivial bR.nil)))))) (bR.cons (fun e he=>(HO [] _ e he).eM _) bR.nil)))
   ·exact (dN.post (eL.facts (G:=[(0,aa.str t),(9,aa.slice (some ⟨50,0,0,0,1⟩) (s.count 59+1) (s.count 59+1)),(10,aa.int .i64 (s.count 59:Nat))]) (by
     intro j u hu;rw [k3]at hu;split at hu
     ·rename_i a1;subst a1;rw [←hu];rfl
     ·rw [k3]at hu;split at hu
      ·rename_i a1;subst a1;rw [←hu];rfl
      ·rw [k3]at hu;split at hu
       ·rename_i a1;subst a1;rw [←hu];rfl
       ·cases hu))).post (by
      have:J.rows 60 [(50,eG (hJ nz 1) 0)]=J.ar 60 [(50,eG (hJ nz 1) 0)]:= ay
      rw [this];exact eL.refl _ _ _ _)
   ·simp only [List.map_cons,List.map_nil];rw [show(eG (hJ [] (s.count 59+1)) 0).bg (fun _=>19)=eG (hJ [] (s.count 59+1)) 0 from dy.bg (b:=eG (hJ [] (s.count 59+1)) 0) (HO [] _) _];rfl
   ·simp [aa.bg,bA.bg]
  ·have:=OV nz 0;rw [ai]at this;simpa using this
  ·have:=OW nz 0 t;rw [ai,ac]at this;show some (af.an (List.set (hJ nz 1) (0+Int.toNat (s.count 59:Int)) (aa.str t)) 1 true)=_;rw [show 0+Int.toNat (s.count 59:Int)=s.count 59 by simp,this]
   simp [hJ,af.an])
 subst bh;rw [HM]
 exact b1.FT (l:=[]) (bn:=eG ((splitAt 59 s).map aa.str) 0) aE (fun b ax=>by cases ax) (by
  intro e he;obtain⟨w,_,rfl⟩:=List.mem_map.1 he
  exact cU.str w) rfl ak aM (by exact⟨trivial,trivial,trivial,trivial,trivial⟩) [] List.nodup_nil (fun j a1=>by cases a1) rfl
noncomputable def HP:List aa→J→Option ey:=fun args h=>match args with
 |[.str s,.str k,.int .i64 a,.int .i64 b]=>some (.one (.slice (some ⟨h.U,0,0,0,1⟩) (splitAt 59 s).length (splitAt 59 s).length) (h.hp [] [eG ((splitAt 59 s).map aa.str) 0]) [k=[59],a=0,b= -1,s.length<2^40])
 |_=>none
theorem Zs:∀args h a,HP args h=some a→a.dt Tryz.prog cX 160 args h:=by
 intro args h a e;unfold HP at e;split at e<;>first|(cases e;done)|skip
 simp only [Option.some.injEq]at e;subst e;intro ah;rw [ah.head,ah.tail.head,ah.tail.tail.head];exact Zr _ ah.tail.tail.tail.head h
noncomputable def Zt:e1:=qi.add 160 HP
theorem Zu:eJ Tryz.prog cX Zt:=cx.add Zs
theorem Zv(s:Bytes)(ae:bI)(aW:[(59:UInt8)]=[(59:UInt8)]∧(0:Int)=0∧(-1:Int)= -1∧List.length s<1099511627776∧ae (.slice (cm 5) (List.length (splitAt 59 s)) (List.length (splitAt 59 s))) (J.hp (J.ar 5 []) [] [(af.an (List.map .str (splitAt 59 s)) 1 true)])) :
 b4 156 [.str s,.str [59]] (⟨0,.nil⟩) ae :=
 b9 Zu (.nil) aW
theorem Zw(s:Bytes)(hs:s.length<2^40)(H:J):bS 156 [.str s,.str [59]] H (.slice (some ⟨H.U,0,0,0,1⟩) (splitAt 59 s).length (splitAt 59 s).length) (H.hp [] [eG ((splitAt 59 s).map aa.str) 0]):=by
 obtain⟨v,ac,aE,j,rfl,ak⟩:=Zv s (fun v ac=> ∃j,v=.slice (some ⟨j,0,0,0,1⟩) (splitAt 59 s).length (splitAt 59 s).length∧ac.get j=some (eG ((splitAt 59 s).map aa.str) 0)) ⟨rfl,rfl,rfl,hs,_,rfl,rfl⟩
 exact b1.FT (l:=[]) (bn:=eG ((splitAt 59 s).map aa.str) 0) aE (fun b ax=>by cases ax) (by
  intro e he;obtain⟨w,_,rfl⟩:=List.mem_map.1 he
  exact cU.str w) rfl ak aM (by exact⟨trivial,trivial,trivial⟩) [] List.nodup_nil (fun j a1=>by cases a1) rfl
abbrev Cb(l:List aa)(v f:Nat):af:= {bk:=l,es:=1,exact:=false,ro:=false,ad:=v,gd:=0,hj:=f,ty:=some (3,0)}
def OZ:List aa→J→Option ey:=kD fun a=>match a with | [.str s,.str k]=>some (.str (Go.Lib.trimS s ny),[k=ny,s.length<2^40])|_=>none
theorem Zx:∀args h a,OZ args h=some a→a.dt Tryz.prog cX 157 args h:=by
 refine lH ?_;intro args v ps e ah H;split at e<;>first|(cases e;done)|skip
 simp only [Option.some.injEq,Prod.mk.injEq]at e;obtain⟨rfl,rfl⟩:=e;rw [ah.head];exact Zk _ ah.tail.head H
noncomputable def HQ:List aa→J→Option ey:=fun args h=>match args with
 |[.str s,.str k]=>some (.one (.slice (some ⟨h.U,0,0,0,1⟩) (splitAt 59 s).length (splitAt 59 s).length) (h.hp [] [eG ((splitAt 59 s).map aa.str) 0]) [k=[59],s.length<2^40])
 |_=>none
noncomputable def Zy:e1:=(qi.add 157 OZ).add 156 HQ
theorem Zz:∀args h a,HQ args h=some a→a.dt Tryz.prog cX 156 args h:=by
 intro args h a e;unfold HQ at e;split at e<;>first|(cases e;done)|skip
 simp only [Option.some.injEq]at e;subst e;intro ah;rw [ah.head];exact Zw _ ah.tail.head h
theorem yH:eJ Tryz.prog cX Zy:=(cx.add Zx).add Zz
abbrev mA(m:Nat):aa:=aa.slice (cm 9) m m
theorem O0(w:Bytes)(m j x:Nat)(ws:List aa)(ae:cW→bJ→J→Prop)(aW:((j:Int)<(m:Int)→(0≤(j:Int)∧(j:Int)<(m:Int))∧bM env.D 9 ⟨9,0,0+Int.toNat (j:Int),0,1⟩ (J.ar 14 [(9,(af.an (ws) 1 true))])=some (aa.str w)∧(w=[]→ae .ret [(2,.slice none 0 0),(3,.bool false),(4,.slice none 0 0),(12,(mA m)),(13,.int .i64 (m:Int)),(14,.int .i64 (j:Int))] (J.ar 28 [(9,(af.an (ws) 1 true))]))∧(¬w=[]→(9<(↑(List.length w):Int)→ae .ret [(2,.slice none 0 0),(3,.bool false),(4,.slice none 0 0),(12,(mA m)),(13,.int .i64 (m:Int)),(14,.int .i64 (j:Int))] (J.ar 28 [(9,(af.an (ws) 1 true))]))∧(¬9<(↑(List.length w):Int)→ [(48:UInt8),(49:UInt8),(50:UInt8),(51:UInt8),(52:UInt8),(53:UInt8),(54:UInt8),(55:UInt8),(56:UInt8),(57:UInt8)]=[(48:UInt8),(49:UInt8),(50:UInt8),(51:UInt8),(52:UInt8),(53:UInt8),(54:UInt8),(55:UInt8),(56:UInt8),(57:UInt8)]∧List.length w<1099511627776∧(Lib.trimS w ny=[]→ca 55 [.str w] (J.ar 33 [(9,(af.an (ws) 1 true))]) (.tuple [.int .i64 (x:Int),aa.nilIface]) (J.ar 33 [(9,(af.an (ws) 1 true))])∧(-9223372036854775808≤(j:Int)+1∧(j:Int)+1≤9223372036854775807)∧ae .normal [(4,.slice (cm 36) 1 1),(12,(mA m)),(13,.int .i64 (m:Int)),(14,.int .i64 ((j:Int)+1))] (J.ar 40 [(9,(af.an (ws) 1 true)),(35,af.an [.int .i64 (x:Int)] 1 true),(36,af.an [.int .i64 (x:Int)] 1 false (some (3,0)))]))∧(¬Lib.trimS w ny=[]→ae .ret [(2,.slice none 0 0),(3,.bool false),(4,.slice none 0 0),(12,(mA m)),(13,.int .i64 (m:Int)),(14,.int .i64 (j:Int))] (J.ar 28 [(9,(af.an (ws) 1 true))])))))∧(¬(j:Int)<(m:Int)→ae (.exit 0) [(4,.slice none 0 0),(12,(mA m)),(13,.int .i64 (m:Int)),(14,.int .i64 (j:Int))] (J.ar 11 [(9,(af.an (ws) 1 true))]))) :
 ∃e aU ac,dc 0 41 (cs 148 0) [(4,.slice none 0 0),(12,.slice (cm 9) m m),(13,.int .i64 m),(14,.int .i64 j)] (J.rows 10 [(9,eG ws 0)]) e aU ac∧ae e aU ac :=
 fP eN mixed yH (hs:= .aI 5000 (ak 6000 (.az (.val 6001 (.str w)) (.aI 7001 .nil (.aI 7005 .nil (.aI 7010 (.az (.val 9001 (.tuple [.int .i64 (x:Int),aa.nilIface])) (ak 11000 .nil)) .nil))))) .nil) (keep:=[2,3,4,12,13,14]) ay aW
abbrev qG(v f:Nat)(l:List aa):af:=⟨l,1,false,false,v,0,f,some (3,0)⟩
theorem HR(w:Bytes)(m j x v f n:Nat)(ws l:List aa)(ae:cW→bJ→J→Prop)(aW:((j:Int)<(m:Int)→(0≤(j:Int)∧(j:Int)<(m:Int))∧bM env.D 9 ⟨9,0,0+Int.toNat (j:Int),0,1⟩ (J.ar 64 [(9,(af.an (ws) 1 true)),(50,(qG v f l))])=some (aa.str w)∧(w=[]→ae .ret [(2,.slice none 0 0),(3,.bool false),(4,.slice (some ⟨50,v,0,0,1⟩) n n),(12,(mA m)),(13,.int .i64 (m:Int)),(14,.int .i64 (j:Int))] (J.ar 78 [(9,(af.an (ws) 1 true)),(50,(qG v f l))]))∧(¬w=[]→(9<(↑(List.length w):Int)→ae .ret [(2,.slice none 0 0),(3,.bool false),(4,.slice (some ⟨50,v,0,0,1⟩) n n),(12,(mA m)),(13,.int .i64 (m:Int)),(14,.int .i64 (j:Int))] (J.ar 78 [(9,(af.an (ws) 1 true)),(50,(qG v f l))]))∧(¬9<(↑(List.length w):Int)→ [(48:UInt8),(49:UInt8),(50:UInt8),(51:UInt8),(52:UInt8),(53:UInt8),(54:UInt8),(55:UInt8),(56:UInt8),(57:UInt8)]=[(48:UInt8),(49:UInt8),(50:UInt8),(51:UInt8),(52:UInt8),(53:UInt8),(54:UInt8),(55:UInt8),(56:UInt8),(57:UInt8)]∧List.length w<1099511627776∧(Lib.trimS w ny=[]→ca 55 [.str w] (J.ar 83 [(9,(af.an (ws) 1 true)),(50,(qG v f l))]) (.tuple [.int .i64 (x:Int),aa.nilIface]) (J.ar 83 [(9,(af.an (ws) 1 true)),(50,(qG v f l))])∧(v=v∧0+n=List.length l∧n<n+1∧(n+1+(n+1)/4+512)*8≤281474976710656∧n+1<4611686018427387904)∧(-9223372036854775808≤(j:Int)+1∧(j:Int)+1≤9223372036854775807)∧ae .normal [(4,.slice (some {id:=50,ad:=v+1,idx:=0,fld:=0,es:=1}) (n+1) (n+1)),(12,(mA m)),(13,.int .i64 (m:Int)),(14,.int .i64 ((j:Int)+1))] (J.ar 90 [(9,(af.an (ws) 1 true)),(50,⟨l++[.int .i64 (x:Int)],1,false,false,v+1,0,if 0=v then List.length l else min f (List.length l),some (3,0)⟩),(85,af.an [.int .i64 (x:Int)] 1 true)]))∧(¬Lib.trimS w ny=[]→ae .ret [(2,.slice none 0 0),(3,.bool false),(4,.slice (some ⟨50,v,0,0,1⟩) n n),(12,(mA m)),(13,.int .i64 (m:Int)),(14,.int .i64 (j:Int))] (J.ar 78 [(9,(af.an (ws) 1 true)),(50,(qG v f l))])))))∧(¬(j:Int)<(m:Int)→ae (.exit 0) [(4,.slice (some ⟨50,v,0,0,1⟩) n n),(12,(mA m)),(13,.int .i64 (m:Int)),(14,.int .i64 (j:Int))] (J.ar 61 [(9,(af.an (ws) 1 true)),(50,(qG v f l))]))) :
 ∃e aU ac,dc 0 41 (cs 148 0) [(4,.slice (some ⟨50,v,0,0,1⟩) n n),(12,.slice (cm 9) m m),(13,.int .i64 m),(14,.int .i64 j)] (J.rows 60 [(9,eG ws 0),(50,Cb l v f)]) e aU ac∧ae e aU ac :=
 fP eN mixed yH (hs:= .aI 5000 (ak 6000 (.az (.val 6001 (.str w)) (.aI 7001 .nil (.aI 7005 .nil (.aI 7010 (.az (.val 9001 (.tuple [.int .i64 (x:Int),aa.nilIface])) (ak 10003 (ak 11000 .nil))) .nil))))) .nil) (keep:=[2,3,4,12,13,14]) ay aW
theorem ZA(ae:bI)(aW:ae (.tuple [.slice none 0 0,.bool true]) (J.ar 6 [])) :
 b4 148 [.str []] (⟨0,.nil⟩) ae :=
 b9 yH (.nil) aW
theorem ZB(s:Bytes)(ia gm ga O1:aa)(ag:J)(ae:bI)(aW:(s=[]→ae (.tuple [.slice none 0 0,.bool true]) (J.ar 6 []))∧(¬s=[]→ [(59:UInt8)]=[(59:UInt8)]∧List.length s<1099511627776∧dc 0 41 (Code.loop (cs 148 0)) [(4,.slice none 0 0),(12,.slice (cm 9) (List.length (splitAt 59 s)) (List.length (splitAt 59 s))),(13,.int .i64 (↑(List.length (splitAt 59 s)):Int)),(14,.int .i64 0)] (J.hp (J.ar 9 []) [] [(af.an (List.map .str (splitAt 59 s)) 1 true)]) (.exit 0) [(4,ia),(12,O1),(13,ga),(14,gm)] ag∧ae (.tuple [ia,.bool true]) (J.mk (ag.U+3) (J.aH ag)))) :
 b4 148 [.str s] (⟨0,.nil⟩) ae :=
 b9 yH (.aI 1001 .nil (.az (.keep [4,12,13,14]) (.az (.loop [(4,ia),(12,O1),(13,ga),(14,gm)] ag (.exit 0)) .nil))) aW
theorem ZC(s:Bytes)(ag:J)(ae:bI)(aW:(s=[]→ae (.tuple [.slice none 0 0,.bool true]) (J.ar 6 []))∧(¬s=[]→ [(59:UInt8)]=[(59:UInt8)]∧List.length s<1099511627776∧dc 0 41 (Code.loop (cs 148 0)) [(4,.slice none 0 0),(12,.slice (cm 9) (List.length (splitAt 59 s)) (List.length (splitAt 59 s))),(13,.int .i64 (↑(List.length (splitAt 59 s)):Int)),(14,.int .i64 0)] (J.hp (J.ar 9 []) [] [(af.an (List.map .str (splitAt 59 s)) 1 true)]) .ret [(2,.slice none 0 0),(3,.bool false)] ag∧ae (.tuple [.slice none 0 0,.bool false]) ag)) :
 b4 148 [.str s] (⟨0,.nil⟩) ae :=
 b9 yH (.aI 1001 .nil (.az (.keep [4,12,13,14]) (.az (.loop [(2,.slice none 0 0),(3,.bool false)] ag .ret) .nil))) aW
theorem O2{h:J}{b:af}{id i:Nat}{w:Bytes}(ak:h.get id=some b)(he:b.elem? 0 i=some (.str w)):bM (bY.D env) 9 ⟨id,0,i,0,1⟩ h=some (.str w):=by have bZ:(bY.D env 9).map (fun d=>d.kind.isAgg)=some false:= ay;obtain⟨d,ac,ai⟩:=Option.map_eq_some_iff.1 bZ;unfold bM;rw [ac,ak];simp only [he,hZ,ai,Bool.false_eq_true,if_false,if_true]
theorem O3{ws:List Bytes}{j:Nat}(h:j<ws.length):(eG (ws.map aa.str) 0).elem? 0 j=some (.str ws[j]):=by simp [af.elem?,af.cC,h]
def bH(l:List Nat):List aa:=l.map fun(n:Nat)=>aa.int .i64 n
theorem O4(l:List Nat):(bH l).length=l.length:=by simp [bH]
theorem HS(l:List Nat):∀e∈bH l,cU e:=cU.ints l .i64 fun(n:Nat)=>(n:Int)
theorem HT(ws:List Bytes):dy (eG (ws.map aa.str) 0):=by intro e he;obtain⟨w,_,rfl⟩:=List.mem_map.1 he;exact cU.str w
abbrev jG(l:List Nat):af:=Cb (bH l) (l.length-1) (jY l.length)
abbrev lb(l m j:Nat):bJ:=[(4,.slice (some ⟨50,l-1,0,0,1⟩) l l),(12,.slice (some ⟨9,0,0,0,1⟩) m m),(13,.int .i64 (m:Nat)),(14,.int .i64 (j:Nat))]
theorem HU{K:List Nat}{i v o l c e:Nat}(h:i∈K):ch (Go.cf.cp K) (.slice (some ⟨i,v,o,0,e⟩) l c):=h
theorem O5{l m j k:Nat}{h:J}{R B:af}(au:k≠9)(dX:dy R)(cH:dy B)(bf:h.get 9=some R)(ak:h.get k=some B) :
 eL 0 41 [(4,.slice (some ⟨k,l-1,0,0,1⟩) l l),(12,.slice (some ⟨9,0,0,0,1⟩) m m),(13,.int .i64 (m:Nat)),(14,.int .i64 (j:Nat))] h (lb l m j) (J.rows 60 [(9,R),(50,B)]):=by
 refine eL.move (K:=60) (l:=[(9,R),(50,B)]) (fun i=>if i=9 then 9 else k) ?_ rfl ?_ rfl rfl ?_ rfl ?_ ?_
 ·simp [bf,ak,dX.bg,cH.bg]
 ·simp;exact fun e=>au e.symm
 ·simp [aa.bg,bA.bg]
 ·exact bR.cons (HU aM) (bR.cons (HU aM) (bR.cons trivial (bR.cons trivial bR.nil)))
 ·exact bR.cons (fun e he=>(dX e he).eM _) (bR.cons (fun e he=>(cH e he).eM _) bR.nil)
abbrev yI:bJ:=[(2,.slice none 0 0),(3,.bool false)]
theorem Cc(w:Bytes):j6 w=true↔w≠[]∧w.length≤9∧w.all digit=true:=by unfold j6;simp only [Bool.not_eq_true',Bool.or_eq_false_iff,decide_eq_false_iff_not,beq_eq_false_iff_ne,ne_eq,Bool.not_eq_false,Nat.not_lt,and_assoc]
theorem O6{a b c d:aa}{n:Nat}{h:J} :eL 0 n [(2,aa.slice none 0 0),(3,aa.bool false),(4,a),(12,b),(13,c),(14,d)] h yI h :=
 eL.facts (by
  intro j u hu;rw [k3]at hu;split at hu
  ·rename_i a1;subst a1;rw [←hu];rfl
  ·rw [k3]at hu;split at hu
   ·rename_i a1;subst a1;rw [←hu];rfl
   ·cases hu)
theorem ZD(ws:List Bytes)(L:List Nat)(j:Nat)(a1:j<ws.length)(aC:L.length<2^40)(ac:1≤L.length)(hw:ws[j].length<2^40)(hm:ws.length<2^40) :
 (j6 ws[j]=true→ ∃ag,dc 0 41 (cs 148 0) (lb L.length ws.length j) (J.rows 60 [(9,eG (ws.map aa.str) 0),(50,jG L)]) .normal (lb (L++[number ws[j]]).length ws.length (j+1)) ag∧ag.get 9=some (eG (ws.map aa.str) 0)∧ag.get 50=some (jG (L++[number ws[j]]))) ∧
 (j6 ws[j]=false→ ∃ag,dc 0 41 (cs 148 0) (lb L.length ws.length j) (J.rows 60 [(9,eG (ws.map aa.str) 0),(50,jG L)]) .ret yI ag):=by
 have iK:0+Int.toNat (j:Int)=j:= aM;have ho:((j:Int)+1)=((j+1:Nat):Int):= ab
 have mZ:∀n:Nat,bM (bY.D env) 9 ⟨9,0,0+Int.toNat (j:Int),0,1⟩ (J.ar n [(9,eG (ws.map aa.str) 0),(50,Cb (bH L) (L.length-1) (jY L.length))])=some (.str ws[j]):=fun n=>by rw [iK];exact O2 (b:=eG (ws.map aa.str) 0) ay (O3 a1)
 refine⟨fun ok=> ?_,fun bad=> ?_⟩
 ·obtain⟨bo,HV,wd⟩:=(Cc _).1 ok;have iw:(L++[number ws[j]]).length=L.length+1:= aM
  obtain⟨e,aU,ai,bc,rfl,rfl,bx,mv⟩:=HR ws[j] ws.length j (number ws[j]) (L.length-1) (jY L.length) L.length (ws.map aa.str) (bH L) (fun e aU ai=>e=.normal∧aU=lb (L.length+1) ws.length (j+1)∧ai.get 9=some (eG (ws.map aa.str) 0)∧ai.get 50=some (jG (L++[number ws[j]]))) (by
   delta qG mA
   refine⟨fun _=>⟨⟨ab,ab⟩,mZ _,fun h=>absurd h bo,fun _=>⟨fun h=> ab,fun _=>⟨rfl,hw,fun _=>⟨⟨OR _ ab _ (OQ bo wd) _⟩,⟨rfl,by rw [O4];omega,ab,ab,ab⟩,⟨ab,ab⟩,rfl,?_,rfl,?_⟩,fun h=>absurd ((Ca _).2 wd) h⟩⟩⟩,fun h=> ab⟩
   ·unfold lb;rw [ho,show L.length+1-1=L.length-1+1 by omega]
   ·have bi:bH (L++[number ws[j]])=bH L++[aa.int .i64 (number ws[j]:Nat)]:=by simp [bH]
    have bu:(L++[number ws[j]]).length-1=L.length-1+1:=by simp;omega
    have b7:jY (L++[number ws[j]]).length=if 0=L.length-1 then(bH L).length else min (jY L.length) (bH L).length:=by
     rw [O4,iw];unfold jY;by_cases dI:L.length=1
     ·rw [if_neg ab,if_pos ab];omega
     ·rw [if_neg ab,if_neg ab,if_neg dI];omega
    show some _=some (Cb _ _ _)
    rw [bi,bu,b7])
  exact⟨ai,by rw [iw];exact bc,bx,mv⟩
 ·obtain⟨e,aU,ai,bc,rfl,aZ⟩:=HR ws[j] ws.length j (number ws[j]) (L.length-1) (jY L.length) L.length (ws.map aa.str) (bH L) (fun e aU ai=>e=.ret∧aU=[(2,aa.slice none 0 0),(3,aa.bool false),(4,aa.slice (some ⟨50,L.length-1,0,0,1⟩) L.length L.length),(12,aa.slice (some ⟨9,0,0,0,1⟩) ws.length ws.length),(13,aa.int .i64 ws.length),(14,aa.int .i64 j)]) (by
   delta qG mA
   refine⟨fun _=>⟨⟨ab,ab⟩,mZ _,fun h=>⟨rfl,rfl⟩,fun bo=>⟨fun h=>⟨rfl,rfl⟩,fun HV=>⟨rfl,hw,fun h=> ?_,fun h=>⟨rfl,rfl⟩⟩⟩⟩,fun h=> ab⟩;have:=(Cc ws[j]).2 ⟨bo,ab,(Ca _).1 h⟩
   rw [this]at bad;cases bad)
  subst aZ;exact⟨ai,bc.post O6⟩
theorem ZE(ws:List Bytes)(a1:0<ws.length)(hw:ws[0].length<2^40)(hm:ws.length<2^40) :
 (j6 ws[0]=true→ ∃ag k,k≠9∧dc 0 41 (cs 148 0) [(4,.slice none 0 0),(12,.slice (some ⟨9,0,0,0,1⟩) ws.length ws.length),(13,.int .i64 ws.length),(14,.int .i64 (0:Nat))] (J.rows 10 [(9,eG (ws.map aa.str) 0)]) .normal [(4,.slice (some ⟨k,1-1,0,0,1⟩) 1 1),(12,.slice (some ⟨9,0,0,0,1⟩) ws.length ws.length),(13,.int .i64 ws.length),(14,.int .i64 (0+1:Nat))] ag∧ag.get 9=some (eG (ws.map aa.str) 0)∧ag.get k=some (jG [number ws[0]])) ∧
 (j6 ws[0]=false→ ∃ag,dc 0 41 (cs 148 0) [(4,.slice none 0 0),(12,.slice (some ⟨9,0,0,0,1⟩) ws.length ws.length),(13,.int .i64 ws.length),(14,.int .i64 (0:Nat))] (J.rows 10 [(9,eG (ws.map aa.str) 0)]) .ret yI ag):=by
 have iK:0+Int.toNat ((0:Nat):Int)=0:= aM
 have mZ:∀n:Nat,bM (bY.D env) 9 ⟨9,0,0+Int.toNat ((0:Nat):Int),0,1⟩ (J.ar n [(9,eG (ws.map aa.str) 0)])=some (.str ws[0]):=fun n=>by rw [iK];exact O2 (b:=eG (ws.map aa.str) 0) ay (O3 a1)
 refine⟨fun ok=> ?_,fun bad=> ?_⟩
 ·obtain⟨bo,HV,wd⟩:=(Cc _).1 ok
  obtain⟨e,aU,ai,bc,rfl,k,au,rfl,bx,mv⟩:=O0 ws[0] ws.length 0 (number ws[0]) (ws.map aa.str) (fun e aU ai=>e=.normal∧∃k,k≠9∧aU=[(4,.slice (some ⟨k,1-1,0,0,1⟩) 1 1),(12,.slice (some ⟨9,0,0,0,1⟩) ws.length ws.length),(13,.int .i64 ws.length),(14,.int .i64 (0+1:Nat))]∧ai.get 9=some (eG (ws.map aa.str) 0)∧ai.get k=some (jG [number ws[0]]))
   ⟨fun _=>⟨⟨ab,ab⟩,mZ _,fun h=>absurd h bo,fun _=>⟨fun h=> ab,fun _=>⟨rfl,hw,fun _=>⟨⟨OR _ ab _ (OQ bo wd) _⟩,⟨ab,ab⟩,rfl,_, aS,rfl,rfl,rfl⟩,fun h=>absurd ((Ca _).2 wd) h⟩⟩⟩,fun h=> ab⟩
  exact⟨ai,k,au,bc,bx,mv⟩
 ·obtain⟨e,aU,ai,bc,rfl,aZ⟩:=O0 ws[0] ws.length 0 (number ws[0]) (ws.map aa.str) (fun e aU ai=>e=.ret∧aU=[(2,aa.slice none 0 0),(3,aa.bool false),(4,aa.slice none 0 0),(12,aa.slice (some ⟨9,0,0,0,1⟩) ws.length ws.length),(13,aa.int .i64 ws.length),(14,aa.int .i64 (0:Nat))]) (by
   delta mA
   refine⟨fun _=>⟨⟨ab,ab⟩,mZ _,fun h=>⟨rfl,rfl⟩,fun bo=>⟨fun h=>⟨rfl,rfl⟩,fun HV=>⟨rfl,hw,fun h=> ?_,fun h=>⟨rfl,rfl⟩⟩⟩⟩,fun h=> ab⟩;have:=(Cc ws[0]).2 ⟨bo,ab,(Ca _).1 h⟩
   rw [this]at bad;cases bad)
  subst aZ;exact⟨ai,bc.post O6⟩
theorem ZF(ws:List Bytes)(hw:∀w∈ws,w.length<2^40)(hm:ws.length<2^40):∀(k j:Nat),ws.length-j≤k→j≤ws.length→1≤j →
 ((∀w∈ws.drop j,j6 w=true)→ ∃ag,hd 0 41 (cs 148 0) (lb ((ws.take j).map number).length ws.length j) (J.rows 60 [(9,eG (ws.map aa.str) 0),(50,jG ((ws.take j).map number))]) (.exit 0) (lb ws.length ws.length ws.length) ag∧ag.get 50=some (jG (ws.map number))) ∧
 ((∃w∈ws.drop j,j6 w=false)→ ∃ag,hd 0 41 (cs 148 0) (lb ((ws.take j).map number).length ws.length j) (J.rows 60 [(9,eG (ws.map aa.str) 0),(50,jG ((ws.take j).map number))]) .ret yI ag):=by
 intro k
 have fin:∀h:(∀w∈ws.drop ws.length,j6 w=true),∃ag,hd 0 41 (cs 148 0) (lb ((ws.take ws.length).map number).length ws.length ws.length) (J.rows 60 [(9,eG (ws.map aa.str) 0),(50,jG ((ws.take ws.length).map number))]) (.exit 0) (lb ws.length ws.length ws.length) ag∧ag.get 50=some (jG (ws.map number)):=by intro _;rw [List.take_length];obtain⟨e,aU,ai,bc,rfl,rfl,ak⟩:=HR [] ws.length ws.length 0 ((ws.map number).length-1) (jY (ws.map number).length) (ws.map number).length (ws.map aa.str) (bH (ws.map number)) (fun e aU ai=>e=.exit 0∧aU=lb (ws.map number).length ws.length ws.length∧ai.get 50=some (jG (ws.map number))) ⟨fun h=> ab,fun _=>⟨rfl,rfl,rfl⟩⟩;have el:(ws.map number).length=ws.length:=List.length_map _;refine⟨ai,dK.last aM ?_,ak⟩;rw [show lb ws.length ws.length ws.length=lb (ws.map number).length ws.length ws.length by rw [el]];exact bc
 induction k with
 |zero =>
  intro j au a1 ac;obtain rfl:j=ws.length:= ab;exact⟨fin,fun⟨w,hw,_⟩=>by simp at hw⟩
 |succ k ih =>
  intro j au a1 ac;by_cases aw:j<ws.length
  ·have bW:(ws.take (j+1)).map number=(ws.take j).map number++[number ws[j]]:=by rw [List.take_succ_eq_append_getElem aw,List.map_append];rfl
   have aE:ws.drop j=ws[j]::ws.drop (j+1):=List.drop_eq_getElem_cons aw;have mf:((ws.take j).map number).length=j:=by rw [List.length_map,List.length_take];omega
   obtain⟨e8,il⟩:=ZD ws ((ws.take j).map number) j aw ab ab (hw _ (List.getElem_mem aw)) hm;obtain⟨i1,i2⟩:=ih (j+1) ab ab ab;rw [bW]at i1 i2;cases aB:j6 ws[j]with
   |false =>
    refine⟨fun h=> ?_,fun _=> ?_⟩
    ·have:=h ws[j] (by rw [aE];exact List.mem_cons_self);rw [aB]at this;cases this
    ·obtain⟨ag,bc⟩:=il aB;exact⟨ag,dK.last aM bc⟩
   |true =>
    obtain⟨ai,bc,bx,mv⟩:=e8 aB;have yJ:=O5 (l:=((ws.take j).map number++[number ws[j]]).length) (m:=ws.length) (j:=j+1) (k:=50) aS (HT ws) (B:=jG ((ws.take j).map number++[number ws[j]])) (HS _) bx mv;refine⟨fun h=> ?_,fun⟨w,o6,ax⟩=> ?_⟩
    ·obtain⟨ag,aC,ak⟩:=i1 (fun w o6=>h w (by rw [aE];exact List.mem_cons_of_mem _ o6));exact⟨ag,dK.step (bc.post yJ) aC,ak⟩
    ·rw [aE]at o6;rcases List.mem_cons.1 o6 with rfl|o6
     ·rw [aB]at ax;cases ax
     ·obtain⟨ag,aC⟩:=i2 ⟨w,o6,ax⟩;exact⟨ag,dK.step (bc.post yJ) aC⟩
  ·obtain rfl:j=ws.length:= ab;exact⟨fin,fun⟨w,hw,_⟩=>by simp at hw⟩
theorem HW(c:UInt8):∀(s:Bytes),∀w∈splitAt c s,w.length≤s.length
 |[],w,h=>by simp [splitAt]at h;simp [h]
 |b ::r,w,h=>by
  unfold splitAt at h;split at h
  ·rcases List.mem_cons.1 h with rfl|h
   ·simp
   ·have:=HW c r w h;simp only [List.length_cons];omega
  ·cases hs:splitAt c r with
   |nil=>exact absurd hs (HL c r)
   |cons x t =>
    rw [hs]at h;have ih:=HW c r;rw [hs]at ih;rcases List.mem_cons.1 h with rfl|h
    ·have:=ih x List.mem_cons_self;simp only [List.length_cons];omega
    ·have:=ih w (List.mem_cons_of_mem _ h);simp only [List.length_cons];omega
theorem b1.ZG{f:FuncId}{args:List aa}{ag:J}{j es n c ad:Nat}{b:Bool}{bn:af}(k:bS f args ⟨0,.nil⟩ (.tuple [.slice (some ⟨j,ad,0,0,es⟩) n c,.bool b]) ag)(u3:dy bn)(fS:ag.get j=some bn)(aT:∀a∈args,cU a)(H:J) :
 bS f args H (.tuple [.slice (some ⟨H.U,ad,0,0,es⟩) n c,.bool b]) (H.hp [] [bn]):=by
 have bx:bS f args (J.of []) (.tuple [.slice (some ⟨j,ad,0,0,es⟩) n c,.bool b]) ag:=k;have aK:=bx.fin [j] [bn] (.tuple [.slice (some ⟨0,ad,0,0,es⟩) n c,.bool b]) (fun b ax=>by rw [List.mem_singleton.1 ax];exact u3) rfl (by simp [gu,fS]) (by simp [aa.bg,aa.gK,bA.bg,gu]) (by simp [ch,fp]) aM aM;have gI:fp (fun i=>i<([]:List af).length) args:=tb.2 fun a h=>(aT a h).eM _
 have aP:=aK.Mm (l:=[]) (l2:=[bn]) (fun b ax=>by cases ax) (fun b ax=>by rw [List.mem_singleton.1 ax];exact u3) gI (H:=H) [] List.nodup_nil (fun j a1=>by cases a1) rfl
 have bi:args.map (aa.bg (dJ [] H.U))=args:=by
  conv=>rhs;rw [←List.map_id args]
  exact List.map_congr_left fun a h=>(aT a h).1 _
 rw [bi]at aP;simpa [aa.bg,aa.gK,bA.bg,dJ]using aP
theorem O7(ws:List Bytes)(n:Nat):eL 0 41 [(4,.slice none 0 0),(12,.slice (some ⟨9,0,0,0,1⟩) n n),(13,.int .i64 n),(14,.int .i64 (0:Nat))] (J.hp (J.ar 9 []) [] [eG (ws.map aa.str) 0]) [(4,.slice none 0 0),(12,.slice (some ⟨9,0,0,0,1⟩) n n),(13,.int .i64 n),(14,.int .i64 (0:Nat))] (J.rows 10 [(9,eG (ws.map aa.str) 0)]) :=
 eL.drop (K:=10) (l:=[(9,eG (ws.map aa.str) 0)]) ay rfl rfl rfl (bR.cons trivial (bR.cons (HU aM) (bR.cons trivial (bR.cons trivial bR.nil)))) (bR.cons (fun e he=>(HT ws e he).eM _) bR.nil)
theorem vH(w:Bytes)(hw:w.length<2^38)(H:J) :
 (Keys.numbers w=none→bS 148 [.str w] H (.tuple [.slice none 0 0,.bool false]) H) ∧
 (Keys.numbers w=some []→bS 148 [.str w] H (.tuple [.slice none 0 0,.bool true]) H) ∧
 (∀l,l≠[]→Keys.numbers w=some l→bS 148 [.str w] H (.tuple [.slice (some ⟨H.U,l.length-1,0,0,1⟩) l.length l.length,.bool true]) (H.hp [] [jG l])):=by
 by_cases Cd:w=[]
 ·subst Cd;have aR:Keys.numbers []=some []:=rfl;refine⟨(fun h=>by rw [aR]at h;cases h),fun _=> ?_,(fun l aC h=>by rw [aR]at h;simp only [Option.some.injEq]at h;exact absurd h.symm aC)⟩;exact b1.eT (ZA (fun v _=>v=.tuple [.slice none 0 0,.bool true]) rfl) rfl rfl H
 ·have aR :Keys.numbers w=lI (splitAt 59 w):=by unfold Keys.numbers;rw [if_neg Cd]
  have hlen:=HM 59 w;have ahE:w.count 59≤w.length:=List.count_le_length;have gA:=HW 59 w;generalize sY:splitAt 59 w=ws at aR hlen gA;have iE:0<ws.length:= ab;have hm:ws.length<2^40:= ab;have O8:∀x∈ws,x.length<2^40:=fun x aj=>by have:=gA x aj;omega
  obtain⟨e8,il⟩:=ZE ws iE (O8 _ (List.getElem_mem iE)) hm;obtain⟨et,l2⟩:=ZF ws O8 hm ws.length 1 ab ab ab
  have t1:(ws.take 1).map number=[number ws[0]]:=by
   cases ws with
   |nil=>simp at iE
   |cons x r=>rfl
  rw [t1]at et l2
  have ZH:ws=ws[0]::ws.drop 1:=by
   cases ws with
   |nil=>simp at iE
   |cons x r=>rfl
  have key:∀(ai:J)(k:Nat),k≠9→ai.get 9=some (eG (ws.map aa.str) 0)→ai.get k=some (jG [number ws[0]])→eL 0 41 [(4,.slice (some ⟨k,1-1,0,0,1⟩) 1 1),(12,.slice (some ⟨9,0,0,0,1⟩) ws.length ws.length),(13,.int .i64 ws.length),(14,.int .i64 (0+1:Nat))] ai (lb [number ws[0]].length ws.length 1) (J.rows 60 [(9,eG (ws.map aa.str) 0),(50,jG [number ws[0]])]) :=
   fun ai k au bx mv=>O5 (l:=1) au (HT ws) (B:=jG [number ws[0]]) (HS _) bx mv
  by_cases o9:∀x∈ws,j6 x=true
  ·have jH:Keys.numbers w=some (ws.map number):=by rw [aR,OM o9]
   have bX:ws.map number≠[]:=by intro h;have:=congrArg List.length h;simp at this;rw [this]at iE;simp at iE
   refine⟨(fun h=>by rw [jH]at h;cases h),(fun h=>by rw [jH]at h;simp only [Option.some.injEq]at h;exact absurd h bX),fun l aC h=> ?_⟩;rw [jH]at h;simp only [Option.some.injEq]at h;subst h;obtain⟨ai,k,au,bc,bx,mv⟩:=e8 (o9 _ (List.getElem_mem iE));obtain⟨ag,o1,ak⟩:=et (fun x aj=>o9 x (List.mem_of_mem_drop aj));have dN:=fw.hQ ((dK.step (bc.post (key ai k au bx mv)) o1).pre (O7 ws ws.length));obtain⟨v,a8,aE,rfl,ou⟩:=ZB w (.slice (some ⟨50,ws.length-1,0,0,1⟩) ws.length ws.length) (.int .i64 ws.length) (.int .i64 ws.length) (.slice (some ⟨9,0,0,0,1⟩) ws.length ws.length) ag (fun v a8=>v=.tuple [.slice (some ⟨50,ws.length-1,0,0,1⟩) ws.length ws.length,.bool true]∧a8.get 50=some (jG (ws.map number))) (by rw [sY];exact⟨fun h=>absurd h Cd,fun _=>⟨rfl,ab,dN,rfl,ak⟩⟩);have:=b1.ZG aE (bn:=jG (ws.map number)) (HS _) ou (fun a aT=>by rw [List.mem_singleton.1 aT];exact cU.str w) H
   rwa [List.length_map]
  ·have dr:∃x∈ws,j6 x=false:=by
    apply Classical.byContradiction;intro h;apply o9;intro x aj;cases aB:j6 x with
    |true=>rfl
    |false=>exact absurd ⟨x,aj,aB⟩ h
   have im:Keys.numbers w=none:=by obtain⟨x,aj,ax⟩:=dr;obtain⟨a,b,e⟩:=List.append_of_mem aj;rw [aR,e,ON ax]
   refine⟨fun _=> ?_,(fun h=>by rw [im]at h;cases h),(fun l aC h=>by rw [im]at h;cases h)⟩
   have dN:∃ag,hd 0 41 (cs 148 0) [(4,.slice none 0 0),(12,.slice (some ⟨9,0,0,0,1⟩) ws.length ws.length),(13,.int .i64 ws.length),(14,.int .i64 (0:Nat))] (J.rows 10 [(9,eG (ws.map aa.str) 0)]) .ret yI ag:=by
    cases aB:j6 ws[0]with
    |false =>
     obtain⟨ag,bc⟩:=il aB;exact⟨ag,dK.last aM bc⟩
    |true =>
     obtain⟨ai,k,au,bc,bx,mv⟩:=e8 aB;obtain⟨x,aj,ax⟩:=dr;rw [ZH]at aj;rcases List.mem_cons.1 aj with rfl|aj
     ·rw [aB]at ax;cases ax
     ·obtain⟨ag,o1⟩:=l2 ⟨x,aj,ax⟩;exact⟨ag,dK.step (bc.post (key ai k au bx mv)) o1⟩
   obtain⟨ag,dN⟩:=dN;exact b1.eT (ZC w ag (fun v _=>v=.tuple [.slice none 0 0,.bool false]) (by rw [sY];exact⟨fun h=>absurd h Cd,fun _=>⟨rfl,ab,fw.hQ (dN.pre (O7 ws ws.length)),rfl⟩⟩)) rfl rfl H
abbrev Ce(l:List aa)(v f:Nat):af:= {bk:=l,es:=1,exact:=false,ro:=false,ad:=v,gd:=0,hj:=f,ty:=some (3,0)}
noncomputable def tL(o:Option (List Nat))(v:aa)(rows:List af):List aa→J→Option ey:=fun args h =>
 match args with
 |[.str w]=>some (.one v (h.hp [] rows) [Keys.numbers w=o,w.length<100])
 |_=>none
noncomputable def Cf:List aa→J→Option ey:=tL none (.tuple [.slice none 0 0,.bool false]) []
noncomputable def Cg:List aa→J→Option ey:=tL (some []) (.tuple [.slice none 0 0,.bool true]) []
noncomputable def O9(a:Nat):List aa→J→Option ey:=fun args h=>tL (some [a]) (.tuple [.slice (some ⟨h.U,0,0,0,1⟩) 1 1,.bool true]) [Ce [.int .i64 a] 0 0] args h
noncomputable def O'(a b:Nat):List aa→J→Option ey:=fun args h=>tL (some [a,b]) (.tuple [.slice (some ⟨h.U,1,0,0,1⟩) 2 2,.bool true]) [Ce [.int .i64 a,.int .i64 b] 1 1] args h
noncomputable def Pa(a b c:Nat):List aa→J→Option ey:=fun args h=>tL (some [a,b,c]) (.tuple [.slice (some ⟨h.U,2,0,0,1⟩) 3 3,.bool true]) [Ce [.int .i64 a,.int .i64 b,.int .i64 c] 2 1] args h
def Pb:List aa→J→Option ey:=kD fun a=>match a with | [.str s,.str k]=>some (.tuple [.str (s.drop 1),.bool (s.head? == some 60)],[k=[60],s.head? =some 60])|_=>none
def Pc:List aa→J→Option ey:=kD fun a=>match a with | [.str s,.str k]=>some (.tuple [.str s,.bool false],[k=[60],s.head? ≠some 60])|_=>none
noncomputable def Ch(num:List aa→J→Option ey):e1:=(qi.add 53 Pb).add 148 num
noncomputable def ZI(a b c:Nat):e1:=Ch (Pa a b c)
noncomputable def ZJ:e1:=Ch Cf
theorem Ci:∀args h a,Pb args h=some a→a.dt Tryz.prog cX 53 args h:=by
 refine lH ?_;intro args v ps e ah H;split at e<;>first|(cases e;done)|skip
 rename_i s k;simp only [Option.some.injEq,Prod.mk.injEq]at e;obtain⟨rfl,rfl⟩:=e;have ac:k=[60]:=ah.head;have ai:s.head? =some 60:=ah.tail.head;subst ac;have:=HK s [60] H
 have ah:([60]:Bytes).isPrefixOf s=true:=by
  cases s with
  |nil=>cases ai
  |cons b r=>simp only [List.head?_cons,Option.some.injEq]at ai;subst ai;simp [List.isPrefixOf]
 unfold tK at this;rw [ah]at this;simpa [ai]using this
theorem yK{o:Option (List Nat)}{v:J→aa}{rows:List af}(k:∀(w:Bytes),w.length<100→Keys.numbers w=o→ ∀H,bS 148 [.str w] H (v H) (H.hp [] rows)):∀args h a,tL o (v h) rows args h=some a→a.dt Tryz.prog cX 148 args h:=by
 intro args h a e;unfold tL at e;split at e<;>first|(cases e;done)|skip
 simp only [Option.some.injEq]at e;subst e;exact fun ah=>k _ ah.tail.head ah.head h
theorem HX:∀args h a,Cf args h=some a→a.dt Tryz.prog cX 148 args h:=yK (v:=fun _=> .tuple [.slice none 0 0,.bool false]) fun w hw h H=>(vH w ab H).1 h
theorem HY:∀args h a,Cg args h=some a→a.dt Tryz.prog cX 148 args h:=yK (v:=fun _=> .tuple [.slice none 0 0,.bool true]) fun w hw h H=>(vH w ab H).2.1 h
theorem ZK(x:Nat):∀args h a,O9 x args h=some a→a.dt Tryz.prog cX 148 args h:=yK (v:=fun h=> .tuple [.slice (some ⟨h.U,0,0,0,1⟩) 1 1,.bool true]) fun w hw h H=>(vH w ab H).2.2 [x] aM h
theorem ZL(x y:Nat):∀args h a,O' x y args h=some a→a.dt Tryz.prog cX 148 args h:=yK (v:=fun h=> .tuple [.slice (some ⟨h.U,1,0,0,1⟩) 2 2,.bool true]) fun w hw h H=>(vH w ab H).2.2 [x,y] aM h
theorem ZM(x y z:Nat):∀args h a,Pa x y z args h=some a→a.dt Tryz.prog cX 148 args h:=yK (v:=fun h=> .tuple [.slice (some ⟨h.U,2,0,0,1⟩) 3 3,.bool true]) fun w hw h H=>(vH w ab H).2.2 [x,y,z] aM h
noncomputable def yL(l:List Nat):List aa→J→Option ey:=fun args h=>match args with
 |[.str w]=>some (.one (.tuple [.slice (some ⟨h.U,l.length-1,0,0,1⟩) l.length l.length,.bool true]) (h.hp [] [Ce (bH l) (l.length-1) (jY l.length)]) [Keys.numbers w=some l,l≠[],w.length<100])
 |_=>none
theorem HZ(l:List Nat):∀args h a,yL l args h=some a→a.dt Tryz.prog cX 148 args h:=by
 intro args h a e;unfold yL at e;split at e<;>first|(cases e;done)|skip
 rename_i w;simp only [Option.some.injEq]at e;subst e;intro ah;exact(vH w (by have:=ah.tail.tail.head;omega) h).2.2 l ah.tail.head ah.head
noncomputable def ZN:e1:=Ch Cg
noncomputable def ZO(l:List Nat):e1:=Ch (yL l)
theorem ZP:eJ Tryz.prog cX ZN:=(cx.add Ci).add HY
theorem ZQ(l:List Nat):eJ Tryz.prog cX (ZO l):=(cx.add Ci).add (HZ l)
theorem ZR:eJ Tryz.prog cX ZJ:=(cx.add Ci).add HX
theorem ZS(a b c:Nat):eJ Tryz.prog cX (ZI a b c):=(cx.add Ci).add (ZM a b c)
theorem H0:∀args h a,Pc args h=some a→a.dt Tryz.prog cX 53 args h:=by
 refine lH ?_;intro args v ps e ah H;split at e<;>first|(cases e;done)|skip
 rename_i s k;simp only [Option.some.injEq,Prod.mk.injEq]at e;obtain⟨rfl,rfl⟩:=e;have ac:k=[60]:=ah.head;have ai:s.head? ≠some 60:=ah.tail.head;subst ac;have:=HK s [60] H
 have ah:([60]:Bytes).isPrefixOf s=false:=by
  cases s with
  |nil=>rfl
  |cons b r =>
   have ax:¬(60:UInt8)=b:=fun e=>ai (by rw [←e];rfl)
   simp [List.isPrefixOf,ax]
 unfold tK at this;rw [ah]at this;simpa using this
noncomputable def H3(num:List aa→J→Option ey):e1:=(qi.add 53 Pc).add 148 num
noncomputable def ZT:e1:=H3 Cf
noncomputable def ZU:e1:=H3 Cg
noncomputable def ZV(l:List Nat):e1:=H3 (yL l)
theorem ZW:eJ Tryz.prog cX ZT:=(cx.add H0).add HX
theorem ZX:eJ Tryz.prog cX ZU:=(cx.add H0).add HY
theorem ZY(l:List Nat):eJ Tryz.prog cX (ZV l):=(cx.add H0).add (HZ l)
theorem ZZ(w:Bytes)(c:Int)(ae:bI)(aW:[(60:UInt8)]=[(60:UInt8)]∧List.head? w=some (60:UInt8)∧((List.head? w == some 60)=true→numbers (List.drop 1 w)=none∧List.length (List.drop 1 w)<100∧ae (.tuple [cP,.bool false]) (J.ar 30 [(0,(af.an ([cP]) 6 true (some (42,6))))]))∧((List.head? w == some 60)=false→numbers (List.drop 1 w)=none∧List.length (List.drop 1 w)<100∧ae (.tuple [cP,.bool false]) (J.ar 30 [(0,(af.an ([cP]) 6 true (some (42,6))))]))) :
 b4 147 [.str w,.int .u8 c] (⟨0,.nil⟩) ae :=
 b9 ZR (.aI 1004 .nil .nil) aW
abbrev H4:c':=(.aI 16001 (.aI 16004 .nil (.aI 18001 (.aI 18004 .nil .nil) .nil)) (.aI 18001 (.aI 18004 .nil .nil) .nil))
abbrev qH(ap a6 n2:Nat):af:=⟨[.int .i64 (ap:Int),.int .i64 (a6:Int),.int .i64 (n2:Int)],1,false,false,2,0,1,some (3,0)⟩
abbrev Pd(ap a6 n2:Nat):aa:=aa.agg [.int .i8 3,.int .i32 0,.int .u8 (bw .i64 (bp .i64 (ap:Int) (28)) (2)),.int .i64 ((a6:Int)-1),.int .i64 ((n2:Int)-1),.str []]
abbrev Cj(ap a6 n2:Nat):aa:=aa.agg [.int .i8 3,.int .i32 3,.int .u8 (bw .i64 (bp .i64 (ap:Int) (28)) (2)),.int .i64 ((a6:Int)-1),.int .i64 ((n2:Int)-1),.str []]
abbrev H5(ap a6 n2:Nat):aa:=aa.agg [.int .i8 3,.int .i32 4,.int .u8 (bw .i64 (bp .i64 (ap:Int) (28)) (2)),.int .i64 ((a6:Int)-1),.int .i64 ((n2:Int)-1),.str []]
abbrev H6(ap a6 n2:Nat):aa:=aa.agg [.int .i8 3,.int .i32 5,.int .u8 (bw .i64 (bp .i64 (ap:Int) (28)) (2)),.int .i64 ((a6:Int)-1),.int .i64 ((n2:Int)-1),.str []]
abbrev H7(ap a6 n2:Nat):aa:=aa.agg [.int .i8 3,.int .i32 6,.int .u8 (bw .i64 (bp .i64 (ap:Int) (28)) (2)),.int .i64 ((a6:Int)-1),.int .i64 ((n2:Int)-1),.str []]
abbrev Ck(ap a6 n2:Nat):aa:=aa.agg [.int .i8 3,.int .i32 (dO .i64 (ap:Int) (28)),.int .u8 (bw .i64 (bp .i64 (ap:Int) (28)) (2)),.int .i64 ((a6:Int)-1),.int .i64 ((n2:Int)-1),.str []]
abbrev eA:aa:=aa.tuple [cP,.bool false]
abbrev dw:af:=(af.an ([cP]) 6 true (some (42,6)))
abbrev Pe(ap a6 n2:Nat):aa:=aa.tuple [(H5 ap a6 n2),.bool true]
abbrev Pf(ap a6 n2:Nat):aa:=aa.tuple [(H6 ap a6 n2),.bool true]
abbrev H8(ap a6 n2:Nat):af:=(af.an ([(Pd ap a6 n2)]) 6 true (some (42,6)))
abbrev H9(ap a6 n2:Nat):af:=(af.an ([(H5 ap a6 n2)]) 6 true (some (42,6)))
abbrev H'(ap a6 n2:Nat):af:=(af.an ([(H6 ap a6 n2)]) 6 true (some (42,6)))
abbrev Ia(ap a6 n2:Nat):af:=(af.an ([(H7 ap a6 n2)]) 6 true (some (42,6)))
abbrev sg:c':=(.aI 14001 (.aI 14004 (.aI 14008 .nil H4) H4) H4)
abbrev Pg(ap a6 n2:Nat):J:=(J.ar 90 [(0,(af.an ([(Ck ap a6 n2)]) 6 true (some (42,6)))),(16,(qH ap a6 n2)),(48,(af.an ([(Ck ap a6 n2)]) 6 true (some (42,6))))])
abbrev yM(ap a6 n2:Nat):J:=(J.ar 72 [(0,dw),(16,(qH ap a6 n2)),(48,(H8 ap a6 n2))])
abbrev Cl(ap a6 n2:Nat):J:=(J.ar 111 [(0,dw),(16,(qH ap a6 n2)),(48,(H8 ap a6 n2))])
abbrev Ph(ap a6 n2:Nat):J:=(J.ar 99 [(0,(Ia ap a6 n2)),(16,(qH ap a6 n2)),(48,(Ia ap a6 n2))])
abbrev Pj(ap a6 n2:Nat):J:=(J.ar 106 [(0,(H9 ap a6 n2)),(16,(qH ap a6 n2)),(48,(H9 ap a6 n2))])
abbrev Pk(ap a6 n2:Nat):J:=(J.ar 113 [(0,(H' ap a6 n2)),(16,(qH ap a6 n2)),(48,(H' ap a6 n2))])
abbrev Ib(ap a6 n2:Nat)(ae:bI):Prop:=(dO .i64 (ap:Int) (28)≤2→(-2147483648≤dO .i64 (ap:Int) (28)∧dO .i64 (ap:Int) (28)≤2147483647)∧ae (.tuple [(Ck ap a6 n2),.bool true]) (Pg ap a6 n2))
abbrev Ic(ap a6 n2:Nat)(ae:bI):Prop:=(¬dO .i64 (ap:Int) (28)=65→ae (eA) (Cl ap a6 n2))
abbrev mB(ap a6 n2:Nat)(ae:bI):Prop:=(dO .i64 (ap:Int) (28)=64→ae ((Pe ap a6 n2)) (Pj ap a6 n2))
abbrev Ie(ap a6 n2:Nat)(ae:bI):Prop:=(dO .i64 (ap:Int) (28)=65→ae ((Pf ap a6 n2)) (Pk ap a6 n2))
abbrev yN(ap a6 n2:Nat)(ae:bI):Prop:=(dO .i64 (ap:Int) (28)≤35→ae (.tuple [(H7 ap a6 n2),.bool true]) (Ph ap a6 n2))
abbrev mC(c:Int)(ap a6 n2:Nat)(ae:bI):Prop:=(¬c=77→(c=77→(Ie ap a6 n2 ae)∧(Ic ap a6 n2 ae))∧(¬c=77→ae (eA) (Cl ap a6 n2)))
abbrev mD(c:Int)(ap a6 n2:Nat)(ae:bI):Prop:=(¬dO .i64 (ap:Int) (28)=64→(c=77→(Ie ap a6 n2 ae)∧(Ic ap a6 n2 ae))∧(¬c=77→ae (eA) (Cl ap a6 n2)))
theorem Z0(w:Bytes)(c:Int)(ap a6 n2:Nat)(ae:bI)(aW:[(60:UInt8)]=[(60:UInt8)]∧List.head? w=some (60:UInt8)∧((List.head? w == some 60)=true→numbers (List.drop 1 w)=some [ap,a6,n2]∧List.length (List.drop 1 w)<100∧True∧True∧Int.NonNeg (2-0)∧(0≤bw .i64 (bp .i64 (ap:Int) (28)) (2)∧bw .i64 (bp .i64 (ap:Int) (28)) (2)≤255)∧(-9223372036854775808≤(a6:Int)-1∧(a6:Int)-1≤9223372036854775807)∧(-9223372036854775808≤(n2:Int)-1∧(n2:Int)-1≤9223372036854775807)∧((a6:Int)-1<0→ae (eA) (yM ap a6 n2))∧(¬(a6:Int)-1<0→(4096≤(a6:Int)-1→ae (eA) (yM ap a6 n2))∧(¬4096≤(a6:Int)-1→((n2:Int)-1<0→ae (eA) (yM ap a6 n2))∧(¬(n2:Int)-1<0→(4096≤(n2:Int)-1→ae (eA) (yM ap a6 n2))∧(¬4096≤(n2:Int)-1→(c=109→(dO .i64 (ap:Int) (28)≤3→ae (.tuple [(Cj ap a6 n2),.bool true]) (J.ar 81 [(0,(af.an ([(Cj ap a6 n2)]) 6 true (some (42,6)))),(16,(qH ap a6 n2)),(48,(af.an ([(Cj ap a6 n2)]) 6 true (some (42,6))))]))∧(¬dO .i64 (ap:Int) (28)≤3→(c=77→(Ib ap a6 n2 ae)∧(¬dO .i64 (ap:Int) (28)≤2→(c=77→(32≤dO .i64 (ap:Int) (28)→(yN ap a6 n2 ae)∧(¬dO .i64 (ap:Int) (28)≤35→(c=77→(mB ap a6 n2 ae)∧(mD c ap a6 n2 ae))∧(mC c ap a6 n2 ae)))∧(¬32≤dO .i64 (ap:Int) (28)→(c=77→(mB ap a6 n2 ae)∧(mD c ap a6 n2 ae))∧(mC c ap a6 n2 ae)))∧(¬c=77→(c=77→(mB ap a6 n2 ae)∧(mD c ap a6 n2 ae))∧(mC c ap a6 n2 ae))))∧(¬c=77→(c=77→(32≤dO .i64 (ap:Int) (28)→(yN ap a6 n2 ae)∧(¬dO .i64 (ap:Int) (28)≤35→(c=77→(mB ap a6 n2 ae)∧(mD c ap a6 n2 ae))∧(mC c ap a6 n2 ae)))∧(¬32≤dO .i64 (ap:Int) (28)→(c=77→(mB ap a6 n2 ae)∧(mD c ap a6 n2 ae))∧(mC c ap a6 n2 ae)))∧(¬c=77→(c=77→(mB ap a6 n2 ae)∧(mD c ap a6 n2 ae))∧(mC c ap a6 n2 ae)))))∧(¬c=109→(c=77→(Ib ap a6 n2 ae)∧(¬dO .i64 (ap:Int) (28)≤2→(c=77→(32≤dO .i64 (ap:Int) (28)→(yN ap a6 n2 ae)∧(¬dO .i64 (ap:Int) (28)≤35→(c=77→(mB ap a6 n2 ae)∧(mD c ap a6 n2 ae))∧(mC c ap a6 n2 ae)))∧(¬32≤dO .i64 (ap:Int) (28)→(c=77→(mB ap a6 n2 ae)∧(mD c ap a6 n2 ae))∧(mC c ap a6 n2 ae)))∧(¬c=77→(c=77→(mB ap a6 n2 ae)∧(mD c ap a6 n2 ae))∧(mC c ap a6 n2 ae))))∧(¬c=77→(c=77→(32≤dO .i64 (ap:Int) (28)→(yN ap a6 n2 ae)∧(¬dO .i64 (ap:Int) (28)≤35→(c=77→(mB ap a6 n2 ae)∧(mD c ap a6 n2 ae))∧(mC c ap a6 n2 ae)))∧(¬32≤dO .i64 (ap:Int) (28)→(c=77→(mB ap a6 n2 ae)∧(mD c ap a6 n2 ae))∧(mC c ap a6 n2 ae)))∧(¬c=77→(c=77→(mB ap a6 n2 ae)∧(mD c ap a6 n2 ae))∧(mC c ap a6 n2 ae)))))))))∧((List.head? w == some 60)=false→numbers (List.drop 1 w)=some [ap,a6,n2]∧List.length (List.drop 1 w)<100∧ae (eA) (J.ar 31 [(0,dw),(16,(qH ap a6 n2))]))) :
 b4 147 [.str w,.int .u8 c] (⟨0,.nil⟩) ae :=
 tq eN mixed (ZS ap a6 n2) (hs:= .aI 1004 (ak 5003 (ak 6003 (ak 6004 (ak 6005 (ak 6009 (ak 6013 (.aI 8002 .nil (.aI 8006 .nil (.aI 8011 .nil (.aI 8016 .nil (.aI 10001 (.aI 10004 .nil (.aI 12001 (.aI 12004 (ak 13001 .nil) sg) sg)) (.aI 12001 (.aI 12004 (ak 13001 .nil) sg) sg)))))))))))) .nil) ay aW
theorem Z1(w:Bytes)(c:Int)(ae:bI)(aW:[(60:UInt8)]=[(60:UInt8)]∧List.head? w=some (60:UInt8)∧((List.head? w == some 60)=true→numbers (List.drop 1 w)=some []∧List.length (List.drop 1 w)<100∧ae (eA) (J.ar 30 [(0,dw)]))∧((List.head? w == some 60)=false→numbers (List.drop 1 w)=some []∧List.length (List.drop 1 w)<100∧ae (eA) (J.ar 30 [(0,dw)]))) :
 b4 147 [.str w,.int .u8 c] (⟨0,.nil⟩) ae :=
 b9 ZP (.aI 1004 .nil .nil) aW
abbrev hz(l:List Nat):af:=⟨bH l,1,false,false,List.length l-1,0,jY (List.length l),some (3,0)⟩
abbrev Z2(l:List Nat):aa:=aa.agg [.int .i8 3,.int .i32 0,.int .u8 (bw .i64 (bp .i64 (ba (bH l) 0) (28)) (2)),.int .i64 (ba (bH l) 1-1),.int .i64 (ba (bH l) 2-1),.str []]
abbrev If(l:List Nat):aa:=aa.agg [.int .i8 3,.int .i32 3,.int .u8 (bw .i64 (bp .i64 (ba (bH l) 0) (28)) (2)),.int .i64 (ba (bH l) 1-1),.int .i64 (ba (bH l) 2-1),.str []]
abbrev Pl(l:List Nat):aa:=aa.agg [.int .i8 3,.int .i32 4,.int .u8 (bw .i64 (bp .i64 (ba (bH l) 0) (28)) (2)),.int .i64 (ba (bH l) 1-1),.int .i64 (ba (bH l) 2-1),.str []]
abbrev Pm(l:List Nat):aa:=aa.agg [.int .i8 3,.int .i32 5,.int .u8 (bw .i64 (bp .i64 (ba (bH l) 0) (28)) (2)),.int .i64 (ba (bH l) 1-1),.int .i64 (ba (bH l) 2-1),.str []]
abbrev Pn(l:List Nat):aa:=aa.agg [.int .i8 3,.int .i32 6,.int .u8 (bw .i64 (bp .i64 (ba (bH l) 0) (28)) (2)),.int .i64 (ba (bH l) 1-1),.int .i64 (ba (bH l) 2-1),.str []]
abbrev Po(l:List Nat):aa:=aa.agg [.int .i8 3,.int .i32 (dO .i64 (ba (bH l) 0) (28)),.int .u8 (bw .i64 (bp .i64 (ba (bH l) 0) (28)) (2)),.int .i64 (ba (bH l) 1-1),.int .i64 (ba (bH l) 2-1),.str []]
abbrev Z3(l:List Nat):aa:=aa.tuple [(Pl l),.bool true]
abbrev Z4(l:List Nat):aa:=aa.tuple [(Pm l),.bool true]
abbrev Pp(l:List Nat):af:=(af.an ([(Z2 l)]) 6 true (some (42,6)))
abbrev Pq(l:List Nat):af:=(af.an ([(Pl l)]) 6 true (some (42,6)))
abbrev Pr(l:List Nat):af:=(af.an ([(Pm l)]) 6 true (some (42,6)))
abbrev Ps(l:List Nat):af:=(af.an ([(Pn l)]) 6 true (some (42,6)))
abbrev Pt(l:List Nat):af:=(af.an ([(Po l)]) 6 true (some (42,6)))
abbrev Cm(l:List Nat):J:=(J.ar 72 [(0,dw),(16,(hz l)),(48,(Pp l))])
abbrev Ig(l:List Nat):J:=(J.ar 111 [(0,dw),(16,(hz l)),(48,(Pp l))])
abbrev Z5(l:List Nat):J:=(J.ar 99 [(0,(Ps l)),(16,(hz l)),(48,(Ps l))])
abbrev Z6(l:List Nat):J:=(J.ar 106 [(0,(Pq l)),(16,(hz l)),(48,(Pq l))])
abbrev Z7(l:List Nat):J:=(J.ar 113 [(0,(Pr l)),(16,(hz l)),(48,(Pr l))])
abbrev Pu(l:List Nat)(ae:bI):Prop:=(dO .i64 (ba (bH l) 0) (28)≤2→(-2147483648≤dO .i64 (ba (bH l) 0) (28)∧dO .i64 (ba (bH l) 0) (28)≤2147483647)∧ae (.tuple [(Po l),.bool true]) (J.ar 90 [(0,(Pt l)),(16,(hz l)),(48,(Pt l))]))
abbrev Pv(l:List Nat)(ae:bI):Prop:=(¬dO .i64 (ba (bH l) 0) (28)=65→ae (eA) (Ig l))
abbrev nA(l:List Nat)(ae:bI):Prop:=(dO .i64 (ba (bH l) 0) (28)=64→ae ((Z3 l)) (Z6 l))
abbrev Pw(l:List Nat)(ae:bI):Prop:=(dO .i64 (ba (bH l) 0) (28)=65→ae ((Z4 l)) (Z7 l))
abbrev Cn(l:List Nat)(ae:bI):Prop:=(dO .i64 (ba (bH l) 0) (28)≤35→ae (.tuple [(Pn l),.bool true]) (Z5 l))
abbrev nB(c:Int)(l:List Nat)(ae:bI):Prop:=(¬c=77→(c=77→(Pw l ae)∧(Pv l ae))∧(¬c=77→ae (eA) (Ig l)))
abbrev nC(c:Int)(l:List Nat)(ae:bI):Prop:=(¬dO .i64 (ba (bH l) 0) (28)=64→(c=77→(Pw l ae)∧(Pv l ae))∧(¬c=77→ae (eA) (Ig l)))
theorem Ih(w:Bytes)(c:Int)(l:List Nat)(ae:bI)(aW:[(60:UInt8)]=[(60:UInt8)]∧List.head? w=some (60:UInt8)∧((List.head? w == some 60)=true→numbers (List.drop 1 w)=some l∧(l=[]→False)∧List.length (List.drop 1 w)<100∧((↑(List.length l):Int)=3→((0:Int)≤0∧0<(↑(List.length l):Int))∧List.length l-1=List.length l-1∧(bH l)[0]? =some (.int .i64 (ba (bH l) 0))∧True∧((0:Int)≤0∧0<(↑(List.length l):Int))∧List.length l-1=List.length l-1∧(bH l)[0]? =some (.int .i64 (ba (bH l) 0))∧True∧Int.NonNeg (2-0)∧(0≤bw .i64 (bp .i64 (ba (bH l) 0) (28)) (2)∧bw .i64 (bp .i64 (ba (bH l) 0) (28)) (2)≤255)∧((0:Int)≤1∧1<(↑(List.length l):Int))∧List.length l-1=List.length l-1∧(bH l)[1]? =some (.int .i64 (ba (bH l) 1))∧(-9223372036854775808≤ba (bH l) 1-1∧ba (bH l) 1-1≤9223372036854775807)∧((0:Int)≤2∧2<(↑(List.length l):Int))∧List.length l-1=List.length l-1∧(bH l)[2]? =some (.int .i64 (ba (bH l) 2))∧(-9223372036854775808≤ba (bH l) 2-1∧ba (bH l) 2-1≤9223372036854775807)∧(ba (bH l) 1-1<0→ae (eA) (Cm l))∧(¬ba (bH l) 1-1<0→(4096≤ba (bH l) 1-1→ae (eA) (Cm l))∧(¬4096≤ba (bH l) 1-1→(ba (bH l) 2-1<0→ae (eA) (Cm l))∧(¬ba (bH l) 2-1<0→(4096≤ba (bH l) 2-1→ae (eA) (Cm l))∧(¬4096≤ba (bH l) 2-1→(c=109→(dO .i64 (ba (bH l) 0) (28)≤3→ae (.tuple [(If l),.bool true]) (J.ar 81 [(0,(af.an ([(If l)]) 6 true (some (42,6)))),(16,(hz l)),(48,(af.an ([(If l)]) 6 true (some (42,6))))]))∧(¬dO .i64 (ba (bH l) 0) (28)≤3→(c=77→(Pu l ae)∧(¬dO .i64 (ba (bH l) 0) (28)≤2→(c=77→(32≤dO .i64 (ba (bH l) 0) (28)→(Cn l ae)∧(¬dO .i64 (ba (bH l) 0) (28)≤35→(c=77→(nA l ae)∧(nC c l ae))∧(nB c l ae)))∧(¬32≤dO .i64 (ba (bH l) 0) (28)→(c=77→(nA l ae)∧(nC c l ae))∧(nB c l ae)))∧(¬c=77→(c=77→(nA l ae)∧(nC c l ae))∧(nB c l ae))))∧(¬c=77→(c=77→(32≤dO .i64 (ba (bH l) 0) (28)→(Cn l ae)∧(¬dO .i64 (ba (bH l) 0) (28)≤35→(c=77→(nA l ae)∧(nC c l ae))∧(nB c l ae)))∧(¬32≤dO .i64 (ba (bH l) 0) (28)→(c=77→(nA l ae)∧(nC c l ae))∧(nB c l ae)))∧(¬c=77→(c=77→(nA l ae)∧(nC c l ae))∧(nB c l ae)))))∧(¬c=109→(c=77→(Pu l ae)∧(¬dO .i64 (ba (bH l) 0) (28)≤2→(c=77→(32≤dO .i64 (ba (bH l) 0) (28)→(Cn l ae)∧(¬dO .i64 (ba (bH l) 0) (28)≤35→(c=77→(nA l ae)∧(nC c l ae))∧(nB c l ae)))∧(¬32≤dO .i64 (ba (bH l) 0) (28)→(c=77→(nA l ae)∧(nC c l ae))∧(nB c l ae)))∧(¬c=77→(c=77→(nA l ae)∧(nC c l ae))∧(nB c l ae))))∧(¬c=77→(c=77→(32≤dO .i64 (ba (bH l) 0) (28)→(Cn l ae)∧(¬dO .i64 (ba (bH l) 0) (28)≤35→(c=77→(nA l ae)∧(nC c l ae))∧(nB c l ae)))∧(¬32≤dO .i64 (ba (bH l) 0) (28)→(c=77→(nA l ae)∧(nC c l ae))∧(nB c l ae)))∧(¬c=77→(c=77→(nA l ae)∧(nC c l ae))∧(nB c l ae)))))))))∧(¬(↑(List.length l):Int)=3→ae (eA) (J.ar 31 [(0,dw),(16,(hz l))])))∧((List.head? w == some 60)=false→numbers (List.drop 1 w)=some l∧(l=[]→False)∧List.length (List.drop 1 w)<100∧ae (eA) (J.ar 31 [(0,dw),(16,(hz l))]))) :
 b4 147 [.str w,.int .u8 c] (⟨0,.nil⟩) ae :=
 tq eN mixed (ZQ l) (hs:= .aI 1004 (.aI 3009 (ak 5001 (ak 5002 (ak 5003 (ak 6001 (ak 6002 (ak 6003 (ak 6004 (ak 6005 (ak 6007 (ak 6008 (ak 6009 (ak 6011 (ak 6012 (ak 6013 (.aI 8002 .nil (.aI 8006 .nil (.aI 8011 .nil (.aI 8016 .nil (.aI 10001 (.aI 10004 .nil (.aI 12001 (.aI 12004 (ak 13001 .nil) sg) sg)) (.aI 12001 (.aI 12004 (ak 13001 .nil) sg) sg)))))))))))))))))))) .nil) .nil) ay aW
theorem Z8(w:Bytes)(c:Int)(ae:bI)(aW:[(60:UInt8)]=[(60:UInt8)]∧(List.head? w=some (60:UInt8)→False)∧numbers w=none∧List.length w<100∧ae (eA) (J.ar 30 [(0,dw)])) :
 b4 147 [.str w,.int .u8 c] (⟨0,.nil⟩) ae :=
 b9 ZW (.nil) aW
theorem Z9(w:Bytes)(c:Int)(ae:bI)(aW:[(60:UInt8)]=[(60:UInt8)]∧(List.head? w=some (60:UInt8)→False)∧numbers w=some []∧List.length w<100∧ae (eA) (J.ar 30 [(0,dw)])) :
 b4 147 [.str w,.int .u8 c] (⟨0,.nil⟩) ae :=
 b9 ZX (.nil) aW
theorem Z'(w:Bytes)(c:Int)(l:List Nat)(ae:bI)(aW:[(60:UInt8)]=[(60:UInt8)]∧(List.head? w=some (60:UInt8)→False)∧numbers w=some l∧(l=[]→False)∧List.length w<100∧ae (eA) (J.ar 31 [(0,dw),(16,(hz l))])) :
 b4 147 [.str w,.int .u8 c] (⟨0,.nil⟩) ae :=
 tq eN mixed (ZY l) (hs:= .nil) ay aW
theorem aaa(n:Nat):n &&& 28=4* (n/4%8):=by
 have h:∀r:Fin 32,(r.val &&& 28)=4* (r.val/4%8):= aS
 have e:n &&& 28=(n%32) &&& 28:=by rw [show n%32=n &&& 31 from(Nat.and_two_pow_sub_one_eq_mod n 5).symm,Nat.and_assoc];rfl
 have ai:n%32 &&& 28=4* (n%32/4%8):=h ⟨n%32,Nat.mod_lt _ aS⟩;rw [e,ai];omega
theorem aab(n:Nat)(h:n<2^62):n &&& (2^64-29)=n-4* (n/4%8):=by
 have bi:(n &&& (2^64-29))/2^5=n/2^5:=by rw [Nat.and_div_two_pow,show(2^64-29)/2^5=2^59-1 by decide,Nat.and_two_pow_sub_one_eq_mod];exact Nat.mod_eq_of_lt ab
 have bu:(n &&& (2^64-29))%2^5=n%4:=by rw [Nat.and_mod_two_pow,show(2^64-29)%2^5=2^2-1 by decide,Nat.and_two_pow_sub_one_eq_mod];omega
 omega
theorem aac(n:Nat)(h:n<2^30):bp .i64 (n:Int) 28=(4* (n/4%8):Nat):=by
 unfold bp;rw [BitVec.toNat_and]
 have a:(BitVec.ofInt IntKind.i64.bits (n:Int)).toNat=n:=by show(BitVec.ofInt 64 (n:Int)).toNat=n;rw [BitVec.toNat_ofInt];omega
 have b:(BitVec.ofInt IntKind.i64.bits 28).toNat=28:= aS;rw [a,b,aaa];have:4* (n/4%8)<32:= ab;generalize 4* (n/4%8)=k at this;have w:∀k:Fin 32,IntKind.i64.wrap (k.val:Int)=k.val:= aS;exact w ⟨k,this⟩
theorem aad(n:Nat)(h:n<2^30):dO .i64 (n:Int) 28=(n-4* (n/4%8):Nat):=by
 unfold dO;rw [BitVec.toNat_and]
 have a:(BitVec.ofInt IntKind.i64.bits (n:Int)).toNat=n:=by show(BitVec.ofInt 64 (n:Int)).toNat=n;rw [BitVec.toNat_ofInt];omega
 have b:(~~~(BitVec.ofInt IntKind.i64.bits 28)).toNat=2^64-29:= aS;rw [a,b,aab n ab];generalize au:n-4* (n/4%8)=k;have:k<2^30:= ab;exact Ej ab ab rfl
theorem aae(k:Nat):bw .i64 ((4*k:Nat):Int) 2=k:=by unfold bw;show Int.fdiv ((4*k:Nat):Int) 4=k;rw [Int.fdiv_eq_ediv_of_nonneg _ aS];omega
set_option maxHeartbeats 8000000
def Ii(held b a6 n2 c:Nat):Option bl :=
 if a6<1∨4096<a6∨n2<1∨4096<n2 then none
 else if c=109∧b≤3 then some {kind:=3,code:=3,df:=held,x:=(a6:Int)-1,y:=(n2:Int)-1}
 else if c=77∧b≤2 then some {kind:=3,code:=b,df:=held,x:=(a6:Int)-1,y:=(n2:Int)-1}
 else if c=77∧32≤b∧b≤35 then some {kind:=3,code:=6,df:=held,x:=(a6:Int)-1,y:=(n2:Int)-1}
 else if c=77∧b=64 then some {kind:=3,code:=4,df:=held,x:=(a6:Int)-1,y:=(n2:Int)-1}
 else if c=77∧b=65 then some {kind:=3,code:=5,df:=held,x:=(a6:Int)-1,y:=(n2:Int)-1}
 else none
theorem aaf{rest:Bytes}{ap a6 n2 c:Nat}(h:Keys.numbers rest=some [ap,a6,n2]):Keys.e2 (60::rest) c=Ii (ap/4%8) (ap-4* (ap/4%8)) a6 n2 c:=by simp only [Keys.e2,h,Ii]
theorem aag{rest:Bytes}{ap a6 n2 c:Nat}(h:Keys.numbers rest=some [ap,a6,n2])(aC:rest.length<100)(bf:ap<2^30)(ac:a6<2^30)(ai:n2<2^30)(H:J):bS 147 [.str (60::rest),.int .u8 c] H (hi (Keys.e2 (60::rest) c)) H:=by
 refine b1.eT (Z0 (60::rest) c ap a6 n2 (fun v _=>v=hi (Keys.e2 (60::rest) c)) ?_) rfl rfl H
 delta qH dw cP eA mC Cl H8 Pd Ic Ie Pk H' H6 Pf mD mB Pj H9 H5 Pe yN Ph Ia H7 Ib Pg Ck Cj yM
 rw [aaf h,aac ap bf,aad ap bf,aae];have bU:ap/4%8<8:= ab;have ax:ap-4* (ap/4%8)<2^30:= ab;generalize ap/4%8=held at bU ax⊢;generalize ap-4*held=b at ax⊢;refine⟨rfl,rfl,fun _=>⟨h,aC,?_⟩,fun e=>by cases e⟩
 repeat' (first|exact True.intro|apply And.intro|intro _)
 all_goals first
  |omega
  |decide
  |exact(show(0:Int)≤2 by decide)
  |(unfold Ii;(repeat' split)<;>first|rfl|(exfalso;omega))
end Go.Proofs.YtddnafghiejcoaaGreatDoor
namespace Go.Keys
theorem Px{w:Bytes}{l:List Nat}(h:numbers w=some l):∀n∈l,n<1000000000:=by
 unfold numbers at h;split at h
 ·simp only [Option.some.injEq]at h;subst h;intro n aR;cases aR
 ·exact OO h
theorem aah{w:Bytes}{c:Nat}(h:w.head? ≠some 60):e2 w c=none:=by
 unfold e2;split
 ·simp at h
 ·rfl
theorem aai{r:Bytes}{c:Nat}(h:numbers r=none):e2 (60::r) c=none:=by simp only [e2,h]
theorem Co{r:Bytes}{c:Nat}{l:List Nat}(h:numbers r=some l)(aC:l.length≠3):e2 (60::r) c=none:=by
 simp only [e2,h];split
 ·rename_i Bl;simp only [Option.some.injEq]at Bl;subst Bl;simp at aC
 ·rfl
end Go.Keys
namespace Go.Proofs.YtddnafghiejcoaaGreatDoor
open Go.cf Go.Keys
set_option maxRecDepth 1000000
theorem aaj(w:Bytes)(c:Nat)(hw:w.length<100)(H:J):bS 147 [.str w,.int .u8 c] H (hi (Keys.e2 w c)) H:=by
 by_cases tM:w.head? =some 60
 ·cases w with
  |nil=>cases tM
  |cons b r =>
   simp only [List.head?_cons,Option.some.injEq]at tM;subst tM;have bc:r.length<100:=by simp only [List.length_cons]at hw;omega
   cases aR:Keys.numbers r with
   |none =>
    rw [aai aR];exact b1.eT (ZZ (60::r) c (fun v _=>v=hi none) ⟨rfl,rfl,fun _=>⟨aR,bc,rfl⟩,fun e=>by cases e⟩) rfl rfl H
   |some l =>
    match l,aR with
    |[],aR =>
     rw [Co aR aM];exact b1.eT (Z1 (60::r) c (fun v _=>v=hi none) ⟨rfl,rfl,fun _=>⟨aR,bc,rfl⟩,fun e=>by cases e⟩) rfl rfl H
    |[a,b,d],aR =>
     have cG:=Px aR;exact aag aR bc (by have:=cG a aM ;omega) (by have:=cG b aM ;omega) (by have:=cG d aM ;omega) H
    |[a],aR =>
     rw [Co aR aM];exact b1.eT (Ih (60::r) c [a] (fun v _=>v=hi none) ⟨rfl,rfl,fun _=>⟨aR,aM,bc,(fun h=>by simp only [List.length_cons,List.length_nil]at h;omega),fun _=>rfl⟩,fun e=>by cases e⟩) rfl rfl H
    |[a,b],aR =>
     rw [Co aR aM];exact b1.eT (Ih (60::r) c [a,b] (fun v _=>v=hi none) ⟨rfl,rfl,fun _=>⟨aR,aM,bc,(fun h=>by simp only [List.length_cons,List.length_nil]at h;omega),fun _=>rfl⟩,fun e=>by cases e⟩) rfl rfl H
    |a::b::d::e::t,aR =>
     rw [Co aR aM];exact b1.eT (Ih (60::r) c (a::b::d::e::t) (fun v _=>v=hi none) ⟨rfl,rfl,fun _=>⟨aR,aM,bc,(fun h=>by simp only [List.length_cons]at h;omega),fun _=>rfl⟩,fun e=>by cases e⟩) rfl rfl H
 ·rw [aah tM];cases aR:Keys.numbers w with
  |none=>exact b1.eT (Z8 w c (fun v _=>v=hi none) ⟨rfl,tM,aR,hw,rfl⟩) rfl rfl H
  |some l =>
   cases l with
   |nil=>exact b1.eT (Z9 w c (fun v _=>v=hi none) ⟨rfl,tM,aR,hw,rfl⟩) rfl rfl H
   |cons a t=>exact b1.eT (Z' w c (a::t) (fun v _=>v=hi none) ⟨rfl,tM,aR,aM,hw,rfl⟩) rfl rfl H
noncomputable def Py:List aa→J→Option ey:=kD fun a=>match a with | [.str w,.int .u8 c]=>some (hi (Keys.e2 w c.toNat),[w.length<100,0≤c∧c≤255])|_=>none
theorem yO:∀args h a,Py args h=some a→a.dt Tryz.prog cX 147 args h:=by
 refine lH ?_;intro args v ps e ah H;split at e<;>first|(cases e;done)|skip
 rename_i w c;simp only [Option.some.injEq,Prod.mk.injEq]at e;obtain⟨rfl,rfl⟩:=e;have bf:=ah.tail.head.1;have:=aaj w c.toNat ah.head H
 rwa [Int.toNat_of_nonneg bf]at this
noncomputable def Pz:List aa→J→Option ey:=kD fun a=>match a with | [.int .i64 n,.int .u8 m]=>some (hi (Keys.dL n.toNat m),[0≤n])|_=>none
theorem yP:∀args h a,Pz args h=some a→a.dt Tryz.prog cX 149 args h:=by
 refine lH ?_;intro args v ps e ah H;split at e<;>first|(cases e;done)|skip
 rename_i n m;simp only [Option.some.injEq,Prod.mk.injEq]at e;obtain⟨rfl,rfl⟩:=e;have bf:0≤n:=ah _ List.mem_cons_self;have:=Y1 n.toNat m H
 rwa [Int.toNat_of_nonneg bf]at this
noncomputable def yQ(num:List aa→J→Option ey):e1:=((qi.add 147 Py).add 149 Pz).add 148 num
noncomputable def aak:e1:=yQ Cf
noncomputable def aal:e1:=yQ Cg
noncomputable def aam(a:Nat):e1:=yQ (O9 a)
noncomputable def aan(a b:Nat):e1:=yQ (O' a b)
theorem aao:eJ Tryz.prog cX aak:=((cx.add yO).add yP).add HX
theorem aap:eJ Tryz.prog cX aal:=((cx.add yO).add yP).add HY
theorem aaq(a:Nat):eJ Tryz.prog cX (aam a):=((cx.add yO).add yP).add (ZK a)
theorem aar(a b:Nat):eJ Tryz.prog cX (aan a b):=((cx.add yO).add yP).add (ZL a b)
noncomputable def aas(l:List Nat):e1:=yQ (yL l)
theorem aat(l:List Nat):eJ Tryz.prog cX (aas l):=((cx.add yO).add yP).add (HZ l)
abbrev fR(w:Bytes)(c:Int):aa:=aa.agg [.int .i8 6,.int .i32 0,.int .u8 0,.int .i64 0,.int .i64 0,.str (w++[UInt8.ofNat (Int.toNat c)])]
abbrev hA(w:Bytes)(c:Int):aa:=aa.agg [.int .i8 (bl.kind (Option.getD (e2 w (Int.toNat c)) fk)),.int .i32 (bl.code (Option.getD (e2 w (Int.toNat c)) fk)),.int .u8 (bl.df (Option.getD (e2 w (Int.toNat c)) fk)),.int .i64 (bl.x (Option.getD (e2 w (Int.toNat c)) fk)),.int .i64 (bl.y (Option.getD (e2 w (Int.toNat c)) fk)),.str (Option.getD (e2 w (Int.toNat c)) fk).6]
abbrev hK(w:Bytes)(c:Int):af:=(af.an ([(hA w c)]) 6 true (some (42,6)))
theorem aau(w:Bytes)(c:Int)(ae:bI)(aW:(c=82→Nat.le (Nat.succ (List.length w+List.length [UInt8.ofNat (Int.toNat c)])) (2^62)∧ae (.tuple [(fR w c),.bool true]) (J.ar 14 [(0,(af.an ([(fR w c)]) 6 true (some (42,6)))),(2,af.an [cP] 6 true (some (42,6))),(8,af.an [.int .u8 c] 1 true)]))∧(¬c=82→(c=99→Nat.le (Nat.succ (List.length w+List.length [UInt8.ofNat (Int.toNat c)])) (2^62)∧ae (.tuple [(fR w c),.bool true]) (J.ar 16 [(0,(af.an ([(fR w c)]) 6 true (some (42,6)))),(2,af.an [cP] 6 true (some (42,6))),(10,af.an [.int .u8 c] 1 true)]))∧(¬c=99→(c=110→Nat.le (Nat.succ (List.length w+List.length [UInt8.ofNat (Int.toNat c)])) (2^62)∧ae (.tuple [(fR w c),.bool true]) (J.ar 18 [(0,(af.an ([(fR w c)]) 6 true (some (42,6)))),(2,af.an [cP] 6 true (some (42,6))),(12,af.an [.int .u8 c] 1 true)]))∧(¬c=110→(c=77→List.length w<100∧(0≤c∧c≤255)∧(Option.isSome (e2 w (Int.toNat c))=true→ae (.tuple [(hA w c),.bool true]) (J.ar 19 [(0,(hK w c)),(2,af.an [cP] 6 true (some (42,6)))]))∧(Option.isSome (e2 w (Int.toNat c))=false→ae (.tuple [(hA w c),.bool false]) (J.ar 19 [(0,(hK w c)),(2,af.an [cP] 6 true (some (42,6)))])))∧(¬c=77→(c=109→List.length w<100∧(0≤c∧c≤255)∧(Option.isSome (e2 w (Int.toNat c))=true→ae (.tuple [(hA w c),.bool true]) (J.ar 21 [(0,(hK w c)),(2,af.an [cP] 6 true (some (42,6)))]))∧(Option.isSome (e2 w (Int.toNat c))=false→ae (.tuple [(hA w c),.bool false]) (J.ar 21 [(0,(hK w c)),(2,af.an [cP] 6 true (some (42,6)))])))∧(¬c=109→numbers w=none∧List.length w<100∧ae (eA) (J.ar 26 [(0,dw),(2,af.an [cP] 6 true (some (42,6)))]))))))) :
 b4 130 [.str w,.int .u8 c] (⟨0,.nil⟩) ae :=
 b9 aao (.aI 3000 (ak 6004 .nil) (.aI 4000 (ak 6004 .nil) (.aI 5000 (ak 6004 .nil) (.aI 7000 (.aI 9004 .nil .nil) (.aI 8000 (.aI 9004 .nil .nil) .nil))))) aW
abbrev vI:aa:=aa.agg [.int .i8 2,.int .i32 2,.int .u8 1,.int .i64 0,.int .i64 0,.str []]
abbrev qI:aa:=aa.agg [.int .i8 5,.int .i32 0,.int .u8 0,.int .i64 0,.int .i64 0,.str []]
abbrev tN:aa:=aa.agg [.int .i8 5,.int .i32 1,.int .u8 0,.int .i64 0,.int .i64 0,.str []]
theorem aav(w:Bytes)(c:Int)(ae:bI)(aW:(c=82→Nat.le (Nat.succ (List.length w+List.length [UInt8.ofNat (Int.toNat c)])) (2^62)∧ae (.tuple [(fR w c),.bool true]) (J.ar 14 [(0,(af.an ([(fR w c)]) 6 true (some (42,6)))),(2,af.an [cP] 6 true (some (42,6))),(8,af.an [.int .u8 c] 1 true)]))∧(¬c=82→(c=99→Nat.le (Nat.succ (List.length w+List.length [UInt8.ofNat (Int.toNat c)])) (2^62)∧ae (.tuple [(fR w c),.bool true]) (J.ar 16 [(0,(af.an ([(fR w c)]) 6 true (some (42,6)))),(2,af.an [cP] 6 true (some (42,6))),(10,af.an [.int .u8 c] 1 true)]))∧(¬c=99→(c=110→Nat.le (Nat.succ (List.length w+List.length [UInt8.ofNat (Int.toNat c)])) (2^62)∧ae (.tuple [(fR w c),.bool true]) (J.ar 18 [(0,(af.an ([(fR w c)]) 6 true (some (42,6)))),(2,af.an [cP] 6 true (some (42,6))),(12,af.an [.int .u8 c] 1 true)]))∧(¬c=110→(c=77→List.length w<100∧(0≤c∧c≤255)∧(Option.isSome (e2 w (Int.toNat c))=true→ae (.tuple [(hA w c),.bool true]) (J.ar 19 [(0,(hK w c)),(2,af.an [cP] 6 true (some (42,6)))]))∧(Option.isSome (e2 w (Int.toNat c))=false→ae (.tuple [(hA w c),.bool false]) (J.ar 19 [(0,(hK w c)),(2,af.an [cP] 6 true (some (42,6)))])))∧(¬c=77→(c=109→List.length w<100∧(0≤c∧c≤255)∧(Option.isSome (e2 w (Int.toNat c))=true→ae (.tuple [(hA w c),.bool true]) (J.ar 21 [(0,(hK w c)),(2,af.an [cP] 6 true (some (42,6)))]))∧(Option.isSome (e2 w (Int.toNat c))=false→ae (.tuple [(hA w c),.bool false]) (J.ar 21 [(0,(hK w c)),(2,af.an [cP] 6 true (some (42,6)))])))∧(¬c=109→numbers w=some []∧List.length w<100∧(c=90→ae (.tuple [vI,.bool true]) (J.ar 32 [(0,(af.an ([vI]) 6 true (some (42,6)))),(2,af.an [cP] 6 true (some (42,6)))]))∧(¬c=90→(c=73→ae (.tuple [tN,.bool true]) (J.ar 34 [(0,(af.an ([tN]) 6 true (some (42,6)))),(2,af.an [cP] 6 true (some (42,6)))]))∧(¬c=73→(c=79→ae (.tuple [qI,.bool true]) (J.ar 36 [(0,(af.an ([qI]) 6 true (some (42,6)))),(2,af.an [cP] 6 true (some (42,6)))]))∧(¬c=79→(0<hf c→ae (.tuple [(oo c),.bool true]) (J.ar 42 [(0,(af.an ([(oo c)]) 6 true (some (42,6)))),(2,af.an [cP] 6 true (some (42,6)))]))∧(¬0<hf c→ae (eA) (J.ar 41 [(0,dw),(2,af.an [cP] 6 true (some (42,6)))]))))))))))) :
 b4 130 [.str w,.int .u8 c] (⟨0,.nil⟩) ae :=
 b9 aap (.aI 3000 (ak 6004 .nil) (.aI 4000 (ak 6004 .nil) (.aI 5000 (ak 6004 .nil) (.aI 7000 (.aI 9004 .nil .nil) (.aI 8000 (.aI 9004 .nil .nil) (.aI 15000 .nil (.aI 17000 .nil (.aI 19000 .nil (.aI 22001 .nil .nil))))))))) aW
abbrev Cp(ap:Nat):af:=(af.an ([.int .i64 (ap:Int)]) 1 false (some (3,0)))
abbrev yR:c':=(.aI 33001 (.aI 33007 .nil (.aI 35001 (.aI 36006 .nil .nil) .nil)) (.aI 35001 (.aI 36006 .nil .nil) .nil))
abbrev Ij(ap:Nat):aa:=aa.agg [.int .i8 2,.int .i32 (hH (ap:Int)),.int .u8 0,.int .i64 0,.int .i64 0,.str []]
abbrev Cq(ap:Nat):aa:=aa.agg [.int .i8 (bl.kind (Option.getD (dL ap 0) fk)),.int .i32 (bl.code (Option.getD (dL ap 0) fk)),.int .u8 (bl.df (Option.getD (dL ap 0) fk)),.int .i64 (bl.x (Option.getD (dL ap 0) fk)),.int .i64 (bl.y (Option.getD (dL ap 0) fk)),.str (Option.getD (dL ap (0)) fk).6]
abbrev PA(ap:Nat):aa:=aa.tuple [(Cq ap),.bool true]
abbrev PB(ap:Nat):aa:=aa.tuple [(Cq ap),.bool false]
abbrev PC(ap:Nat):af:=(af.an ([(Cq ap)]) 6 true (some (42,6)))
abbrev PD(ap:Nat):J:=(J.ar 79 [(0,(af.an ([(Ij ap)]) 6 true (some (42,6)))),(2,af.an [cP] 6 true (some (42,6))),(21,(Cp ap))])
abbrev Cr(ap:Nat)(ae:bI):Prop:=(0<hH (ap:Int)→ae (.tuple [(Ij ap),.bool true]) (PD ap))
abbrev Ik(ap:Nat):J:=(J.ar 77 [(0,dw),(2,af.an [cP] 6 true (some (42,6))),(21,(Cp ap))])
abbrev Il(ap:Nat):J:=(J.ar 83 [(0,(PC ap)),(2,af.an [cP] 6 true (some (42,6))),(21,(Cp ap))])
abbrev Im(ap:Nat)(ae:bI):Prop:=(Option.isSome (dL ap 0)=true→ae ((PA ap)) (Il ap))
abbrev Io(ap:Nat)(ae:bI):Prop:=(Option.isSome (dL ap 0)=false→ae ((PB ap)) (Il ap))
abbrev Cs(c:Int)(ap:Nat)(ae:bI):Prop:=(¬c=126→(c=117→0≤(ap:Int)∧(Im ap ae)∧(Io ap ae))∧(¬c=117→ae (eA) (Ik ap)))
abbrev Ct(c:Int)(ap:Nat)(ae:bI):Prop:=(¬0<hH (ap:Int)→(c=117→0≤(ap:Int)∧(Im ap ae)∧(Io ap ae))∧(¬c=117→ae (eA) (Ik ap)))
theorem aaw(w:Bytes)(c:Int)(ap:Nat)(ae:bI)(aW:(c=82→Nat.le (Nat.succ (List.length w+List.length [UInt8.ofNat (Int.toNat c)])) (2^62)∧ae (.tuple [(fR w c),.bool true]) (J.ar 14 [(0,(af.an ([(fR w c)]) 6 true (some (42,6)))),(2,af.an [cP] 6 true (some (42,6))),(8,af.an [.int .u8 c] 1 true)]))∧(¬c=82→(c=99→Nat.le (Nat.succ (List.length w+List.length [UInt8.ofNat (Int.toNat c)])) (2^62)∧ae (.tuple [(fR w c),.bool true]) (J.ar 16 [(0,(af.an ([(fR w c)]) 6 true (some (42,6)))),(2,af.an [cP] 6 true (some (42,6))),(10,af.an [.int .u8 c] 1 true)]))∧(¬c=99→(c=110→Nat.le (Nat.succ (List.length w+List.length [UInt8.ofNat (Int.toNat c)])) (2^62)∧ae (.tuple [(fR w c),.bool true]) (J.ar 18 [(0,(af.an ([(fR w c)]) 6 true (some (42,6)))),(2,af.an [cP] 6 true (some (42,6))),(12,af.an [.int .u8 c] 1 true)]))∧(¬c=110→(c=77→List.length w<100∧(0≤c∧c≤255)∧(Option.isSome (e2 w (Int.toNat c))=true→ae (.tuple [(hA w c),.bool true]) (J.ar 19 [(0,(hK w c)),(2,af.an [cP] 6 true (some (42,6)))]))∧(Option.isSome (e2 w (Int.toNat c))=false→ae (.tuple [(hA w c),.bool false]) (J.ar 19 [(0,(hK w c)),(2,af.an [cP] 6 true (some (42,6)))])))∧(¬c=77→(c=109→List.length w<100∧(0≤c∧c≤255)∧(Option.isSome (e2 w (Int.toNat c))=true→ae (.tuple [(hA w c),.bool true]) (J.ar 21 [(0,(hK w c)),(2,af.an [cP] 6 true (some (42,6)))]))∧(Option.isSome (e2 w (Int.toNat c))=false→ae (.tuple [(hA w c),.bool false]) (J.ar 21 [(0,(hK w c)),(2,af.an [cP] 6 true (some (42,6)))])))∧(¬c=109→numbers w=some [ap]∧List.length w<100∧(0<hf c→((ap:Int)=1→(c=126→(Cr ap ae)∧(Ct c ap ae))∧(Cs c ap ae))∧(¬(ap:Int)=1→(c=126→(Cr ap ae)∧(Ct c ap ae))∧(Cs c ap ae)))∧(¬0<hf c→(c=126→(Cr ap ae)∧(Ct c ap ae))∧(Cs c ap ae)))))))) :
 b4 130 [.str w,.int .u8 c] (⟨0,.nil⟩) ae :=
 tq eN mixed (aaq ap) (hs:= .aI 3000 (ak 6004 .nil) (.aI 4000 (ak 6004 .nil) (.aI 5000 (ak 6004 .nil) (.aI 7000 (.aI 9004 .nil .nil) (.aI 8000 (.aI 9004 .nil .nil) (.aI 31002 (.aI 31007 yR yR) yR)))))) ay aW
abbrev Ip(c:Int)(a6:Nat):aa:=aa.agg [.int .i8 2,.int .i32 (hf c),.int .u8 ((a6:Int)-1),.int .i64 0,.int .i64 0,.str []]
abbrev tO(ap a6:Nat):af:=⟨[.int .i64 (ap:Int),.int .i64 (a6:Int)],1,false,false,1,0,1,some (3,0)⟩
abbrev Iq(ap a6:Nat):aa:=aa.agg [.int .i8 2,.int .i32 (hH (ap:Int)),.int .u8 ((a6:Int)-1),.int .i64 0,.int .i64 0,.str []]
abbrev Cu(ap a6:Nat):aa:=aa.agg [.int .i8 (bl.kind (Option.getD (dL ap ((a6:Int)-1)) fk)),.int .i32 (bl.code (Option.getD (dL ap ((a6:Int)-1)) fk)),.int .u8 (bl.df (Option.getD (dL ap ((a6:Int)-1)) fk)),.int .i64 (bl.x (Option.getD (dL ap ((a6:Int)-1)) fk)),.int .i64 (bl.y (Option.getD (dL ap ((a6:Int)-1)) fk)),.str (Option.getD (dL ap ((a6:Int)-1)) fk).6]
abbrev PE(ap a6:Nat):af:=(af.an ([(Cu ap a6)]) 6 true (some (42,6)))
abbrev PF(ap a6:Nat):J:=(J.ar 83 [(0,(af.an ([(Iq ap a6)]) 6 true (some (42,6)))),(2,af.an [cP] 6 true (some (42,6))),(21,(tO ap a6))])
abbrev Cv(ap a6:Nat):J:=(J.ar 81 [(0,dw),(2,af.an [cP] 6 true (some (42,6))),(21,(tO ap a6))])
abbrev Ir(ap a6:Nat):J:=(J.ar 87 [(0,(PE ap a6)),(2,af.an [cP] 6 true (some (42,6))),(21,(tO ap a6))])
abbrev Cw(ap a6:Nat)(ae:bI):Prop:=(Option.isSome (dL ap ((a6:Int)-1))=true→ae (.tuple [(Cu ap a6),.bool true]) (Ir ap a6))
abbrev Cx(ap a6:Nat)(ae:bI):Prop:=(Option.isSome (dL ap ((a6:Int)-1))=false→ae (.tuple [(Cu ap a6),.bool false]) (Ir ap a6))
abbrev Is(c:Int)(ap a6:Nat)(ae:bI):Prop:=(c=126→(0<hH (ap:Int)→ae (.tuple [(Iq ap a6),.bool true]) (PF ap a6))∧(¬0<hH (ap:Int)→(c=117→0≤(ap:Int)∧(Cw ap a6 ae)∧(Cx ap a6 ae))∧(¬c=117→ae (eA) (Cv ap a6))))
theorem aax(w:Bytes)(c:Int)(ap a6:Nat)(ae:bI)(aW:(c=82→Nat.le (Nat.succ (List.length w+List.length [UInt8.ofNat (Int.toNat c)])) (2^62)∧ae (.tuple [(fR w c),.bool true]) (J.ar 14 [(0,(af.an ([(fR w c)]) 6 true (some (42,6)))),(2,af.an [cP] 6 true (some (42,6))),(8,af.an [.int .u8 c] 1 true)]))∧(¬c=82→(c=99→Nat.le (Nat.succ (List.length w+List.length [UInt8.ofNat (Int.toNat c)])) (2^62)∧ae (.tuple [(fR w c),.bool true]) (J.ar 16 [(0,(af.an ([(fR w c)]) 6 true (some (42,6)))),(2,af.an [cP] 6 true (some (42,6))),(10,af.an [.int .u8 c] 1 true)]))∧(¬c=99→(c=110→Nat.le (Nat.succ (List.length w+List.length [UInt8.ofNat (Int.toNat c)])) (2^62)∧ae (.tuple [(fR w c),.bool true]) (J.ar 18 [(0,(af.an ([(fR w c)]) 6 true (some (42,6)))),(2,af.an [cP] 6 true (some (42,6))),(12,af.an [.int .u8 c] 1 true)]))∧(¬c=110→(c=77→List.length w<100∧(0≤c∧c≤255)∧(Option.isSome (e2 w (Int.toNat c))=true→ae (.tuple [(hA w c),.bool true]) (J.ar 19 [(0,(hK w c)),(2,af.an [cP] 6 true (some (42,6)))]))∧(Option.isSome (e2 w (Int.toNat c))=false→ae (.tuple [(hA w c),.bool false]) (J.ar 19 [(0,(hK w c)),(2,af.an [cP] 6 true (some (42,6)))])))∧(¬c=77→(c=109→List.length w<100∧(0≤c∧c≤255)∧(Option.isSome (e2 w (Int.toNat c))=true→ae (.tuple [(hA w c),.bool true]) (J.ar 21 [(0,(hK w c)),(2,af.an [cP] 6 true (some (42,6)))]))∧(Option.isSome (e2 w (Int.toNat c))=false→ae (.tuple [(hA w c),.bool false]) (J.ar 21 [(0,(hK w c)),(2,af.an [cP] 6 true (some (42,6)))])))∧(¬c=109→numbers w=some [ap,a6]∧List.length w<100∧((a6:Int)<1→ae (eA) (J.ar 49 [(0,dw),(2,af.an [cP] 6 true (some (42,6))),(21,(tO ap a6))]))∧(¬(a6:Int)<1→(8<(a6:Int)→ae (eA) (J.ar 49 [(0,dw),(2,af.an [cP] 6 true (some (42,6))),(21,(tO ap a6))]))∧(¬8<(a6:Int)→(-9223372036854775808≤(a6:Int)-1∧(a6:Int)-1≤9223372036854775807)∧(0≤(a6:Int)-1∧(a6:Int)-1≤255)∧(0<hf c→((ap:Int)=1→ae (.tuple [(Ip c a6),.bool true]) (J.ar 71 [(0,(af.an ([(Ip c a6)]) 6 true (some (42,6)))),(2,af.an [cP] 6 true (some (42,6))),(21,(tO ap a6))]))∧(¬(ap:Int)=1→(Is c ap a6 ae)∧(¬c=126→(c=117→0≤(ap:Int)∧(Cw ap a6 ae)∧(Cx ap a6 ae))∧(¬c=117→ae (eA) (Cv ap a6)))))∧(¬0<hf c→(Is c ap a6 ae)∧(¬c=126→(c=117→0≤(ap:Int)∧(Cw ap a6 ae)∧(Cx ap a6 ae))∧(¬c=117→ae (eA) (Cv ap a6)))))))))))) :
 b4 130 [.str w,.int .u8 c] (⟨0,.nil⟩) ae :=
 tq eN mixed (aar ap a6) (hs:= .aI 3000 (ak 6004 .nil) (.aI 4000 (ak 6004 .nil) (.aI 5000 (ak 6004 .nil) (.aI 7000 (.aI 9004 .nil .nil) (.aI 8000 (.aI 9004 .nil .nil) (.aI 28005 .nil (.aI 28009 .nil (ak 30001 (ak 30002 (.aI 31002 (.aI 31007 .nil yR) yR)))))))))) ay aW
abbrev PG:c':=(ak 36001 (ak 36002 (.aI 36006 .nil .nil)))
abbrev It(l:List Nat):aa:=aa.agg [.int .i8 2,.int .i32 (hH (ba (bH l) 0)),.int .u8 0,.int .i64 0,.int .i64 0,.str []]
abbrev Iu(c:Int)(l:List Nat):aa:=aa.agg [.int .i8 2,.int .i32 (hf c),.int .u8 (ba (bH l) 1-1),.int .i64 0,.int .i64 0,.str []]
abbrev Iv(l:List Nat):aa:=aa.agg [.int .i8 2,.int .i32 (hH (ba (bH l) 0)),.int .u8 (ba (bH l) 1-1),.int .i64 0,.int .i64 0,.str []]
abbrev Cy(l:List Nat):aa:=aa.agg [.int .i8 (bl.kind (Option.getD (dL (Int.toNat (ba (bH l) 0)) 0) fk)),.int .i32 (bl.code (Option.getD (dL (Int.toNat (ba (bH l) 0)) 0) fk)),.int .u8 (bl.df (Option.getD (dL (Int.toNat (ba (bH l) 0)) 0) fk)),.int .i64 (bl.x (Option.getD (dL (Int.toNat (ba (bH l) 0)) 0) fk)),.int .i64 (bl.y (Option.getD (dL (Int.toNat (ba (bH l) 0)) 0) fk)),.str (Option.getD (dL (Int.toNat (ba (bH l) 0)) (0)) fk).6]
abbrev Cz(l:List Nat):aa:=aa.agg [.int .i8 (bl.kind (Option.getD (dL (Int.toNat (ba (bH l) 0)) (ba (bH l) 1-1)) fk)),.int .i32 (bl.code (Option.getD (dL (Int.toNat (ba (bH l) 0)) (ba (bH l) 1-1)) fk)),.int .u8 (bl.df (Option.getD (dL (Int.toNat (ba (bH l) 0)) (ba (bH l) 1-1)) fk)),.int .i64 (bl.x (Option.getD (dL (Int.toNat (ba (bH l) 0)) (ba (bH l) 1-1)) fk)),.int .i64 (bl.y (Option.getD (dL (Int.toNat (ba (bH l) 0)) (ba (bH l) 1-1)) fk)),.str (Option.getD (dL (Int.toNat (ba (bH l) 0)) (ba (bH l) 1-1)) fk).6]
abbrev PH(l:List Nat):aa:=aa.tuple [(Cy l),.bool true]
abbrev PI(l:List Nat):aa:=aa.tuple [(Cz l),.bool true]
abbrev PJ(l:List Nat):aa:=aa.tuple [(Cy l),.bool false]
abbrev PK(l:List Nat):aa:=aa.tuple [(Cz l),.bool false]
abbrev PL(l:List Nat):af:=(af.an ([(Cy l)]) 6 true (some (42,6)))
abbrev PM(l:List Nat):af:=(af.an ([(Cz l)]) 6 true (some (42,6)))
abbrev aay:c':=(.aI 33007 (ak 34001 (ak 34002 .nil)) (.aI 35001 PG .nil))
abbrev PN(l:List Nat):J:=(J.ar 79 [(0,(af.an ([(It l)]) 6 true (some (42,6)))),(2,af.an [cP] 6 true (some (42,6))),(21,(hz l))])
abbrev PO(l:List Nat):J:=(J.ar 83 [(0,(af.an ([(Iv l)]) 6 true (some (42,6)))),(2,af.an [cP] 6 true (some (42,6))),(21,(hz l))])
abbrev Iw:c':=(.aI 33001 (ak 33004 (ak 33005 aay)) (.aI 35001 PG .nil))
abbrev CA(l:List Nat):J:=(J.ar 49 [(0,dw),(2,af.an [cP] 6 true (some (42,6))),(21,(hz l))])
abbrev yS(l:List Nat):J:=(J.ar 77 [(0,dw),(2,af.an [cP] 6 true (some (42,6))),(21,(hz l))])
abbrev yT(l:List Nat):J:=(J.ar 81 [(0,dw),(2,af.an [cP] 6 true (some (42,6))),(21,(hz l))])
abbrev Ix(l:List Nat):J:=(J.ar 83 [(0,(PL l)),(2,af.an [cP] 6 true (some (42,6))),(21,(hz l))])
abbrev Iy(l:List Nat):J:=(J.ar 87 [(0,(PM l)),(2,af.an [cP] 6 true (some (42,6))),(21,(hz l))])
abbrev CB(l:List Nat)(ae:bI):Prop:=(0<hH (ba (bH l) 0)→((0:Int)≤0∧0<(↑(List.length l):Int))∧List.length l-1=List.length l-1∧(bH l)[0]? =some (.int .i64 (ba (bH l) 0))∧ae (.tuple [(It l),.bool true]) (PN l))
abbrev CC(l:List Nat)(ae:bI):Prop:=(0<hH (ba (bH l) 0)→((0:Int)≤0∧0<(↑(List.length l):Int))∧List.length l-1=List.length l-1∧(bH l)[0]? =some (.int .i64 (ba (bH l) 0))∧ae (.tuple [(Iv l),.bool true]) (PO l))
abbrev PP:c':=(.aI 31002 (ak 31005 (ak 31006 (.aI 31007 (.aI 31012 .nil Iw) Iw))) Iw)
abbrev yU(c:Int)(l:List Nat)(ae:bI):Prop:=(c=117→((0:Int)≤0∧0<(↑(List.length l):Int))∧List.length l-1=List.length l-1∧(bH l)[0]? =some (.int .i64 (ba (bH l) 0))∧0≤ba (bH l) 0∧(Option.isSome (dL (Int.toNat (ba (bH l) 0)) 0)=true→ae ((PH l)) (Ix l))∧(Option.isSome (dL (Int.toNat (ba (bH l) 0)) 0)=false→ae ((PJ l)) (Ix l)))
abbrev yV(c:Int)(l:List Nat)(ae:bI):Prop:=(c=117→((0:Int)≤0∧0<(↑(List.length l):Int))∧List.length l-1=List.length l-1∧(bH l)[0]? =some (.int .i64 (ba (bH l) 0))∧0≤ba (bH l) 0∧(Option.isSome (dL (Int.toNat (ba (bH l) 0)) (ba (bH l) 1-1))=true→ae ((PI l)) (Iy l))∧(Option.isSome (dL (Int.toNat (ba (bH l) 0)) (ba (bH l) 1-1))=false→ae ((PK l)) (Iy l)))
abbrev CD(c:Int)(l:List Nat)(ae:bI):Prop:=(¬0<hH (ba (bH l) 0)→(yU c l ae)∧(¬c=117→ae (eA) (yS l)))
abbrev CE(c:Int)(l:List Nat)(ae:bI):Prop:=(¬0<hH (ba (bH l) 0)→(yV c l ae)∧(¬c=117→ae (eA) (yT l)))
theorem aaz(w:Bytes)(c:Int)(l:List Nat)(ae:bI)(aW:(c=82→Nat.le (Nat.succ (List.length w+List.length [UInt8.ofNat (Int.toNat c)])) (2^62)∧ae (.tuple [(fR w c),.bool true]) (J.ar 14 [(0,(af.an ([(fR w c)]) 6 true (some (42,6)))),(2,af.an [cP] 6 true (some (42,6))),(8,af.an [.int .u8 c] 1 true)]))∧(¬c=82→(c=99→Nat.le (Nat.succ (List.length w+List.length [UInt8.ofNat (Int.toNat c)])) (2^62)∧ae (.tuple [(fR w c),.bool true]) (J.ar 16 [(0,(af.an ([(fR w c)]) 6 true (some (42,6)))),(2,af.an [cP] 6 true (some (42,6))),(10,af.an [.int .u8 c] 1 true)]))∧(¬c=99→(c=110→Nat.le (Nat.succ (List.length w+List.length [UInt8.ofNat (Int.toNat c)])) (2^62)∧ae (.tuple [(fR w c),.bool true]) (J.ar 18 [(0,(af.an ([(fR w c)]) 6 true (some (42,6)))),(2,af.an [cP] 6 true (some (42,6))),(12,af.an [.int .u8 c] 1 true)]))∧(¬c=110→(c=77→List.length w<100∧(0≤c∧c≤255)∧(Option.isSome (e2 w (Int.toNat c))=true→ae (.tuple [(hA w c),.bool true]) (J.ar 19 [(0,(hK w c)),(2,af.an [cP] 6 true (some (42,6)))]))∧(Option.isSome (e2 w (Int.toNat c))=false→ae (.tuple [(hA w c),.bool false]) (J.ar 19 [(0,(hK w c)),(2,af.an [cP] 6 true (some (42,6)))])))∧(¬c=77→(c=109→List.length w<100∧(0≤c∧c≤255)∧(Option.isSome (e2 w (Int.toNat c))=true→ae (.tuple [(hA w c),.bool true]) (J.ar 21 [(0,(hK w c)),(2,af.an [cP] 6 true (some (42,6)))]))∧(Option.isSome (e2 w (Int.toNat c))=false→ae (.tuple [(hA w c),.bool false]) (J.ar 21 [(0,(hK w c)),(2,af.an [cP] 6 true (some (42,6)))])))∧(¬c=109→numbers w=some l∧(l=[]→False)∧List.length w<100∧((↑(List.length l):Int)=0→(c=90→ae (.tuple [vI,.bool true]) (J.ar 33 [(0,(af.an ([vI]) 6 true (some (42,6)))),(2,af.an [cP] 6 true (some (42,6))),(21,(hz l))]))∧(¬c=90→(c=73→ae (.tuple [tN,.bool true]) (J.ar 35 [(0,(af.an ([tN]) 6 true (some (42,6)))),(2,af.an [cP] 6 true (some (42,6))),(21,(hz l))]))∧(¬c=73→(c=79→ae (.tuple [qI,.bool true]) (J.ar 37 [(0,(af.an ([qI]) 6 true (some (42,6)))),(2,af.an [cP] 6 true (some (42,6))),(21,(hz l))]))∧(¬c=79→(0<hf c→ae (.tuple [(oo c),.bool true]) (J.ar 43 [(0,(af.an ([(oo c)]) 6 true (some (42,6)))),(2,af.an [cP] 6 true (some (42,6))),(21,(hz l))]))∧(¬0<hf c→ae (eA) (J.ar 42 [(0,dw),(2,af.an [cP] 6 true (some (42,6))),(21,(hz l))]))))))∧(¬(↑(List.length l):Int)=0→((↑(List.length l):Int)=2→((0:Int)≤1∧1<(↑(List.length l):Int))∧List.length l-1=List.length l-1∧(bH l)[1]? =some (.int .i64 (ba (bH l) 1))∧(2<(↑(List.length l):Int)→ae (eA) (CA l))∧(¬2<(↑(List.length l):Int)→(ba (bH l) 1<1→ae (eA) (CA l))∧(¬ba (bH l) 1<1→(8<ba (bH l) 1→ae (eA) (CA l))∧(¬8<ba (bH l) 1→(-9223372036854775808≤ba (bH l) 1-1∧ba (bH l) 1-1≤9223372036854775807)∧(0≤ba (bH l) 1-1∧ba (bH l) 1-1≤255)∧(0<hf c→((0:Int)≤0∧0<(↑(List.length l):Int))∧List.length l-1=List.length l-1∧(bH l)[0]? =some (.int .i64 (ba (bH l) 0))∧(ba (bH l) 0=1→((↑(List.length l):Int)=2→ae (.tuple [(Iu c l),.bool true]) (J.ar 71 [(0,(af.an ([(Iu c l)]) 6 true (some (42,6)))),(2,af.an [cP] 6 true (some (42,6))),(21,(hz l))]))∧(¬(↑(List.length l):Int)=2→(c=126→((0:Int)≤0∧0<(↑(List.length l):Int))∧List.length l-1=List.length l-1∧(bH l)[0]? =some (.int .i64 (ba (bH l) 0))∧(CC l ae)∧(CE c l ae))∧(¬c=126→(yV c l ae)∧(¬c=117→ae (eA) (yT l)))))∧(¬ba (bH l) 0=1→(c=126→((0:Int)≤0∧0<(↑(List.length l):Int))∧List.length l-1=List.length l-1∧(bH l)[0]? =some (.int .i64 (ba (bH l) 0))∧(CC l ae)∧(CE c l ae))∧(¬c=126→(yV c l ae)∧(¬c=117→ae (eA) (yT l)))))∧(¬0<hf c→(c=126→((0:Int)≤0∧0<(↑(List.length l):Int))∧List.length l-1=List.length l-1∧(bH l)[0]? =some (.int .i64 (ba (bH l) 0))∧(CC l ae)∧(CE c l ae))∧(¬c=126→(yV c l ae)∧(¬c=117→ae (eA) (yT l))))))))∧(¬(↑(List.length l):Int)=2→(2<(↑(List.length l):Int)→ae (eA) (J.ar 45 [(0,dw),(2,af.an [cP] 6 true (some (42,6))),(21,(hz l))]))∧(¬2<(↑(List.length l):Int)→(0<hf c→((0:Int)≤0∧0<(↑(List.length l):Int))∧List.length l-1=List.length l-1∧(bH l)[0]? =some (.int .i64 (ba (bH l) 0))∧(ba (bH l) 0=1→((↑(List.length l):Int)=2→ae (.tuple [(oo c),.bool true]) (J.ar 67 [(0,(af.an ([(oo c)]) 6 true (some (42,6)))),(2,af.an [cP] 6 true (some (42,6))),(21,(hz l))]))∧(¬(↑(List.length l):Int)=2→(c=126→((0:Int)≤0∧0<(↑(List.length l):Int))∧List.length l-1=List.length l-1∧(bH l)[0]? =some (.int .i64 (ba (bH l) 0))∧(CB l ae)∧(CD c l ae))∧(¬c=126→(yU c l ae)∧(¬c=117→ae (eA) (yS l)))))∧(¬ba (bH l) 0=1→(c=126→((0:Int)≤0∧0<(↑(List.length l):Int))∧List.length l-1=List.length l-1∧(bH l)[0]? =some (.int .i64 (ba (bH l) 0))∧(CB l ae)∧(CD c l ae))∧(¬c=126→(yU c l ae)∧(¬c=117→ae (eA) (yS l)))))∧(¬0<hf c→(c=126→((0:Int)≤0∧0<(↑(List.length l):Int))∧List.length l-1=List.length l-1∧(bH l)[0]? =some (.int .i64 (ba (bH l) 0))∧(CB l ae)∧(CD c l ae))∧(¬c=126→(yU c l ae)∧(¬c=117→ae (eA) (yS l))))))))))))) :
 b4 130 [.str w,.int .u8 c] (⟨0,.nil⟩) ae :=
 tq eN mixed (aat l) (hs:= .aI 3000 (ak 6004 .nil) (.aI 4000 (ak 6004 .nil) (.aI 5000 (ak 6004 .nil) (.aI 7000 (.aI 9004 .nil .nil) (.aI 8000 (.aI 9004 .nil .nil) (.aI 13002 (.aI 15000 .nil (.aI 17000 .nil (.aI 19000 .nil (.aI 22001 .nil .nil)))) (.aI 26002 (ak 27001 (ak 27002 (.aI 28002 .nil (.aI 28005 .nil (.aI 28009 .nil (ak 30001 (ak 30002 PP))))))) (.aI 28002 .nil PP)))))))) ay aW
set_option maxHeartbeats 4000000
theorem mE{c k:UInt8}(h:c.toNat=k.toNat):c=k:=UInt8.toNat_inj.1 h
theorem tP{o:Option bl}{b:Bool}(h:o.isSome=b):aa.tuple [cB (o.getD fk),.bool b]=hi o:=by subst h;rfl
theorem aaA{w:Bytes}{c:UInt8}(h:Keys.numbers w=none)(hw:w.length<100)(H:J):bS 130 [.str w,.int .u8 c.toNat] H (hi (Keys.told w c)) H:=by
 refine b1.eT (aau w c.toNat (fun v _=>v=hi (Keys.told w c)) ?_) rfl rfl H
 delta cP dw eA hK hA fR
 have aw:=c.toNat_lt;rw [pt,show Int.toNat (c.toNat:Int)=c.toNat by simp];have Iz:(c.toNat:Int)=82→c=82:=fun e=>mE (by show c.toNat=82;omega)
 have IA:(c.toNat:Int)=99→c=99:=fun e=>mE (by show c.toNat=99;omega)
 have IB:(c.toNat:Int)=110→c=110:=fun e=>mE (by show c.toNat=110;omega)
 have IC:(c.toNat:Int)=77→c=77:=fun e=>mE (by show c.toNat=77;omega)
 have ID:(c.toNat:Int)=109→c=109:=fun e=>mE (by show c.toNat=109;omega)
 have IE:c=82∨c=99∨c=110→Keys.told w c=some {kind:=6,text:=w++[c]} :=fun e=>by simp only [Keys.told,if_pos e]
 have IF:¬(c=82∨c=99∨c=110)→c=77∨c=109→Keys.told w c=Keys.e2 w c.toNat:=fun e bu=>by simp only [Keys.told,if_neg e,if_pos bu]
 have IG:¬(c=82∨c=99∨c=110)→ ¬(c=77∨c=109)→Keys.told w c=none:=fun e bu=>by simp only [Keys.told,if_neg e,if_neg bu,h]
 have vJ:¬(c.toNat:Int)=82→c≠82:=fun e f=>e (by rw [f];rfl)
 have n99:¬(c.toNat:Int)=99→c≠99:=fun e f=>e (by rw [f];rfl)
 have n110:¬(c.toNat:Int)=110→c≠110:=fun e f=>e (by rw [f];rfl)
 have CF:¬(c.toNat:Int)=77→c≠77:=fun e f=>e (by rw [f];rfl)
 have n109:¬(c.toNat:Int)=109→c≠109:=fun e f=>e (by rw [f];rfl)
 have lw:List.length w+List.length [c]<2^62:=by simp;omega
 repeat' (first|assumption|exact Nat.succ_le_of_lt lw|apply And.intro|intro _)
 all_goals first
  |omega
  |(rw [IE (by first|exact .inl (Iz ‹_›)|exact .inr (.inl (IA ‹_›))|exact .inr (.inr (IB ‹_›)))];rfl)
  |(rw [IF (by simp only [vJ ‹_›,n99 ‹_›,n110 ‹_›,or_self,not_false_eq_true]) (by first|exact .inl (IC ‹_›)|exact .inr (ID ‹_›))];exact tP ‹_›)
  |(rw [IG (by simp only [vJ ‹_›,n99 ‹_›,n110 ‹_›,or_self,not_false_eq_true]) (by simp only [CF ‹_›,n109 ‹_›,or_self,not_false_eq_true])];rfl)
theorem aaB{w:Bytes}{c:UInt8}(h:Keys.numbers w=some [])(hw:w.length<100)(H:J):bS 130 [.str w,.int .u8 c.toNat] H (hi (Keys.told w c)) H:=by
 refine b1.eT (aav w c.toNat (fun v _=>v=hi (Keys.told w c)) ?_) rfl rfl H
 delta cP dw eA oo qI tN vI hK hA fR
 have aw:=c.toNat_lt;rw [pt,show Int.toNat (c.toNat:Int)=c.toNat by simp,yn];have Iz:(c.toNat:Int)=82→c=82:=fun e=>mE (by show c.toNat=82;omega)
 have IA:(c.toNat:Int)=99→c=99:=fun e=>mE (by show c.toNat=99;omega)
 have IB:(c.toNat:Int)=110→c=110:=fun e=>mE (by show c.toNat=110;omega)
 have IC:(c.toNat:Int)=77→c=77:=fun e=>mE (by show c.toNat=77;omega)
 have ID:(c.toNat:Int)=109→c=109:=fun e=>mE (by show c.toNat=109;omega)
 have IE:c=82∨c=99∨c=110→Keys.told w c=some {kind:=6,text:=w++[c]} :=fun e=>by simp only [Keys.told,if_pos e]
 have IF:¬(c=82∨c=99∨c=110)→c=77∨c=109→Keys.told w c=Keys.e2 w c.toNat:=fun e bu=>by simp only [Keys.told,if_neg e,if_pos bu]
 have aaC:(c.toNat:Int)=90→c=90:=fun e=>mE (by show c.toNat=90;omega)
 have aaD:(c.toNat:Int)=73→c=73:=fun e=>mE (by show c.toNat=73;omega)
 have aaE:(c.toNat:Int)=79→c=79:=fun e=>mE (by show c.toNat=79;omega)
 have PQ:¬(c.toNat:Int)=90→c≠90:=fun e f=>e (by rw [f];rfl)
 have PR:¬(c.toNat:Int)=73→c≠73:=fun e f=>e (by rw [f];rfl)
 have PS:¬(c.toNat:Int)=79→c≠79:=fun e f=>e (by rw [f];rfl)
 have aaF:c=90→Keys.told w c=some (er 2 1):=fun e=>by subst e;simp [Keys.told,h]
 have aaG:c=73→Keys.told w c=some {kind:=5,code:=1} :=fun e=>by subst e;simp [Keys.told,h]
 have aaH:c=79→Keys.told w c=some {kind:=5} :=fun e=>by subst e;simp [Keys.told,h]
 have yW:¬(c=82∨c=99∨c=110)→ ¬(c=77∨c=109)→c≠90→c≠73→c≠79→0<gw c.toNat→Keys.told w c=some (er (gw c.toNat)):=fun e bu b7 cc iw vK=>by simp only [Keys.told,if_neg e,if_neg bu,h,if_neg b7,if_neg cc,if_neg iw,if_pos vK]
 have IG:¬(c=82∨c=99∨c=110)→ ¬(c=77∨c=109)→c≠90→c≠73→c≠79→ ¬0<gw c.toNat→Keys.told w c=none:=fun e bu b7 cc iw vK=>by simp only [Keys.told,if_neg e,if_neg bu,h,if_neg b7,if_neg cc,if_neg iw,if_neg vK]
 have vJ:¬(c.toNat:Int)=82→c≠82:=fun e f=>e (by rw [f];rfl)
 have n99:¬(c.toNat:Int)=99→c≠99:=fun e f=>e (by rw [f];rfl)
 have n110:¬(c.toNat:Int)=110→c≠110:=fun e f=>e (by rw [f];rfl)
 have CF:¬(c.toNat:Int)=77→c≠77:=fun e f=>e (by rw [f];rfl)
 have n109:¬(c.toNat:Int)=109→c≠109:=fun e f=>e (by rw [f];rfl)
 have lw:List.length w+List.length [c]<2^62:=by simp;omega
 repeat' (first|assumption|exact Nat.succ_le_of_lt lw|apply And.intro|intro _)
 all_goals first
  |omega
  |(rw [IE (by first|exact .inl (Iz ‹_›)|exact .inr (.inl (IA ‹_›))|exact .inr (.inr (IB ‹_›)))];rfl)
  |(rw [IF (by simp only [vJ ‹_›,n99 ‹_›,n110 ‹_›,or_self,not_false_eq_true]) (by first|exact .inl (IC ‹_›)|exact .inr (ID ‹_›))];exact tP ‹_›)
  |(rw [aaF (aaC ‹_›)];rfl)
  |(rw [aaG (aaD ‹_›)];rfl)
  |(rw [aaH (aaE ‹_›)];rfl)
  |(rw [yW (by simp only [vJ ‹_›,n99 ‹_›,n110 ‹_›,or_self,not_false_eq_true]) (by simp only [CF ‹_›,n109 ‹_›,or_self,not_false_eq_true]) (PQ ‹_›) (PR ‹_›) (PS ‹_›) ‹_›];rfl)
  |(rw [IG (by simp only [vJ ‹_›,n99 ‹_›,n110 ‹_›,or_self,not_false_eq_true]) (by simp only [CF ‹_›,n109 ‹_›,or_self,not_false_eq_true]) (PQ ‹_›) (PR ‹_›) (PS ‹_›) ‹_›];rfl)
end Go.Proofs.YtddnafghiejcoaaGreatDoor
namespace Go.Keys
theorem vL{c k:UInt8}(h:(c.toNat:Int)=(k.toNat:Int)):c=k:=UInt8.toNat_inj.1 ab
theorem PT(c k:UInt8):(c=k)=((c.toNat:Int)=(k.toNat:Int)):=propext ⟨fun e=>by rw [e],vL⟩
structure CG(c:UInt8):Prop where
 dh:¬(c.toNat:Int)=82
 du:¬(c.toNat:Int)=99
 fE:¬(c.toNat:Int)=110
 k2:¬(c.toNat:Int)=77
 ns:¬(c.toNat:Int)=109
def IH(r:List Nat):Int:=match r with | [x]=>(x:Int)|_=>1
theorem told_other{w:Bytes}{c:UInt8}(o:CG c){ap:Nat}{r:List Nat}(h:numbers w=some (ap::r)):told w c =
 (let m:Int:=IH r
  if 1<r.length∨m<1∨8<m then none
  else if 0<gw c.toNat∧ap=1∧r.length=1 then some (er (gw c.toNat) (m-1))
  else if(c.toNat:Int)=126∧0<iM ap then some (er (iM ap) (m-1))
  else if(c.toNat:Int)=117 then dL ap (m-1)
  else none):=by
 have ac:¬(c=82∨c=99∨c=110):=by
  rintro (e|e|e)
  ·exact o.dh (by rw [e];rfl)
  ·exact o.du (by rw [e];rfl)
  ·exact o.fE (by rw [e];rfl)
 have ai:¬(c=77∨c=109):=by
  rintro (e|e)
  ·exact o.k2 (by rw [e];rfl)
  ·exact o.ns (by rw [e];rfl)
 have aaI:(c=126)=((c.toNat:Int)=126):=PT c 126;have aaJ:(c=117)=((c.toNat:Int)=117):=PT c 117;simp only [told,if_neg ac,if_neg ai,h,aaI,aaJ];cases r with
 |nil=>rfl
 |cons a t=>cases t<;>rfl
theorem II{w:Bytes}{c:UInt8}(o:CG c){ap:Nat}(h:numbers w=some [ap]):told w c=if(c.toNat:Int)=126∧0<iM ap then some (er (iM ap) 0)else if(c.toNat:Int)=117 then dL ap 0 else none:=by rw [told_other o h];simp [show IH []=1 from rfl]
theorem yX{w:Bytes}{c:UInt8}(o:CG c){ap a6:Nat}(h:numbers w=some [ap,a6]):told w c=if(a6:Int)<1∨8<(a6:Int)then none else if 0<gw c.toNat∧ap=1 then some (er (gw c.toNat) ((a6:Int)-1))else if(c.toNat:Int)=126∧0<iM ap then some (er (iM ap) ((a6:Int)-1))else if(c.toNat:Int)=117 then dL ap ((a6:Int)-1)else none:=by have bi:(1< [a6].length∨(a6:Int)<1∨8<(a6:Int))=((a6:Int)<1∨8<(a6:Int)):=propext aM;have bu:(0<gw c.toNat∧ap=1∧ [a6].length=1)=(0<gw c.toNat∧ap=1):=propext aM;rw [told_other o h];simp only [show IH [a6]=(a6:Int)from rfl,bi,bu]
theorem aaK{w:Bytes}{c:UInt8}(o:CG c){l:List Nat}(h:numbers w=some l)(aC:2<l.length):told w c=none:=by
 cases l with
 |nil=>simp at aC
 |cons a r =>
  rw [told_other o h];simp only [List.length_cons]at aC;have aB:1<r.length:= ab;simp [aB]
theorem IJ{w:Bytes}{c:UInt8}(h:(c.toNat:Int)=82∨(c.toNat:Int)=99∨(c.toNat:Int)=110):told w c=some {kind:=6,text:=w++[c]} :=by
 have ac:c=82∨c=99∨c=110:=by
  rcases h with h|h|h
  ·exact .inl (vL h)
  ·exact .inr (.inl (vL h))
  ·exact .inr (.inr (vL h))
 simp only [told,if_pos ac]
theorem IK{w:Bytes}{c:UInt8}(h:(c.toNat:Int)=77∨(c.toNat:Int)=109):told w c=e2 w c.toNat:=by
 have ai:c=77∨c=109:=by
  rcases h with h|h
  ·exact .inl (vL h)
  ·exact .inr (vL h)
 have ac:¬(c=82∨c=99∨c=110):=by rcases ai with rfl|rfl<;>decide
 simp only [told,if_neg ac,if_pos ai]
end Go.Keys
namespace Go.Proofs.YtddnafghiejcoaaGreatDoor
open Go.cf Go.Keys
set_option maxRecDepth 1000000
set_option maxHeartbeats 4000000
theorem PU(n:Nat):hH (n:Int)=iM n:=by unfold hH iM;have av:((n:Int)=1∨(n:Int)=7)=(n=1∨n=7):=propext ab;have a2:((n:Int)=4∨(n:Int)=8)=(n=4∨n=8):=propext ab;have a3:((n:Int)=2∨(n:Int)=3)=(n=2∨n=3):=propext ab;have a4:((n:Int)=5∨(n:Int)=6)=(n=5∨n=6):=propext ab;have a5:(11≤(n:Int)∧(n:Int)≤15)=(11≤n∧n≤15):=propext ab;have pc:(17≤(n:Int)∧(n:Int)≤21)=(17≤n∧n≤21):=propext ab;have xN:((n:Int)=23∨(n:Int)=24)=(n=23∨n=24):=propext ab;simp only [av,a2,a3,a4,a5,pc,xN]
theorem aaL{w:Bytes}{c:UInt8}{ap:Nat}(h:Keys.numbers w=some [ap])(hw:w.length<100)(H:J):bS 130 [.str w,.int .u8 c.toNat] H (hi (Keys.told w c)) H:=by
 refine b1.eT (aaw w c.toNat ap (fun v _=>v=hi (Keys.told w c)) ?_) rfl rfl H
 delta Cs Ik Cp cP dw eA Io Il PC Cq PB Im PA Ct Cr PD Ij hK hA fR
 have aw:=c.toNat_lt;rw [pt,show Int.toNat (c.toNat:Int)=c.toNat by simp,yn,PU];have lw:List.length w+List.length [c]<2^62:=by simp;omega
 have aaM:(0:Int)≤(ap:Int):= ab
 repeat' (first|assumption|exact Nat.succ_le_of_lt lw|apply And.intro|intro _)
 all_goals first
  |omega
  |(rw [IJ ab];rfl)
  |(rw [IK ab];exact tP ‹_›)
  |(rw [II ⟨ab,ab,ab,ab,ab⟩ h,if_pos ab];rfl)
  |(rw [II ⟨ab,ab,ab,ab,ab⟩ h,if_neg ab,if_pos ab];exact tP ‹_›)
  |(rw [II ⟨ab,ab,ab,ab,ab⟩ h,if_neg ab,if_neg ab];rfl)
theorem aaN{w:Bytes}{c:UInt8}{ap a6:Nat}(h:Keys.numbers w=some [ap,a6])(hw:w.length<100)(H:J):bS 130 [.str w,.int .u8 c.toNat] H (hi (Keys.told w c)) H:=by
 have cG:=Px h;have j7:=cG ap aM;have et:=cG a6 aM;refine b1.eT (aax w c.toNat ap a6 (fun v _=>v=hi (Keys.told w c)) ?_) rfl rfl H
 delta Cv tO cP dw eA Cx Ir PE Cu Cw Is PF Iq Ip hK hA fR
 have aw:=c.toNat_lt;rw [pt,show Int.toNat (c.toNat:Int)=c.toNat by simp,yn,PU];have lw:List.length w+List.length [c]<2^62:=by simp;omega
 have aaM:(0:Int)≤(ap:Int):= ab
 repeat' (first|assumption|exact Nat.succ_le_of_lt lw|apply And.intro|intro _)
 all_goals first
  |omega
  |(rw [IJ ab];rfl)
  |(rw [IK ab];exact tP ‹_›)
  |(rw [yX ⟨ab,ab,ab,ab,ab⟩ h,if_pos ab];rfl)
  |(rw [yX ⟨ab,ab,ab,ab,ab⟩ h,if_neg ab,if_pos ab];rfl)
  |(rw [yX ⟨ab,ab,ab,ab,ab⟩ h,if_neg ab,if_neg ab,if_pos ab];rfl)
  |(rw [yX ⟨ab,ab,ab,ab,ab⟩ h,if_neg ab,if_neg ab,if_neg ab,if_pos ab];exact tP ‹_›)
  |(rw [yX ⟨ab,ab,ab,ab,ab⟩ h,if_neg ab,if_neg ab,if_neg ab,if_neg ab];rfl)
theorem aaO{w:Bytes}{c:UInt8}{l:List Nat}(h:Keys.numbers w=some l)(aC:2<l.length)(hw:w.length<100)(H:J):bS 130 [.str w,.int .u8 c.toNat] H (hi (Keys.told w c)) H:=by
 refine b1.eT (aaz w c.toNat l (fun v _=>v=hi (Keys.told w c)) ?_) rfl rfl H
 delta yS hz cP dw eA yU Ix PL Cy PJ PH CD CB PN It oo yT yV Iy PM Cz PK PI CE CC PO Iv Iu CA qI tN vI hK hA fR
 have aw:=c.toNat_lt;rw [pt,show Int.toNat (c.toNat:Int)=c.toNat by simp,yn];have lw:List.length w+List.length [c]<2^62:=by simp;omega
 have bX:l=[]→False:=by rintro rfl;simp at aC
 repeat' (first|assumption|exact Nat.succ_le_of_lt lw|apply And.intro|intro _)
 all_goals first
  |(exfalso;omega)
  |omega
  |(rw [IJ ab];rfl)
  |(rw [IK ab];exact tP ‹_›)
  |(rw [aaK ⟨ab,ab,ab,ab,ab⟩ h aC];rfl)
theorem aaP(w:Bytes)(c:UInt8)(hw:w.length<100)(H:J):bS 130 [.str w,.int .u8 c.toNat] H (hi (Keys.told w c)) H:=by
 cases h:Keys.numbers w with
 |none=>exact aaA h hw H
 |some l =>
  match l,h with
  |[],h=>exact aaB h hw H
  |[a],h=>exact aaL h hw H
  |[a,b],h=>exact aaN h hw H
  |a::b::d::t,h=>exact aaO h (by simp only [List.length_cons];omega) hw H
noncomputable def trimS:List aa→J→Option ey:=kD fun a=>match a with | [.str s,.str k]=>some (.str (s.dropWhile (· == 48)),[k=[48],s.length<2^40])|_=>none
noncomputable def PV:List aa→J→Option ey:=kD fun a=>match a with | [.str w,.int .u8 c]=>some (.tuple [cB ((Keys.told w (eo c)).getD fk),.bool (Keys.told w (eo c)).isSome],[w.length<100,0≤c∧c≤255])|_=>none
theorem aaQ:∀args h a,trimS args h=some a→a.dt Tryz.prog cX 128 args h:=by
 refine lH ?_;intro args v ps e ah H;split at e<;>first|(cases e;done)|skip
 simp only [Option.some.injEq,Prod.mk.injEq]at e;obtain⟨rfl,rfl⟩:=e;rw [ah.head];exact Y8 _ H
theorem aaR:∀args h a,PV args h=some a→a.dt Tryz.prog cX 130 args h:=by
 refine lH ?_;intro args v ps e ah H;split at e<;>first|(cases e;done)|skip
 rename_i w c;simp only [Option.some.injEq,Prod.mk.injEq]at e;obtain⟨rfl,rfl⟩:=e;have:=aaP w (eo c) ah.head H
 rwa [rZ ah.tail.head]at this
noncomputable def PW:e1:=(OF.add 128 trimS).add 130 PV
theorem PX:eJ Tryz.prog cX PW:=(YZ.add aaQ).add aaR
abbrev PY:aa:= .func (.func 129) [.ptr (aJ 0)] []
abbrev PZ:c':=(.aI 12 (.aI 17 .nil (.aI 4005 .nil (ak 6004 .nil))) (.aI 4005 .nil (ak 6004 .nil)))
abbrev lS(l:List aa)(len:Nat):aa:=aa.agg [.int .i8 7,.int .i32 0,.int .u8 0,.int .i64 0,.int .i64 0,.str (strOf (List.take len l))]
abbrev lT(c:Int)(w:Bytes):aa:=aa.agg [.int .i8 (bl.kind (Option.getD (told w (eo c)) fk)),.int .i32 (bl.code (Option.getD (told w (eo c)) fk)),.int .u8 (bl.df (Option.getD (told w (eo c)) fk)),.int .i64 (bl.x (Option.getD (told w (eo c)) fk)),.int .i64 (bl.y (Option.getD (told w (eo c)) fk)),.str (Option.getD (told w (eo c)) fk).6]
abbrev P0(c:Int)(w:Bytes):af:=(af.an ([(lT c w)]) 6 true (some (42,6)))
abbrev P1(l:List aa)(len:Nat):af:=(af.an ([(lS l len)]) 6 true (some (42,6)))
abbrev P2(pv ov:aa):aa:=aa.agg [PY,.slice none 0 0,pv,.bool true,.ptr (some ⟨1,0,0,0,5⟩),ov]
abbrev CH(pv ov:aa)(dty:bL)(ad:Nat):af:=⟨[(P2 pv ov)],6,true,false,0,0,0,dty⟩
abbrev mF(f:Nat)(pv ov:aa)(dty:bL)(bj P O:af)(l:List aa)(ad m aG len:Nat)(c:Int)(w:Bytes):J:=(J.ar 39 [(0,(hx f pv ov dty ad len)),(1,bj),(2,(ee l ad m aG)),(3,P),(4,O),(31,(P0 c w))])
abbrev mG(f:Nat)(pv ov:aa)(dty:bL)(bj P O:af)(l:List aa)(ad m aG len:Nat):J:=(J.ar 46 [(0,(hx f pv ov dty ad len)),(1,bj),(2,(ee l ad m aG)),(3,P),(4,O),(31,(P1 l len))])
theorem aaS(f:Nat)(pv ov:aa)(dty:bL)(bj P O:af)(l:List aa)(ad m aG len:Nat)(c:Int)(w:Bytes)(ae:bI)(aW:(c=126→(w=[(50:UInt8),(48:UInt8),(48:UInt8)]→ae (.tuple []) (J.ar 39 [(0,(CH pv ov dty ad)),(1,bj),(2,(ee l ad m aG)),(3,P),(4,O)]))∧(¬w=[(50:UInt8),(48:UInt8),(48:UInt8)]→(c=126→ [(48:UInt8)]=[(48:UInt8)]∧List.length w<1099511627776∧(List.dropWhile (fun x=>x == 48) w=[(50:UInt8),(48:UInt8),(48:UInt8)]→((↑(List.length w):Int)≤9→ae (.tuple []) (J.ar 39 [(0,(CH pv ov dty ad)),(1,bj),(2,(ee l ad m aG)),(3,P),(4,O)]))∧(¬(↑(List.length w):Int)≤9→List.length w<100∧(0≤c∧c≤255)∧(Option.isSome (told w (eo c))=true→cq (mF f pv ov dty bj P O l ad m aG len c w) ⟨0,0,0,0,6⟩ ((lT c w))∧∀(dG:J),cr (mF f pv ov dty bj P O l ad m aG len c w) ⟨0,0,0,0,6⟩ ((lT c w)) dG→bC 5 (dG.U) (ae (.tuple []) dG))∧(Option.isSome (told w (eo c))=false→ad=ad∧0+len≤List.length l∧(∃b3,List.take len (List.drop (bA.idx ⟨2,ad,0,0,1⟩) (af.bk (ee l ad m aG)))=aN b3)∧cq (mG f pv ov dty bj P O l ad m aG len) ⟨0,0,0,0,6⟩ ((lS l len))∧∀(dG:J),cr (mG f pv ov dty bj P O l ad m aG len) ⟨0,0,0,0,6⟩ ((lS l len)) dG→bC 5 (dG.U) (ae (.tuple []) dG))))∧(¬List.dropWhile (fun x=>x == 48) w=[(50:UInt8),(48:UInt8),(48:UInt8)]→List.length w<100∧(0≤c∧c≤255)∧(Option.isSome (told w (eo c))=true→cq (mF f pv ov dty bj P O l ad m aG len c w) ⟨0,0,0,0,6⟩ ((lT c w))∧∀(dG:J),cr (mF f pv ov dty bj P O l ad m aG len c w) ⟨0,0,0,0,6⟩ ((lT c w)) dG→bC 5 (dG.U) (ae (.tuple []) dG))∧(Option.isSome (told w (eo c))=false→ad=ad∧0+len≤List.length l∧(∃b3,List.take len (List.drop (bA.idx ⟨2,ad,0,0,1⟩) (af.bk (ee l ad m aG)))=aN b3)∧cq (mG f pv ov dty bj P O l ad m aG len) ⟨0,0,0,0,6⟩ ((lS l len))∧∀(dG:J),cr (mG f pv ov dty bj P O l ad m aG len) ⟨0,0,0,0,6⟩ ((lS l len)) dG→bC 5 (dG.U) (ae (.tuple []) dG))))∧(¬c=126→List.length w<100∧(0≤c∧c≤255)∧(Option.isSome (told w (eo c))=true→cq (mF f pv ov dty bj P O l ad m aG len c w) ⟨0,0,0,0,6⟩ ((lT c w))∧∀(dG:J),cr (mF f pv ov dty bj P O l ad m aG len c w) ⟨0,0,0,0,6⟩ ((lT c w)) dG→bC 5 (dG.U) (ae (.tuple []) dG))∧(Option.isSome (told w (eo c))=false→ad=ad∧0+len≤List.length l∧(∃b3,List.take len (List.drop (bA.idx ⟨2,ad,0,0,1⟩) (af.bk (ee l ad m aG)))=aN b3)∧cq (mG f pv ov dty bj P O l ad m aG len) ⟨0,0,0,0,6⟩ ((lS l len))∧∀(dG:J),cr (mG f pv ov dty bj P O l ad m aG len) ⟨0,0,0,0,6⟩ ((lS l len)) dG→bC 5 (dG.U) (ae (.tuple []) dG)))))∧(¬c=126→(c=126→ [(48:UInt8)]=[(48:UInt8)]∧List.length w<1099511627776∧(List.dropWhile (fun x=>x == 48) w=[(50:UInt8),(48:UInt8),(48:UInt8)]→((↑(List.length w):Int)≤9→ae (.tuple []) (J.ar 39 [(0,(CH pv ov dty ad)),(1,bj),(2,(ee l ad m aG)),(3,P),(4,O)]))∧(¬(↑(List.length w):Int)≤9→List.length w<100∧(0≤c∧c≤255)∧(Option.isSome (told w (eo c))=true→cq (mF f pv ov dty bj P O l ad m aG len c w) ⟨0,0,0,0,6⟩ ((lT c w))∧∀(dG:J),cr (mF f pv ov dty bj P O l ad m aG len c w) ⟨0,0,0,0,6⟩ ((lT c w)) dG→bC 5 (dG.U) (ae (.tuple []) dG))∧(Option.isSome (told w (eo c))=false→ad=ad∧0+len≤List.length l∧(∃b3,List.take len (List.drop (bA.idx ⟨2,ad,0,0,1⟩) (af.bk (ee l ad m aG)))=aN b3)∧cq (mG f pv ov dty bj P O l ad m aG len) ⟨0,0,0,0,6⟩ ((lS l len))∧∀(dG:J),cr (mG f pv ov dty bj P O l ad m aG len) ⟨0,0,0,0,6⟩ ((lS l len)) dG→bC 5 (dG.U) (ae (.tuple []) dG))))∧(¬List.dropWhile (fun x=>x == 48) w=[(50:UInt8),(48:UInt8),(48:UInt8)]→List.length w<100∧(0≤c∧c≤255)∧(Option.isSome (told w (eo c))=true→cq (mF f pv ov dty bj P O l ad m aG len c w) ⟨0,0,0,0,6⟩ ((lT c w))∧∀(dG:J),cr (mF f pv ov dty bj P O l ad m aG len c w) ⟨0,0,0,0,6⟩ ((lT c w)) dG→bC 5 (dG.U) (ae (.tuple []) dG))∧(Option.isSome (told w (eo c))=false→ad=ad∧0+len≤List.length l∧(∃b3,List.take len (List.drop (bA.idx ⟨2,ad,0,0,1⟩) (af.bk (ee l ad m aG)))=aN b3)∧cq (mG f pv ov dty bj P O l ad m aG len) ⟨0,0,0,0,6⟩ ((lS l len))∧∀(dG:J),cr (mG f pv ov dty bj P O l ad m aG len) ⟨0,0,0,0,6⟩ ((lS l len)) dG→bC 5 (dG.U) (ae (.tuple []) dG))))∧(¬c=126→List.length w<100∧(0≤c∧c≤255)∧(Option.isSome (told w (eo c))=true→cq (mF f pv ov dty bj P O l ad m aG len c w) ⟨0,0,0,0,6⟩ ((lT c w))∧∀(dG:J),cr (mF f pv ov dty bj P O l ad m aG len c w) ⟨0,0,0,0,6⟩ ((lT c w)) dG→bC 5 (dG.U) (ae (.tuple []) dG))∧(Option.isSome (told w (eo c))=false→ad=ad∧0+len≤List.length l∧(∃b3,List.take len (List.drop (bA.idx ⟨2,ad,0,0,1⟩) (af.bk (ee l ad m aG)))=aN b3)∧cq (mG f pv ov dty bj P O l ad m aG len) ⟨0,0,0,0,6⟩ ((lS l len))∧∀(dG:J),cr (mG f pv ov dty bj P O l ad m aG len) ⟨0,0,0,0,6⟩ ((lS l len)) dG→bC 5 (dG.U) (ae (.tuple []) dG))))) :
 b4 105 [.ptr (aJ 0),.str w,.int .u8 c] (J.of [b0 0 f 1 (.slice (some ⟨2,ad,0,0,1⟩) len len) pv false ov dty,bj,ct l 1 ad m aG cA,P,O]) ae :=
 b9 PX (.aI 1 (.aI 4 .nil (.aI 8 PZ (.aI 4005 .nil (ak 6004 .nil)))) (.aI 8 PZ (.aI 4005 .nil (ak 6004 .nil)))) aW
set_option maxHeartbeats 4000000
structure IL(N:Nat)(h:J)(a:bA)(w:Bytes)(c:Int):Prop where
 at':a=⟨a.id,0,0,0,6⟩
 ex:∃I s es,ci h a.id I s es∧es.length<N∧s.aF=[]∧s.nx=.sequence
 c:0≤c∧c≤255
 w:w.length<100
structure IM(h:J)(a:bA)(w:Bytes)(c:Int)(ag:J):Prop where
 all:∀I s es,ci h a.id I s es→s.aF.length≤4→ ∃aO,ci ag a.id aO (Keys.done s w (eo c)).1 (es++(Keys.done s w (eo c)).2)∧Fr h ag a.id I aO
 U:h.U≤ag.U
def IN(N:Nat):List aa→J→Option ey:=fun args h =>
 match args with
 |[.ptr (some a),.str w,.int .u8 c]=>some (.some (.tuple []) [IL N h a w c] (IM h a w c))
 |_=>none
theorem aaT{al aD w:Bytes}{c:UInt8}(aw:c.toNat=126)(hw:kg w=true):Keys.done ⟨.sequence,al,[],aD⟩ w c=(⟨.cK,[],[],aD⟩,[]):=by have:c=126:=UInt8.toNat_inj.1 (by show c.toNat=126;exact aw);simp [Keys.done,this,hw]
theorem P3{al aD w:Bytes}{c:UInt8}(h:¬(c.toNat=126∧kg w=true)):Keys.done ⟨.sequence,al,[],aD⟩ w c=(⟨.ground,[],[],aD⟩,[(Keys.told w c).getD (gM al)]):=by
 have:¬(c=126∧kg w=true):=fun e=>h ⟨by rw [e.1];rfl,e.2⟩
 simp only [Keys.done,this,if_false,tell]
theorem aaU{w al:Bytes}{c:UInt8}(h:(Keys.told w c).isSome=true):(Keys.told w c).getD (gM al)=(Keys.told w c).getD fk:=by
 cases bU:Keys.told w c with
 |none=>rw [bU]at h;cases h
 |some e=>rfl
theorem told_none{w al:Bytes}{c:UInt8}(h:(Keys.told w c).isSome=false):(Keys.told w c).getD (gM al)=gM al:=by
 cases bU:Keys.told w c with
 |none=>rfl
 |some e=>rw [bU]at h;cases h
set_option hygiene false in
theorem aaV{H:J}{d:Nat}{I:cp}{s:bK}{es:List bl}{c:UInt8}{w:Bytes}(g:ci H d I s es)(ck:es.length<2^30)(ac:s.aF=[])(ai:s.nx=.sequence)(hw:w.length<100):∃aQ,bS 105 [.ptr (some ⟨d,0,0,0,6⟩),.str w,.int .u8 c.toNat] H (.tuple []) aQ ∧
 ∃aO,ci aQ d aO (Keys.done s w c).1 (es++(Keys.done s w c).2)∧Fr H aQ d I aO:=by
 obtain⟨ks,g,hs⟩:=g
 refine g.lift (Q:=fun h d I=>ci h d I (Keys.done s w c).1 (es++(Keys.done s w c).2)) (rest:=[.str w,.int .u8 c.toNat]) (fun a aT=>by
  rcases List.mem_cons.1 aT with e|e
  ·rw [e];exact cU.of rfl
  ·rw [List.mem_singleton.1 e];exact cU.int _ _) (cU.of rfl) (fun ag aQ r d I bc iu cG q=>q.pn bc iu cG) ?_
 intro kv pv ov ty uty j0 j1 j2 j3 K P O a7 gs cL;obtain⟨au,ah,ao⟩:=nv gs;obtain⟨nx,al,aF,aD⟩:=s;simp only at ac ai hs gs au ah ao⊢;subst ac ai
 have nb:ks=.grown []:=by
  cases ks with
  |grown j=>cases j with
   |nil=>rfl
   |cons a b=>exact hs.elim
  |_=>exact hs.elim
 subst nb;obtain⟨kE,ad,m,aG,rfl,c8⟩:=au;have cn:a7.k=2:= ab;rw [cn,J.eV]at c8;simp only [List.getElem?_cons_zero,List.getElem?_cons_succ,Option.some.injEq,List.nil_append]at c8;subst c8;rw [cn]at ah ao⊢;simp only [List.length_nil]at ah ao⊢;have AF:=c.toNat_lt;have hE:=oq al
 suffices bU:∃v ag,bS 105 [.ptr (some ⟨0,0,0,0,6⟩),.str w,.int .u8 c.toNat] (J.of [b0 0 (cy .sequence) 1 (.slice (some ⟨2,ad,0,0,1⟩) al.length al.length) pv false ov ty,cb [] j0 j1 j2 j3 uty,ct (aN al) 1 ad m aG cA,P,O]) v ag ∧
  (v=.tuple []∧∃aO,ci ag 0 aO (Keys.done ⟨.sequence,al,[],aD⟩ w c).1 (es++(Keys.done ⟨.sequence,al,[],aD⟩ w c).2)∧Fr (J.of [b0 0 (cy .sequence) 1 (.slice (some ⟨2,ad,0,0,1⟩) al.length al.length) pv false ov ty,cb [] j0 j1 j2 j3 uty,ct (aN al) 1 ad m aG cA,P,O]) ag 0 a7 aO)by
  obtain⟨v,ag,aE,rfl,q⟩:=bU;exact⟨ag,aE,q⟩
 refine aaS (cy .sequence) pv ov ty (cb [] j0 j1 j2 j3 uty) P O (aN al) ad m aG al.length c.toNat w _ ?_
 delta lS mG P1 ee hx vD vC eF lT mF P0 CH P2 PY
 rw [show eo (c.toNat:Int)=c from vE c,show strOf (List.take al.length (aN al))=al by rw [yl,jh]];by_cases CI:c.toNat=126∧kg w=true
 ·obtain⟨aw,IP⟩:=CI
  have py:∀{h:J},h.get 0=some (b0 0 (cy .cK) 1 (.slice none 0 0) pv true ov ty)→h.get 1=some (cb [] j0 j1 j2 j3 uty)→h.get 3=some P→h.get 4=some O→Nat.ble 5 h.U=true→aa.tuple []=.tuple []∧∃aO,ci h 0 aO (Keys.done ⟨.sequence,al,[],aD⟩ w c).1 (es++(Keys.done ⟨.sequence,al,[],aD⟩ w c).2)∧Fr (J.of [b0 0 (cy .sequence) 1 (.slice (some ⟨2,ad,0,0,1⟩) al.length al.length) pv false ov ty,cb [] j0 j1 j2 j3 uty,ct (aN al) 1 ad m aG cA,P,O]) h 0 a7 aO:=by intro h e0 bi b7 cc bF;have bF:=Nat.le_of_ble_eq_true bF;refine⟨rfl,?_⟩;rw [aaT aw IP,List.append_nil];exact pr (s:=⟨.cK,[],[],aD⟩) (ks:= .nil) (iy (k:=0) rfl bF e0 bi (.inr cn) b7 cc (BW _) ab ah ao cL (.inl rfl)) trivial
  have c1:(c.toNat:Int)=126:= ab
  have kc:w=[(50:UInt8),(48:UInt8),(48:UInt8)]∨(List.dropWhile (fun x=>x == 48) w=[(50:UInt8),(48:UInt8),(48:UInt8)]∧(w.length:Int)≤9):=by
   simp only [kg,Bool.or_eq_true,beq_iff_eq,Bool.and_eq_true,decide_eq_true_eq]at IP;rcases IP with e|⟨e,bu⟩
   ·exact .inl e
   ·exact .inr ⟨e,ab⟩
  rcases kc with bi|⟨bi,bu⟩
  ·repeat' (first
    |exact True.intro
    |assumption
    |contradiction
    |exact py ay ay ay ay ay
    |exact lC (by assumption) ay ay ay ay ay ay rfl
    |exact db (by assumption) ay ay ay ay ay ay rfl
    |intro _
    |refine And.intro ?_ ?_
    |rfl
    |omega
    |exact px _ _ _)
  ·repeat' (first
    |exact True.intro
    |assumption
    |contradiction
    |exact py ay ay ay ay ay
    |exact lC (by assumption) ay ay ay ay ay ay rfl
    |exact db (by assumption) ay ay ay ay ay ay rfl
    |intro _
    |refine And.intro ?_ ?_
    |rfl
    |omega
    |exact px _ _ _)
 ·have lC:∀{h:J}{cD:aa},(Keys.told w c).isSome=true→Nat.ble 5 h.U=true→h.get 0=some (b0 0 (cy .sequence) 1 (.slice (some ⟨2,ad,0,0,1⟩) al.length al.length) pv false ov ty)→h.get 1=some (cb [] j0 j1 j2 j3 uty)→h.get 2=some (ct (aN al) 1 ad m aG cA)→h.get 3=some P→h.get 4=some O→cD=cB ((Keys.told w c).getD fk) →
   cq h ⟨0,0,0,0,6⟩ cD∧∀ag,cr h ⟨0,0,0,0,6⟩ cD ag→_root_.cond (Nat.ble 5 ag.U) (aa.tuple []=.tuple []∧∃aO,ci ag 0 aO (Keys.done ⟨.sequence,al,[],aD⟩ w c).1 (es++(Keys.done ⟨.sequence,al,[],aD⟩ w c).2)∧Fr (J.of [b0 0 (cy .sequence) 1 (.slice (some ⟨2,ad,0,0,1⟩) al.length al.length) pv false ov ty,cb [] j0 j1 j2 j3 uty,ct (aN al) 1 ad m aG cA,P,O]) ag 0 a7 aO) False:=by
   intro h cD hs bF e0 bi bu b7 cc he;exact tI bF e0 bi bu b7 cc rfl rfl ah ao cL cn he ck aM fun ag aO g cF=>⟨rfl,aO,by rw [P3 CI,aaU hs];exact g,cF⟩
  have db:∀{h:J}{cD:aa},(Keys.told w c).isSome=false→Nat.ble 5 h.U=true→h.get 0=some (b0 0 (cy .sequence) 1 (.slice (some ⟨2,ad,0,0,1⟩) al.length al.length) pv false ov ty)→h.get 1=some (cb [] j0 j1 j2 j3 uty)→h.get 2=some (ct (aN al) 1 ad m aG cA)→h.get 3=some P→h.get 4=some O→cD=cB (gM al) →
   cq h ⟨0,0,0,0,6⟩ cD∧∀ag,cr h ⟨0,0,0,0,6⟩ cD ag→_root_.cond (Nat.ble 5 ag.U) (aa.tuple []=.tuple []∧∃aO,ci ag 0 aO (Keys.done ⟨.sequence,al,[],aD⟩ w c).1 (es++(Keys.done ⟨.sequence,al,[],aD⟩ w c).2)∧Fr (J.of [b0 0 (cy .sequence) 1 (.slice (some ⟨2,ad,0,0,1⟩) al.length al.length) pv false ov ty,cb [] j0 j1 j2 j3 uty,ct (aN al) 1 ad m aG cA,P,O]) ag 0 a7 aO) False:=by
   intro h cD hs bF e0 bi bu b7 cc he;exact tI bF e0 bi bu b7 cc rfl rfl ah ao cL cn he ck aM fun ag aO g cF=>⟨rfl,aO,by rw [P3 CI,told_none hs];exact g,cF⟩
  by_cases aw:(c.toNat:Int)=126
  ·have P4:kg w=false:=by
    cases aq:kg w with
    |false=>rfl
    |true=>exact absurd ⟨ab,aq⟩ CI
   simp only [kg,Bool.or_eq_false_iff,Bool.and_eq_false_iff,beq_eq_false_iff_ne,decide_eq_false_iff_not]at P4;obtain⟨a6,n2⟩:=P4;have ahF:¬w=[(50:UInt8),(48:UInt8),(48:UInt8)]:=a6;rcases n2 with n2|n2
   ·have aaW:¬List.dropWhile (fun x=>x == 48) w=[(50:UInt8),(48:UInt8),(48:UInt8)]:=n2
    repeat' (first
     |exact True.intro
     |assumption
     |contradiction
     |exact py ay ay ay ay ay
     |exact lC (by assumption) ay ay ay ay ay ay rfl
     |exact db (by assumption) ay ay ay ay ay ay rfl
     |intro _
     |refine And.intro ?_ ?_
     |rfl
     |omega
     |exact px _ _ _)
   ·have aaW:¬(w.length:Int)≤9:= ab
    repeat' (first
     |exact True.intro
     |assumption
     |contradiction
     |exact py ay ay ay ay ay
     |exact lC (by assumption) ay ay ay ay ay ay rfl
     |exact db (by assumption) ay ay ay ay ay ay rfl
     |intro _
     |refine And.intro ?_ ?_
     |rfl
     |omega
     |exact px _ _ _)
  ·repeat' (first
    |exact True.intro
    |assumption
    |contradiction
    |exact py ay ay ay ay ay
    |exact lC (by assumption) ay ay ay ay ay ay rfl
    |exact db (by assumption) ay ay ay ay ay ay rfl
    |intro _
    |refine And.intro ?_ ?_
    |rfl
    |omega
    |exact px _ _ _)
theorem aaX:∀args h a,IN (2^30) args h=some a→a.dt Tryz.prog cX 105 args h:=by
 intro args h a e;unfold IN at e;split at e<;>first|(cases e;done)|skip
 rename_i a w c;simp only [Option.some.injEq]at e;subst e;intro ah;have aT:=ah.head.at';obtain⟨_,⟨I,s,es,g,ck,aC,aR⟩,aw,hw⟩:=ah.head;obtain⟨ag,aE,aO,dp,cF⟩:=aaV (c:=eo c) g ck aC aR hw;rw [←aT,N3 aw]at aE;refine⟨ag,aE,⟨?_,cF.U⟩⟩;intro cZ s2 r3 g2 uF;obtain⟨rfl,rfl,rfl⟩:=g.rD g2 (by rw [aC];simp);exact⟨aO,dp,cF⟩
noncomputable def P5:e1:=PW.add 105 (IN (2^30))
theorem P6:eJ Tryz.prog cX P5:=PX.add aaX
abbrev P7:c':=(.aI 5001 (.aI 5004 .nil (ak 7007 (.aI 8005 (ak 9005 .nil) .nil))) (ak 7007 (.aI 8005 (ak 9005 .nil) .nil)))
abbrev qJ(f:Nat)(pv ov:aa)(dty:bL)(bj P O:af)(l:List aa)(ad m aG len:Nat):J:=(J.ar 35 [(0,(hx f pv ov dty ad len)),(1,bj),(2,(ee l ad m aG)),(3,P),(4,O)])
abbrev yY(f:Nat)(pv ov:aa)(dty:bL)(bj P O:af)(l:List aa)(ad m aG len:Nat)(c:Int):J:=(J.ar 56 [(0,(hy f pv ov dty ad len)),(1,bj),(2,(dn l ad m aG c)),(3,P),(4,O),(45,af.an [.int .u8 c] 1 true)])
abbrev qK(f:Nat)(pv ov:aa)(dty:bL)(bj P O:af)(l:List aa)(ad m aG len:Nat)(c:Int):J:=(J.ar 64 [(0,(hy f pv ov dty ad len)),(1,bj),(2,(dn l ad m aG c)),(3,P),(4,O),(45,af.an [.int .u8 c] 1 true)])
theorem aaY(f:Nat)(pv ov:aa)(dty:bL)(bj P O:af)(l:List aa)(ad m aG len:Nat)(c:Int)(ae:bI)(aW:(-9223372036854775808≤(len:Int)-1∧(len:Int)-1≤9223372036854775807)∧(0≤(len:Int)-1∧(len:Int)-1<(len:Int))∧ad=ad∧l[0+Int.toNat ((len:Int)-1)]? =some (.int .u8 (ba l (0+Int.toNat ((len:Int)-1))))∧(64≤c→(c≤126→(ad=ad∧0+len=List.length l∧len<len+1∧(len+1+(len+1)/4+512)*1≤281474976710656∧len+1<4611686018427387904)∧(-9223372036854775808≤(↑(len+1):Int)-1∧(↑(len+1):Int)-1≤9223372036854775807)∧((0:Int)≤2∧2≤(↑(len+1):Int)-1∧(↑(len+1):Int)-1≤(↑(len+1):Int))∧ad+1=ad+1∧2+(Int.toNat ((↑(len+1):Int)-1)-2)≤List.length (l++[.int .u8 c])∧(∃b3,List.take (Int.toNat ((↑(len+1):Int)-1)-2) (List.drop (bA.idx {id:=2,ad:=ad+1,idx:=2,fld:=0,es:=1}) (af.bk (dn l ad m aG c)))=aN b3)∧IL (2^30) (J.ar 51 [(0,(hy f pv ov dty ad len)),(1,bj),(2,(dn l ad m aG c)),(3,P),(4,O),(31,af.an [.int .u8 c] 1 true)]) ⟨0,0,0,0,6⟩ (strOf (List.take (Int.toNat ((↑(len+1):Int)-1)-2) (List.drop 2 (List.append l [.int .u8 c])))) c∧∀(IQ:J),IM (J.ar 51 [(0,(hy f pv ov dty ad len)),(1,bj),(2,(dn l ad m aG c)),(3,P),(4,O),(31,af.an [.int .u8 c] 1 true)]) ⟨0,0,0,0,6⟩ (strOf (List.take (Int.toNat ((↑(len+1):Int)-1)-2) (List.drop 2 (List.append l [.int .u8 c])))) c IQ→bC 5 (IQ.U) (ae (.tuple []) IQ))∧(¬c≤126→(c<32→dA (2^30-8) ez (qJ f pv ov dty bj P O l ad m aG len) ⟨0,0,0,0,6⟩ c∧∀(gn:J),dB bad (qJ f pv ov dty bj P O l ad m aG len) ⟨0,0,0,0,6⟩ c gn→bC 5 (gn.U) (ae (.tuple []) gn))∧(¬c<32→(63<c→dA (2^30-8) ez (qJ f pv ov dty bj P O l ad m aG len) ⟨0,0,0,0,6⟩ c∧∀(gn:J),dB bad (qJ f pv ov dty bj P O l ad m aG len) ⟨0,0,0,0,6⟩ c gn→bC 5 (gn.U) (ae (.tuple []) gn))∧(¬63<c→(48≤c→(ba l (0+Int.toNat ((len:Int)-1))<48→dA (2^30-8) ez (J.ar 42 [(0,(hx f pv ov dty ad len)),(1,bj),(2,(ee l ad m aG)),(3,P),(4,O)]) ⟨0,0,0,0,6⟩ c∧∀(gn:J),dB bad (J.ar 42 [(0,(hx f pv ov dty ad len)),(1,bj),(2,(ee l ad m aG)),(3,P),(4,O)]) ⟨0,0,0,0,6⟩ c gn→bC 5 (gn.U) (ae (.tuple []) gn))∧(¬ba l (0+Int.toNat ((len:Int)-1))<48→(ad=ad∧0+len=List.length l∧len<len+1∧(len+1+(len+1)/4+512)*1≤281474976710656∧len+1<4611686018427387904)∧((↑(len+1):Int)=64→ad+1=ad+1∧0+(len+1)≤List.length (l++[.int .u8 c])∧(∃b3,List.take (len+1) (List.drop (bA.idx {id:=2,ad:=ad+1,idx:=0,fld:=0,es:=1}) (af.bk (dn l ad m aG c)))=aN b3)∧cq (qK f pv ov dty bj P O l ad m aG len c) ⟨0,0,0,0,6⟩ ((ef l len c))∧∀(lc:J),cr (qK f pv ov dty bj P O l ad m aG len c) ⟨0,0,0,0,6⟩ ((ef l len c)) lc→bC 5 (lc.U) (ae (.tuple []) lc))∧(¬(↑(len+1):Int)=64→ae (.tuple []) (yY f pv ov dty bj P O l ad m aG len c))))∧(¬48≤c→(ad=ad∧0+len=List.length l∧len<len+1∧(len+1+(len+1)/4+512)*1≤281474976710656∧len+1<4611686018427387904)∧((↑(len+1):Int)=64→ad+1=ad+1∧0+(len+1)≤List.length (l++[.int .u8 c])∧(∃b3,List.take (len+1) (List.drop (bA.idx {id:=2,ad:=ad+1,idx:=0,fld:=0,es:=1}) (af.bk (dn l ad m aG c)))=aN b3)∧cq (qK f pv ov dty bj P O l ad m aG len c) ⟨0,0,0,0,6⟩ ((ef l len c))∧∀(lc:J),cr (qK f pv ov dty bj P O l ad m aG len c) ⟨0,0,0,0,6⟩ ((ef l len c)) lc→bC 5 (lc.U) (ae (.tuple []) lc))∧(¬(↑(len+1):Int)=64→ae (.tuple []) (yY f pv ov dty bj P O l ad m aG len c)))))))∧(¬64≤c→(c<32→dA (2^30-8) ez (qJ f pv ov dty bj P O l ad m aG len) ⟨0,0,0,0,6⟩ c∧∀(gn:J),dB bad (qJ f pv ov dty bj P O l ad m aG len) ⟨0,0,0,0,6⟩ c gn→bC 5 (gn.U) (ae (.tuple []) gn))∧(¬c<32→(63<c→dA (2^30-8) ez (qJ f pv ov dty bj P O l ad m aG len) ⟨0,0,0,0,6⟩ c∧∀(gn:J),dB bad (qJ f pv ov dty bj P O l ad m aG len) ⟨0,0,0,0,6⟩ c gn→bC 5 (gn.U) (ae (.tuple []) gn))∧(¬63<c→(48≤c→(ba l (0+Int.toNat ((len:Int)-1))<48→dA (2^30-8) ez (J.ar 42 [(0,(hx f pv ov dty ad len)),(1,bj),(2,(ee l ad m aG)),(3,P),(4,O)]) ⟨0,0,0,0,6⟩ c∧∀(gn:J),dB bad (J.ar 42 [(0,(hx f pv ov dty ad len)),(1,bj),(2,(ee l ad m aG)),(3,P),(4,O)]) ⟨0,0,0,0,6⟩ c gn→bC 5 (gn.U) (ae (.tuple []) gn))∧(¬ba l (0+Int.toNat ((len:Int)-1))<48→(ad=ad∧0+len=List.length l∧len<len+1∧(len+1+(len+1)/4+512)*1≤281474976710656∧len+1<4611686018427387904)∧((↑(len+1):Int)=64→ad+1=ad+1∧0+(len+1)≤List.length (l++[.int .u8 c])∧(∃b3,List.take (len+1) (List.drop (bA.idx {id:=2,ad:=ad+1,idx:=0,fld:=0,es:=1}) (af.bk (dn l ad m aG c)))=aN b3)∧cq (qK f pv ov dty bj P O l ad m aG len c) ⟨0,0,0,0,6⟩ ((ef l len c))∧∀(lc:J),cr (qK f pv ov dty bj P O l ad m aG len c) ⟨0,0,0,0,6⟩ ((ef l len c)) lc→bC 5 (lc.U) (ae (.tuple []) lc))∧(¬(↑(len+1):Int)=64→ae (.tuple []) (yY f pv ov dty bj P O l ad m aG len c))))∧(¬48≤c→(ad=ad∧0+len=List.length l∧len<len+1∧(len+1+(len+1)/4+512)*1≤281474976710656∧len+1<4611686018427387904)∧((↑(len+1):Int)=64→ad+1=ad+1∧0+(len+1)≤List.length (l++[.int .u8 c])∧(∃b3,List.take (len+1) (List.drop (bA.idx {id:=2,ad:=ad+1,idx:=0,fld:=0,es:=1}) (af.bk (dn l ad m aG c)))=aN b3)∧cq (qK f pv ov dty bj P O l ad m aG len c) ⟨0,0,0,0,6⟩ ((ef l len c))∧∀(lc:J),cr (qK f pv ov dty bj P O l ad m aG len c) ⟨0,0,0,0,6⟩ ((ef l len c)) lc→bC 5 (lc.U) (ae (.tuple []) lc))∧(¬(↑(len+1):Int)=64→ae (.tuple []) (yY f pv ov dty bj P O l ad m aG len c))))))) :
 b4 87 [.ptr (aJ 0),.int .u8 c] (J.of [b0 0 f 1 (.slice (some ⟨2,ad,0,0,1⟩) len len) pv false ov dty,bj,ct l 1 ad m aG cA,P,O]) ae :=
 b9 P6 (ak 9 (ak 10 (ak 11 (.aI 1001 (.aI 1004 (ak 2007 (ak 3010 (ak 3011 (ak 3012 .nil)))) (.aI 4001 .nil (.aI 4004 .nil P7))) (.aI 4001 .nil (.aI 4004 .nil P7)))))) aW
end Go.Proofs.YtddnafghiejcoaaGreatDoor
