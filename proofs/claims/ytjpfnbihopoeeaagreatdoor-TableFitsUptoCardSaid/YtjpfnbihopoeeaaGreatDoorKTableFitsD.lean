/-
  Parts of the proof of TableFits.
-/
import Derived.Test.YtjpfnbihopoeeaaGreatDoorRows
import Derived.Test.YtjpfnbihopoeeaaGreatDoorKTableFitsC
set_option maxRecDepth 1000000
set_option linter.unusedSectionVars false
set_option linter.unusedVariables false
set_option linter.unusedSimpArgs false
namespace Go.Proofs.YtjpfnbihopoeeaaGreatDoor
open Go.ba
end Go.Proofs.YtjpfnbihopoeeaaGreatDoor
namespace Go.Proofs.YtjpfnbihopoeeaaGreatDoor
open Go.ba
end Go.Proofs.YtjpfnbihopoeeaaGreatDoor
namespace Go.Proofs.YtjpfnbihopoeeaaGreatDoor
open Go.ba
end Go.Proofs.YtjpfnbihopoeeaaGreatDoor
namespace Go.Proofs.YtjpfnbihopoeeaaGreatDoor
open Go.ba
theorem Fr.aj{H:I}{n:Nat}(h:H.next≤n):Fr H ⟨n,H.aj⟩ []:=⟨h,fun _ _ _=>rfl⟩
theorem Fr.more{H H1 af:I}{M:List Nat}(a:Fr H H1 [])(b:Fr H1 af M)(h:∀x∈M,H.next≤x):Fr H af []:=a.trans b fun x ab aF=>absurd (h x ab) (by omega)
end Go.Proofs.YtjpfnbihopoeeaaGreatDoor
namespace Go.Proofs.YtjpfnbihopoeeaaGreatDoor
open Go.ba
abbrev spare:u1:=[115,112,97,114,101]
theorem Hn{H:I}{q n c:Nat}{b:aJ}{eh:List J}(aw:q<H.next)(an:H.get q=some b)(a7:b.ver=0)(he:∃r,b.a'=eh++r)(be:n=eh.length):dJ H q (.slice (some ⟨q,0,0,0,1⟩) n c) eh:=by
 obtain⟨r,he⟩:=he;subst be;refine⟨_,c,rfl,(fun a h=>by cases h;exact⟨rfl,rfl⟩),.inr ⟨0,0,b,rfl,aw,an,fun i ac=> ?_⟩⟩;have aF:0+i<b.a'.length:=by rw [he,List.length_append];omega
 have:=Ha (b:=b) (i:=i) (by omega);rw [a7]at this;rw [this]
 congr 1
 simp only [he];rw [List.getElem_append_left ac]
end Go.Proofs.YtjpfnbihopoeeaaGreatDoor
namespace Go.Proofs.YtjpfnbihopoeeaaGreatDoor
open Go.ba
theorem OH{t e hr Q a c n:Nat}(E:re t e hr)(h:n≤c):gC (bh.D env) t (.slice (some ⟨Q,0,0,0,1⟩) a c) none (some (.int .i64 (n:Nat))) none=some (.slice (some ⟨Q,0,0,0,1⟩) n c):=by obtain⟨d,y,d1,d2,cf,cu,hH,_⟩:=E.eS.ty;have d1:bh.D env t=some d:=d1;have cf:bh.D env e=some y:=cf;unfold gC;simp only [d1,d2,cf,fJ];rw [if_pos ⟨by omega,by omega⟩];simp [cu]
end Go.Proofs.YtjpfnbihopoeeaaGreatDoor
namespace Go.Proofs.YtjpfnbihopoeeaaGreatDoor
open Go.ba
end Go.Proofs.YtjpfnbihopoeeaaGreatDoor
namespace Go.Proofs.YtjpfnbihopoeeaaGreatDoor
open Go.ba
end Go.Proofs.YtjpfnbihopoeeaaGreatDoor
namespace Go.Proofs.YtjpfnbihopoeeaaGreatDoor
open Go.ba
end Go.Proofs.YtjpfnbihopoeeaaGreatDoor
namespace Go.Proofs.YtjpfnbihopoeeaaGreatDoor
open Go.ba
end Go.Proofs.YtjpfnbihopoeeaaGreatDoor
namespace Go.Proofs.YtjpfnbihopoeeaaGreatDoor
open Go.ba
end Go.Proofs.YtjpfnbihopoeeaaGreatDoor
namespace Go.Proofs.YtjpfnbihopoeeaaGreatDoor
open Go.ChangeShapes Go.WideShapes Go.ChangeAt Go.RowKit
open Go.ba
section
variable {H:Type}{enc:TypeId×Value→H}{P:Program}{w:World}
end
theorem J6{w:World}{l:List (aJ×ba.Place)}(aF:∀S,∀x∈l,yi (hL (l.map (·.2))) S w x.1 x.2){b:aJ}{p:ba.Place}(ao:rf w b p) :
 (∀S,ch (hL ((l++[(b,p)]).map (·.2))) S (I.of ((l++[(b,p)]).map (·.1))) w)∧(hL (l.map (·.2))).le (hL ((l++[(b,p)]).map (·.2)))∧hL ((l++[(b,p)]).map (·.2)) l.length 0=some p∧Fr (I.of (l.map (·.1))) (I.of ((l++[(b,p)]).map (·.1))) []∧(I.of ((l++[(b,p)]).map (·.1))).get l.length=some b∧(I.of ((l++[(b,p)]).map (·.1))).next=l.length+1:=by
 have le:(hL (l.map (·.2))).le (hL ((l++[(b,p)]).map (·.2))):=by
  intro i v q aw;unfold hL at aw⊢;split at aw
  ·rename_i h;rw [if_pos h,List.map_append,List.getElem?_append_left (List.getElem?_eq_some_iff.1 aw).1];exact aw
  ·cases aw
 refine⟨fun S=>ch.B4 _ fun x ab=> ?_,le,?_,⟨?_,fun x ab _=> ?_⟩,?_,?_⟩
 ·rcases List.mem_append.1 ab with h|h
  ·have k:=aF S x h;exact⟨k.ro,k.vc,k.ver,k.es,k.pos,k.exact,k.row.mono le⟩
  ·rw [List.mem_singleton.1 h];exact ao.two
 ·unfold hL;rw [if_pos rfl];simp
 ·rw [I.of_next,I.of_next];simp
 ·rw [I.of_next,List.length_map]at ab;rw [I.io,I.io,List.map_append,List.getElem?_append_left (by simpa using ab)]
 ·rw [I.io];simp
 ·rw [I.of_next];simp
theorem OI{H:Type}(d:DataW H):1≤Rows.uptoBulk d:=by
 cases d with
 |lit x=>cases x<;>simp [Rows.uptoBulk]
 |_=>simp [Rows.uptoBulk]
theorem Ho{H:Type} :∀ez:List (DataW H),ez.length≤Rows.uptoBulkAll ez
 |[]=>Nat.zero_le _
 |d::r=>by have:=Ho r;have:=OI d;simp only [Rows.uptoBulkAll,List.length_cons];omega
theorem Cn{H:Type}{d:DataW H} :∀{ez:List (DataW H)},d∈ez→Rows.uptoBulk d≤Rows.uptoBulkAll ez
 |a::r,h=>by
  simp only [Rows.uptoBulkAll];rcases List.mem_cons.1 h with rfl|h
  ·omega
  ·have:=Cn h;omega
theorem zr{H:Type}{enc:TypeId×Value→H}{P:Program}{w:World}{base:Nat}{spare:Nat→Bool}{held:Bool}{t e:TypeId}(bl:P.underlying t=some (.slice e)){a:Option Addr}{len cap:Nat}{dd:DataW H}{ps:List MemPlace}(h:DataW.Trod enc P w base spare held t (.slice a len cap) dd ps):len≤Rows.uptoBulk dd:=by
 obtain⟨dv,aS⟩:=h;have mD:DataW.trod enc P w base spare held dv t [.slice a len cap]=some (dd,ps):=aS;rcases DataW.trod_slice bl mD with ⟨cP,_⟩|⟨x,l,c,a',rest,n,_,cP,ab,_,aF,hm,hlen,_⟩
 ·simp at cP;obtain⟨_,rfl,_⟩:=cP;exact Nat.zero_le _
 ·simp at cP;obtain⟨_,rfl,_⟩:=cP;simp only [Prod.mk.injEq]at ab;rw [ab.1];have:=Ho (a'.map (·.1));rw [List.length_map]at this;simp only [Rows.uptoBulk];omega
end Go.Proofs.YtjpfnbihopoeeaaGreatDoor
namespace Go.Proofs.YtjpfnbihopoeeaaGreatDoor
open Go.ba
theorem OJ(H:I)(B N wc i:Nat)(wo:Option aO)(a x:Int)(p:aO)(ai:bx→a6→I→Prop)(aG:ad B (H.next) (some (J.bool (decide ((i:Int)<(N:Int))))=some (J.bool true)∧ad B (H.next+1) (bb env.D 28 (.slice wo N wc) (.int .i64 (i:Int))=some (J.ptr (some p))∧aQ env.D 3 p (I.mk (H.next+4) (H.2))=some (.int .i64 x)∧ad B (H.next+4) ((-9223372036854775808≤a+x∧a+x≤9223372036854775807)∧ad B (H.next+8) ((-9223372036854775808≤(i:Int)+1∧(i:Int)+1≤9223372036854775807)∧ai .normal [(3,.int .i64 (a+x)),(6,.slice wo N wc),(7,.int .i64 (N:Int)),(8,.int .i64 ((i:Int)+1))] (I.mk (H.next+8+2) (I.aj (I.mk (H.next+4+4) (I.aj (I.mk (H.next+1+3) (I.aj (I.mk (H.next+1) (I.aj H))))))))))))) :
 ∃e ah U,aR Tryz.prog aq B 17 (aY Tryz.prog 93 0) [(3,.int .i64 a),(6,.slice wo N wc),(7,.int .i64 N),(8,.int .i64 i)] H e ah U∧ai e ah U :=
 b0 bg mixed bq (hs:= .aa (.val 3000 (.bool true)) (.aa (.val 4000 (.ptr (some p))) (.aa (.val 4001 (.int .i64 x)) (an 5002 (an 6000 .nil))))) (keep:=[3,6,7,8]) (by kernel_rfl) aG
theorem OK(H:I)(B N wc i:Nat)(wo:Option aO)(a:Int)(ai:bx→a6→I→Prop)(aG:ad B (H.next) (some (J.bool (decide ((i:Int)<(N:Int))))=some (J.bool false)∧ai (.exit 0) [(3,.int .i64 a),(6,.slice wo N wc),(7,.int .i64 (N:Int)),(8,.int .i64 (i:Int))] (I.mk (H.next+1) (I.aj H)))) :
 ∃e ah U,aR Tryz.prog aq B 17 (aY Tryz.prog 93 0) [(3,.int .i64 a),(6,.slice wo N wc),(7,.int .i64 N),(8,.int .i64 i)] H e ah U∧ai e ah U :=
 b0 bg mixed bq (hs:= .aa (.val 3000 (.bool false)) .nil) (keep:=[3,6,7,8]) (by kernel_rfl) aG
theorem OL(H H1:I)(N wc:Nat)(wo:Option aO)(s:Int)(ai:J→I→Prop)(aG:ad (H.next) (H.next) (ad (H.next) (H.next+1) (ad (H.next) (H.next+2) (aR Tryz.prog aq (H.next) 17 (Code.loop (aY Tryz.prog 93 0)) [(3,.int .i64 0),(6,.slice wo N wc),(7,.int .i64 (N:Int)),(8,.int .i64 0)] (I.mk (H.next+2+3) (I.aj (I.mk (H.next+1+1) (I.aj (I.mk (H.next+1) (I.aj H)))))) (.exit 0) [(3,.int .i64 s)] H1∧ad (H.next) (H1.next) (cW (H.next) (H1.next+2) (ai (.int .i64 s) (I.mk (H1.next+2) (I.aj H1)))))))) :
 ∃v U,aZ Tryz.prog aq 93 [.slice wo N wc] H v U∧ai v U :=
 cE bg mixed bq (hs:= .aa (.keep [3,6,7,8]) (.aa (.loop [(3,.int .i64 s)] H1 (.exit 0)) .nil)) (by kernel_rfl) aG
theorem OM(H H1 af:I)(B N wc i:Nat)(wo:Option aO)(t al x y z:Int)(dg dR:J)(p q u:aO)(ai:bx→a6→I→Prop)(aG:ad B (I.next H) (some (J.bool (decide ((↑i:Int)<(↑N:Int))))=some (J.bool true)∧ad B (I.next H+1) (bb (bh.D env) 28 (J.slice wo N wc) (J.int IntKind.i64 (↑i:Int))=some (J.ptr (some p))∧aQ (bh.D env) 3 p (I.mk (I.next H+6) (H.2))=some (J.int IntKind.i64 x)∧ad B (I.next H+6) ((-9223372036854775808≤t*x∧t*x≤9223372036854775807)∧Decidable.rec (fun h=>(fun ON=>some (J.int IntKind.i64 (IntKind.wrap IntKind.i64 (Int.tdiv (t*x) al)))) h) (fun h=>(fun x=>none) h) (Int.instDecidableEq al 0)=some (J.int IntKind.i64 y)∧bb (bh.D env) 28 dg (J.int IntKind.i64 (↑i:Int))=some (J.ptr (some q))∧aV env bz (I.next H+14) (a1 [(35,J.ptr (some q)),(34,J.int IntKind.i64 y)]) (I.mk (I.next H+15) (H.2)) (Op.store 3 (Operand.tmp 35) (Operand.tmp 34))=some (J.tuple [],H1)∧ad B (I.next H1) ((-9223372036854775808≤t*x∧t*x≤9223372036854775807)∧Decidable.rec (fun h=>(fun ON=>some (J.int IntKind.i64 (Int.tmod (t*x) al))) h) (fun h=>(fun x=>none) h) (Int.instDecidableEq al 0)=some (J.int IntKind.i64 z)∧bb (bh.D env) 28 dR (J.int IntKind.i64 (↑i:Int))=some (J.ptr (some u))∧aV env bz (I.next H1+8) (a1 [(43,J.ptr (some u)),(42,J.int IntKind.i64 z)]) (I.mk (I.next H1+9) (H1.2)) (Op.store 3 (Operand.tmp 43) (Operand.tmp 42))=some (J.tuple [],af)∧ad B (I.next af) ((-9223372036854775808≤(↑i:Int)+1∧(↑i:Int)+1≤9223372036854775807)∧ai bx.normal [(0,J.int IntKind.i64 t),(5,J.int IntKind.i64 al),(6,dg),(7,dR),(21,J.slice wo N wc),(22,J.int IntKind.i64 (↑N:Int)),(23,J.int IntKind.i64 ((↑i:Int)+1))] (I.mk (I.next af+2) (I.aj af)))))))) :
 ∃e ah U,aR Tryz.prog aq B 53 (aY Tryz.prog 94 0) [(0,.int .i64 t),(5,.int .i64 al),(6,dg),(7,dR),(21,.slice wo N wc),(22,.int .i64 N),(23,.int .i64 i)] H e ah U∧ai e ah U :=
 b0 bg mixed bq (hs:= .aa (.val 7000 (J.bool true)) (.aa (.val 8001 (J.ptr (some p))) (.aa (.val 8002 (J.int IntKind.i64 x)) (.aa (.go 9004) (.aa (.val 9006 (J.int IntKind.i64 y)) (.aa (.val 9007 (J.ptr (some q))) (.aa (.act 9008 (J.tuple []) fun x=>H1) (.aa (.go 10004) (.aa (.val 10006 (J.int IntKind.i64 z)) (.aa (.val 10007 (J.ptr (some u))) (.aa (.act 10008 (J.tuple []) fun x=>af) (.aa (.go 11000) .nil)))))))))))) (keep:=[0,5,6,7,21,22,23]) (by kernel_rfl) aG
theorem OO(H:I)(B N wc i:Nat)(wo:Option aO)(t al:Int)(dg dR:J)(ai:bx→a6→I→Prop)(aG:ad B (H.next) (some (J.bool (decide ((i:Int)<(N:Int))))=some (J.bool false)∧ai (.exit 0) [(0,.int .i64 t),(5,.int .i64 al),(6,dg),(7,dR),(21,.slice wo N wc),(22,.int .i64 (N:Int)),(23,.int .i64 (i:Int))] (I.mk (H.next+1) (I.aj H)))) :
 ∃e ah U,aR Tryz.prog aq B 53 (aY Tryz.prog 94 0) [(0,.int .i64 t),(5,.int .i64 al),(6,dg),(7,dR),(21,.slice wo N wc),(22,.int .i64 N),(23,.int .i64 i)] H e ah U∧ai e ah U :=
 b0 bg mixed bq (hs:= .aa (.val 7000 (.bool false)) .nil) (keep:=[0,5,6,7,21,22,23]) (by kernel_rfl) aG
abbrev j8(N:Nat)(q:Nat):J:=J.slice (some ⟨q,0,0,0,1⟩) N N
abbrev sN(N:Nat)(r:Nat):J:=J.slice (some ⟨r,0,0,0,1⟩) N N
theorem OP(H H1 af ax au aU bc:I)(N wc q r:Nat)(wo:Option aO)(t s s2:Int)(ai:J→I→Prop)(aG:ad (H.next) (H.next) (ad (H.next) (H.next+1) (bY Tryz.prog aq 93 [.slice wo N wc] (I.mk (H.next+4) (H.2)) (.int .i64 s) H1∧ad (H.next) (H1.next) (aV env bz (H1.next+2) (a1 [(13,.int .i64 (N:Int))]) (I.mk (H1.next+4) (H1.2)) (Op.makeSlice 28 (Operand.tmp 13) (Operand.tmp 13))=some ((j8 N q),af)∧ad (H.next) (af.next) (some (J.bool (s == 0))=some (J.bool false)∧ad (H.next) (af.next+2) (aV env bz (af.next+4) (a1 [(19,.int .i64 (N:Int))]) (I.mk (af.next+6) (af.2)) (Op.makeSlice 28 (Operand.tmp 19) (Operand.tmp 19))=some ((sN N r),ax)∧ad (H.next) (ax.next) (aR Tryz.prog aq (H.next) 53 (Code.loop (aY Tryz.prog 94 0)) [(0,.int .i64 t),(5,.int .i64 s),(6,(j8 N q)),(7,(sN N r)),(21,.slice wo N wc),(22,.int .i64 (N:Int)),(23,.int .i64 0)] (I.mk (ax.next+3) (I.aj ax)) (.exit 0) [(0,.int .i64 t),(6,(j8 N q)),(7,(sN N r))] au∧ad (H.next) (au.next) (bY Tryz.prog aq 93 [(j8 N q)] (I.mk (au.next+7) (au.2)) (.int .i64 s2) aU∧(-9223372036854775808≤t-s2∧t-s2≤9223372036854775807)∧bY Tryz.prog aq 144 [(j8 N q),(sN N r),.int .i64 (t-s2)] aU (.tuple []) bc∧ad (H.next) (bc.next) (cW (H.next) (bc.next+2) (ai ((j8 N q)) (I.mk (bc.next+2) (I.aj bc)))))))))))) :
 ∃v U,aZ Tryz.prog aq 94 [.int .i64 t,.slice wo N wc] H v U∧ai v U :=
 cE bg mixed bq (hs:= .aa (.act 1001 (.int .i64 s) fun x=>H1) (.aa (.act 2002 ((j8 N q)) fun x=>af) (.aa (.val 3001 (.bool false)) (.aa (.act 5002 ((sN N r)) fun x=>ax) (.aa (.keep [0,5,6,7,21,22,23]) (.aa (.loop [(0,.int .i64 t),(6,(j8 N q)),(7,(sN N r))] au (.exit 0)) (.aa (.act 12004 (.int .i64 s2) fun x=>aU) (an 12005 (.aa (.act 12006 (.tuple []) fun x=>bc) .nil))))))))) (by kernel_rfl) aG
theorem OQ(H H1:I)(B N i:Nat)(k:Int)(av bv dg:J)(p:aO)(ai:bx→a6→I→Prop)(aG:ad B (H.next) (some (J.bool (decide ((i:Int)<(N:Int))))=some (J.bool true)∧ad B (H.next+1) (ad B (H.next+3) (bb env.D 28 dg (.int .i64 (i:Int))=some (J.ptr (some p))∧aV env bz (H.next+7) (a1 [(21,.ptr (some p)),(20,.int .i64 (i:Int))]) (I.mk (H.next+8) (H.2)) (Op.store 3 (Operand.tmp 21) (Operand.tmp 20))=some (J.tuple [],H1)∧ad B (H1.next) ((-9223372036854775808≤(i:Int)+1∧(i:Int)+1≤9223372036854775807)∧ai .normal [(0,av),(2,.int .i64 k),(4,bv),(6,dg),(14,.int .i64 (N:Int)),(15,.int .i64 ((i:Int)+1))] (I.mk (H1.next+2) (I.aj H1))))))) :
 ∃e ah U,aR Tryz.prog aq B 41 (aY Tryz.prog 144 0) [(0,av),(2,.int .i64 k),(4,bv),(6,dg),(14,.int .i64 N),(15,.int .i64 i)] H e ah U∧ai e ah U :=
 b0 bg mixed bq (hs:= .aa (.val 3000 (.bool true)) (.aa (.val 5003 (.ptr (some p))) (.aa (.act 5004 (.tuple []) fun x=>H1) (an 6000 .nil)))) (keep:=[0,2,4,6,14,15]) (by kernel_rfl) aG
theorem OR(H:I)(B N i:Nat)(k:Int)(av bv dg:J)(ai:bx→a6→I→Prop)(aG:ad B (H.next) (some (J.bool (decide ((i:Int)<(N:Int))))=some (J.bool false)∧ai (.exit 0) [(0,av),(2,.int .i64 k),(4,bv),(6,dg),(14,.int .i64 (N:Int)),(15,.int .i64 (i:Int))] (I.mk (H.next+1) (I.aj H)))) :
 ∃e ah U,aR Tryz.prog aq B 41 (aY Tryz.prog 144 0) [(0,av),(2,.int .i64 k),(4,bv),(6,dg),(14,.int .i64 N),(15,.int .i64 i)] H e ah U∧ai e ah U :=
 b0 bg mixed bq (hs:= .aa (.val 3000 (.bool false)) .nil) (keep:=[0,2,4,6,14,15]) (by kernel_rfl) aG
theorem OS(H H1:I)(B N i:Nat)(av sv:J)(j y:Int)(p q:aO)(ai:bx→a6→I→Prop)(aG:ad B (H.next) (some (J.bool (decide ((i:Int)<(N:Int))))=some (J.bool true)∧ad B (H.next+1) (bb env.D 28 sv (.int .i64 (i:Int))=some (J.ptr (some p))∧aQ env.D 3 p (I.mk (H.next+4) (H.2))=some (.int .i64 j)∧ad B (H.next+4) (bb env.D 28 av (.int .i64 j)=some (J.ptr (some q))∧aQ env.D 3 q (I.mk (H.next+11) (H.2))=some (.int .i64 y)∧(-9223372036854775808≤y+1∧y+1≤9223372036854775807)∧bb env.D 28 av (.int .i64 j)=some (J.ptr (some q))∧aV env bz (H.next+10) (a1 [(39,.ptr (some q)),(38,.int .i64 (y+1))]) (I.mk (H.next+11) (H.2)) (Op.store 3 (Operand.tmp 39) (Operand.tmp 38))=some (J.tuple [],H1)∧ad B (H1.next) ((-9223372036854775808≤(i:Int)+1∧(i:Int)+1≤9223372036854775807)∧ai .normal [(0,av),(28,sv),(29,.int .i64 (N:Int)),(30,.int .i64 ((i:Int)+1))] (I.mk (H1.next+2) (I.aj H1))))))) :
 ∃e ah U,aR Tryz.prog aq B 41 (aY Tryz.prog 144 1) [(0,av),(28,sv),(29,.int .i64 N),(30,.int .i64 i)] H e ah U∧ai e ah U :=
 b0 bg mixed bq (hs:= .aa (.val 9000 (.bool true)) (.aa (.val 10000 (.ptr (some p))) (.aa (.val 10001 (.int .i64 j)) (.aa (.val 11002 (.ptr (some q))) (.aa (.val 11003 (.int .i64 y)) (an 11004 (.aa (.val 11005 (.ptr (some q))) (.aa (.act 11006 (.tuple []) fun x=>H1) (an 12000 .nil))))))))) (keep:=[0,28,29,30]) (by kernel_rfl) aG
theorem OT(H:I)(B N i:Nat)(av sv:J)(ai:bx→a6→I→Prop)(aG:ad B (H.next) (some (J.bool (decide ((i:Int)<(N:Int))))=some (J.bool false)∧ai (.exit 2) [(0,av),(28,sv),(29,.int .i64 (N:Int)),(30,.int .i64 (i:Int))] (I.mk (H.next+1) (I.aj H)))) :
 ∃e ah U,aR Tryz.prog aq B 41 (aY Tryz.prog 144 1) [(0,av),(28,sv),(29,.int .i64 N),(30,.int .i64 i)] H e ah U∧ai e ah U :=
 b0 bg mixed bq (hs:= .aa (.val 9000 (.bool false)) .nil) (keep:=[0,28,29,30]) (by kernel_rfl) aG
end Go.Proofs.YtjpfnbihopoeeaaGreatDoor
namespace Go.Proofs.YtjpfnbihopoeeaaGreatDoor
open Go.ba
theorem OU(H:I)(N rc z:Nat)(ro:Option aO)(a b x y:Int)(p q:aO)(ai:J→I→Prop)(aG:ad (H.next) (H.next) (ad (H.next) (H.next+1) (aQ env.D 28 ⟨z,0,0,0,1⟩ (I.mk (H.next+11) (H.2))=some (J.slice ro N rc)∧z<H.next+1∧bb env.D 28 (.slice ro N rc) (.int .i64 b)=some (J.ptr (some p))∧aQ env.D 3 p (I.mk (H.next+11) (H.2))=some (.int .i64 y)∧aO.id p<H.next+1∧aQ env.D 28 ⟨z,0,0,0,1⟩ (I.mk (H.next+11) (H.2))=some (J.slice ro N rc)∧z<H.next+1∧bb env.D 28 (.slice ro N rc) (.int .i64 a)=some (J.ptr (some q))∧aQ env.D 3 q (I.mk (H.next+11) (H.2))=some (.int .i64 x)∧aO.id q<H.next+1∧(-9223372036854775808≤y-x∧y-x≤9223372036854775807)∧cW (H.next) (H.next+11) (ai (.int .i64 (y-x)) (I.mk (H.next+1+10) (I.aj (I.mk (H.next+1) (I.aj H)))))))) :
 ∃v U,aZ Tryz.prog aq 185 [.int .i64 a,.int .i64 b,(.ptr (some ⟨z,0,0,0,1⟩))] H v U∧ai v U :=
 cE bg mixed bq (hs:= .aa (.cI 1000 (.slice ro N rc)) (.aa (.val 1002 (.ptr (some p))) (.aa (.cI 1003 (.int .i64 y)) (.aa (.cI 1004 (.slice ro N rc)) (.aa (.val 1006 (.ptr (some q))) (.aa (.cI 1007 (.int .i64 x)) (an 1008 .nil))))))) (by kernel_rfl) aG
theorem OV(H H1 af ax au aU:I)(N oG q z m mc:Nat)(oH:Option aO)(k:Int)(bv:J)(ai:J→I→Prop)(aG:ad (H.next) (H.next) (aV env bz (H.next+0) (a1 [(1,bv)]) (I.mk (H.next+1) (H.2)) (Op.box 28 (Operand.tmp 1))=some (J.ptr (some ⟨z,0,0,0,1⟩),H1)∧ad (H.next) (H1.next) (aV env bz (H1.next+2) (a1 [(11,.int .i64 (N:Int))]) (I.mk (H1.next+4) (H1.2)) (Op.makeSlice 28 (Operand.tmp 11) (Operand.tmp 11))=some ((j8 N q),af)∧ad (H.next) (af.next) (aR Tryz.prog aq (H.next) 41 (Code.loop (aY Tryz.prog 144 0)) [(0,.slice oH N oG),(2,.int .i64 k),(4,.ptr (some ⟨z,0,0,0,1⟩)),(6,(j8 N q)),(14,.int .i64 (N:Int)),(15,.int .i64 0)] (I.mk (af.next+3) (I.aj af)) (.exit 0) [(0,.slice oH N oG),(2,.int .i64 k),(4,.ptr (some ⟨z,0,0,0,1⟩)),(6,(j8 N q))] ax∧ad (H.next) (ax.next) (bY Tryz.prog aq 184 [(j8 N q),.func (.func 185) [] [.ptr (some ⟨z,0,0,0,1⟩)]] (I.mk (ax.next+3) (ax.2)) (.tuple []) au∧ad (H.next) (au.next) (gC env.D 28 ((j8 N q)) none (some (.int .i64 k)) none=some (J.slice (some ⟨q,0,0,0,1⟩) m mc)∧aR Tryz.prog aq (H.next) 41 (Code.loop (aY Tryz.prog 144 1)) [(0,.slice oH N oG),(28,.slice (some ⟨q,0,0,0,1⟩) m mc),(29,.int .i64 (m:Int)),(30,.int .i64 0)] (I.mk (au.next+5) (I.aj au)) (.exit 2) [] aU∧cW (H.next) (aU.next) (ai (.tuple []) aU))))))) :
 ∃v U,aZ Tryz.prog aq 144 [.slice oH N oG,bv,.int .i64 k] H v U∧ai v U :=
 cE bg mixed bq (hs:= .aa (.act 0 (.ptr (some ⟨z,0,0,0,1⟩)) fun x=>H1) (.aa (.act 1002 ((j8 N q)) fun x=>af) (.aa (.keep [0,2,4,6,14,15]) (.aa (.loop [(0,.slice oH N oG),(2,.int .i64 k),(4,.ptr (some ⟨z,0,0,0,1⟩)),(6,(j8 N q))] ax (.exit 0)) (.aa (.act 7002 (.tuple []) fun x=>au) (.aa (.val 8002 (.slice (some ⟨q,0,0,0,1⟩) m mc)) (.aa (.keep [0,28,29,30]) (.aa (.loop [] aU (.exit 2)) .nil)))))))) (by kernel_rfl) aG
end Go.Proofs.YtjpfnbihopoeeaaGreatDoor
namespace Go.Proofs.YtjpfnbihopoeeaaGreatDoor
open Go.ba
theorem Hp:pO env.D 28 3 1 8:=by
 have U:(env.D 3).map (fun x=>(x.size,x.bytes,x.o7))=some (1,8,true):=by kernel_rfl
 have ak:(env.D 28).map (fun x=>x.kind)=some (.slice 3):=by kernel_rfl
 obtain⟨x,ab,k⟩:=Option.map_eq_some_iff.1 U;obtain⟨d,aM,u3⟩:=Option.map_eq_some_iff.1 ak;simp only [Prod.mk.injEq]at k;exact⟨d,x,aM,u3,ab,k.1,k.2.1,by decide,k.2.2⟩
theorem lp:re 28 3 8:=⟨Hp,by kernel_rfl⟩
end Go.Proofs.YtjpfnbihopoeeaaGreatDoor
namespace Go.Proofs.YtjpfnbihopoeeaaGreatDoor
open Go.ba
theorem OW(H H1 af ax:I)(B a m i j:Nat)(g:FuncId)(cs:List J)(aH x y:J)(p q:aO)(r:Int)(ai:bx→a6→I→Prop)(aG:ad B (H.next) (some (J.bool (decide ((j:Int)>(a:Int))))=some (J.bool true)∧bb env.D 28 aH (.int .i64 (j:Int))=some (J.ptr (some p))∧aQ env.D 3 p (I.mk (H.next+17) (H.2))=some x∧aO.id p<H.next∧(-9223372036854775808≤(j:Int)-1∧(j:Int)-1≤9223372036854775807)∧bb env.D 28 aH (.int .i64 ((j:Int)-1))=some (J.ptr (some q))∧aQ env.D 3 q (I.mk (H.next+17) (H.2))=some y∧aO.id q<H.next∧bY Tryz.prog aq g (x::y::cs) (I.mk (H.next+17) (H.2)) (.int .i64 r) H1∧some (J.bool (decide (r<0)))=some (J.bool true)∧ad B (H1.next) ((-9223372036854775808≤(j:Int)-1∧(j:Int)-1≤9223372036854775807)∧(-9223372036854775808≤(j:Int)-1∧(j:Int)-1≤9223372036854775807)∧bb env.D 28 aH (.int .i64 ((j:Int)-1))=some (J.ptr (some q))∧aQ env.D 3 q (I.mk (H1.next+18) (H1.2))=some y∧aO.id q<H1.next∧bb env.D 28 aH (.int .i64 (j:Int))=some (J.ptr (some p))∧aQ env.D 3 p (I.mk (H1.next+18) (H1.2))=some x∧aO.id p<H1.next∧bb env.D 28 aH (.int .i64 (j:Int))=some (J.ptr (some p))∧aV env bz (H1.next+15) (a1 [(51,.ptr (some p)),(46,y)]) (I.mk (H1.next+18) (H1.2)) (Op.store 3 (Operand.tmp 51) (Operand.tmp 46))=some (J.tuple [],af)∧bb env.D 28 aH (.int .i64 ((j:Int)-1))=some (J.ptr (some q))∧aV env bz (H1.next+17) (a1 [(52,.ptr (some q)),(50,x)]) af (Op.store 3 (Operand.tmp 52) (Operand.tmp 50))=some (J.tuple [],ax)∧ad B (ax.next) ((-9223372036854775808≤(j:Int)-1∧(j:Int)-1≤9223372036854775807)∧ai .normal [(0,aH),(1,.int .i64 (a:Int)),(2,.int .i64 (m:Int)),(3,.func (.func g) [] cs),(8,.int .i64 (i:Int)),(9,.int .i64 ((j:Int)-1))] (I.mk (ax.next+3) (I.aj ax)))))) :
 ∃e ah U,aR Tryz.prog aq B 53 (aY Tryz.prog 236 1) [(0,aH),(1,.int .i64 a),(2,.int .i64 m),(3,.func (.func g) [] cs),(8,.int .i64 i),(9,.int .i64 j)] H e ah U∧ai e ah U :=
 b0 bg mixed bq (hs:= .aa (.val 4002 (.bool true)) (.aa (.val 4007 (.ptr (some p))) (.aa (.cI 4008 x) (an 4011 (.aa (.val 4012 (.ptr (some q))) (.aa (.cI 4013 y) (.aa (.act 4014 (.int .i64 r) fun x=>H1) (.aa (.val 4015 (.bool true)) (an 6004 (an 6007 (.aa (.val 6008 (.ptr (some q))) (.aa (.cI 6009 y) (.aa (.val 6012 (.ptr (some p))) (.aa (.cI 6013 x) (.aa (.val 6014 (.ptr (some p))) (.aa (.act 6015 (.tuple []) fun x=>af) (.aa (.val 6016 (.ptr (some q))) (.aa (.act 6017 (.tuple []) fun x=>ax) (an 5001 .nil))))))))))))))))))) (keep:=[0,1,2,3,8,9]) (by kernel_rfl) aG
theorem OX(H H1:I)(B a m i j:Nat)(g:FuncId)(cs:List J)(aH x y:J)(p q:aO)(r:Int)(ai:bx→a6→I→Prop)(aG:ad B (H.next) (some (J.bool (decide ((j:Int)>(a:Int))))=some (J.bool true)∧bb env.D 28 aH (.int .i64 (j:Int))=some (J.ptr (some p))∧aQ env.D 3 p (I.mk (H.next+17) (H.2))=some x∧aO.id p<H.next∧(-9223372036854775808≤(j:Int)-1∧(j:Int)-1≤9223372036854775807)∧bb env.D 28 aH (.int .i64 ((j:Int)-1))=some (J.ptr (some q))∧aQ env.D 3 q (I.mk (H.next+17) (H.2))=some y∧aO.id q<H.next∧bY Tryz.prog aq g (x::y::cs) (I.mk (H.next+17) (H.2)) (.int .i64 r) H1∧some (J.bool (decide (r<0)))=some (J.bool false)∧ai (.exit 2) [(0,aH),(1,.int .i64 (a:Int)),(2,.int .i64 (m:Int)),(3,.func (.func g) [] cs),(8,.int .i64 (i:Int)),(9,.int .i64 (j:Int))] H1)) :
 ∃e ah U,aR Tryz.prog aq B 53 (aY Tryz.prog 236 1) [(0,aH),(1,.int .i64 a),(2,.int .i64 m),(3,.func (.func g) [] cs),(8,.int .i64 i),(9,.int .i64 j)] H e ah U∧ai e ah U :=
 b0 bg mixed bq (hs:= .aa (.val 4002 (.bool true)) (.aa (.val 4007 (.ptr (some p))) (.aa (.cI 4008 x) (an 4011 (.aa (.val 4012 (.ptr (some q))) (.aa (.cI 4013 y) (.aa (.act 4014 (.int .i64 r) fun x=>H1) (.aa (.val 4015 (.bool false)) .nil)))))))) (keep:=[0,1,2,3,8,9]) (by kernel_rfl) aG
theorem OY(H:I)(B a m i j:Nat)(aH bk:J)(ai:bx→a6→I→Prop)(aG:ad B (H.next) (some (J.bool (decide ((j:Int)>(a:Int))))=some (J.bool false)∧ai (.exit 2) [(0,aH),(1,.int .i64 (a:Int)),(2,.int .i64 (m:Int)),(3,bk),(8,.int .i64 (i:Int)),(9,.int .i64 (j:Int))] (I.mk (H.next+17) (I.aj H)))) :
 ∃e ah U,aR Tryz.prog aq B 53 (aY Tryz.prog 236 1) [(0,aH),(1,.int .i64 a),(2,.int .i64 m),(3,bk),(8,.int .i64 i),(9,.int .i64 j)] H e ah U∧ai e ah U :=
 b0 bg mixed bq (hs:= .aa (.val 4002 (.bool false)) .nil) (keep:=[0,1,2,3,8,9]) (by kernel_rfl) aG
theorem OZ(H H1:I)(B a m i:Nat)(aH bk:J)(ai:bx→a6→I→Prop)(aG:ad B (H.next) (some (J.bool (decide ((i:Int)<(m:Int))))=some (J.bool true)∧ad B (H.next+3) (aR Tryz.prog aq B 53 (Code.loop (aY Tryz.prog 236 1)) [(0,aH),(1,.int .i64 (a:Int)),(2,.int .i64 (m:Int)),(3,bk),(8,.int .i64 (i:Int)),(9,.int .i64 (i:Int))] (I.mk (H.next+3+2) (I.aj (I.mk (H.next+3) (I.aj H)))) (.exit 2) [(0,aH),(1,.int .i64 (a:Int)),(2,.int .i64 (m:Int)),(3,bk),(8,.int .i64 (i:Int))] H1∧ad B (H1.next) ((-9223372036854775808≤(i:Int)+1∧(i:Int)+1≤9223372036854775807)∧ai .normal [(0,aH),(1,.int .i64 (a:Int)),(2,.int .i64 (m:Int)),(3,bk),(8,.int .i64 ((i:Int)+1))] (I.mk (H1.next+3) (I.aj H1)))))) :
 ∃e ah U,aR Tryz.prog aq B 53 (aY Tryz.prog 236 0) [(0,aH),(1,.int .i64 a),(2,.int .i64 m),(3,bk),(8,.int .i64 i)] H e ah U∧ai e ah U :=
 b0 bg mixed bq (hs:= .aa (.val 1002 (.bool true)) (.aa (.keep [0,1,2,3,8,9]) (.aa (.loop [(0,aH),(1,.int .i64 (a:Int)),(2,.int .i64 (m:Int)),(3,bk),(8,.int .i64 (i:Int))] H1 (.exit 2)) (an 2001 .nil)))) (keep:=[0,1,2,3,8]) (by kernel_rfl) aG
theorem Hq(H:I)(B a m i:Nat)(aH bk:J)(ai:bx→a6→I→Prop)(aG:ad B (H.next) (some (J.bool (decide ((i:Int)<(m:Int))))=some (J.bool false)∧ai (.exit 0) [(0,aH),(1,.int .i64 (a:Int)),(2,.int .i64 (m:Int)),(3,bk),(8,.int .i64 (i:Int))] (I.mk (H.next+3) (I.aj H)))) :
 ∃e ah U,aR Tryz.prog aq B 53 (aY Tryz.prog 236 0) [(0,aH),(1,.int .i64 a),(2,.int .i64 m),(3,bk),(8,.int .i64 i)] H e ah U∧ai e ah U :=
 b0 bg mixed bq (hs:= .aa (.val 1002 (.bool false)) .nil) (keep:=[0,1,2,3,8]) (by kernel_rfl) aG
theorem O0(H H1:I)(a m i:Nat)(aH bk:J)(ai:J→I→Prop)(aG:ad (H.next) (H.next) ((-9223372036854775808≤(a:Int)+1∧(a:Int)+1≤9223372036854775807)∧aR Tryz.prog aq (H.next) 53 (Code.loop (aY Tryz.prog 236 0)) [(0,aH),(1,.int .i64 (a:Int)),(2,.int .i64 (m:Int)),(3,bk),(8,.int .i64 ((a:Int)+1))] (I.mk (H.next+3) (I.aj H)) (.exit 0) [] H1∧cW (H.next) (H1.next) (ai (.tuple []) H1))) :
 ∃v U,aZ Tryz.prog aq 236 [aH,.int .i64 a,.int .i64 m,bk] H v U∧ai v U :=
 cE bg mixed bq (hs:=an 1 (.aa (.keep [0,1,2,3,8]) (.aa (.loop [] H1 (.exit 0)) .nil))) (by kernel_rfl) aG
theorem O1(H H1 af:I)(B a m k i:Nat)(aH x y:J)(p q:aO)(ai:bx→a6→I→Prop)(aG:ad B (H.next) (some (J.bool (decide ((i:Int)<(k:Int))))=some (J.bool true)∧ad B (H.next+3) ((-9223372036854775808≤(a:Int)+(i:Int)∧(a:Int)+(i:Int)≤9223372036854775807)∧(-9223372036854775808≤(m:Int)+(i:Int)∧(m:Int)+(i:Int)≤9223372036854775807)∧(-9223372036854775808≤(m:Int)+(i:Int)∧(m:Int)+(i:Int)≤9223372036854775807)∧bb env.D 28 aH (.int .i64 ((m:Int)+(i:Int)))=some (J.ptr (some q))∧aQ env.D 3 q (I.mk (H.next+27) (H.2))=some y∧aO.id q<H.next+3∧(-9223372036854775808≤(a:Int)+(i:Int)∧(a:Int)+(i:Int)≤9223372036854775807)∧bb env.D 28 aH (.int .i64 ((a:Int)+(i:Int)))=some (J.ptr (some p))∧aQ env.D 3 p (I.mk (H.next+27) (H.2))=some x∧aO.id p<H.next+3∧bb env.D 28 aH (.int .i64 ((a:Int)+(i:Int)))=some (J.ptr (some p))∧aV env bz (H.next+24) (a1 [(36,.ptr (some p)),(29,y)]) (I.mk (H.next+27) (H.2)) (Op.store 3 (Operand.tmp 36) (Operand.tmp 29))=some (J.tuple [],H1)∧bb env.D 28 aH (.int .i64 ((m:Int)+(i:Int)))=some (J.ptr (some q))∧aV env bz (H.next+26) (a1 [(37,.ptr (some q)),(35,x)]) H1 (Op.store 3 (Operand.tmp 37) (Operand.tmp 35))=some (J.tuple [],af)∧ad B (af.next) ((-9223372036854775808≤(i:Int)+1∧(i:Int)+1≤9223372036854775807)∧ai .normal [(0,aH),(1,.int .i64 (a:Int)),(2,.int .i64 (m:Int)),(3,.int .i64 (k:Int)),(10,.int .i64 ((i:Int)+1))] (I.mk (af.next+3) (I.aj af)))))) :
 ∃e ah U,aR Tryz.prog aq B 38 (aY Tryz.prog 259 0) [(0,aH),(1,.int .i64 a),(2,.int .i64 m),(3,.int .i64 k),(10,.int .i64 i)] H e ah U∧ai e ah U :=
 b0 bg mixed bq (hs:= .aa (.val 1002 (.bool true)) (an 3003 (an 3007 (an 3011 (.aa (.val 3012 (.ptr (some q))) (.aa (.cI 3013 y) (an 3017 (.aa (.val 3018 (.ptr (some p))) (.aa (.cI 3019 x) (.aa (.val 3020 (.ptr (some p))) (.aa (.act 3021 (.tuple []) fun x=>H1) (.aa (.val 3022 (.ptr (some q))) (.aa (.act 3023 (.tuple []) fun x=>af) (an 2001 .nil)))))))))))))) (keep:=[0,1,2,3,10]) (by kernel_rfl) aG
theorem O2(H:I)(B a m k i:Nat)(aH:J)(ai:bx→a6→I→Prop)(aG:ad B (H.next) (some (J.bool (decide ((i:Int)<(k:Int))))=some (J.bool false)∧ai (.exit 0) [(0,aH),(1,.int .i64 (a:Int)),(2,.int .i64 (m:Int)),(3,.int .i64 (k:Int)),(10,.int .i64 (i:Int))] (I.mk (H.next+3) (I.aj H)))) :
 ∃e ah U,aR Tryz.prog aq B 38 (aY Tryz.prog 259 0) [(0,aH),(1,.int .i64 a),(2,.int .i64 m),(3,.int .i64 k),(10,.int .i64 i)] H e ah U∧ai e ah U :=
 b0 bg mixed bq (hs:= .aa (.val 1002 (.bool false)) .nil) (keep:=[0,1,2,3,10]) (by kernel_rfl) aG
theorem O3(H H1:I)(a m k:Nat)(aH bk:J)(ai:J→I→Prop)(aG:ad (H.next) (H.next) (aR Tryz.prog aq (H.next) 38 (Code.loop (aY Tryz.prog 259 0)) [(0,aH),(1,.int .i64 (a:Int)),(2,.int .i64 (m:Int)),(3,.int .i64 (k:Int)),(10,.int .i64 0)] (I.mk (H.next+1) (I.aj H)) (.exit 0) [] H1∧cW (H.next) (H1.next) (ai (.tuple []) H1))) :
 ∃v U,aZ Tryz.prog aq 259 [aH,.int .i64 a,.int .i64 m,.int .i64 k,bk] H v U∧ai v U :=
 cE bg mixed bq (hs:= .aa (.keep [0,1,2,3,10]) (.aa (.loop [] H1 (.exit 0)) .nil)) (by kernel_rfl) aG
theorem O4(H H1:I)(B m i j:Nat)(aH bk:J)(ai:bx→a6→I→Prop)(aG:ad B (H.next) (some (J.bool ((i:Int) != (j:Int)))=some (J.bool true)∧ad B (H.next+3) (some (J.bool (decide ((i:Int)>(j:Int))))=some (J.bool true)∧ad B (H.next+6) ((-9223372036854775808≤(m:Int)- (i:Int)∧(m:Int)- (i:Int)≤9223372036854775807)∧bY Tryz.prog aq 259 [aH,.int .i64 ((m:Int)- (i:Int)),.int .i64 (m:Int),.int .i64 (j:Int),bk] (I.mk (H.next+14) (H.2)) (.tuple []) H1∧ad B (H1.next) ((-9223372036854775808≤(i:Int)- (j:Int)∧(i:Int)- (j:Int)≤9223372036854775807)∧ai .normal [(0,aH),(2,.int .i64 (m:Int)),(4,bk),(10,.int .i64 ((i:Int)- (j:Int))),(11,.int .i64 (j:Int))] (I.mk (H1.next+4) (I.aj H1))))))) :
 ∃e ah U,aR Tryz.prog aq B 58 (aY Tryz.prog 249 0) [(0,aH),(2,.int .i64 m),(4,bk),(10,.int .i64 i),(11,.int .i64 j)] H e ah U∧ai e ah U :=
 b0 bg mixed bq (hs:= .aa (.val 2002 (.bool true)) (.aa (.val 3002 (.bool true)) (an 4003 (.aa (.act 4007 (.tuple []) fun x=>H1) (an 5002 .nil))))) (keep:=[0,2,4,10,11]) (by kernel_rfl) aG
theorem O5(H H1:I)(B m i j:Nat)(aH bk:J)(ai:bx→a6→I→Prop)(aG:ad B (H.next) (some (J.bool ((i:Int) != (j:Int)))=some (J.bool true)∧ad B (H.next+3) (some (J.bool (decide ((i:Int)>(j:Int))))=some (J.bool false)∧ad B (H.next+6) ((-9223372036854775808≤(m:Int)- (i:Int)∧(m:Int)- (i:Int)≤9223372036854775807)∧(-9223372036854775808≤(m:Int)+(j:Int)∧(m:Int)+(j:Int)≤9223372036854775807)∧(-9223372036854775808≤(m:Int)+(j:Int)- (i:Int)∧(m:Int)+(j:Int)- (i:Int)≤9223372036854775807)∧bY Tryz.prog aq 259 [aH,.int .i64 ((m:Int)- (i:Int)),.int .i64 ((m:Int)+(j:Int)- (i:Int)),.int .i64 (i:Int),bk] (I.mk (H.next+18) (H.2)) (.tuple []) H1∧ad B (H1.next) ((-9223372036854775808≤(j:Int)- (i:Int)∧(j:Int)- (i:Int)≤9223372036854775807)∧ai .normal [(0,aH),(2,.int .i64 (m:Int)),(4,bk),(10,.int .i64 (i:Int)),(11,.int .i64 ((j:Int)- (i:Int)))] (I.mk (H1.next+4) (I.aj H1))))))) :
 ∃e ah U,aR Tryz.prog aq B 58 (aY Tryz.prog 249 0) [(0,aH),(2,.int .i64 m),(4,bk),(10,.int .i64 i),(11,.int .i64 j)] H e ah U∧ai e ah U :=
 b0 bg mixed bq (hs:= .aa (.val 2002 (.bool true)) (.aa (.val 3002 (.bool false)) (an 6003 (an 6006 (an 6008 (.aa (.act 6011 (.tuple []) fun x=>H1) (an 7002 .nil))))))) (keep:=[0,2,4,10,11]) (by kernel_rfl) aG
theorem O6(H:I)(B m i j:Nat)(aH bk:J)(ai:bx→a6→I→Prop)(aG:ad B (H.next) (some (J.bool ((i:Int) != (j:Int)))=some (J.bool false)∧ai (.exit 0) [(0,aH),(2,.int .i64 (m:Int)),(4,bk),(10,.int .i64 (i:Int)),(11,.int .i64 (j:Int))] (I.mk (H.next+3) (I.aj H)))) :
 ∃e ah U,aR Tryz.prog aq B 58 (aY Tryz.prog 249 0) [(0,aH),(2,.int .i64 m),(4,bk),(10,.int .i64 i),(11,.int .i64 j)] H e ah U∧ai e ah U :=
 b0 bg mixed bq (hs:= .aa (.val 2002 (.bool false)) .nil) (keep:=[0,2,4,10,11]) (by kernel_rfl) aG
theorem O7(H H1 af:I)(a m z i:Nat)(aH bk:J)(ai:J→I→Prop)(aG:ad (H.next) (H.next) ((-9223372036854775808≤(m:Int)- (a:Int)∧(m:Int)- (a:Int)≤9223372036854775807)∧ad (H.next) (H.next+4) ((-9223372036854775808≤(z:Int)- (m:Int)∧(z:Int)- (m:Int)≤9223372036854775807)∧aR Tryz.prog aq (H.next) 58 (Code.loop (aY Tryz.prog 249 0)) [(0,aH),(2,.int .i64 (m:Int)),(4,bk),(10,.int .i64 ((m:Int)- (a:Int))),(11,.int .i64 ((z:Int)- (m:Int)))] (I.mk (H.next+4+4) (I.aj (I.mk (H.next+4) (I.aj H)))) (.exit 0) [(0,aH),(2,.int .i64 (m:Int)),(4,bk),(10,.int .i64 (i:Int))] H1∧ad (H.next) (H1.next) ((-9223372036854775808≤(m:Int)- (i:Int)∧(m:Int)- (i:Int)≤9223372036854775807)∧bY Tryz.prog aq 259 [aH,.int .i64 ((m:Int)- (i:Int)),.int .i64 (m:Int),.int .i64 (i:Int),bk] (I.mk (H1.next+8) (H1.2)) (.tuple []) af∧cW (H.next) (af.next) (ai (.tuple []) af))))) :
 ∃v U,aZ Tryz.prog aq 249 [aH,.int .i64 a,.int .i64 m,.int .i64 z,bk] H v U∧ai v U :=
 cE bg mixed bq (hs:=an 2 (an 1002 (.aa (.keep [0,2,4,10,11]) (.aa (.loop [(0,aH),(2,.int .i64 (m:Int)),(4,bk),(10,.int .i64 (i:Int))] H1 (.exit 0)) (an 8003 (.aa (.act 8007 (.tuple []) fun x=>af) .nil)))))) (by kernel_rfl) aG
end Go.Proofs.YtjpfnbihopoeeaaGreatDoor
namespace Go.Proofs.YtjpfnbihopoeeaaGreatDoor
open Go.ba
theorem O8(H H1:I)(B a i j c:Nat)(g:FuncId)(cs:List J)(aH x y:J)(p q:aO)(r:Int)(ai:bx→a6→I→Prop)(aG:ad B (H.next) (some (J.bool (decide ((i:Int)<(j:Int))))=some (J.bool true)∧ad B (H.next+3) ((-9223372036854775808≤(i:Int)+(j:Int)∧(i:Int)+(j:Int)≤9223372036854775807)∧(0≤(i:Int)+(j:Int)∧(i:Int)+(j:Int)≤18446744073709551615)∧Int.NonNeg (1-0)∧aV env bz (H.next+8) (a1 [(38,.int .u64 (bE IntKind.u64 ((i:Int)+(j:Int)) (1)))]) (I.mk (H.next+10) (H.2)) (Op.convert 108 3 (Operand.tmp 38))=some (.int .i64 (c:Int),(I.mk (H.next+10) (H.2)))∧ad B (H.next+10) (bb env.D 28 aH (.int .i64 (c:Int))=some (J.ptr (some p))∧aQ env.D 3 p (I.mk (H.next+21) (H.2))=some x∧aO.id p<H.next+10∧bb env.D 28 aH (.int .i64 (a:Int))=some (J.ptr (some q))∧aQ env.D 3 q (I.mk (H.next+21) (H.2))=some y∧aO.id q<H.next+10∧bY Tryz.prog aq g (x::y::cs) (I.mk (H.next+21) (H.2)) (.int .i64 r) H1∧some (J.bool (decide (r<0)))=some (J.bool true)∧ad B (H1.next) ((-9223372036854775808≤(c:Int)+1∧(c:Int)+1≤9223372036854775807)∧ai .normal [(0,aH),(1,.int .i64 (a:Int)),(4,.func (.func g) [] cs),(10,.int .i64 ((c:Int)+1)),(11,.int .i64 (j:Int))] (I.mk (H1.next+3) (I.aj H1))))))) :
 ∃e ah U,aR Tryz.prog aq B 220 (aY Tryz.prog 237 0) [(0,aH),(1,.int .i64 a),(4,.func (.func g) [] cs),(10,.int .i64 i),(11,.int .i64 j)] H e ah U∧ai e ah U :=
 b0 bg mixed bq (hs:= .aa (.val 3002 (.bool true)) (an 4002 (an 4003 (an 4004 (.aa (.val 4005 (.int .i64 (c:Int))) (.aa (.val 5003 (.ptr (some p))) (.aa (.cI 5004 x) (.aa (.val 5007 (.ptr (some q))) (.aa (.cI 5008 y) (.aa (.act 5009 (.int .i64 r) fun x=>H1) (.aa (.val 5010 (.bool true)) (an 6001 .nil)))))))))))) (keep:=[0,1,4,10,11]) (by kernel_rfl) aG
theorem O9(H H1:I)(B a i j c:Nat)(g:FuncId)(cs:List J)(aH x y:J)(p q:aO)(r:Int)(ai:bx→a6→I→Prop)(aG:ad B (H.next) (some (J.bool (decide ((i:Int)<(j:Int))))=some (J.bool true)∧ad B (H.next+3) ((-9223372036854775808≤(i:Int)+(j:Int)∧(i:Int)+(j:Int)≤9223372036854775807)∧(0≤(i:Int)+(j:Int)∧(i:Int)+(j:Int)≤18446744073709551615)∧Int.NonNeg (1-0)∧aV env bz (H.next+8) (a1 [(38,.int .u64 (bE IntKind.u64 ((i:Int)+(j:Int)) (1)))]) (I.mk (H.next+10) (H.2)) (Op.convert 108 3 (Operand.tmp 38))=some (.int .i64 (c:Int),(I.mk (H.next+10) (H.2)))∧ad B (H.next+10) (bb env.D 28 aH (.int .i64 (c:Int))=some (J.ptr (some p))∧aQ env.D 3 p (I.mk (H.next+21) (H.2))=some x∧aO.id p<H.next+10∧bb env.D 28 aH (.int .i64 (a:Int))=some (J.ptr (some q))∧aQ env.D 3 q (I.mk (H.next+21) (H.2))=some y∧aO.id q<H.next+10∧bY Tryz.prog aq g (x::y::cs) (I.mk (H.next+21) (H.2)) (.int .i64 r) H1∧some (J.bool (decide (r<0)))=some (J.bool false)∧ad B (H1.next) (ai .normal [(0,aH),(1,.int .i64 (a:Int)),(4,.func (.func g) [] cs),(10,.int .i64 (i:Int)),(11,.int .i64 (c:Int))] (I.mk (H1.next+2) (I.aj H1))))))) :
 ∃e ah U,aR Tryz.prog aq B 220 (aY Tryz.prog 237 0) [(0,aH),(1,.int .i64 a),(4,.func (.func g) [] cs),(10,.int .i64 i),(11,.int .i64 j)] H e ah U∧ai e ah U :=
 b0 bg mixed bq (hs:= .aa (.val 3002 (.bool true)) (an 4002 (an 4003 (an 4004 (.aa (.val 4005 (.int .i64 (c:Int))) (.aa (.val 5003 (.ptr (some p))) (.aa (.cI 5004 x) (.aa (.val 5007 (.ptr (some q))) (.aa (.cI 5008 y) (.aa (.act 5009 (.int .i64 r) fun x=>H1) (.aa (.val 5010 (.bool false)) .nil))))))))))) (keep:=[0,1,4,10,11]) (by kernel_rfl) aG
theorem O'(H:I)(B a i j:Nat)(aH bk:J)(ai:bx→a6→I→Prop)(aG:ad B (H.next) (some (J.bool (decide ((i:Int)<(j:Int))))=some (J.bool false)∧ai (.exit 0) [(0,aH),(1,.int .i64 (a:Int)),(4,bk),(10,.int .i64 (i:Int)),(11,.int .i64 (j:Int))] (I.mk (H.next+3) (I.aj H)))) :
 ∃e ah U,aR Tryz.prog aq B 220 (aY Tryz.prog 237 0) [(0,aH),(1,.int .i64 a),(4,bk),(10,.int .i64 i),(11,.int .i64 j)] H e ah U∧ai e ah U :=
 b0 bg mixed bq (hs:= .aa (.val 3002 (.bool false)) .nil) (keep:=[0,1,4,10,11]) (by kernel_rfl) aG
theorem Pa(H H1 af:I)(B i k:Nat)(aH x y:J)(p q:aO)(ai:bx→a6→I→Prop)(aG:ad B (H.next) ((-9223372036854775808≤(i:Int)-1∧(i:Int)-1≤9223372036854775807)∧some (J.bool (decide ((k:Int)<(i:Int)-1)))=some (J.bool true)∧ad B (H.next+4) ((-9223372036854775808≤(k:Int)+1∧(k:Int)+1≤9223372036854775807)∧(-9223372036854775808≤(k:Int)+1∧(k:Int)+1≤9223372036854775807)∧bb env.D 28 aH (.int .i64 ((k:Int)+1))=some (J.ptr (some q))∧aQ env.D 3 q (I.mk (H.next+22) (H.2))=some y∧aO.id q<H.next+4∧bb env.D 28 aH (.int .i64 (k:Int))=some (J.ptr (some p))∧aQ env.D 3 p (I.mk (H.next+22) (H.2))=some x∧aO.id p<H.next+4∧bb env.D 28 aH (.int .i64 (k:Int))=some (J.ptr (some p))∧aV env bz (H.next+19) (a1 [(75,.ptr (some p)),(70,y)]) (I.mk (H.next+22) (H.2)) (Op.store 3 (Operand.tmp 75) (Operand.tmp 70))=some (J.tuple [],H1)∧bb env.D 28 aH (.int .i64 ((k:Int)+1))=some (J.ptr (some q))∧aV env bz (H.next+21) (a1 [(76,.ptr (some q)),(74,x)]) H1 (Op.store 3 (Operand.tmp 76) (Operand.tmp 74))=some (J.tuple [],af)∧ad B (af.next) ((-9223372036854775808≤(k:Int)+1∧(k:Int)+1≤9223372036854775807)∧ai .normal [(0,aH),(10,.int .i64 (i:Int)),(13,.int .i64 ((k:Int)+1))] (I.mk (af.next+3) (I.aj af)))))) :
 ∃e ah U,aR Tryz.prog aq B 220 (aY Tryz.prog 237 1) [(0,aH),(10,.int .i64 i),(13,.int .i64 k)] H e ah U∧ai e ah U :=
 b0 bg mixed bq (hs:=an 9002 (.aa (.val 9003 (.bool true)) (an 11004 (an 11007 (.aa (.val 11008 (.ptr (some q))) (.aa (.cI 11009 y) (.aa (.val 11012 (.ptr (some p))) (.aa (.cI 11013 x) (.aa (.val 11014 (.ptr (some p))) (.aa (.act 11015 (.tuple []) fun x=>H1) (.aa (.val 11016 (.ptr (some q))) (.aa (.act 11017 (.tuple []) fun x=>af) (an 10001 .nil))))))))))))) (keep:=[0,10,13]) (by kernel_rfl) aG
theorem Pb(H:I)(B i k:Nat)(aH:J)(ai:bx→a6→I→Prop)(aG:ad B (H.next) ((-9223372036854775808≤(i:Int)-1∧(i:Int)-1≤9223372036854775807)∧some (J.bool (decide ((k:Int)<(i:Int)-1)))=some (J.bool false)∧ai (.exit 2) [(0,aH),(10,.int .i64 (i:Int)),(13,.int .i64 (k:Int))] (I.mk (H.next+4) (I.aj H)))) :
 ∃e ah U,aR Tryz.prog aq B 220 (aY Tryz.prog 237 1) [(0,aH),(10,.int .i64 i),(13,.int .i64 k)] H e ah U∧ai e ah U :=
 b0 bg mixed bq (hs:=an 9002 (.aa (.val 9003 (.bool false)) .nil)) (keep:=[0,10,13]) (by kernel_rfl) aG
theorem Pc(H H1:I)(B m i j c:Nat)(g:FuncId)(cs:List J)(aH x y:J)(p q:aO)(r:Int)(ai:bx→a6→I→Prop)(aG:ad B (H.next) (some (J.bool (decide ((i:Int)<(j:Int))))=some (J.bool true)∧ad B (H.next+3) ((-9223372036854775808≤(i:Int)+(j:Int)∧(i:Int)+(j:Int)≤9223372036854775807)∧(0≤(i:Int)+(j:Int)∧(i:Int)+(j:Int)≤18446744073709551615)∧Int.NonNeg (1-0)∧aV env bz (H.next+8) (a1 [(90,.int .u64 (bE IntKind.u64 ((i:Int)+(j:Int)) (1)))]) (I.mk (H.next+10) (H.2)) (Op.convert 108 3 (Operand.tmp 90))=some (.int .i64 (c:Int),(I.mk (H.next+10) (H.2)))∧ad B (H.next+10) (bb env.D 28 aH (.int .i64 (m:Int))=some (J.ptr (some p))∧aQ env.D 3 p (I.mk (H.next+22) (H.2))=some x∧aO.id p<H.next+10∧bb env.D 28 aH (.int .i64 (c:Int))=some (J.ptr (some q))∧aQ env.D 3 q (I.mk (H.next+22) (H.2))=some y∧aO.id q<H.next+10∧bY Tryz.prog aq g (x::y::cs) (I.mk (H.next+22) (H.2)) (.int .i64 r) H1∧some (J.bool (decide (r<0)))=some (J.bool true)∧ad B (H1.next) (ai .normal [(0,aH),(2,.int .i64 (m:Int)),(4,.func (.func g) [] cs),(14,.int .i64 (i:Int)),(15,.int .i64 (c:Int))] (I.mk (H1.next+2) (I.aj H1))))))) :
 ∃e ah U,aR Tryz.prog aq B 220 (aY Tryz.prog 237 2) [(0,aH),(2,.int .i64 m),(4,.func (.func g) [] cs),(14,.int .i64 i),(15,.int .i64 j)] H e ah U∧ai e ah U :=
 b0 bg mixed bq (hs:= .aa (.val 15002 (.bool true)) (an 16002 (an 16003 (an 16004 (.aa (.val 16005 (.int .i64 (c:Int))) (.aa (.val 17003 (.ptr (some p))) (.aa (.cI 17004 x) (.aa (.val 17007 (.ptr (some q))) (.aa (.cI 17008 y) (.aa (.act 17009 (.int .i64 r) fun x=>H1) (.aa (.val 17010 (.bool true)) .nil))))))))))) (keep:=[0,2,4,14,15]) (by kernel_rfl) aG
theorem Pd(H H1:I)(B m i j c:Nat)(g:FuncId)(cs:List J)(aH x y:J)(p q:aO)(r:Int)(ai:bx→a6→I→Prop)(aG:ad B (H.next) (some (J.bool (decide ((i:Int)<(j:Int))))=some (J.bool true)∧ad B (H.next+3) ((-9223372036854775808≤(i:Int)+(j:Int)∧(i:Int)+(j:Int)≤9223372036854775807)∧(0≤(i:Int)+(j:Int)∧(i:Int)+(j:Int)≤18446744073709551615)∧Int.NonNeg (1-0)∧aV env bz (H.next+8) (a1 [(90,.int .u64 (bE IntKind.u64 ((i:Int)+(j:Int)) (1)))]) (I.mk (H.next+10) (H.2)) (Op.convert 108 3 (Operand.tmp 90))=some (.int .i64 (c:Int),(I.mk (H.next+10) (H.2)))∧ad B (H.next+10) (bb env.D 28 aH (.int .i64 (m:Int))=some (J.ptr (some p))∧aQ env.D 3 p (I.mk (H.next+22) (H.2))=some x∧aO.id p<H.next+10∧bb env.D 28 aH (.int .i64 (c:Int))=some (J.ptr (some q))∧aQ env.D 3 q (I.mk (H.next+22) (H.2))=some y∧aO.id q<H.next+10∧bY Tryz.prog aq g (x::y::cs) (I.mk (H.next+22) (H.2)) (.int .i64 r) H1∧some (J.bool (decide (r<0)))=some (J.bool false)∧ad B (H1.next) ((-9223372036854775808≤(c:Int)+1∧(c:Int)+1≤9223372036854775807)∧ai .normal [(0,aH),(2,.int .i64 (m:Int)),(4,.func (.func g) [] cs),(14,.int .i64 ((c:Int)+1)),(15,.int .i64 (j:Int))] (I.mk (H1.next+3) (I.aj H1))))))) :
 ∃e ah U,aR Tryz.prog aq B 220 (aY Tryz.prog 237 2) [(0,aH),(2,.int .i64 m),(4,.func (.func g) [] cs),(14,.int .i64 i),(15,.int .i64 j)] H e ah U∧ai e ah U :=
 b0 bg mixed bq (hs:= .aa (.val 15002 (.bool true)) (an 16002 (an 16003 (an 16004 (.aa (.val 16005 (.int .i64 (c:Int))) (.aa (.val 17003 (.ptr (some p))) (.aa (.cI 17004 x) (.aa (.val 17007 (.ptr (some q))) (.aa (.cI 17008 y) (.aa (.act 17009 (.int .i64 r) fun x=>H1) (.aa (.val 17010 (.bool false)) (an 18001 .nil)))))))))))) (keep:=[0,2,4,14,15]) (by kernel_rfl) aG
theorem Pe(H:I)(B m i j:Nat)(aH bk:J)(ai:bx→a6→I→Prop)(aG:ad B (H.next) (some (J.bool (decide ((i:Int)<(j:Int))))=some (J.bool false)∧ai (.exit 4) [(0,aH),(2,.int .i64 (m:Int)),(4,bk),(14,.int .i64 (i:Int)),(15,.int .i64 (j:Int))] (I.mk (H.next+3) (I.aj H)))) :
 ∃e ah U,aR Tryz.prog aq B 220 (aY Tryz.prog 237 2) [(0,aH),(2,.int .i64 m),(4,bk),(14,.int .i64 i),(15,.int .i64 j)] H e ah U∧ai e ah U :=
 b0 bg mixed bq (hs:= .aa (.val 15002 (.bool false)) .nil) (keep:=[0,2,4,14,15]) (by kernel_rfl) aG
theorem Pf(H H1 af:I)(B i k:Nat)(aH x y:J)(p q:aO)(ai:bx→a6→I→Prop)(aG:ad B (H.next) (some (J.bool (decide ((k:Int)>(i:Int))))=some (J.bool true)∧ad B (H.next+3) ((-9223372036854775808≤(k:Int)-1∧(k:Int)-1≤9223372036854775807)∧(-9223372036854775808≤(k:Int)-1∧(k:Int)-1≤9223372036854775807)∧bb env.D 28 aH (.int .i64 ((k:Int)-1))=some (J.ptr (some q))∧aQ env.D 3 q (I.mk (H.next+21) (H.2))=some y∧aO.id q<H.next+3∧bb env.D 28 aH (.int .i64 (k:Int))=some (J.ptr (some p))∧aQ env.D 3 p (I.mk (H.next+21) (H.2))=some x∧aO.id p<H.next+3∧bb env.D 28 aH (.int .i64 (k:Int))=some (J.ptr (some p))∧aV env bz (H.next+18) (a1 [(127,.ptr (some p)),(122,y)]) (I.mk (H.next+21) (H.2)) (Op.store 3 (Operand.tmp 127) (Operand.tmp 122))=some (J.tuple [],H1)∧bb env.D 28 aH (.int .i64 ((k:Int)-1))=some (J.ptr (some q))∧aV env bz (H.next+20) (a1 [(128,.ptr (some q)),(126,x)]) H1 (Op.store 3 (Operand.tmp 128) (Operand.tmp 126))=some (J.tuple [],af)∧ad B (af.next) ((-9223372036854775808≤(k:Int)-1∧(k:Int)-1≤9223372036854775807)∧ai .normal [(0,aH),(14,.int .i64 (i:Int)),(17,.int .i64 ((k:Int)-1))] (I.mk (af.next+3) (I.aj af)))))) :
 ∃e ah U,aR Tryz.prog aq B 220 (aY Tryz.prog 237 3) [(0,aH),(14,.int .i64 i),(17,.int .i64 k)] H e ah U∧ai e ah U :=
 b0 bg mixed bq (hs:= .aa (.val 21002 (.bool true)) (an 23004 (an 23007 (.aa (.val 23008 (.ptr (some q))) (.aa (.cI 23009 y) (.aa (.val 23012 (.ptr (some p))) (.aa (.cI 23013 x) (.aa (.val 23014 (.ptr (some p))) (.aa (.act 23015 (.tuple []) fun x=>H1) (.aa (.val 23016 (.ptr (some q))) (.aa (.act 23017 (.tuple []) fun x=>af) (an 22001 .nil)))))))))))) (keep:=[0,14,17]) (by kernel_rfl) aG
theorem Pg(H:I)(B i k:Nat)(aH:J)(ai:bx→a6→I→Prop)(aG:ad B (H.next) (some (J.bool (decide ((k:Int)>(i:Int))))=some (J.bool false)∧ai (.exit 6) [(0,aH),(14,.int .i64 (i:Int)),(17,.int .i64 (k:Int))] (I.mk (H.next+3) (I.aj H)))) :
 ∃e ah U,aR Tryz.prog aq B 220 (aY Tryz.prog 237 3) [(0,aH),(14,.int .i64 i),(17,.int .i64 k)] H e ah U∧ai e ah U :=
 b0 bg mixed bq (hs:= .aa (.val 21002 (.bool false)) .nil) (keep:=[0,14,17]) (by kernel_rfl) aG
theorem Ph(H H1:I)(B a m z d n i j w c:Nat)(g:FuncId)(cs:List J)(aH x y:J)(p q:aO)(r:Int)(ai:bx→a6→I→Prop)(aG:ad B (H.next) (some (J.bool (decide ((i:Int)<(j:Int))))=some (J.bool true)∧ad B (H.next+3) ((-9223372036854775808≤(i:Int)+(j:Int)∧(i:Int)+(j:Int)≤9223372036854775807)∧(0≤(i:Int)+(j:Int)∧(i:Int)+(j:Int)≤18446744073709551615)∧Int.NonNeg (1-0)∧aV env bz (H.next+8) (a1 [(156,.int .u64 (bE IntKind.u64 ((i:Int)+(j:Int)) (1)))]) (I.mk (H.next+10) (H.2)) (Op.convert 108 3 (Operand.tmp 156))=some (.int .i64 (c:Int),(I.mk (H.next+10) (H.2)))∧ad B (H.next+10) ((-9223372036854775808≤(w:Int)- (c:Int)∧(w:Int)- (c:Int)≤9223372036854775807)∧bb env.D 28 aH (.int .i64 ((w:Int)- (c:Int)))=some (J.ptr (some p))∧aQ env.D 3 p (I.mk (H.next+24) (H.2))=some x∧aO.id p<H.next+10∧bb env.D 28 aH (.int .i64 (c:Int))=some (J.ptr (some q))∧aQ env.D 3 q (I.mk (H.next+24) (H.2))=some y∧aO.id q<H.next+10∧bY Tryz.prog aq g (x::y::cs) (I.mk (H.next+24) (H.2)) (.int .i64 r) H1∧some (J.bool (decide (r<0)))=some (J.bool true)∧ad B (H1.next) (ai .normal [(0,aH),(1,.int .i64 (a:Int)),(2,.int .i64 (m:Int)),(3,.int .i64 (z:Int)),(4,.func (.func g) [] cs),(18,.int .i64 (d:Int)),(19,.int .i64 (n:Int)),(20,.int .i64 (i:Int)),(21,.int .i64 (c:Int)),(22,.int .i64 (w:Int))] (I.mk (H1.next+2) (I.aj H1))))))) :
 ∃e ah U,aR Tryz.prog aq B 220 (aY Tryz.prog 237 4) [(0,aH),(1,.int .i64 a),(2,.int .i64 m),(3,.int .i64 z),(4,.func (.func g) [] cs),(18,.int .i64 d),(19,.int .i64 n),(20,.int .i64 i),(21,.int .i64 j),(22,.int .i64 w)] H e ah U∧ai e ah U :=
 b0 bg mixed bq (hs:= .aa (.val 33002 (.bool true)) (an 34002 (an 34003 (an 34004 (.aa (.val 34005 (.int .i64 (c:Int))) (an 35004 (.aa (.val 35005 (.ptr (some p))) (.aa (.cI 35006 x) (.aa (.val 35009 (.ptr (some q))) (.aa (.cI 35010 y) (.aa (.act 35011 (.int .i64 r) fun x=>H1) (.aa (.val 35012 (.bool true)) .nil)))))))))))) (keep:=[0,1,2,3,4,18,19,20,21,22]) (by kernel_rfl) aG
theorem Pj(H H1:I)(B a m z d n i j w c:Nat)(g:FuncId)(cs:List J)(aH x y:J)(p q:aO)(r:Int)(ai:bx→a6→I→Prop)(aG:ad B (H.next) (some (J.bool (decide ((i:Int)<(j:Int))))=some (J.bool true)∧ad B (H.next+3) ((-9223372036854775808≤(i:Int)+(j:Int)∧(i:Int)+(j:Int)≤9223372036854775807)∧(0≤(i:Int)+(j:Int)∧(i:Int)+(j:Int)≤18446744073709551615)∧Int.NonNeg (1-0)∧aV env bz (H.next+8) (a1 [(156,.int .u64 (bE IntKind.u64 ((i:Int)+(j:Int)) (1)))]) (I.mk (H.next+10) (H.2)) (Op.convert 108 3 (Operand.tmp 156))=some (.int .i64 (c:Int),(I.mk (H.next+10) (H.2)))∧ad B (H.next+10) ((-9223372036854775808≤(w:Int)- (c:Int)∧(w:Int)- (c:Int)≤9223372036854775807)∧bb env.D 28 aH (.int .i64 ((w:Int)- (c:Int)))=some (J.ptr (some p))∧aQ env.D 3 p (I.mk (H.next+24) (H.2))=some x∧aO.id p<H.next+10∧bb env.D 28 aH (.int .i64 (c:Int))=some (J.ptr (some q))∧aQ env.D 3 q (I.mk (H.next+24) (H.2))=some y∧aO.id q<H.next+10∧bY Tryz.prog aq g (x::y::cs) (I.mk (H.next+24) (H.2)) (.int .i64 r) H1∧some (J.bool (decide (r<0)))=some (J.bool false)∧ad B (H1.next) ((-9223372036854775808≤(c:Int)+1∧(c:Int)+1≤9223372036854775807)∧ai .normal [(0,aH),(1,.int .i64 (a:Int)),(2,.int .i64 (m:Int)),(3,.int .i64 (z:Int)),(4,.func (.func g) [] cs),(18,.int .i64 (d:Int)),(19,.int .i64 (n:Int)),(20,.int .i64 ((c:Int)+1)),(21,.int .i64 (j:Int)),(22,.int .i64 (w:Int))] (I.mk (H1.next+3) (I.aj H1))))))) :
 ∃e ah U,aR Tryz.prog aq B 220 (aY Tryz.prog 237 4) [(0,aH),(1,.int .i64 a),(2,.int .i64 m),(3,.int .i64 z),(4,.func (.func g) [] cs),(18,.int .i64 d),(19,.int .i64 n),(20,.int .i64 i),(21,.int .i64 j),(22,.int .i64 w)] H e ah U∧ai e ah U :=
 b0 bg mixed bq (hs:= .aa (.val 33002 (.bool true)) (an 34002 (an 34003 (an 34004 (.aa (.val 34005 (.int .i64 (c:Int))) (an 35004 (.aa (.val 35005 (.ptr (some p))) (.aa (.cI 35006 x) (.aa (.val 35009 (.ptr (some q))) (.aa (.cI 35010 y) (.aa (.act 35011 (.int .i64 r) fun x=>H1) (.aa (.val 35012 (.bool false)) (an 36001 .nil))))))))))))) (keep:=[0,1,2,3,4,18,19,20,21,22]) (by kernel_rfl) aG
theorem Pk(H:I)(B a m z d n i j w:Nat)(aH bk:J)(ai:bx→a6→I→Prop)(aG:ad B (H.next) (some (J.bool (decide ((i:Int)<(j:Int))))=some (J.bool false)∧ai (.exit 8) [(0,aH),(1,.int .i64 (a:Int)),(2,.int .i64 (m:Int)),(3,.int .i64 (z:Int)),(4,bk),(18,.int .i64 (d:Int)),(19,.int .i64 (n:Int)),(20,.int .i64 (i:Int)),(21,.int .i64 (j:Int)),(22,.int .i64 (w:Int))] (I.mk (H.next+3) (I.aj H)))) :
 ∃e ah U,aR Tryz.prog aq B 220 (aY Tryz.prog 237 4) [(0,aH),(1,.int .i64 a),(2,.int .i64 m),(3,.int .i64 z),(4,bk),(18,.int .i64 d),(19,.int .i64 n),(20,.int .i64 i),(21,.int .i64 j),(22,.int .i64 w)] H e ah U∧ai e ah U :=
 b0 bg mixed bq (hs:= .aa (.val 33002 (.bool false)) .nil) (keep:=[0,1,2,3,4,18,19,20,21,22]) (by kernel_rfl) aG
theorem Pl(H H1 af:I)(a m z i:Nat)(aH bk:J)(ai:J→I→Prop)(aG:ad (H.next) (H.next) ((-9223372036854775808≤(m:Int)- (a:Int)∧(m:Int)- (a:Int)≤9223372036854775807)∧some (J.bool ((m:Int)- (a:Int) == 1))=some (J.bool true)∧ad (H.next) (H.next+4) (ad (H.next) (H.next+6) (aR Tryz.prog aq (H.next) 220 (Code.loop (aY Tryz.prog 237 0)) [(0,aH),(1,.int .i64 (a:Int)),(4,bk),(10,.int .i64 (m:Int)),(11,.int .i64 (z:Int))] (I.mk (H.next+6+2) (I.aj (I.mk (H.next+4+2) (I.aj (I.mk (H.next+4) (I.aj H)))))) (.exit 0) [(0,aH),(1,.int .i64 (a:Int)),(10,.int .i64 (i:Int))] H1∧ad (H.next) (H1.next) (aR Tryz.prog aq (H.next) 220 (Code.loop (aY Tryz.prog 237 1)) [(0,aH),(10,.int .i64 (i:Int)),(13,.int .i64 (a:Int))] (I.mk (H1.next+2) (I.aj H1)) (.exit 2) [] af∧cW (H.next) (af.next) (ai (.tuple []) af)))))) :
 ∃v U,aZ Tryz.prog aq 237 [aH,.int .i64 a,.int .i64 m,.int .i64 z,bk] H v U∧ai v U :=
 cE bg mixed bq (hs:=an 2 (.aa (.val 3 (.bool true)) (.aa (.keep [0,1,4,10,11]) (.aa (.loop [(0,aH),(1,.int .i64 (a:Int)),(10,.int .i64 (i:Int))] H1 (.exit 0)) (.aa (.keep [0,10,13]) (.aa (.loop [] af (.exit 2)) .nil)))))) (by kernel_rfl) aG
theorem Pm(H H1 af:I)(a m z i:Nat)(aH bk:J)(ai:J→I→Prop)(aG:ad (H.next) (H.next) ((-9223372036854775808≤(m:Int)- (a:Int)∧(m:Int)- (a:Int)≤9223372036854775807)∧some (J.bool ((m:Int)- (a:Int) == 1))=some (J.bool false)∧ad (H.next) (H.next+4) ((-9223372036854775808≤(z:Int)- (m:Int)∧(z:Int)- (m:Int)≤9223372036854775807)∧some (J.bool ((z:Int)- (m:Int) == 1))=some (J.bool true)∧ad (H.next) (H.next+8) (ad (H.next) (H.next+10) (aR Tryz.prog aq (H.next) 220 (Code.loop (aY Tryz.prog 237 2)) [(0,aH),(2,.int .i64 (m:Int)),(4,bk),(14,.int .i64 (a:Int)),(15,.int .i64 (m:Int))] (I.mk (H.next+10+2) (I.aj (I.mk (H.next+8+2) (I.aj (I.mk (H.next+4+4) (I.aj (I.mk (H.next+4) (I.aj H)))))))) (.exit 4) [(0,aH),(2,.int .i64 (m:Int)),(14,.int .i64 (i:Int))] H1∧ad (H.next) (H1.next) (aR Tryz.prog aq (H.next) 220 (Code.loop (aY Tryz.prog 237 3)) [(0,aH),(14,.int .i64 (i:Int)),(17,.int .i64 (m:Int))] (I.mk (H1.next+2) (I.aj H1)) (.exit 6) [] af∧cW (H.next) (af.next) (ai (.tuple []) af))))))) :
 ∃v U,aZ Tryz.prog aq 237 [aH,.int .i64 a,.int .i64 m,.int .i64 z,bk] H v U∧ai v U :=
 cE bg mixed bq (hs:=an 2 (.aa (.val 3 (.bool false)) (an 12002 (.aa (.val 12003 (.bool true)) (.aa (.keep [0,2,4,14,15]) (.aa (.loop [(0,aH),(2,.int .i64 (m:Int)),(14,.int .i64 (i:Int))] H1 (.exit 4)) (.aa (.keep [0,14,17]) (.aa (.loop [] af (.exit 6)) .nil)))))))) (by kernel_rfl) aG
theorem Pn(H H1 af ax au:I)(a m z d n s w i k:Nat)(aH bk:J)(ai:J→I→Prop)(aG:ad (H.next) (H.next) ((-9223372036854775808≤(m:Int)- (a:Int)∧(m:Int)- (a:Int)≤9223372036854775807)∧some (J.bool ((m:Int)- (a:Int) == 1))=some (J.bool false)∧ad (H.next) (H.next+4) ((-9223372036854775808≤(z:Int)- (m:Int)∧(z:Int)- (m:Int)≤9223372036854775807)∧some (J.bool ((z:Int)- (m:Int) == 1))=some (J.bool false)∧ad (H.next) (H.next+8) ((-9223372036854775808≤(a:Int)+(z:Int)∧(a:Int)+(z:Int)≤9223372036854775807)∧(0≤(a:Int)+(z:Int)∧(a:Int)+(z:Int)≤18446744073709551615)∧Int.NonNeg (1-0)∧aV env bz (H.next+13) (a1 [(133,.int .u64 (bE IntKind.u64 ((a:Int)+(z:Int)) (1)))]) (I.mk (H.next+15) (H.2)) (Op.convert 108 3 (Operand.tmp 133))=some (.int .i64 (d:Int),(I.mk (H.next+15) (H.2)))∧ad (H.next) (H.next+15) (some (J.int IntKind.i64 (IntKind.wrap IntKind.i64 ((d:Int)+(m:Int))))=some (.int .i64 (n:Int))∧ad (H.next) (H.next+19) (ad (H.next) (H.next+21) (some (J.bool (decide ((m:Int)>(d:Int))))=some (J.bool true)∧ad (H.next) (H.next+24) (some (J.int IntKind.i64 (IntKind.wrap IntKind.i64 ((n:Int)- (z:Int))))=some (.int .i64 (s:Int))∧ad (H.next) (H.next+28) (ad (H.next) (H.next+30) (some (J.int IntKind.i64 (IntKind.wrap IntKind.i64 ((n:Int)-1)))=some (.int .i64 (w:Int))∧aR Tryz.prog aq (H.next) 220 (Code.loop (aY Tryz.prog 237 4)) [(0,aH),(1,.int .i64 (a:Int)),(2,.int .i64 (m:Int)),(3,.int .i64 (z:Int)),(4,bk),(18,.int .i64 (d:Int)),(19,.int .i64 (n:Int)),(20,.int .i64 (s:Int)),(21,.int .i64 (d:Int)),(22,.int .i64 (w:Int))] (I.mk (H.next+30+3) (I.aj (I.mk (H.next+28+2) (I.aj (I.mk (H.next+24+4) (I.aj (I.mk (H.next+21+3) (I.aj (I.mk (H.next+19+2) (I.aj (I.mk (H.next+15+4) (I.aj (I.mk (H.next+8+7) (I.aj (I.mk (H.next+4+4) (I.aj (I.mk (H.next+4) (I.aj H)))))))))))))))))) (.exit 8) [(0,aH),(1,.int .i64 (a:Int)),(2,.int .i64 (m:Int)),(3,.int .i64 (z:Int)),(4,bk),(18,.int .i64 (d:Int)),(19,.int .i64 (n:Int)),(20,.int .i64 (i:Int))] H1∧ad (H.next) (H1.next) (some (J.int IntKind.i64 (IntKind.wrap IntKind.i64 ((n:Int)- (i:Int))))=some (.int .i64 (k:Int))∧ad (H.next) (H1.next+4) (some (J.bool (decide ((i:Int)<(m:Int))))=some (J.bool true)∧some (J.bool (decide ((m:Int)<(k:Int))))=some (J.bool false)∧ad (H.next) (H1.next+12) (some (J.bool (decide ((a:Int)<(i:Int))))=some (J.bool true)∧some (J.bool (decide ((i:Int)<(d:Int))))=some (J.bool false)∧ad (H.next) (H1.next+20) (some (J.bool (decide ((d:Int)<(k:Int))))=some (J.bool true)∧some (J.bool (decide ((k:Int)<(z:Int))))=some (J.bool true)∧ad (H.next) (H1.next+28) (bY Tryz.prog aq 237 [aH,.int .i64 (d:Int),.int .i64 (k:Int),.int .i64 (z:Int),bk] (I.mk (H1.next+34) (H1.2)) (.tuple []) au∧cW (H.next) (au.next) (ai (.tuple []) au)))))))))))))))) :
 ∃v U,aZ Tryz.prog aq 237 [aH,.int .i64 a,.int .i64 m,.int .i64 z,bk] H v U∧ai v U :=
 cE bg mixed bq (hs:=an 2 (.aa (.val 3 (.bool false)) (an 12002 (.aa (.val 12003 (.bool false)) (an 24002 (an 24003 (an 24004 (.aa (.val 24005 (.int .i64 (d:Int))) (.aa (.val 25002 (.int .i64 (n:Int))) (.aa (.val 27002 (.bool true)) (.aa (.val 28002 (.int .i64 (s:Int))) (.aa (.val 32001 (.int .i64 (w:Int))) (.aa (.keep [0,1,2,3,4,18,19,20,21,22]) (.aa (.loop [(0,aH),(1,.int .i64 (a:Int)),(2,.int .i64 (m:Int)),(3,.int .i64 (z:Int)),(4,bk),(18,.int .i64 (d:Int)),(19,.int .i64 (n:Int)),(20,.int .i64 (i:Int))] H1 (.exit 8)) (.aa (.val 38002 (.int .i64 (k:Int))) (.aa (.val 39002 (.bool true)) (.aa (.val 39006 (.bool false)) (.aa (.val 41002 (.bool true)) (.aa (.val 41006 (.bool false)) (.aa (.val 43002 (.bool true)) (.aa (.val 43006 (.bool true)) (.aa (.act 44005 (.tuple []) fun x=>au) .nil)))))))))))))))))))))) (by kernel_rfl) aG
theorem Po(H H1 af ax au:I)(a m z d n s w i k:Nat)(aH bk:J)(ai:J→I→Prop)(aG:ad (H.next) (H.next) ((-9223372036854775808≤(m:Int)- (a:Int)∧(m:Int)- (a:Int)≤9223372036854775807)∧some (J.bool ((m:Int)- (a:Int) == 1))=some (J.bool false)∧ad (H.next) (H.next+4) ((-9223372036854775808≤(z:Int)- (m:Int)∧(z:Int)- (m:Int)≤9223372036854775807)∧some (J.bool ((z:Int)- (m:Int) == 1))=some (J.bool false)∧ad (H.next) (H.next+8) ((-9223372036854775808≤(a:Int)+(z:Int)∧(a:Int)+(z:Int)≤9223372036854775807)∧(0≤(a:Int)+(z:Int)∧(a:Int)+(z:Int)≤18446744073709551615)∧Int.NonNeg (1-0)∧aV env bz (H.next+13) (a1 [(133,.int .u64 (bE IntKind.u64 ((a:Int)+(z:Int)) (1)))]) (I.mk (H.next+15) (H.2)) (Op.convert 108 3 (Operand.tmp 133))=some (.int .i64 (d:Int),(I.mk (H.next+15) (H.2)))∧ad (H.next) (H.next+15) (some (J.int IntKind.i64 (IntKind.wrap IntKind.i64 ((d:Int)+(m:Int))))=some (.int .i64 (n:Int))∧ad (H.next) (H.next+19) (ad (H.next) (H.next+21) (some (J.bool (decide ((m:Int)>(d:Int))))=some (J.bool true)∧ad (H.next) (H.next+24) (some (J.int IntKind.i64 (IntKind.wrap IntKind.i64 ((n:Int)- (z:Int))))=some (.int .i64 (s:Int))∧ad (H.next) (H.next+28) (ad (H.next) (H.next+30) (some (J.int IntKind.i64 (IntKind.wrap IntKind.i64 ((n:Int)-1)))=some (.int .i64 (w:Int))∧aR Tryz.prog aq (H.next) 220 (Code.loop (aY Tryz.prog 237 4)) [(0,aH),(1,.int .i64 (a:Int)),(2,.int .i64 (m:Int)),(3,.int .i64 (z:Int)),(4,bk),(18,.int .i64 (d:Int)),(19,.int .i64 (n:Int)),(20,.int .i64 (s:Int)),(21,.int .i64 (d:Int)),(22,.int .i64 (w:Int))] (I.mk (H.next+30+3) (I.aj (I.mk (H.next+28+2) (I.aj (I.mk (H.next+24+4) (I.aj (I.mk (H.next+21+3) (I.aj (I.mk (H.next+19+2) (I.aj (I.mk (H.next+15+4) (I.aj (I.mk (H.next+8+7) (I.aj (I.mk (H.next+4+4) (I.aj (I.mk (H.next+4) (I.aj H)))))))))))))))))) (.exit 8) [(0,aH),(1,.int .i64 (a:Int)),(2,.int .i64 (m:Int)),(3,.int .i64 (z:Int)),(4,bk),(18,.int .i64 (d:Int)),(19,.int .i64 (n:Int)),(20,.int .i64 (i:Int))] H1∧ad (H.next) (H1.next) (some (J.int IntKind.i64 (IntKind.wrap IntKind.i64 ((n:Int)- (i:Int))))=some (.int .i64 (k:Int))∧ad (H.next) (H1.next+4) (some (J.bool (decide ((i:Int)<(m:Int))))=some (J.bool true)∧some (J.bool (decide ((m:Int)<(k:Int))))=some (J.bool true)∧ad (H.next) (H1.next+12) (bY Tryz.prog aq 249 [aH,.int .i64 (i:Int),.int .i64 (m:Int),.int .i64 (k:Int),bk] (I.mk (H1.next+18) (H1.2)) (.tuple []) af∧ad (H.next) (af.next) (some (J.bool (decide ((a:Int)<(i:Int))))=some (J.bool true)∧some (J.bool (decide ((i:Int)<(d:Int))))=some (J.bool true)∧ad (H.next) (af.next+8) (bY Tryz.prog aq 237 [aH,.int .i64 (a:Int),.int .i64 (i:Int),.int .i64 (d:Int),bk] (I.mk (af.next+14) (af.2)) (.tuple []) ax∧ad (H.next) (ax.next) (some (J.bool (decide ((d:Int)<(k:Int))))=some (J.bool true)∧some (J.bool (decide ((k:Int)<(z:Int))))=some (J.bool true)∧ad (H.next) (ax.next+8) (bY Tryz.prog aq 237 [aH,.int .i64 (d:Int),.int .i64 (k:Int),.int .i64 (z:Int),bk] (I.mk (ax.next+14) (ax.2)) (.tuple []) au∧cW (H.next) (au.next) (ai (.tuple []) au)))))))))))))))))) :
 ∃v U,aZ Tryz.prog aq 237 [aH,.int .i64 a,.int .i64 m,.int .i64 z,bk] H v U∧ai v U :=
 cE bg mixed bq (hs:=an 2 (.aa (.val 3 (.bool false)) (an 12002 (.aa (.val 12003 (.bool false)) (an 24002 (an 24003 (an 24004 (.aa (.val 24005 (.int .i64 (d:Int))) (.aa (.val 25002 (.int .i64 (n:Int))) (.aa (.val 27002 (.bool true)) (.aa (.val 28002 (.int .i64 (s:Int))) (.aa (.val 32001 (.int .i64 (w:Int))) (.aa (.keep [0,1,2,3,4,18,19,20,21,22]) (.aa (.loop [(0,aH),(1,.int .i64 (a:Int)),(2,.int .i64 (m:Int)),(3,.int .i64 (z:Int)),(4,bk),(18,.int .i64 (d:Int)),(19,.int .i64 (n:Int)),(20,.int .i64 (i:Int))] H1 (.exit 8)) (.aa (.val 38002 (.int .i64 (k:Int))) (.aa (.val 39002 (.bool true)) (.aa (.val 39006 (.bool true)) (.aa (.act 40005 (.tuple []) fun x=>af) (.aa (.val 41002 (.bool true)) (.aa (.val 41006 (.bool true)) (.aa (.act 42005 (.tuple []) fun x=>ax) (.aa (.val 43002 (.bool true)) (.aa (.val 43006 (.bool true)) (.aa (.act 44005 (.tuple []) fun x=>au) .nil)))))))))))))))))))))))) (by kernel_rfl) aG
theorem Pp(H H1 af ax au:I)(a m z d n s w i k:Nat)(aH bk:J)(ai:J→I→Prop)(aG:ad (H.next) (H.next) ((-9223372036854775808≤(m:Int)- (a:Int)∧(m:Int)- (a:Int)≤9223372036854775807)∧some (J.bool ((m:Int)- (a:Int) == 1))=some (J.bool false)∧ad (H.next) (H.next+4) ((-9223372036854775808≤(z:Int)- (m:Int)∧(z:Int)- (m:Int)≤9223372036854775807)∧some (J.bool ((z:Int)- (m:Int) == 1))=some (J.bool false)∧ad (H.next) (H.next+8) ((-9223372036854775808≤(a:Int)+(z:Int)∧(a:Int)+(z:Int)≤9223372036854775807)∧(0≤(a:Int)+(z:Int)∧(a:Int)+(z:Int)≤18446744073709551615)∧Int.NonNeg (1-0)∧aV env bz (H.next+13) (a1 [(133,.int .u64 (bE IntKind.u64 ((a:Int)+(z:Int)) (1)))]) (I.mk (H.next+15) (H.2)) (Op.convert 108 3 (Operand.tmp 133))=some (.int .i64 (d:Int),(I.mk (H.next+15) (H.2)))∧ad (H.next) (H.next+15) (some (J.int IntKind.i64 (IntKind.wrap IntKind.i64 ((d:Int)+(m:Int))))=some (.int .i64 (n:Int))∧ad (H.next) (H.next+19) (ad (H.next) (H.next+21) (some (J.bool (decide ((m:Int)>(d:Int))))=some (J.bool true)∧ad (H.next) (H.next+24) (some (J.int IntKind.i64 (IntKind.wrap IntKind.i64 ((n:Int)- (z:Int))))=some (.int .i64 (s:Int))∧ad (H.next) (H.next+28) (ad (H.next) (H.next+30) (some (J.int IntKind.i64 (IntKind.wrap IntKind.i64 ((n:Int)-1)))=some (.int .i64 (w:Int))∧aR Tryz.prog aq (H.next) 220 (Code.loop (aY Tryz.prog 237 4)) [(0,aH),(1,.int .i64 (a:Int)),(2,.int .i64 (m:Int)),(3,.int .i64 (z:Int)),(4,bk),(18,.int .i64 (d:Int)),(19,.int .i64 (n:Int)),(20,.int .i64 (s:Int)),(21,.int .i64 (d:Int)),(22,.int .i64 (w:Int))] (I.mk (H.next+30+3) (I.aj (I.mk (H.next+28+2) (I.aj (I.mk (H.next+24+4) (I.aj (I.mk (H.next+21+3) (I.aj (I.mk (H.next+19+2) (I.aj (I.mk (H.next+15+4) (I.aj (I.mk (H.next+8+7) (I.aj (I.mk (H.next+4+4) (I.aj (I.mk (H.next+4) (I.aj H)))))))))))))))))) (.exit 8) [(0,aH),(1,.int .i64 (a:Int)),(2,.int .i64 (m:Int)),(3,.int .i64 (z:Int)),(4,bk),(18,.int .i64 (d:Int)),(19,.int .i64 (n:Int)),(20,.int .i64 (i:Int))] H1∧ad (H.next) (H1.next) (some (J.int IntKind.i64 (IntKind.wrap IntKind.i64 ((n:Int)- (i:Int))))=some (.int .i64 (k:Int))∧ad (H.next) (H1.next+4) (some (J.bool (decide ((i:Int)<(m:Int))))=some (J.bool true)∧some (J.bool (decide ((m:Int)<(k:Int))))=some (J.bool true)∧ad (H.next) (H1.next+12) (bY Tryz.prog aq 249 [aH,.int .i64 (i:Int),.int .i64 (m:Int),.int .i64 (k:Int),bk] (I.mk (H1.next+18) (H1.2)) (.tuple []) af∧ad (H.next) (af.next) (some (J.bool (decide ((a:Int)<(i:Int))))=some (J.bool true)∧some (J.bool (decide ((i:Int)<(d:Int))))=some (J.bool true)∧ad (H.next) (af.next+8) (bY Tryz.prog aq 237 [aH,.int .i64 (a:Int),.int .i64 (i:Int),.int .i64 (d:Int),bk] (I.mk (af.next+14) (af.2)) (.tuple []) ax∧ad (H.next) (ax.next) (some (J.bool (decide ((d:Int)<(k:Int))))=some (J.bool true)∧some (J.bool (decide ((k:Int)<(z:Int))))=some (J.bool false)∧cW (H.next) (ax.next+8) (ai (.tuple []) (I.mk (ax.next+8) (I.aj ax))))))))))))))))))) :
 ∃v U,aZ Tryz.prog aq 237 [aH,.int .i64 a,.int .i64 m,.int .i64 z,bk] H v U∧ai v U :=
 cE bg mixed bq (hs:=an 2 (.aa (.val 3 (.bool false)) (an 12002 (.aa (.val 12003 (.bool false)) (an 24002 (an 24003 (an 24004 (.aa (.val 24005 (.int .i64 (d:Int))) (.aa (.val 25002 (.int .i64 (n:Int))) (.aa (.val 27002 (.bool true)) (.aa (.val 28002 (.int .i64 (s:Int))) (.aa (.val 32001 (.int .i64 (w:Int))) (.aa (.keep [0,1,2,3,4,18,19,20,21,22]) (.aa (.loop [(0,aH),(1,.int .i64 (a:Int)),(2,.int .i64 (m:Int)),(3,.int .i64 (z:Int)),(4,bk),(18,.int .i64 (d:Int)),(19,.int .i64 (n:Int)),(20,.int .i64 (i:Int))] H1 (.exit 8)) (.aa (.val 38002 (.int .i64 (k:Int))) (.aa (.val 39002 (.bool true)) (.aa (.val 39006 (.bool true)) (.aa (.act 40005 (.tuple []) fun x=>af) (.aa (.val 41002 (.bool true)) (.aa (.val 41006 (.bool true)) (.aa (.act 42005 (.tuple []) fun x=>ax) (.aa (.val 43002 (.bool true)) (.aa (.val 43006 (.bool false)) .nil))))))))))))))))))))))) (by kernel_rfl) aG
theorem Pq(H H1 af ax au:I)(a m z d n s w i k:Nat)(aH bk:J)(ai:J→I→Prop)(aG:ad (H.next) (H.next) ((-9223372036854775808≤(m:Int)- (a:Int)∧(m:Int)- (a:Int)≤9223372036854775807)∧some (J.bool ((m:Int)- (a:Int) == 1))=some (J.bool false)∧ad (H.next) (H.next+4) ((-9223372036854775808≤(z:Int)- (m:Int)∧(z:Int)- (m:Int)≤9223372036854775807)∧some (J.bool ((z:Int)- (m:Int) == 1))=some (J.bool false)∧ad (H.next) (H.next+8) ((-9223372036854775808≤(a:Int)+(z:Int)∧(a:Int)+(z:Int)≤9223372036854775807)∧(0≤(a:Int)+(z:Int)∧(a:Int)+(z:Int)≤18446744073709551615)∧Int.NonNeg (1-0)∧aV env bz (H.next+13) (a1 [(133,.int .u64 (bE IntKind.u64 ((a:Int)+(z:Int)) (1)))]) (I.mk (H.next+15) (H.2)) (Op.convert 108 3 (Operand.tmp 133))=some (.int .i64 (d:Int),(I.mk (H.next+15) (H.2)))∧ad (H.next) (H.next+15) (some (J.int IntKind.i64 (IntKind.wrap IntKind.i64 ((d:Int)+(m:Int))))=some (.int .i64 (n:Int))∧ad (H.next) (H.next+19) (ad (H.next) (H.next+21) (some (J.bool (decide ((m:Int)>(d:Int))))=some (J.bool true)∧ad (H.next) (H.next+24) (some (J.int IntKind.i64 (IntKind.wrap IntKind.i64 ((n:Int)- (z:Int))))=some (.int .i64 (s:Int))∧ad (H.next) (H.next+28) (ad (H.next) (H.next+30) (some (J.int IntKind.i64 (IntKind.wrap IntKind.i64 ((n:Int)-1)))=some (.int .i64 (w:Int))∧aR Tryz.prog aq (H.next) 220 (Code.loop (aY Tryz.prog 237 4)) [(0,aH),(1,.int .i64 (a:Int)),(2,.int .i64 (m:Int)),(3,.int .i64 (z:Int)),(4,bk),(18,.int .i64 (d:Int)),(19,.int .i64 (n:Int)),(20,.int .i64 (s:Int)),(21,.int .i64 (d:Int)),(22,.int .i64 (w:Int))] (I.mk (H.next+30+3) (I.aj (I.mk (H.next+28+2) (I.aj (I.mk (H.next+24+4) (I.aj (I.mk (H.next+21+3) (I.aj (I.mk (H.next+19+2) (I.aj (I.mk (H.next+15+4) (I.aj (I.mk (H.next+8+7) (I.aj (I.mk (H.next+4+4) (I.aj (I.mk (H.next+4) (I.aj H)))))))))))))))))) (.exit 8) [(0,aH),(1,.int .i64 (a:Int)),(2,.int .i64 (m:Int)),(3,.int .i64 (z:Int)),(4,bk),(18,.int .i64 (d:Int)),(19,.int .i64 (n:Int)),(20,.int .i64 (i:Int))] H1∧ad (H.next) (H1.next) (some (J.int IntKind.i64 (IntKind.wrap IntKind.i64 ((n:Int)- (i:Int))))=some (.int .i64 (k:Int))∧ad (H.next) (H1.next+4) (some (J.bool (decide ((i:Int)<(m:Int))))=some (J.bool true)∧some (J.bool (decide ((m:Int)<(k:Int))))=some (J.bool true)∧ad (H.next) (H1.next+12) (bY Tryz.prog aq 249 [aH,.int .i64 (i:Int),.int .i64 (m:Int),.int .i64 (k:Int),bk] (I.mk (H1.next+18) (H1.2)) (.tuple []) af∧ad (H.next) (af.next) (some (J.bool (decide ((a:Int)<(i:Int))))=some (J.bool false)∧ad (H.next) (af.next+8) (some (J.bool (decide ((d:Int)<(k:Int))))=some (J.bool true)∧some (J.bool (decide ((k:Int)<(z:Int))))=some (J.bool true)∧ad (H.next) (af.next+16) (bY Tryz.prog aq 237 [aH,.int .i64 (d:Int),.int .i64 (k:Int),.int .i64 (z:Int),bk] (I.mk (af.next+22) (af.2)) (.tuple []) au∧cW (H.next) (au.next) (ai (.tuple []) au))))))))))))))))) :
 ∃v U,aZ Tryz.prog aq 237 [aH,.int .i64 a,.int .i64 m,.int .i64 z,bk] H v U∧ai v U :=
 cE bg mixed bq (hs:=an 2 (.aa (.val 3 (.bool false)) (an 12002 (.aa (.val 12003 (.bool false)) (an 24002 (an 24003 (an 24004 (.aa (.val 24005 (.int .i64 (d:Int))) (.aa (.val 25002 (.int .i64 (n:Int))) (.aa (.val 27002 (.bool true)) (.aa (.val 28002 (.int .i64 (s:Int))) (.aa (.val 32001 (.int .i64 (w:Int))) (.aa (.keep [0,1,2,3,4,18,19,20,21,22]) (.aa (.loop [(0,aH),(1,.int .i64 (a:Int)),(2,.int .i64 (m:Int)),(3,.int .i64 (z:Int)),(4,bk),(18,.int .i64 (d:Int)),(19,.int .i64 (n:Int)),(20,.int .i64 (i:Int))] H1 (.exit 8)) (.aa (.val 38002 (.int .i64 (k:Int))) (.aa (.val 39002 (.bool true)) (.aa (.val 39006 (.bool true)) (.aa (.act 40005 (.tuple []) fun x=>af) (.aa (.val 41002 (.bool false)) (.aa (.val 43002 (.bool true)) (.aa (.val 43006 (.bool true)) (.aa (.act 44005 (.tuple []) fun x=>au) .nil)))))))))))))))))))))) (by kernel_rfl) aG
theorem Pr(H H1 af ax au:I)(a m z d n s w i k:Nat)(aH bk:J)(ai:J→I→Prop)(aG:ad (H.next) (H.next) ((-9223372036854775808≤(m:Int)- (a:Int)∧(m:Int)- (a:Int)≤9223372036854775807)∧some (J.bool ((m:Int)- (a:Int) == 1))=some (J.bool false)∧ad (H.next) (H.next+4) ((-9223372036854775808≤(z:Int)- (m:Int)∧(z:Int)- (m:Int)≤9223372036854775807)∧some (J.bool ((z:Int)- (m:Int) == 1))=some (J.bool false)∧ad (H.next) (H.next+8) ((-9223372036854775808≤(a:Int)+(z:Int)∧(a:Int)+(z:Int)≤9223372036854775807)∧(0≤(a:Int)+(z:Int)∧(a:Int)+(z:Int)≤18446744073709551615)∧Int.NonNeg (1-0)∧aV env bz (H.next+13) (a1 [(133,.int .u64 (bE IntKind.u64 ((a:Int)+(z:Int)) (1)))]) (I.mk (H.next+15) (H.2)) (Op.convert 108 3 (Operand.tmp 133))=some (.int .i64 (d:Int),(I.mk (H.next+15) (H.2)))∧ad (H.next) (H.next+15) (some (J.int IntKind.i64 (IntKind.wrap IntKind.i64 ((d:Int)+(m:Int))))=some (.int .i64 (n:Int))∧ad (H.next) (H.next+19) (ad (H.next) (H.next+21) (some (J.bool (decide ((m:Int)>(d:Int))))=some (J.bool true)∧ad (H.next) (H.next+24) (some (J.int IntKind.i64 (IntKind.wrap IntKind.i64 ((n:Int)- (z:Int))))=some (.int .i64 (s:Int))∧ad (H.next) (H.next+28) (ad (H.next) (H.next+30) (some (J.int IntKind.i64 (IntKind.wrap IntKind.i64 ((n:Int)-1)))=some (.int .i64 (w:Int))∧aR Tryz.prog aq (H.next) 220 (Code.loop (aY Tryz.prog 237 4)) [(0,aH),(1,.int .i64 (a:Int)),(2,.int .i64 (m:Int)),(3,.int .i64 (z:Int)),(4,bk),(18,.int .i64 (d:Int)),(19,.int .i64 (n:Int)),(20,.int .i64 (s:Int)),(21,.int .i64 (d:Int)),(22,.int .i64 (w:Int))] (I.mk (H.next+30+3) (I.aj (I.mk (H.next+28+2) (I.aj (I.mk (H.next+24+4) (I.aj (I.mk (H.next+21+3) (I.aj (I.mk (H.next+19+2) (I.aj (I.mk (H.next+15+4) (I.aj (I.mk (H.next+8+7) (I.aj (I.mk (H.next+4+4) (I.aj (I.mk (H.next+4) (I.aj H)))))))))))))))))) (.exit 8) [(0,aH),(1,.int .i64 (a:Int)),(2,.int .i64 (m:Int)),(3,.int .i64 (z:Int)),(4,bk),(18,.int .i64 (d:Int)),(19,.int .i64 (n:Int)),(20,.int .i64 (i:Int))] H1∧ad (H.next) (H1.next) (some (J.int IntKind.i64 (IntKind.wrap IntKind.i64 ((n:Int)- (i:Int))))=some (.int .i64 (k:Int))∧ad (H.next) (H1.next+4) (some (J.bool (decide ((i:Int)<(m:Int))))=some (J.bool true)∧some (J.bool (decide ((m:Int)<(k:Int))))=some (J.bool true)∧ad (H.next) (H1.next+12) (bY Tryz.prog aq 249 [aH,.int .i64 (i:Int),.int .i64 (m:Int),.int .i64 (k:Int),bk] (I.mk (H1.next+18) (H1.2)) (.tuple []) af∧ad (H.next) (af.next) (some (J.bool (decide ((a:Int)<(i:Int))))=some (J.bool false)∧ad (H.next) (af.next+8) (some (J.bool (decide ((d:Int)<(k:Int))))=some (J.bool true)∧some (J.bool (decide ((k:Int)<(z:Int))))=some (J.bool false)∧cW (H.next) (af.next+16) (ai (.tuple []) (I.mk (af.next+8+8) (I.aj (I.mk (af.next+8) (I.aj af)))))))))))))))))))) :
 ∃v U,aZ Tryz.prog aq 237 [aH,.int .i64 a,.int .i64 m,.int .i64 z,bk] H v U∧ai v U :=
 cE bg mixed bq (hs:=an 2 (.aa (.val 3 (.bool false)) (an 12002 (.aa (.val 12003 (.bool false)) (an 24002 (an 24003 (an 24004 (.aa (.val 24005 (.int .i64 (d:Int))) (.aa (.val 25002 (.int .i64 (n:Int))) (.aa (.val 27002 (.bool true)) (.aa (.val 28002 (.int .i64 (s:Int))) (.aa (.val 32001 (.int .i64 (w:Int))) (.aa (.keep [0,1,2,3,4,18,19,20,21,22]) (.aa (.loop [(0,aH),(1,.int .i64 (a:Int)),(2,.int .i64 (m:Int)),(3,.int .i64 (z:Int)),(4,bk),(18,.int .i64 (d:Int)),(19,.int .i64 (n:Int)),(20,.int .i64 (i:Int))] H1 (.exit 8)) (.aa (.val 38002 (.int .i64 (k:Int))) (.aa (.val 39002 (.bool true)) (.aa (.val 39006 (.bool true)) (.aa (.act 40005 (.tuple []) fun x=>af) (.aa (.val 41002 (.bool false)) (.aa (.val 43002 (.bool true)) (.aa (.val 43006 (.bool false)) .nil))))))))))))))))))))) (by kernel_rfl) aG
theorem Ps(H H1 af ax au:I)(a m z d n s w i k:Nat)(aH bk:J)(ai:J→I→Prop)(aG:ad (H.next) (H.next) ((-9223372036854775808≤(m:Int)- (a:Int)∧(m:Int)- (a:Int)≤9223372036854775807)∧some (J.bool ((m:Int)- (a:Int) == 1))=some (J.bool false)∧ad (H.next) (H.next+4) ((-9223372036854775808≤(z:Int)- (m:Int)∧(z:Int)- (m:Int)≤9223372036854775807)∧some (J.bool ((z:Int)- (m:Int) == 1))=some (J.bool false)∧ad (H.next) (H.next+8) ((-9223372036854775808≤(a:Int)+(z:Int)∧(a:Int)+(z:Int)≤9223372036854775807)∧(0≤(a:Int)+(z:Int)∧(a:Int)+(z:Int)≤18446744073709551615)∧Int.NonNeg (1-0)∧aV env bz (H.next+13) (a1 [(133,.int .u64 (bE IntKind.u64 ((a:Int)+(z:Int)) (1)))]) (I.mk (H.next+15) (H.2)) (Op.convert 108 3 (Operand.tmp 133))=some (.int .i64 (d:Int),(I.mk (H.next+15) (H.2)))∧ad (H.next) (H.next+15) (some (J.int IntKind.i64 (IntKind.wrap IntKind.i64 ((d:Int)+(m:Int))))=some (.int .i64 (n:Int))∧ad (H.next) (H.next+19) (ad (H.next) (H.next+21) (some (J.bool (decide ((m:Int)>(d:Int))))=some (J.bool false)∧ad (H.next) (H.next+24) (ad (H.next) (H.next+26) (ad (H.next) (H.next+28) (some (J.int IntKind.i64 (IntKind.wrap IntKind.i64 ((n:Int)-1)))=some (.int .i64 (w:Int))∧aR Tryz.prog aq (H.next) 220 (Code.loop (aY Tryz.prog 237 4)) [(0,aH),(1,.int .i64 (a:Int)),(2,.int .i64 (m:Int)),(3,.int .i64 (z:Int)),(4,bk),(18,.int .i64 (d:Int)),(19,.int .i64 (n:Int)),(20,.int .i64 (a:Int)),(21,.int .i64 (m:Int)),(22,.int .i64 (w:Int))] (I.mk (H.next+28+3) (I.aj (I.mk (H.next+26+2) (I.aj (I.mk (H.next+24+2) (I.aj (I.mk (H.next+21+3) (I.aj (I.mk (H.next+19+2) (I.aj (I.mk (H.next+15+4) (I.aj (I.mk (H.next+8+7) (I.aj (I.mk (H.next+4+4) (I.aj (I.mk (H.next+4) (I.aj H)))))))))))))))))) (.exit 8) [(0,aH),(1,.int .i64 (a:Int)),(2,.int .i64 (m:Int)),(3,.int .i64 (z:Int)),(4,bk),(18,.int .i64 (d:Int)),(19,.int .i64 (n:Int)),(20,.int .i64 (i:Int))] H1∧ad (H.next) (H1.next) (some (J.int IntKind.i64 (IntKind.wrap IntKind.i64 ((n:Int)- (i:Int))))=some (.int .i64 (k:Int))∧ad (H.next) (H1.next+4) (some (J.bool (decide ((i:Int)<(m:Int))))=some (J.bool true)∧some (J.bool (decide ((m:Int)<(k:Int))))=some (J.bool true)∧ad (H.next) (H1.next+12) (bY Tryz.prog aq 249 [aH,.int .i64 (i:Int),.int .i64 (m:Int),.int .i64 (k:Int),bk] (I.mk (H1.next+18) (H1.2)) (.tuple []) af∧ad (H.next) (af.next) (some (J.bool (decide ((a:Int)<(i:Int))))=some (J.bool true)∧some (J.bool (decide ((i:Int)<(d:Int))))=some (J.bool true)∧ad (H.next) (af.next+8) (bY Tryz.prog aq 237 [aH,.int .i64 (a:Int),.int .i64 (i:Int),.int .i64 (d:Int),bk] (I.mk (af.next+14) (af.2)) (.tuple []) ax∧ad (H.next) (ax.next) (some (J.bool (decide ((d:Int)<(k:Int))))=some (J.bool true)∧some (J.bool (decide ((k:Int)<(z:Int))))=some (J.bool true)∧ad (H.next) (ax.next+8) (bY Tryz.prog aq 237 [aH,.int .i64 (d:Int),.int .i64 (k:Int),.int .i64 (z:Int),bk] (I.mk (ax.next+14) (ax.2)) (.tuple []) au∧cW (H.next) (au.next) (ai (.tuple []) au)))))))))))))))))) :
 ∃v U,aZ Tryz.prog aq 237 [aH,.int .i64 a,.int .i64 m,.int .i64 z,bk] H v U∧ai v U :=
 cE bg mixed bq (hs:=an 2 (.aa (.val 3 (.bool false)) (an 12002 (.aa (.val 12003 (.bool false)) (an 24002 (an 24003 (an 24004 (.aa (.val 24005 (.int .i64 (d:Int))) (.aa (.val 25002 (.int .i64 (n:Int))) (.aa (.val 27002 (.bool false)) (.aa (.val 32001 (.int .i64 (w:Int))) (.aa (.keep [0,1,2,3,4,18,19,20,21,22]) (.aa (.loop [(0,aH),(1,.int .i64 (a:Int)),(2,.int .i64 (m:Int)),(3,.int .i64 (z:Int)),(4,bk),(18,.int .i64 (d:Int)),(19,.int .i64 (n:Int)),(20,.int .i64 (i:Int))] H1 (.exit 8)) (.aa (.val 38002 (.int .i64 (k:Int))) (.aa (.val 39002 (.bool true)) (.aa (.val 39006 (.bool true)) (.aa (.act 40005 (.tuple []) fun x=>af) (.aa (.val 41002 (.bool true)) (.aa (.val 41006 (.bool true)) (.aa (.act 42005 (.tuple []) fun x=>ax) (.aa (.val 43002 (.bool true)) (.aa (.val 43006 (.bool true)) (.aa (.act 44005 (.tuple []) fun x=>au) .nil))))))))))))))))))))))) (by kernel_rfl) aG
theorem Pt(H H1 af ax au:I)(a m z d n s w i k:Nat)(aH bk:J)(ai:J→I→Prop)(aG:ad (H.next) (H.next) ((-9223372036854775808≤(m:Int)- (a:Int)∧(m:Int)- (a:Int)≤9223372036854775807)∧some (J.bool ((m:Int)- (a:Int) == 1))=some (J.bool false)∧ad (H.next) (H.next+4) ((-9223372036854775808≤(z:Int)- (m:Int)∧(z:Int)- (m:Int)≤9223372036854775807)∧some (J.bool ((z:Int)- (m:Int) == 1))=some (J.bool false)∧ad (H.next) (H.next+8) ((-9223372036854775808≤(a:Int)+(z:Int)∧(a:Int)+(z:Int)≤9223372036854775807)∧(0≤(a:Int)+(z:Int)∧(a:Int)+(z:Int)≤18446744073709551615)∧Int.NonNeg (1-0)∧aV env bz (H.next+13) (a1 [(133,.int .u64 (bE IntKind.u64 ((a:Int)+(z:Int)) (1)))]) (I.mk (H.next+15) (H.2)) (Op.convert 108 3 (Operand.tmp 133))=some (.int .i64 (d:Int),(I.mk (H.next+15) (H.2)))∧ad (H.next) (H.next+15) (some (J.int IntKind.i64 (IntKind.wrap IntKind.i64 ((d:Int)+(m:Int))))=some (.int .i64 (n:Int))∧ad (H.next) (H.next+19) (ad (H.next) (H.next+21) (some (J.bool (decide ((m:Int)>(d:Int))))=some (J.bool false)∧ad (H.next) (H.next+24) (ad (H.next) (H.next+26) (ad (H.next) (H.next+28) (some (J.int IntKind.i64 (IntKind.wrap IntKind.i64 ((n:Int)-1)))=some (.int .i64 (w:Int))∧aR Tryz.prog aq (H.next) 220 (Code.loop (aY Tryz.prog 237 4)) [(0,aH),(1,.int .i64 (a:Int)),(2,.int .i64 (m:Int)),(3,.int .i64 (z:Int)),(4,bk),(18,.int .i64 (d:Int)),(19,.int .i64 (n:Int)),(20,.int .i64 (a:Int)),(21,.int .i64 (m:Int)),(22,.int .i64 (w:Int))] (I.mk (H.next+28+3) (I.aj (I.mk (H.next+26+2) (I.aj (I.mk (H.next+24+2) (I.aj (I.mk (H.next+21+3) (I.aj (I.mk (H.next+19+2) (I.aj (I.mk (H.next+15+4) (I.aj (I.mk (H.next+8+7) (I.aj (I.mk (H.next+4+4) (I.aj (I.mk (H.next+4) (I.aj H)))))))))))))))))) (.exit 8) [(0,aH),(1,.int .i64 (a:Int)),(2,.int .i64 (m:Int)),(3,.int .i64 (z:Int)),(4,bk),(18,.int .i64 (d:Int)),(19,.int .i64 (n:Int)),(20,.int .i64 (i:Int))] H1∧ad (H.next) (H1.next) (some (J.int IntKind.i64 (IntKind.wrap IntKind.i64 ((n:Int)- (i:Int))))=some (.int .i64 (k:Int))∧ad (H.next) (H1.next+4) (some (J.bool (decide ((i:Int)<(m:Int))))=some (J.bool true)∧some (J.bool (decide ((m:Int)<(k:Int))))=some (J.bool true)∧ad (H.next) (H1.next+12) (bY Tryz.prog aq 249 [aH,.int .i64 (i:Int),.int .i64 (m:Int),.int .i64 (k:Int),bk] (I.mk (H1.next+18) (H1.2)) (.tuple []) af∧ad (H.next) (af.next) (some (J.bool (decide ((a:Int)<(i:Int))))=some (J.bool true)∧some (J.bool (decide ((i:Int)<(d:Int))))=some (J.bool true)∧ad (H.next) (af.next+8) (bY Tryz.prog aq 237 [aH,.int .i64 (a:Int),.int .i64 (i:Int),.int .i64 (d:Int),bk] (I.mk (af.next+14) (af.2)) (.tuple []) ax∧ad (H.next) (ax.next) (some (J.bool (decide ((d:Int)<(k:Int))))=some (J.bool true)∧some (J.bool (decide ((k:Int)<(z:Int))))=some (J.bool false)∧cW (H.next) (ax.next+8) (ai (.tuple []) (I.mk (ax.next+8) (I.aj ax))))))))))))))))))) :
 ∃v U,aZ Tryz.prog aq 237 [aH,.int .i64 a,.int .i64 m,.int .i64 z,bk] H v U∧ai v U :=
 cE bg mixed bq (hs:=an 2 (.aa (.val 3 (.bool false)) (an 12002 (.aa (.val 12003 (.bool false)) (an 24002 (an 24003 (an 24004 (.aa (.val 24005 (.int .i64 (d:Int))) (.aa (.val 25002 (.int .i64 (n:Int))) (.aa (.val 27002 (.bool false)) (.aa (.val 32001 (.int .i64 (w:Int))) (.aa (.keep [0,1,2,3,4,18,19,20,21,22]) (.aa (.loop [(0,aH),(1,.int .i64 (a:Int)),(2,.int .i64 (m:Int)),(3,.int .i64 (z:Int)),(4,bk),(18,.int .i64 (d:Int)),(19,.int .i64 (n:Int)),(20,.int .i64 (i:Int))] H1 (.exit 8)) (.aa (.val 38002 (.int .i64 (k:Int))) (.aa (.val 39002 (.bool true)) (.aa (.val 39006 (.bool true)) (.aa (.act 40005 (.tuple []) fun x=>af) (.aa (.val 41002 (.bool true)) (.aa (.val 41006 (.bool true)) (.aa (.act 42005 (.tuple []) fun x=>ax) (.aa (.val 43002 (.bool true)) (.aa (.val 43006 (.bool false)) .nil)))))))))))))))))))))) (by kernel_rfl) aG
theorem Pu(H H1 af ax au:I)(a m z d n s w i k:Nat)(aH bk:J)(ai:J→I→Prop)(aG:ad (H.next) (H.next) ((-9223372036854775808≤(m:Int)- (a:Int)∧(m:Int)- (a:Int)≤9223372036854775807)∧some (J.bool ((m:Int)- (a:Int) == 1))=some (J.bool false)∧ad (H.next) (H.next+4) ((-9223372036854775808≤(z:Int)- (m:Int)∧(z:Int)- (m:Int)≤9223372036854775807)∧some (J.bool ((z:Int)- (m:Int) == 1))=some (J.bool false)∧ad (H.next) (H.next+8) ((-9223372036854775808≤(a:Int)+(z:Int)∧(a:Int)+(z:Int)≤9223372036854775807)∧(0≤(a:Int)+(z:Int)∧(a:Int)+(z:Int)≤18446744073709551615)∧Int.NonNeg (1-0)∧aV env bz (H.next+13) (a1 [(133,.int .u64 (bE IntKind.u64 ((a:Int)+(z:Int)) (1)))]) (I.mk (H.next+15) (H.2)) (Op.convert 108 3 (Operand.tmp 133))=some (.int .i64 (d:Int),(I.mk (H.next+15) (H.2)))∧ad (H.next) (H.next+15) (some (J.int IntKind.i64 (IntKind.wrap IntKind.i64 ((d:Int)+(m:Int))))=some (.int .i64 (n:Int))∧ad (H.next) (H.next+19) (ad (H.next) (H.next+21) (some (J.bool (decide ((m:Int)>(d:Int))))=some (J.bool false)∧ad (H.next) (H.next+24) (ad (H.next) (H.next+26) (ad (H.next) (H.next+28) (some (J.int IntKind.i64 (IntKind.wrap IntKind.i64 ((n:Int)-1)))=some (.int .i64 (w:Int))∧aR Tryz.prog aq (H.next) 220 (Code.loop (aY Tryz.prog 237 4)) [(0,aH),(1,.int .i64 (a:Int)),(2,.int .i64 (m:Int)),(3,.int .i64 (z:Int)),(4,bk),(18,.int .i64 (d:Int)),(19,.int .i64 (n:Int)),(20,.int .i64 (a:Int)),(21,.int .i64 (m:Int)),(22,.int .i64 (w:Int))] (I.mk (H.next+28+3) (I.aj (I.mk (H.next+26+2) (I.aj (I.mk (H.next+24+2) (I.aj (I.mk (H.next+21+3) (I.aj (I.mk (H.next+19+2) (I.aj (I.mk (H.next+15+4) (I.aj (I.mk (H.next+8+7) (I.aj (I.mk (H.next+4+4) (I.aj (I.mk (H.next+4) (I.aj H)))))))))))))))))) (.exit 8) [(0,aH),(1,.int .i64 (a:Int)),(2,.int .i64 (m:Int)),(3,.int .i64 (z:Int)),(4,bk),(18,.int .i64 (d:Int)),(19,.int .i64 (n:Int)),(20,.int .i64 (i:Int))] H1∧ad (H.next) (H1.next) (some (J.int IntKind.i64 (IntKind.wrap IntKind.i64 ((n:Int)- (i:Int))))=some (.int .i64 (k:Int))∧ad (H.next) (H1.next+4) (some (J.bool (decide ((i:Int)<(m:Int))))=some (J.bool true)∧some (J.bool (decide ((m:Int)<(k:Int))))=some (J.bool true)∧ad (H.next) (H1.next+12) (bY Tryz.prog aq 249 [aH,.int .i64 (i:Int),.int .i64 (m:Int),.int .i64 (k:Int),bk] (I.mk (H1.next+18) (H1.2)) (.tuple []) af∧ad (H.next) (af.next) (some (J.bool (decide ((a:Int)<(i:Int))))=some (J.bool false)∧ad (H.next) (af.next+8) (some (J.bool (decide ((d:Int)<(k:Int))))=some (J.bool true)∧some (J.bool (decide ((k:Int)<(z:Int))))=some (J.bool true)∧ad (H.next) (af.next+16) (bY Tryz.prog aq 237 [aH,.int .i64 (d:Int),.int .i64 (k:Int),.int .i64 (z:Int),bk] (I.mk (af.next+22) (af.2)) (.tuple []) au∧cW (H.next) (au.next) (ai (.tuple []) au))))))))))))))))) :
 ∃v U,aZ Tryz.prog aq 237 [aH,.int .i64 a,.int .i64 m,.int .i64 z,bk] H v U∧ai v U :=
 cE bg mixed bq (hs:=an 2 (.aa (.val 3 (.bool false)) (an 12002 (.aa (.val 12003 (.bool false)) (an 24002 (an 24003 (an 24004 (.aa (.val 24005 (.int .i64 (d:Int))) (.aa (.val 25002 (.int .i64 (n:Int))) (.aa (.val 27002 (.bool false)) (.aa (.val 32001 (.int .i64 (w:Int))) (.aa (.keep [0,1,2,3,4,18,19,20,21,22]) (.aa (.loop [(0,aH),(1,.int .i64 (a:Int)),(2,.int .i64 (m:Int)),(3,.int .i64 (z:Int)),(4,bk),(18,.int .i64 (d:Int)),(19,.int .i64 (n:Int)),(20,.int .i64 (i:Int))] H1 (.exit 8)) (.aa (.val 38002 (.int .i64 (k:Int))) (.aa (.val 39002 (.bool true)) (.aa (.val 39006 (.bool true)) (.aa (.act 40005 (.tuple []) fun x=>af) (.aa (.val 41002 (.bool false)) (.aa (.val 43002 (.bool true)) (.aa (.val 43006 (.bool true)) (.aa (.act 44005 (.tuple []) fun x=>au) .nil))))))))))))))))))))) (by kernel_rfl) aG
theorem Pv(H H1 af ax au:I)(a m z d n s w i k:Nat)(aH bk:J)(ai:J→I→Prop)(aG:ad (H.next) (H.next) ((-9223372036854775808≤(m:Int)- (a:Int)∧(m:Int)- (a:Int)≤9223372036854775807)∧some (J.bool ((m:Int)- (a:Int) == 1))=some (J.bool false)∧ad (H.next) (H.next+4) ((-9223372036854775808≤(z:Int)- (m:Int)∧(z:Int)- (m:Int)≤9223372036854775807)∧some (J.bool ((z:Int)- (m:Int) == 1))=some (J.bool false)∧ad (H.next) (H.next+8) ((-9223372036854775808≤(a:Int)+(z:Int)∧(a:Int)+(z:Int)≤9223372036854775807)∧(0≤(a:Int)+(z:Int)∧(a:Int)+(z:Int)≤18446744073709551615)∧Int.NonNeg (1-0)∧aV env bz (H.next+13) (a1 [(133,.int .u64 (bE IntKind.u64 ((a:Int)+(z:Int)) (1)))]) (I.mk (H.next+15) (H.2)) (Op.convert 108 3 (Operand.tmp 133))=some (.int .i64 (d:Int),(I.mk (H.next+15) (H.2)))∧ad (H.next) (H.next+15) (some (J.int IntKind.i64 (IntKind.wrap IntKind.i64 ((d:Int)+(m:Int))))=some (.int .i64 (n:Int))∧ad (H.next) (H.next+19) (ad (H.next) (H.next+21) (some (J.bool (decide ((m:Int)>(d:Int))))=some (J.bool false)∧ad (H.next) (H.next+24) (ad (H.next) (H.next+26) (ad (H.next) (H.next+28) (some (J.int IntKind.i64 (IntKind.wrap IntKind.i64 ((n:Int)-1)))=some (.int .i64 (w:Int))∧aR Tryz.prog aq (H.next) 220 (Code.loop (aY Tryz.prog 237 4)) [(0,aH),(1,.int .i64 (a:Int)),(2,.int .i64 (m:Int)),(3,.int .i64 (z:Int)),(4,bk),(18,.int .i64 (d:Int)),(19,.int .i64 (n:Int)),(20,.int .i64 (a:Int)),(21,.int .i64 (m:Int)),(22,.int .i64 (w:Int))] (I.mk (H.next+28+3) (I.aj (I.mk (H.next+26+2) (I.aj (I.mk (H.next+24+2) (I.aj (I.mk (H.next+21+3) (I.aj (I.mk (H.next+19+2) (I.aj (I.mk (H.next+15+4) (I.aj (I.mk (H.next+8+7) (I.aj (I.mk (H.next+4+4) (I.aj (I.mk (H.next+4) (I.aj H)))))))))))))))))) (.exit 8) [(0,aH),(1,.int .i64 (a:Int)),(2,.int .i64 (m:Int)),(3,.int .i64 (z:Int)),(4,bk),(18,.int .i64 (d:Int)),(19,.int .i64 (n:Int)),(20,.int .i64 (i:Int))] H1∧ad (H.next) (H1.next) (some (J.int IntKind.i64 (IntKind.wrap IntKind.i64 ((n:Int)- (i:Int))))=some (.int .i64 (k:Int))∧ad (H.next) (H1.next+4) (some (J.bool (decide ((i:Int)<(m:Int))))=some (J.bool true)∧some (J.bool (decide ((m:Int)<(k:Int))))=some (J.bool true)∧ad (H.next) (H1.next+12) (bY Tryz.prog aq 249 [aH,.int .i64 (i:Int),.int .i64 (m:Int),.int .i64 (k:Int),bk] (I.mk (H1.next+18) (H1.2)) (.tuple []) af∧ad (H.next) (af.next) (some (J.bool (decide ((a:Int)<(i:Int))))=some (J.bool false)∧ad (H.next) (af.next+8) (some (J.bool (decide ((d:Int)<(k:Int))))=some (J.bool true)∧some (J.bool (decide ((k:Int)<(z:Int))))=some (J.bool false)∧cW (H.next) (af.next+16) (ai (.tuple []) (I.mk (af.next+8+8) (I.aj (I.mk (af.next+8) (I.aj af)))))))))))))))))))) :
 ∃v U,aZ Tryz.prog aq 237 [aH,.int .i64 a,.int .i64 m,.int .i64 z,bk] H v U∧ai v U :=
 cE bg mixed bq (hs:=an 2 (.aa (.val 3 (.bool false)) (an 12002 (.aa (.val 12003 (.bool false)) (an 24002 (an 24003 (an 24004 (.aa (.val 24005 (.int .i64 (d:Int))) (.aa (.val 25002 (.int .i64 (n:Int))) (.aa (.val 27002 (.bool false)) (.aa (.val 32001 (.int .i64 (w:Int))) (.aa (.keep [0,1,2,3,4,18,19,20,21,22]) (.aa (.loop [(0,aH),(1,.int .i64 (a:Int)),(2,.int .i64 (m:Int)),(3,.int .i64 (z:Int)),(4,bk),(18,.int .i64 (d:Int)),(19,.int .i64 (n:Int)),(20,.int .i64 (i:Int))] H1 (.exit 8)) (.aa (.val 38002 (.int .i64 (k:Int))) (.aa (.val 39002 (.bool true)) (.aa (.val 39006 (.bool true)) (.aa (.act 40005 (.tuple []) fun x=>af) (.aa (.val 41002 (.bool false)) (.aa (.val 43002 (.bool true)) (.aa (.val 43006 (.bool false)) .nil)))))))))))))))))))) (by kernel_rfl) aG
theorem Pw(H H1 af ax au:I)(a m z d n s w i k:Nat)(aH bk:J)(ai:J→I→Prop)(aG:ad (H.next) (H.next) ((-9223372036854775808≤(m:Int)- (a:Int)∧(m:Int)- (a:Int)≤9223372036854775807)∧some (J.bool ((m:Int)- (a:Int) == 1))=some (J.bool false)∧ad (H.next) (H.next+4) ((-9223372036854775808≤(z:Int)- (m:Int)∧(z:Int)- (m:Int)≤9223372036854775807)∧some (J.bool ((z:Int)- (m:Int) == 1))=some (J.bool false)∧ad (H.next) (H.next+8) ((-9223372036854775808≤(a:Int)+(z:Int)∧(a:Int)+(z:Int)≤9223372036854775807)∧(0≤(a:Int)+(z:Int)∧(a:Int)+(z:Int)≤18446744073709551615)∧Int.NonNeg (1-0)∧aV env bz (H.next+13) (a1 [(133,.int .u64 (bE IntKind.u64 ((a:Int)+(z:Int)) (1)))]) (I.mk (H.next+15) (H.2)) (Op.convert 108 3 (Operand.tmp 133))=some (.int .i64 (d:Int),(I.mk (H.next+15) (H.2)))∧ad (H.next) (H.next+15) (some (J.int IntKind.i64 (IntKind.wrap IntKind.i64 ((d:Int)+(m:Int))))=some (.int .i64 (n:Int))∧ad (H.next) (H.next+19) (ad (H.next) (H.next+21) (some (J.bool (decide ((m:Int)>(d:Int))))=some (J.bool false)∧ad (H.next) (H.next+24) (ad (H.next) (H.next+26) (ad (H.next) (H.next+28) (some (J.int IntKind.i64 (IntKind.wrap IntKind.i64 ((n:Int)-1)))=some (.int .i64 (w:Int))∧aR Tryz.prog aq (H.next) 220 (Code.loop (aY Tryz.prog 237 4)) [(0,aH),(1,.int .i64 (a:Int)),(2,.int .i64 (m:Int)),(3,.int .i64 (z:Int)),(4,bk),(18,.int .i64 (d:Int)),(19,.int .i64 (n:Int)),(20,.int .i64 (a:Int)),(21,.int .i64 (m:Int)),(22,.int .i64 (w:Int))] (I.mk (H.next+28+3) (I.aj (I.mk (H.next+26+2) (I.aj (I.mk (H.next+24+2) (I.aj (I.mk (H.next+21+3) (I.aj (I.mk (H.next+19+2) (I.aj (I.mk (H.next+15+4) (I.aj (I.mk (H.next+8+7) (I.aj (I.mk (H.next+4+4) (I.aj (I.mk (H.next+4) (I.aj H)))))))))))))))))) (.exit 8) [(0,aH),(1,.int .i64 (a:Int)),(2,.int .i64 (m:Int)),(3,.int .i64 (z:Int)),(4,bk),(18,.int .i64 (d:Int)),(19,.int .i64 (n:Int)),(20,.int .i64 (i:Int))] H1∧ad (H.next) (H1.next) (some (J.int IntKind.i64 (IntKind.wrap IntKind.i64 ((n:Int)- (i:Int))))=some (.int .i64 (k:Int))∧ad (H.next) (H1.next+4) (some (J.bool (decide ((i:Int)<(m:Int))))=some (J.bool false)∧ad (H.next) (H1.next+12) (some (J.bool (decide ((a:Int)<(i:Int))))=some (J.bool true)∧some (J.bool (decide ((i:Int)<(d:Int))))=some (J.bool true)∧ad (H.next) (H1.next+20) (bY Tryz.prog aq 237 [aH,.int .i64 (a:Int),.int .i64 (i:Int),.int .i64 (d:Int),bk] (I.mk (H1.next+26) (H1.2)) (.tuple []) ax∧ad (H.next) (ax.next) (some (J.bool (decide ((d:Int)<(k:Int))))=some (J.bool false)∧cW (H.next) (ax.next+8) (ai (.tuple []) (I.mk (ax.next+8) (I.aj ax)))))))))))))))))) :
 ∃v U,aZ Tryz.prog aq 237 [aH,.int .i64 a,.int .i64 m,.int .i64 z,bk] H v U∧ai v U :=
 cE bg mixed bq (hs:=an 2 (.aa (.val 3 (.bool false)) (an 12002 (.aa (.val 12003 (.bool false)) (an 24002 (an 24003 (an 24004 (.aa (.val 24005 (.int .i64 (d:Int))) (.aa (.val 25002 (.int .i64 (n:Int))) (.aa (.val 27002 (.bool false)) (.aa (.val 32001 (.int .i64 (w:Int))) (.aa (.keep [0,1,2,3,4,18,19,20,21,22]) (.aa (.loop [(0,aH),(1,.int .i64 (a:Int)),(2,.int .i64 (m:Int)),(3,.int .i64 (z:Int)),(4,bk),(18,.int .i64 (d:Int)),(19,.int .i64 (n:Int)),(20,.int .i64 (i:Int))] H1 (.exit 8)) (.aa (.val 38002 (.int .i64 (k:Int))) (.aa (.val 39002 (.bool false)) (.aa (.val 41002 (.bool true)) (.aa (.val 41006 (.bool true)) (.aa (.act 42005 (.tuple []) fun x=>ax) (.aa (.val 43002 (.bool false)) .nil))))))))))))))))))) (by kernel_rfl) aG
theorem Px(H H1 af ax au:I)(a m z d n s w i k:Nat)(aH bk:J)(ai:J→I→Prop)(aG:ad (H.next) (H.next) ((-9223372036854775808≤(m:Int)- (a:Int)∧(m:Int)- (a:Int)≤9223372036854775807)∧some (J.bool ((m:Int)- (a:Int) == 1))=some (J.bool false)∧ad (H.next) (H.next+4) ((-9223372036854775808≤(z:Int)- (m:Int)∧(z:Int)- (m:Int)≤9223372036854775807)∧some (J.bool ((z:Int)- (m:Int) == 1))=some (J.bool false)∧ad (H.next) (H.next+8) ((-9223372036854775808≤(a:Int)+(z:Int)∧(a:Int)+(z:Int)≤9223372036854775807)∧(0≤(a:Int)+(z:Int)∧(a:Int)+(z:Int)≤18446744073709551615)∧Int.NonNeg (1-0)∧aV env bz (H.next+13) (a1 [(133,.int .u64 (bE IntKind.u64 ((a:Int)+(z:Int)) (1)))]) (I.mk (H.next+15) (H.2)) (Op.convert 108 3 (Operand.tmp 133))=some (.int .i64 (d:Int),(I.mk (H.next+15) (H.2)))∧ad (H.next) (H.next+15) (some (J.int IntKind.i64 (IntKind.wrap IntKind.i64 ((d:Int)+(m:Int))))=some (.int .i64 (n:Int))∧ad (H.next) (H.next+19) (ad (H.next) (H.next+21) (some (J.bool (decide ((m:Int)>(d:Int))))=some (J.bool false)∧ad (H.next) (H.next+24) (ad (H.next) (H.next+26) (ad (H.next) (H.next+28) (some (J.int IntKind.i64 (IntKind.wrap IntKind.i64 ((n:Int)-1)))=some (.int .i64 (w:Int))∧aR Tryz.prog aq (H.next) 220 (Code.loop (aY Tryz.prog 237 4)) [(0,aH),(1,.int .i64 (a:Int)),(2,.int .i64 (m:Int)),(3,.int .i64 (z:Int)),(4,bk),(18,.int .i64 (d:Int)),(19,.int .i64 (n:Int)),(20,.int .i64 (a:Int)),(21,.int .i64 (m:Int)),(22,.int .i64 (w:Int))] (I.mk (H.next+28+3) (I.aj (I.mk (H.next+26+2) (I.aj (I.mk (H.next+24+2) (I.aj (I.mk (H.next+21+3) (I.aj (I.mk (H.next+19+2) (I.aj (I.mk (H.next+15+4) (I.aj (I.mk (H.next+8+7) (I.aj (I.mk (H.next+4+4) (I.aj (I.mk (H.next+4) (I.aj H)))))))))))))))))) (.exit 8) [(0,aH),(1,.int .i64 (a:Int)),(2,.int .i64 (m:Int)),(3,.int .i64 (z:Int)),(4,bk),(18,.int .i64 (d:Int)),(19,.int .i64 (n:Int)),(20,.int .i64 (i:Int))] H1∧ad (H.next) (H1.next) (some (J.int IntKind.i64 (IntKind.wrap IntKind.i64 ((n:Int)- (i:Int))))=some (.int .i64 (k:Int))∧ad (H.next) (H1.next+4) (some (J.bool (decide ((i:Int)<(m:Int))))=some (J.bool false)∧ad (H.next) (H1.next+12) (some (J.bool (decide ((a:Int)<(i:Int))))=some (J.bool true)∧some (J.bool (decide ((i:Int)<(d:Int))))=some (J.bool false)∧ad (H.next) (H1.next+20) (some (J.bool (decide ((d:Int)<(k:Int))))=some (J.bool false)∧cW (H.next) (H1.next+28) (ai (.tuple []) (I.mk (H1.next+20+8) (I.aj (I.mk (H1.next+12+8) (I.aj (I.mk (H1.next+4+8) (I.aj (I.mk (H1.next+4) (I.aj H1))))))))))))))))))))))) :
 ∃v U,aZ Tryz.prog aq 237 [aH,.int .i64 a,.int .i64 m,.int .i64 z,bk] H v U∧ai v U :=
 cE bg mixed bq (hs:=an 2 (.aa (.val 3 (.bool false)) (an 12002 (.aa (.val 12003 (.bool false)) (an 24002 (an 24003 (an 24004 (.aa (.val 24005 (.int .i64 (d:Int))) (.aa (.val 25002 (.int .i64 (n:Int))) (.aa (.val 27002 (.bool false)) (.aa (.val 32001 (.int .i64 (w:Int))) (.aa (.keep [0,1,2,3,4,18,19,20,21,22]) (.aa (.loop [(0,aH),(1,.int .i64 (a:Int)),(2,.int .i64 (m:Int)),(3,.int .i64 (z:Int)),(4,bk),(18,.int .i64 (d:Int)),(19,.int .i64 (n:Int)),(20,.int .i64 (i:Int))] H1 (.exit 8)) (.aa (.val 38002 (.int .i64 (k:Int))) (.aa (.val 39002 (.bool false)) (.aa (.val 41002 (.bool true)) (.aa (.val 41006 (.bool false)) (.aa (.val 43002 (.bool false)) .nil)))))))))))))))))) (by kernel_rfl) aG
end Go.Proofs.YtjpfnbihopoeeaaGreatDoor
namespace Go.Proofs.YtjpfnbihopoeeaaGreatDoor
open Go.ba
theorem Py(H H1:I)(B n s a i:Nat)(aH bk:J)(ai:bx→a6→I→Prop)(aG:ad B (H.next) (some (J.bool (decide ((i:Int)≤(n:Int))))=some (J.bool true)∧ad B (H.next+3) (bY Tryz.prog aq 236 [aH,.int .i64 (a:Int),.int .i64 (i:Int),bk] (I.mk (H.next+8) (H.2)) (.tuple []) H1∧ad B (H1.next) (ad B (H1.next+2) ((-9223372036854775808≤(i:Int)+(s:Int)∧(i:Int)+(s:Int)≤9223372036854775807)∧ai .normal [(0,aH),(1,.int .i64 (n:Int)),(2,bk),(6,.int .i64 (s:Int)),(7,.int .i64 (i:Int)),(8,.int .i64 ((i:Int)+(s:Int)))] (I.mk (H1.next+2+4) (I.aj (I.mk (H1.next+2) (I.aj H1))))))))) :
 ∃e ah U,aR Tryz.prog aq B 63 (aY Tryz.prog 217 0) [(0,aH),(1,.int .i64 n),(2,bk),(6,.int .i64 s),(7,.int .i64 a),(8,.int .i64 i)] H e ah U∧ai e ah U :=
 b0 bg mixed bq (hs:= .aa (.val 2002 (.bool true)) (.aa (.act 3004 (.tuple []) fun x=>H1) (an 5002 .nil))) (keep:=[0,1,2,6,7,8]) (by kernel_rfl) aG
theorem Hr(H:I)(B n s a i:Nat)(aH bk:J)(ai:bx→a6→I→Prop)(aG:ad B (H.next) (some (J.bool (decide ((i:Int)≤(n:Int))))=some (J.bool false)∧ai (.exit 0) [(0,aH),(1,.int .i64 (n:Int)),(2,bk),(6,.int .i64 (s:Int)),(7,.int .i64 (a:Int)),(8,.int .i64 (i:Int))] (I.mk (H.next+3) (I.aj H)))) :
 ∃e ah U,aR Tryz.prog aq B 63 (aY Tryz.prog 217 0) [(0,aH),(1,.int .i64 n),(2,bk),(6,.int .i64 s),(7,.int .i64 a),(8,.int .i64 i)] H e ah U∧ai e ah U :=
 b0 bg mixed bq (hs:= .aa (.val 2002 (.bool false)) .nil) (keep:=[0,1,2,6,7,8]) (by kernel_rfl) aG
theorem Pz(H H1:I)(B n s a i:Nat)(aH bk:J)(ai:bx→a6→I→Prop)(aG:ad B (H.next) (some (J.bool (decide ((i:Int)≤(n:Int))))=some (J.bool true)∧ad B (H.next+3) ((-9223372036854775808≤(a:Int)+(s:Int)∧(a:Int)+(s:Int)≤9223372036854775807)∧bY Tryz.prog aq 237 [aH,.int .i64 (a:Int),.int .i64 ((a:Int)+(s:Int)),.int .i64 (i:Int),bk] (I.mk (H.next+11) (H.2)) (.tuple []) H1∧ad B (H1.next) (ad B (H1.next+2) ((-9223372036854775808≤2* (s:Int)∧2* (s:Int)≤9223372036854775807)∧(-9223372036854775808≤(i:Int)+2* (s:Int)∧(i:Int)+2* (s:Int)≤9223372036854775807)∧ai .normal [(0,aH),(1,.int .i64 (n:Int)),(2,bk),(6,.int .i64 (s:Int)),(7,.int .i64 (i:Int)),(8,.int .i64 ((i:Int)+2* (s:Int)))] (I.mk (H1.next+2+5) (I.aj (I.mk (H1.next+2) (I.aj H1))))))))) :
 ∃e ah U,aR Tryz.prog aq B 63 (aY Tryz.prog 217 2) [(0,aH),(1,.int .i64 n),(2,bk),(6,.int .i64 s),(7,.int .i64 a),(8,.int .i64 i)] H e ah U∧ai e ah U :=
 b0 bg mixed bq (hs:= .aa (.val 9002 (.bool true)) (an 10004 (.aa (.act 10007 (.tuple []) fun x=>H1) (an 12002 (an 12003 .nil))))) (keep:=[0,1,2,6,7,8]) (by kernel_rfl) aG
theorem PA(H:I)(B n s a i:Nat)(aH bk:J)(ai:bx→a6→I→Prop)(aG:ad B (H.next) (some (J.bool (decide ((i:Int)≤(n:Int))))=some (J.bool false)∧ai (.exit 4) [(0,aH),(1,.int .i64 (n:Int)),(2,bk),(6,.int .i64 (s:Int)),(7,.int .i64 (a:Int)),(8,.int .i64 (i:Int))] (I.mk (H.next+3) (I.aj H)))) :
 ∃e ah U,aR Tryz.prog aq B 63 (aY Tryz.prog 217 2) [(0,aH),(1,.int .i64 n),(2,bk),(6,.int .i64 s),(7,.int .i64 a),(8,.int .i64 i)] H e ah U∧ai e ah U :=
 b0 bg mixed bq (hs:= .aa (.val 9002 (.bool false)) .nil) (keep:=[0,1,2,6,7,8]) (by kernel_rfl) aG
theorem PB(H H1 af:I)(B n s a:Nat)(aH bk:J)(ai:bx→a6→I→Prop)(aG:ad B (H.next) (some (J.bool (decide ((s:Int)<(n:Int))))=some (J.bool true)∧ad B (H.next+3) ((-9223372036854775808≤2* (s:Int)∧2* (s:Int)≤9223372036854775807)∧aR Tryz.prog aq B 63 (Code.loop (aY Tryz.prog 217 2)) [(0,aH),(1,.int .i64 (n:Int)),(2,bk),(6,.int .i64 (s:Int)),(7,.int .i64 0),(8,.int .i64 (2* (s:Int)))] (I.mk (H.next+3+4) (I.aj (I.mk (H.next+3) (I.aj H)))) (.exit 4) [(0,aH),(1,.int .i64 (n:Int)),(2,bk),(6,.int .i64 (s:Int)),(7,.int .i64 (a:Int))] H1∧ad B (H1.next) ((-9223372036854775808≤(a:Int)+(s:Int)∧(a:Int)+(s:Int)≤9223372036854775807)∧ad B (H1.next+4) (some (J.bool (decide ((a:Int)+(s:Int)<(n:Int))))=some (J.bool true)∧ad B (H1.next+7) (bY Tryz.prog aq 237 [aH,.int .i64 (a:Int),.int .i64 ((a:Int)+(s:Int)),.int .i64 (n:Int),bk] (I.mk (H1.next+13) (H1.2)) (.tuple []) af∧ad B (af.next) ((-9223372036854775808≤(s:Int)*2∧(s:Int)*2≤9223372036854775807)∧ai .normal [(0,aH),(1,.int .i64 (n:Int)),(2,bk),(6,.int .i64 ((s:Int)*2))] (I.mk (af.next+3) (I.aj af))))))))) :
 ∃e ah U,aR Tryz.prog aq B 63 (aY Tryz.prog 217 1) [(0,aH),(1,.int .i64 n),(2,bk),(6,.int .i64 s)] H e ah U∧ai e ah U :=
 b0 bg mixed bq (hs:= .aa (.val 7002 (.bool true)) (an 8001 (.aa (.keep [0,1,2,6,7,8]) (.aa (.loop [(0,aH),(1,.int .i64 (n:Int)),(2,bk),(6,.int .i64 (s:Int)),(7,.int .i64 (a:Int))] H1 (.exit 4)) (an 13002 (.aa (.val 14002 (.bool true)) (.aa (.act 15005 (.tuple []) fun x=>af) (an 16001 .nil)))))))) (keep:=[0,1,2,6]) (by kernel_rfl) aG
theorem PC(H H1:I)(B n s a:Nat)(aH bk:J)(ai:bx→a6→I→Prop)(aG:ad B (H.next) (some (J.bool (decide ((s:Int)<(n:Int))))=some (J.bool true)∧ad B (H.next+3) ((-9223372036854775808≤2* (s:Int)∧2* (s:Int)≤9223372036854775807)∧aR Tryz.prog aq B 63 (Code.loop (aY Tryz.prog 217 2)) [(0,aH),(1,.int .i64 (n:Int)),(2,bk),(6,.int .i64 (s:Int)),(7,.int .i64 0),(8,.int .i64 (2* (s:Int)))] (I.mk (H.next+3+4) (I.aj (I.mk (H.next+3) (I.aj H)))) (.exit 4) [(0,aH),(1,.int .i64 (n:Int)),(2,bk),(6,.int .i64 (s:Int)),(7,.int .i64 (a:Int))] H1∧ad B (H1.next) ((-9223372036854775808≤(a:Int)+(s:Int)∧(a:Int)+(s:Int)≤9223372036854775807)∧ad B (H1.next+4) (some (J.bool (decide ((a:Int)+(s:Int)<(n:Int))))=some (J.bool false)∧ad B (H1.next+7) ((-9223372036854775808≤(s:Int)*2∧(s:Int)*2≤9223372036854775807)∧ai .normal [(0,aH),(1,.int .i64 (n:Int)),(2,bk),(6,.int .i64 ((s:Int)*2))] (I.mk (H1.next+7+3) (I.aj (I.mk (H1.next+4+3) (I.aj (I.mk (H1.next+4) (I.aj H1)))))))))))) :
 ∃e ah U,aR Tryz.prog aq B 63 (aY Tryz.prog 217 1) [(0,aH),(1,.int .i64 n),(2,bk),(6,.int .i64 s)] H e ah U∧ai e ah U :=
 b0 bg mixed bq (hs:= .aa (.val 7002 (.bool true)) (an 8001 (.aa (.keep [0,1,2,6,7,8]) (.aa (.loop [(0,aH),(1,.int .i64 (n:Int)),(2,bk),(6,.int .i64 (s:Int)),(7,.int .i64 (a:Int))] H1 (.exit 4)) (an 13002 (.aa (.val 14002 (.bool false)) (an 16001 .nil))))))) (keep:=[0,1,2,6]) (by kernel_rfl) aG
theorem Hs(H:I)(B n s:Nat)(aH bk:J)(ai:bx→a6→I→Prop)(aG:ad B (H.next) (some (J.bool (decide ((s:Int)<(n:Int))))=some (J.bool false)∧ai (.exit 2) [(0,aH),(1,.int .i64 (n:Int)),(2,bk),(6,.int .i64 (s:Int))] (I.mk (H.next+3) (I.aj H)))) :
 ∃e ah U,aR Tryz.prog aq B 63 (aY Tryz.prog 217 1) [(0,aH),(1,.int .i64 n),(2,bk),(6,.int .i64 s)] H e ah U∧ai e ah U :=
 b0 bg mixed bq (hs:= .aa (.val 7002 (.bool false)) .nil) (keep:=[0,1,2,6]) (by kernel_rfl) aG
theorem PD(H H1 af ax:I)(n a:Nat)(aH bk:J)(ai:J→I→Prop)(aG:ad (H.next) (H.next) (ad (H.next) (H.next+1) (aR Tryz.prog aq (H.next) 63 (Code.loop (aY Tryz.prog 217 0)) [(0,aH),(1,.int .i64 (n:Int)),(2,bk),(6,.int .i64 20),(7,.int .i64 0),(8,.int .i64 20)] (I.mk (H.next+1+3) (I.aj (I.mk (H.next+1) (I.aj H)))) (.exit 0) [(0,aH),(1,.int .i64 (n:Int)),(2,bk),(6,.int .i64 20),(7,.int .i64 (a:Int))] H1∧ad (H.next) (H1.next) (bY Tryz.prog aq 236 [aH,.int .i64 (a:Int),.int .i64 (n:Int),bk] (I.mk (H1.next+5) (H1.2)) (.tuple []) af∧aR Tryz.prog aq (H.next) 63 (Code.loop (aY Tryz.prog 217 1)) [(0,aH),(1,.int .i64 (n:Int)),(2,bk),(6,.int .i64 20)] af (.exit 2) [] ax∧cW (H.next) (ax.next) (ai (.tuple []) ax))))) :
 ∃v U,aZ Tryz.prog aq 217 [aH,.int .i64 n,bk] H v U∧ai v U :=
 cE bg mixed bq (hs:= .aa (.keep [0,1,2,6,7,8]) (.aa (.loop [(0,aH),(1,.int .i64 (n:Int)),(2,bk),(6,.int .i64 20),(7,.int .i64 (a:Int))] H1 (.exit 0)) (.aa (.act 6004 (.tuple []) fun x=>af) (.aa (.keep [0,1,2,6]) (.aa (.loop [] ax (.exit 2)) .nil))))) (by kernel_rfl) aG
theorem PE(H H1:I)(n c:Nat)(o:Option aO)(bk:J)(ai:J→I→Prop)(aG:ad (H.next) (H.next) (bY Tryz.prog aq 217 [.slice o n c,.int .i64 (n:Int),bk] (I.mk (H.next+5) (H.2)) (.tuple []) H1∧cW (H.next) (H1.next) (ai (.tuple []) H1))) :
 ∃v U,aZ Tryz.prog aq 184 [.slice o n c,bk] H v U∧ai v U :=
 cE bg mixed bq (hs:= .aa (.act 4 (.tuple []) fun x=>H1) .nil) (by kernel_rfl) aG
end Go.Proofs.YtjpfnbihopoeeaaGreatDoor
namespace Go.Proofs.YtjpfnbihopoeeaaGreatDoor
open Go.ba
structure ff where
 Q:Nat
 V:Nat
 O:Nat
 N:Nat
 cap:Nat
 it:Nat→J
 pre:List J
 post:List J
 C:I→Prop
structure ff.dG(S:ff):Prop where
 n:S.N<2^44
 o:S.pre.length=S.O
 sv:∀k,jG (S.it k)
 keep:∀H H',S.C H→Fr H H' [S.Q]→S.C H'
abbrev ff.aH(S:ff):J:= .slice (some ⟨S.Q,S.V,S.O,0,1⟩) S.N S.cap
abbrev ff.fP(S:ff)(i:Nat):aO:=⟨S.Q,S.V,S.O+i,0,1⟩
def ff.dP(S:ff)(H:I)(π:Nat→Nat):Prop :=
 S.Q<H.next∧(∃b,H.get S.Q=some b∧b.ver=S.V∧b.ro=false∧b.exact=true∧b.a'=S.pre++(List.range S.N).map (fun k=>S.it (π k))++S.post)∧S.C H
theorem ff.dP.aI{S:ff}(ok:S.dG){H H':I}{π:Nat→Nat}(h:S.dP H π)(m:Fr H H' []):S.dP H' π:=by obtain⟨U,⟨b,ak,aP⟩,bQ⟩:=h;exact⟨Nat.lt_of_lt_of_le U m.next,⟨b,(m.get _ U (by simp)).trans ak,aP⟩,ok.keep _ _ bQ (m.sub (by simp))⟩
theorem ff.dP.congr{S:ff}{H:I}{π σ:Nat→Nat}(h:S.dP H π)(e:∀k,k<S.N→σ k=π k):S.dP H σ:=by
 obtain⟨U,⟨b,ak,aP,bQ,ab,ct⟩,cL⟩:=h;refine⟨U,⟨b,ak,aP,bQ,ab,?_⟩,cL⟩;rw [ct]
 congr 2
 exact List.map_congr_left fun k az=>by rw [e k (List.mem_range.1 az)]
theorem ff.ca(S:ff){e:Int}{i:Nat}(he:e=i)(ac:i<S.N):bb (bh.D env) 28 S.aH (.int .i64 e)=some (.ptr (some (S.fP i))):=by subst he;obtain⟨d,x,d1,d2,cf,cu,_⟩:=lp.eS.ty;have d1:bh.D env 28=some d:=d1;have cf:bh.D env 3=some x:=cf;unfold bb;simp only [d1,d2,cf];rw [if_pos ⟨by omega,by omega,by rw [cu],by trivial⟩];simp
theorem Ht{pre post:List J}{f:Nat→J}{N i:Nat}(ac:i<N):(pre++(List.range N).map f++post)[pre.length+i]? =some (f i):=by rw [List.getElem?_append_left (by simp;omega),List.getElem?_append_right (by omega),Nat.add_sub_cancel_left,List.getElem?_map,List.getElem?_range ac];rfl
theorem PF{pre post:List J}{f:Nat→J}{N i:Nat}{x:J}(ac:i<N):(pre++(List.range N).map f++post).set (pre.length+i) x=pre++(List.range N).map (fun k=>if k=i then x else f k)++post:=by
 rw [List.set_append_left _ _ (by simp;omega),List.set_append_right _ _ (by omega),Nat.add_sub_cancel_left]
 congr 2
 apply List.ext_getElem (by simp);intro k U ak;simp only [List.length_set,List.length_map,List.length_range]at U;rw [List.getElem_set];by_cases e:i=k
 ·subst e;simp
 ·rw [if_neg e];simp [Ne.symm e,fun h=>e (Eq.symm h)]
theorem Hu:(bh.D env 3).map (fun d=>(d.kind.isAgg,d.size))=some (false,1):=by kernel_rfl
theorem ff.dP.fk{S:ff}(ok:S.dG){H:I}{π:Nat→Nat}(h:S.dP H π){i:Nat}(ac:i<S.N)(n:Nat):aQ (bh.D env) 3 (S.fP i) ⟨n,H.aj⟩=some (S.it (π i)):=by
 obtain⟨U,⟨b,ak,aP,bQ,ab,ct⟩,cL⟩:=h;obtain⟨d,d1,d2⟩:=Option.map_eq_some_iff.1 Hu;simp only [Prod.mk.injEq]at d2
 have eV:b.elem? S.V (S.O+i)=some (S.it (π i)):=by unfold aJ.elem? aJ.cj;rw [if_pos aP.symm,ct,←ok.o,if_pos (by simp;omega)];exact Ht ac
 unfold aQ;have an:I.get ⟨n,H.aj⟩ S.Q=some b:=ak;simp only [d1,an,eV,d2.1,d2.2];exact yf (ok.sv _)
theorem Co{S:ff}(ok:S.dG){H:I}{f:Nat→J}{b:aJ}{i:Nat}{x:J}(ak:H.get S.Q=some b)(aP:b.ver=S.V)(bQ:b.ro=false)(ct:b.a'=S.pre++(List.range S.N).map f++S.post)(ac:i<S.N)(aS:jG (f i))(ab:jG x) :
 e7 (bh.D env) 3 (S.fP i) x H=some (H.set S.Q {b with a':=S.pre++(List.range S.N).map (fun k=>if k=i then x else f k)++S.post,eD:=b.ver}):=by
 obtain⟨d,d1,d2⟩:=Option.map_eq_some_iff.1 Hu;simp only [Prod.mk.injEq]at d2
 have PG:x.fits d.kind.isAgg d.size=true:=by rw [d2.1,d2.2];cases x<;>first|rfl|cases ab
 have an:b.a'[S.O+i]? =some (f i):=by rw [ct,←ok.o];exact Ht ac
 unfold e7;simp only [d1,ak,PG,bQ,aP,an,G' aS ab];rw [ct,←ok.o,PF ac];simp
theorem ff.dP.swap{S:ff}(ok:S.dG){H:I}{π:Nat→Nat}(h:S.dP H π){i j:Nat}(ac:i<S.N)(ay:j<S.N)(eO:i≠j)(n:Nat) :
 ∃af ax,e7 (bh.D env) 3 (S.fP i) (S.it (π j)) (up H n)=some af∧e7 (bh.D env) 3 (S.fP j) (S.it (π i)) af=some ax∧(∀σ:Nat→Nat,(∀k,k<S.N→σ k=if k=j then π i else if k=i then π j else π k)→S.dP ax σ)∧Fr H ax [S.Q]∧af.next=H.next+n∧ax.next=H.next+n:=by
 obtain⟨U,⟨b,ak,aP,bQ,ab,ct⟩,cL⟩:=h;have bo:=Co (H:=up H n) ok ak aP bQ ct ac (ok.sv _) (ok.sv (π j))
 let aT:aJ:= {b with a':=S.pre++(List.range S.N).map (fun k=>if k=i then S.it (π j)else S.it (π k))++S.post,eD:=b.ver}
 let af:=(up H n).set S.Q aT
 have bO:=Co (H:=af) (b:=aT) (i:=j) (x:=S.it (π i)) ok (I.eG _ _ _) aP bQ rfl ay (by
  show jG (if j=i then S.it (π j)else S.it (π j))
  rw [ite_self];exact ok.sv _) (ok.sv (π i))
 have aI:Fr H (af.set S.Q {aT with a':=S.pre++(List.range S.N).map (fun k=>if k=j then S.it (π i)else if k=i then S.it (π j)else S.it (π k))++S.post,eD:=aT.ver}) [S.Q]:=((Fr.up H n [S.Q]).trans (Fr.set (L:=[S.Q]) (up H n) _ aT (by simp)) (fun x ab _=>ab)).trans (Fr.set (L:=[S.Q]) af _ _ (by simp)) (fun x ab _=>ab);refine⟨af,_,bo,bO,fun σ iP=>⟨by show S.Q<H.next+n;omega,⟨_,I.eG _ _ _,aP,bQ,ab,?_⟩,ok.keep _ _ cL aI⟩,aI,rfl,rfl⟩;show S.pre++_++S.post=S.pre++_++S.post
 congr 2
 refine List.map_congr_left fun k az=> ?_
 rw [iP k (List.mem_range.1 az)];split
 ·rfl
 ·split<;>rfl
def ff.Do(S:ff)(f:FuncId)(args:List J)(π σ:Nat→Nat):Prop:= ∀H,S.dP H π→ ∃H',aZ Tryz.prog aq f args H (.tuple []) H'∧S.dP H' σ∧Fr H H' [S.Q]
theorem PH{S:ff}(ok:S.dG){B:Nat}(π:Nat→Nat){a b n:Nat}(k3:a+n≤b)(ao:b+n≤S.N):∀(k i:Nat)(H:I),i+k=n→B≤H.next→S.dP H (h5 π a b i) →
 ∃H',bf Tryz.prog aq B 38 (aY Tryz.prog 259 0) [(0,S.aH),(1,.int .i64 (a:Nat)),(2,.int .i64 (b:Nat)),(3,.int .i64 (n:Nat)),(10,.int .i64 (i:Nat))] H (.exit 0) [] H'∧S.dP H' (h5 π a b n)∧Fr H H' [S.Q]:=by
 have bA:=ok.n;intro k;induction k with
 |zero =>
  intro i H e aX w;obtain rfl:i=n:=by omega
  obtain⟨e,ah,U,aC,rfl,rfl,rfl⟩:=O2 H B a b i i S.aH (fun e ah U=>e=.exit 0∧ah=[(0,S.aH),(1,.int .i64 (a:Nat)),(2,.int .i64 (b:Nat)),(3,.int .i64 (i:Nat)),(10,.int .i64 (i:Nat))]∧U=up H 3) (ae aX ⟨b7 (by omega),rfl,rfl,rfl⟩);exact⟨_,(bf.last (by simp) aC).post (bL.facts (ed [] (by kernel_rfl))),w.aI ok (Fr.up H 3 []),Fr.up H 3 _⟩
 |succ k ih =>
  intro i H e aX w;have ea:h5 π a b i (a+i)=π (a+i):=by unfold h5;rw [if_neg (by omega),if_neg (by omega)]
  have eb:h5 π a b i (b+i)=π (b+i):=by unfold h5;rw [if_neg (by omega),if_neg (by omega)]
  obtain⟨H1,af,s1,s2,cJ,f2,bK,n2⟩:=w.swap ok (i:=a+i) (j:=b+i) (by omega) (by omega) (by omega) 27
  obtain⟨e',ah,U,aC,rfl,rfl,rfl⟩:=O1 H H1 af B a b n i S.aH (S.it (h5 π a b i (a+i))) (S.it (h5 π a b i (b+i))) (S.fP (a+i)) (S.fP (b+i)) (fun e ah U=>e=.normal∧ah=[(0,S.aH),(1,.int .i64 (a:Nat)),(2,.int .i64 (b:Nat)),(3,.int .i64 (n:Nat)),(10,.int .i64 ((i+1:Nat):Int))]∧U=up af 3)
   (ae aX ⟨bB (by omega),ae (by omega) ⟨⟨by omega,by omega⟩,⟨by omega,by omega⟩,⟨by omega,by omega⟩,S.ca (by omega) (by omega),w.fk ok (by omega) _,by have:=w.1;show S.Q<H.next+3;omega,⟨by omega,by omega⟩,S.ca (by omega) (by omega),w.fk ok (by omega) _,by have:=w.1;show S.Q<H.next+3;omega,S.ca (by omega) (by omega),cR rfl rfl s1,S.ca (by omega) (by omega),cR rfl rfl s2,ae (by omega) ⟨⟨by omega,by omega⟩,rfl,by rw [dx],rfl⟩⟩⟩)
  have fb :=cJ (h5 π a b (i+1)) (fun k az=>by
   rw [ea,eb];unfold h5;by_cases U:k=b+i
   ·subst U;rw [if_pos rfl,if_neg (by omega),if_pos (by omega),show b+i-b+a=a+i by omega]
   ·rw [if_neg U];by_cases ak:k=a+i
    ·subst ak;rw [if_pos rfl,if_pos (by omega),show a+i-a+b=b+i by omega]
    ·rw [if_neg ak];by_cases aP:a≤k∧k<a+i
     ·rw [if_pos aP,if_pos (by omega)]
     ·rw [if_neg aP,if_neg (show ¬(a≤k∧k<a+(i+1))by omega)];by_cases bQ:b≤k∧k<b+i
      ·rw [if_pos bQ,if_pos (by omega)]
      ·rw [if_neg bQ,if_neg (by omega)])
  have f3:=f2.trans (Fr.up af 3 []) (by simp);obtain⟨H',L,aN,bG⟩:=ih (i+1) (up af 3) (by omega) (by show B≤af.next+3;omega) (fb.aI ok (Fr.up af 3 []));exact⟨H',bf.round aC (bL.refl _ _ _ _) L,aN,f3.trans bG (fun x ab _=>ab)⟩
theorem Cp{S:ff}(ok:S.dG)(π:Nat→Nat){a b n:Nat}(k3:a+n≤b)(ao:b+n≤S.N){ea eb en:Int}(aW:ea=a)(fr:eb=b)(be:en=n)(bk:J):S.Do 259 [S.aH,.int .i64 ea,.int .i64 eb,.int .i64 en,bk] π (h5 π a b n):=by
 subst aW fr be;intro H w;obtain⟨H1,L,b9,f1⟩:=PH ok (B:=H.next) π k3 ao n 0 (up H 1) (by omega) (by show H.next≤H.next+1;omega) ((w.congr (fun k _=>by unfold h5;rw [if_neg (by omega),if_neg (by omega)])).aI ok (Fr.up H 1 []));have bK:H.next+1≤H1.next:=f1.next
 obtain⟨v,U,aM,rfl,rfl⟩:=O3 H H1 a b n S.aH bk (fun v U=>v=.tuple []∧U=H1) (ae (Nat.le_refl _) ⟨aR.cx L,df (by omega) ⟨rfl,rfl⟩⟩);exact⟨_,aM,b9,(Fr.up H 1 [S.Q]).trans f1 (fun x ab _=>ab)⟩
theorem PI{S:ff}(ok:S.dG){B m:Nat}(bk:J)(Wu:m≤S.N):∀(dv i j:Nat)(π:Nat→Nat)(H:I),i+j≤dv→0<i→0<j→i≤m→m+j≤S.N→B≤H.next→S.dP H π →
 ∃(k:Nat)(ρ:Nat→Nat)(H':I),0<k∧k≤m∧m+k≤S.N∧dp ρ (m-k) m (m+k)=dp π (m-i) m (m+j) ∧
 bf Tryz.prog aq B 58 (aY Tryz.prog 249 0) [(0,S.aH),(2,.int .i64 (m:Nat)),(4,bk),(10,.int .i64 (i:Nat)),(11,.int .i64 (j:Nat))] H (.exit 0) [(0,S.aH),(2,.int .i64 (m:Nat)),(4,bk),(10,.int .i64 (k:Nat))] H'∧S.dP H' ρ∧Fr H H' [S.Q]:=by
 have bA:=ok.n;intro dv;induction dv with
 |zero=>intro i j π H h ac ay;omega
 |succ dv ih =>
  intro i j π H h ac ay yk sf aX w;by_cases eO:i=j
  ·subst eO;obtain⟨e,ah,U,aC,rfl,rfl,rfl⟩:=O6 H B m i i S.aH bk (fun e ah U=>e=.exit 0∧ah=[(0,S.aH),(2,.int .i64 (m:Nat)),(4,bk),(10,.int .i64 (i:Nat)),(11,.int .i64 (i:Nat))]∧U=up H 3) (ae aX ⟨by simp,rfl,rfl,rfl⟩);exact⟨i,π,_,ac,yk,sf,rfl,(bf.last (by simp) aC).post (bL.facts (ed [0,2,4,10] (by kernel_rfl))),w.aI ok (Fr.up H 3 []),Fr.up H 3 _⟩
  ·have cg:some (J.bool ((i:Int) != (j:Int)))=some (J.bool true):=by
    have:((i:Int) != (j:Int))=true:=by simp;omega
    rw [this]
   by_cases EK:j<i
   ·obtain⟨H1,D,b9,f1⟩:=Cp ok π (a:=m-i) (b:=m) (n:=j) (ea:=(m:Int)-i) (eb:=m) (en:=j) (by omega) (by omega) (by omega) rfl rfl bk (up H 14) (w.aI ok (Fr.up H 14 []));have bK:H.next+14≤H1.next:=f1.next
    have h6:Fr H (up H1 4) [S.Q]:=((Fr.up H 14 [S.Q]).trans f1 (fun x ab _=>ab)).trans (Fr.up H1 4 []) (by simp);obtain⟨k,ρ,H',k1,k2,bT,cr,L,aN,bG⟩:=ih (i-j) j (h5 π (m-i) m j) (up H1 4) (by omega) (by omega) ay (by omega) sf (by show B≤H1.next+4;omega) (b9.aI ok (Fr.up H1 4 []))
    obtain⟨e,ah,U,aC,rfl,rfl,rfl⟩:=O4 H H1 B m i j S.aH bk (fun e ah U=>e=.normal∧ah=[(0,S.aH),(2,.int .i64 (m:Nat)),(4,bk),(10,.int .i64 ((i-j:Nat):Int)),(11,.int .i64 (j:Nat))]∧U=up H1 4)
     (ae aX ⟨cg,ae (by omega) ⟨bB (by omega),ae (by omega) ⟨⟨by omega,by omega⟩,⟨D⟩,ae (by omega) ⟨⟨by omega,by omega⟩,rfl,by rw [show(i:Int)- (j:Int)=((i-j:Nat):Int)by omega],rfl⟩⟩⟩⟩)
    exact⟨k,ρ,H',k1,k2,bT,cr.trans (On π yk EK),bf.round aC (bL.refl _ _ _ _) L,aN,h6.trans bG (fun x ab _=>ab)⟩
   ·obtain⟨H1,D,b9,f1⟩:=Cp ok π (a:=m-i) (b:=m+j-i) (n:=i) (ea:=(m:Int)-i) (eb:=(m:Int)+j-i) (en:=i) (by omega) (by omega) (by omega) (by omega) rfl bk (up H 18) (w.aI ok (Fr.up H 18 []));have bK:H.next+18≤H1.next:=f1.next
    have h6:Fr H (up H1 4) [S.Q]:=((Fr.up H 18 [S.Q]).trans f1 (fun x ab _=>ab)).trans (Fr.up H1 4 []) (by simp);obtain⟨k,ρ,H',k1,k2,bT,cr,L,aN,bG⟩:=ih i (j-i) (h5 π (m-i) (m+j-i) i) (up H1 4) (by omega) ac (by omega) yk (by omega) (by show B≤H1.next+4;omega) (b9.aI ok (Fr.up H1 4 []))
    obtain⟨e,ah,U,aC,rfl,rfl,rfl⟩:=O5 H H1 B m i j S.aH bk (fun e ah U=>e=.normal∧ah=[(0,S.aH),(2,.int .i64 (m:Nat)),(4,bk),(10,.int .i64 (i:Nat)),(11,.int .i64 ((j-i:Nat):Int))]∧U=up H1 4)
     (ae aX ⟨cg,ae (by omega) ⟨b7 (by omega),ae (by omega) ⟨⟨by omega,by omega⟩,⟨by omega,by omega⟩,⟨by omega,by omega⟩,⟨D⟩,ae (by omega) ⟨⟨by omega,by omega⟩,rfl,by rw [show(j:Int)- (i:Int)=((j-i:Nat):Int)by omega],rfl⟩⟩⟩⟩)
    exact⟨k,ρ,H',k1,k2,bT,cr.trans (Oo π yk (by omega)),bf.round aC (bL.refl _ _ _ _) L,aN,h6.trans bG (fun x ab _=>ab)⟩
theorem PJ{S:ff}(ok:S.dG)(π:Nat→Nat){a m b:Nat}(lS:a<m)(nG:m<b)(ao:b≤S.N)(bk:J):S.Do 249 [S.aH,.int .i64 (a:Nat),.int .i64 (m:Nat),.int .i64 (b:Nat),bk] π (dp π a m b):=by
 have bA:=ok.n;intro H w;obtain⟨k,ρ,H1,k1,k2,bT,cr,L,b9,f1⟩:=PI ok (B:=H.next) (m:=m) bk (by omega) (m-a+(b-m)) (m-a) (b-m) π (up H 8) (Nat.le_refl _) (by omega) (by omega) (by omega) (by omega) (by show H.next≤H.next+8;omega) (w.aI ok (Fr.up H 8 []));rw [show m- (m-a)=a by omega,show m+(b-m)=b by omega]at cr;have bK:H.next+8≤H1.next:=f1.next
 obtain⟨af,D,cJ,f2⟩:=Cp ok ρ (a:=m-k) (b:=m) (n:=k) (ea:=(m:Int)-k) (eb:=m) (en:=k) (by omega) (by omega) (by omega) rfl rfl bk (up H1 8) (b9.aI ok (Fr.up H1 8 []));have n2:H1.next+8≤af.next:=f2.next
 rw [Oq ρ k2,cr]at cJ;rw [show((m-a:Nat):Int)=(m:Int)- (a:Int)by omega,show((b-m:Nat):Int)=(b:Int)- (m:Int)by omega]at L;obtain⟨v,U,aM,rfl,rfl⟩:=O7 H H1 af a m b k S.aH bk (fun v U=>v=.tuple []∧U=af) (ae (Nat.le_refl _) ⟨⟨by omega,by omega⟩,ae (by omega) ⟨⟨by omega,by omega⟩,aR.cx L,ae (by omega) ⟨⟨by omega,by omega⟩,⟨D⟩,df (by omega) ⟨rfl,rfl⟩⟩⟩⟩);exact⟨_,aM,cJ,(((Fr.up H 8 [S.Q]).trans f1 (fun x ab _=>ab)).trans (Fr.up H1 8 []) (by simp)).trans f2 (fun x ab _=>ab)⟩
end Go.Proofs.YtjpfnbihopoeeaaGreatDoor
namespace Go.Proofs.YtjpfnbihopoeeaaGreatDoor
open Go.ba
structure ff.yl(S:ff)(g:FuncId)(cs:List J)(less:Nat→Nat→Bool):Prop where
 call:∀H p q,S.C H→p<S.N→q<S.N→ ∃n r,H.next≤n∧aZ Tryz.prog aq g (S.it p::S.it q::cs) H (.int .i64 r) ⟨n,H.aj⟩∧(r<0↔less p q=true)
def h7(N:Nat)(π:Nat→Nat):Prop:= ∀k,k<N→π k<N
theorem h7.same{N:Nat}{π ρ:Nat→Nat}{a b:Nat}(h:h7 N π)(k:dM π ρ a b)(ao:b≤N):h7 N ρ:=by
 intro j ay;by_cases c:a≤j∧j<b
 ·obtain⟨i,U,ak,aP⟩:=k.from c.1 c.2
  rw [aP];exact h i (by omega)
 ·rw [k.out j (by omega)];exact h j ay
theorem Hv{n:Int}(U: -9223372036854775808≤n)(ak:n≤9223372036854775807):IntKind.wrap .i64 n=n:=by
 show(if(true&&decide (n%18446744073709551616≥9223372036854775808))=true then n%18446744073709551616-18446744073709551616 else n%18446744073709551616)=n;split
 ·rename_i h;simp at h;omega
 ·rename_i h;simp at h;omega
theorem jl{i j c:Nat}(h:(i+j)/2=c)(aF:i+j<2^60):IntKind.wrap .i64 (bE .u64 ((i:Int)+(j:Int)) 1)=(c:Int):=by
 have e:bE .u64 ((i:Int)+(j:Int)) 1=(c:Int):=by show Int.fdiv ((i:Int)+(j:Int)) 2=c;rw [Int.fdiv_eq_ediv_of_nonneg _ (by omega)];omega
 rw [e];exact Hv (by omega) (by omega)
theorem jm{F:a6}{k nid:Nat}{va:IntKind}{n m:Int}{H:I}(dT:a1 F (.tmp k)=.int va n)(hm:IntKind.wrap .i64 n=m):aV env bz nid (a1 F) H (Op.convert 108 3 (Operand.tmp k))=some (.int .i64 m,H):=by
 subst hm;have:aV env bz nid (a1 F) H (Op.convert 108 3 (Operand.tmp k))=(qi (bh.D env) 108 3 (.int va n)).map fun v=>(v,H):=by rw [←dT];rfl
 exact this.trans (by kernel_rfl)
section
variable {S:ff}(ok:S.dG){g:FuncId}{cs:List J}{less:Nat→Nat→Bool}(hw:u4 less)(ar:S.yl g cs less)
include ok hw ar
abbrev cn(g:FuncId)(cs:List J):J:= .func (.func g) [] cs
theorem ff.dP.cmp{H:I}{π:Nat→Nat}(w:S.dP H π){i j:Nat}(ac:π i<S.N)(ay:π j<S.N)(m:Nat):∃n r,H.next+m≤n∧aZ Tryz.prog aq g (S.it (π i)::S.it (π j)::cs) (up H m) (.int .i64 r) ⟨n,H.aj⟩∧(r<0↔less (π i) (π j)=true)∧S.dP ⟨n,H.aj⟩ π∧Fr H ⟨n,H.aj⟩ []:=by
 obtain⟨n,r,U,ak,aP⟩:=ar.call (up H m) (π i) (π j) (w.aI ok (Fr.up H m [])).2.2 ac ay;have U:H.next+m≤n:=U
 have f:Fr H ⟨n,H.aj⟩ []:=⟨by show H.next≤n;omega,fun _ _ _=>rfl⟩
 exact⟨n,r,U,ak,aP,w.aI ok f,f⟩
theorem PK{a b i:Nat}(ρ:Nat→Nat)(b1:h7 S.N ρ)(Fl:a≤i)(ac:i<S.N):∀(j:Nat),a≤j→j≤i→(∀k,j≤k→k<i→less (ρ i) (ρ k)=true) →
 ∃je,a≤je∧je≤i∧(∀k,je≤k→k<i→less (ρ i) (ρ k)=true)∧(je=a∨less (ρ i) (ρ (je-1))=false)∧∀(B:Nat)(H:I),B≤H.next→S.dP H (gK ρ j i) →
 ∃H',bf Tryz.prog aq B 53 (aY Tryz.prog 236 1) [(0,S.aH),(1,.int .i64 (a:Nat)),(2,.int .i64 (b:Nat)),(3,cn g cs),(8,.int .i64 (i:Nat)),(9,.int .i64 (j:Nat))] H
  (.exit 2) [(0,S.aH),(1,.int .i64 (a:Nat)),(2,.int .i64 (b:Nat)),(3,cn g cs),(8,.int .i64 (i:Nat))] H'∧S.dP H' (gK ρ je i)∧Fr H H' [S.Q]:=by
 have bA:=ok.n
 have stop:∀(j B:Nat)(H:I),B≤H.next→S.dP H (gK ρ j i)→ ¬a<j→ ∃H',bf Tryz.prog aq B 53 (aY Tryz.prog 236 1) [(0,S.aH),(1,.int .i64 (a:Nat)),(2,.int .i64 (b:Nat)),(3,cn g cs),(8,.int .i64 (i:Nat)),(9,.int .i64 (j:Nat))] H
  (.exit 2) [(0,S.aH),(1,.int .i64 (a:Nat)),(2,.int .i64 (b:Nat)),(3,cn g cs),(8,.int .i64 (i:Nat))] H'∧S.dP H' (gK ρ j i)∧Fr H H' [S.Q]:=by
  intro j B H aX w ay;obtain⟨e,ah,U,aC,rfl,rfl,rfl⟩:=OY H B a b i j S.aH (cn g cs) (fun e ah U=>e=.exit 2∧ah=[(0,S.aH),(1,.int .i64 (a:Nat)),(2,.int .i64 (b:Nat)),(3,cn g cs),(8,.int .i64 (i:Nat)),(9,.int .i64 (j:Nat))]∧U=up H 17) (ae aX ⟨b7 (by omega),rfl,rfl,rfl⟩);exact⟨_,(bf.last (by simp) aC).post (bL.facts (ed [0,1,2,3,8] (by kernel_rfl))),w.aI ok (Fr.up H 17 []),Fr.up H 17 _⟩
 intro j;induction j with
 |zero =>
  intro U ak aP;exact⟨0,U,ak,aP,.inl (by omega),fun B H aX w=>stop 0 B H aX w (by omega)⟩
 |succ j ih =>
  intro U ak aP;by_cases aW:a=j+1
  ·exact⟨j+1,U,ak,aP,.inl aW.symm,fun B H aX w=>stop (j+1) B H aX w (by omega)⟩
  ·have ex:gK ρ (j+1) i (j+1)=ρ i:=by unfold gK;rw [if_pos rfl]
   have lE:gK ρ (j+1) i j=ρ j:=by unfold gK;rw [if_neg (by omega),if_neg (by omega)]
   by_cases aF:less (ρ i) (ρ j)=true
   ·obtain⟨je,cC,ci,gI,mv,su⟩:=ih (by omega) (by omega) (fun k az yh=>by
     by_cases e:k=j
     ·subst e;exact aF
     ·exact aP k (by omega) yh)
    refine⟨je,cC,ci,gI,mv,fun B H aX w=> ?_⟩;obtain⟨n,r,bK,D,cV,b9,f1⟩:=w.cmp ok hw ar (i:=j+1) (j:=j) (by rw [ex];exact b1 i ac) (by rw [lE];exact b1 j (by omega)) 17;rw [ex,lE]at cV;obtain⟨af,ax,s1,s2,fb,f3,n2,b2⟩:=b9.swap ok (i:=j+1) (j:=j) (by omega) (by omega) (by omega) 18;have n2:af.next=n+18:=n2
    have b2:ax.next=n+18:=b2
    have iB:=fb (gK ρ j i) (fun k az=>by
     have h:=congrFun (Ou ρ (j:=j+1) (i:=i) (by omega) (by omega)) k;rw [show j+1-1=j by omega]at h;rw [←h];unfold oD;by_cases bo:k=j
     ·rw [if_pos bo]
     ·rw [if_neg bo])
    obtain⟨H',L,aN,bG⟩:=su B (up ax 3) (by show B≤ax.next+3;omega) (iB.aI ok (Fr.up ax 3 []));have lt:=w.1
    obtain⟨e,ah,hk,aC,rfl,rfl,rfl⟩:=OW H ⟨n,H.aj⟩ af ax B a b i (j+1) g cs S.aH (S.it (gK ρ (j+1) i (j+1))) (S.it (gK ρ (j+1) i j)) (S.fP (j+1)) (S.fP j) r (fun e ah U=>e=.normal∧ah=[(0,S.aH),(1,.int .i64 (a:Nat)),(2,.int .i64 (b:Nat)),(3,cn g cs),(8,.int .i64 (i:Nat)),(9,.int .i64 (j:Nat))]∧U=up ax 3)
     (ae aX ⟨bB (by omega),S.ca rfl (by omega),w.fk ok (by omega) _,lt,⟨by omega,by omega⟩,S.ca (by omega) (by omega),w.fk ok (by omega) _,lt,⟨D⟩,bB (cV.2 aF),ae (by show B≤n;omega) ⟨⟨by omega,by omega⟩,⟨by omega,by omega⟩,S.ca (by omega) (by omega),b9.fk ok (by omega) _,by show S.Q<n;omega,S.ca rfl (by omega),b9.fk ok (by omega) _,by show S.Q<n;omega,S.ca rfl (by omega),cR rfl rfl s1,S.ca (by omega) (by omega),cR rfl rfl s2,ae (by omega) ⟨⟨by omega,by omega⟩,rfl,by rw [show((j+1:Nat):Int)-1=(j:Int)by omega],rfl⟩⟩⟩)
    exact⟨H',bf.round aC (bL.refl _ _ _ _) L,aN,((((f1.sub (M:=[S.Q]) (by simp)).trans f3 (fun x ab _=>ab)).trans (Fr.up ax 3 []) (by simp)).trans bG (fun x ab _=>ab))⟩
   ·have aF:less (ρ i) (ρ j)=false:=by simpa using aF
    refine⟨j+1,by omega,ak,aP,.inr (by rw [show j+1-1=j by omega];exact aF),fun B H aX w=> ?_⟩;obtain⟨n,r,bK,D,cV,b9,f1⟩:=w.cmp ok hw ar (i:=j+1) (j:=j) (by rw [ex];exact b1 i ac) (by rw [lE];exact b1 j (by omega)) 17;rw [ex,lE,aF]at cV;have lt:=w.1
    obtain⟨e,ah,hk,aC,rfl,rfl,rfl⟩:=OX H ⟨n,H.aj⟩ B a b i (j+1) g cs S.aH (S.it (gK ρ (j+1) i (j+1))) (S.it (gK ρ (j+1) i j)) (S.fP (j+1)) (S.fP j) r (fun e ah U=>e=.exit 2∧ah=[(0,S.aH),(1,.int .i64 (a:Nat)),(2,.int .i64 (b:Nat)),(3,cn g cs),(8,.int .i64 (i:Nat)),(9,.int .i64 ((j+1:Nat):Int))]∧U=⟨n,H.aj⟩)
     (ae aX ⟨bB (by omega),S.ca rfl (by omega),w.fk ok (by omega) _,lt,⟨by omega,by omega⟩,S.ca (by omega) (by omega),w.fk ok (by omega) _,lt,⟨D⟩,b7 (fun h=>by have:=cV.1 h;cases this),rfl,rfl,rfl⟩)
    exact⟨_,(bf.last (by simp) aC).post (bL.facts (ed [0,1,2,3,8] (by kernel_rfl))),b9,f1.sub (by simp)⟩
theorem PL{a b:Nat}(π:Nat→Nat)(e3:h7 S.N π)(k3:a<b)(ao:b≤S.N)(kM:∀i j,a≤i→i<j→j<b→π i<π j):∀(dv i:Nat)(ρ:Nat→Nat),i+dv=b→a<i→dM π ρ a i→fV less ρ a i →
 ∃σ,dM π σ a b∧fV less σ a b∧∀(B:Nat)(H:I),B≤H.next→S.dP H ρ→ ∃H',bf Tryz.prog aq B 53 (aY Tryz.prog 236 0) [(0,S.aH),(1,.int .i64 (a:Nat)),(2,.int .i64 (b:Nat)),(3,cn g cs),(8,.int .i64 (i:Nat))] H (.exit 0) [] H'∧S.dP H' σ∧Fr H H' [S.Q]:=by
 have bA:=ok.n;intro dv;induction dv with
 |zero =>
  intro i ρ e U ak aP;obtain rfl:i=b:=by omega
  refine⟨ρ,ak,aP,fun B H aX w=> ?_⟩;obtain⟨e,ah,U,aC,rfl,rfl,rfl⟩:=Hq H B a i i S.aH (cn g cs) (fun e ah U=>e=.exit 0∧ah=[(0,S.aH),(1,.int .i64 (a:Nat)),(2,.int .i64 (i:Nat)),(3,cn g cs),(8,.int .i64 (i:Nat))]∧U=up H 3) (ae aX ⟨b7 (by omega),rfl,rfl,rfl⟩);exact⟨_,(bf.last (by simp) aC).post (bL.facts (ed [] (by kernel_rfl))),w.aI ok (Fr.up H 3 []),Fr.up H 3 _⟩
 |succ dv ih =>
  intro i ρ e U ak aP;have b1:h7 S.N ρ:=e3.same ak (by omega);obtain⟨j,cC,ci,gI,mv,su⟩:=PK ok hw ar (a:=a) (b:=b) ρ b1 (by omega) (by omega:i<S.N) i (by omega) (by omega) (fun k _ _=>by omega);rw [Ot]at su;have ac:ρ i=π i:=ak.out i (by omega)
  have bH:∀k,a≤k→k<i→ρ k<ρ i:=by
   intro k az yh;obtain⟨m,m1,m2,m3⟩:=ak.from az yh
   rw [m3,ac];exact kM m i m1 m2 (by omega)
  have hs:=He hw aP bH cC ci gI mv
  have PM:dM π (gK ρ j i) a (i+1):=(ak.wide (by omega) (by omega) (by omega)).trans (by
   rw [Hd ρ ci]
   exact(yg ρ ci (by omega)).wide (by omega) (by omega) (by omega))
  obtain⟨σ,cB,c9,rj⟩:=ih (i+1) (gK ρ j i) (by omega) (by omega) PM hs;refine⟨σ,cB,c9,fun B H aX w=> ?_⟩;obtain⟨H1,hM,b9,f1⟩:=su B (up H 5) (by show B≤H.next+5;omega) (w.aI ok (Fr.up H 5 []));have bK:H.next+5≤H1.next:=f1.next
  obtain⟨H',L,aN,bG⟩:=rj B (up H1 3) (by show B≤H1.next+3;omega) (b9.aI ok (Fr.up H1 3 []))
  obtain⟨e,ah,U,aC,rfl,rfl,rfl⟩:=OZ H H1 B a b i S.aH (cn g cs) (fun e ah U=>e=.normal∧ah=[(0,S.aH),(1,.int .i64 (a:Nat)),(2,.int .i64 (b:Nat)),(3,cn g cs),(8,.int .i64 ((i+1:Nat):Int))]∧U=up H1 3)
   (ae aX ⟨bB (by omega),ae (by omega) ⟨aR.cx hM,ae (by omega) ⟨⟨by omega,by omega⟩,rfl,by rw [dx],rfl⟩⟩⟩)
  exact⟨H',bf.round aC (bL.refl _ _ _ _) L,aN,(((Fr.up H 5 [S.Q]).trans f1 (fun x ab _=>ab)).trans (Fr.up H1 3 []) (by simp)).trans bG (fun x ab _=>ab)⟩
theorem Hw{a b:Nat}(π:Nat→Nat)(e3:h7 S.N π)(k3:a≤b)(ao:b≤S.N)(kM:∀i j,a≤i→i<j→j<b→π i<π j) :
 ∃σ,dM π σ a b∧fV less σ a b∧S.Do 236 [S.aH,.int .i64 (a:Nat),.int .i64 (b:Nat),cn g cs] π σ:=by
 have bA:=ok.n
 have fin:∀σ,(∀(B:Nat)(H:I),B≤H.next→S.dP H π→ ∃H',bf Tryz.prog aq B 53 (aY Tryz.prog 236 0) [(0,S.aH),(1,.int .i64 (a:Nat)),(2,.int .i64 (b:Nat)),(3,cn g cs),(8,.int .i64 ((a+1:Nat):Int))] H (.exit 0) [] H'∧S.dP H' σ∧Fr H H' [S.Q]) →
  S.Do 236 [S.aH,.int .i64 (a:Nat),.int .i64 (b:Nat),cn g cs] π σ:=by
  intro σ l H w;obtain⟨H1,L,b9,f1⟩:=l H.next (up H 3) (by show H.next≤H.next+3;omega) (w.aI ok (Fr.up H 3 []))
  have bK:H.next+3≤H1.next:=f1.next
  rw [←dx]at L;obtain⟨v,U,aM,rfl,rfl⟩:=O0 H H1 a b 0 S.aH (cn g cs) (fun v U=>v=.tuple []∧U=H1) (ae (Nat.le_refl _) ⟨⟨by omega,by omega⟩,aR.cx L,df (by omega) ⟨rfl,rfl⟩⟩);exact⟨_,aM,b9,(Fr.up H 3 [S.Q]).trans f1 (fun x ab _=>ab)⟩
 by_cases h:a<b
 ·obtain⟨σ,cB,c9,rj⟩:=PL ok hw ar π e3 h ao kM (b- (a+1)) (a+1) π (by omega) (by omega) (dM.refl _ _ _) (fun i j U ak aP=>by omega);exact⟨σ,cB,c9,fin σ rj⟩
 ·obtain rfl:a=b:=by omega
  refine⟨π,dM.refl _ _ _,fun i j U ak aP=>by omega,fin π fun B H aX w=> ?_⟩;obtain⟨e,ah,U,aC,rfl,rfl,rfl⟩:=Hq H B a a (a+1) S.aH (cn g cs) (fun e ah U=>e=.exit 0∧ah=[(0,S.aH),(1,.int .i64 (a:Nat)),(2,.int .i64 (a:Nat)),(3,cn g cs),(8,.int .i64 ((a+1:Nat):Int))]∧U=up H 3) (ae aX ⟨b7 (by omega),rfl,rfl,rfl⟩);exact⟨_,(bf.last (by simp) aC).post (bL.facts (ed [] (by kernel_rfl))),w.aI ok (Fr.up H 3 []),Fr.up H 3 _⟩
theorem PN{a b:Nat}(π:Nat→Nat)(e3:h7 S.N π)(k3:a<b)(ao:b≤S.N):∀(dv i j:Nat),j-i≤dv→a+1≤i→i≤j→j≤b→(i=a+1∨less (π (i-1)) (π a)=true)→(j=b∨less (π j) (π a)=false) →
 ∃k,a+1≤k∧k≤b∧(k=a+1∨less (π (k-1)) (π a)=true)∧(k=b∨less (π k) (π a)=false)∧∀(B:Nat)(H:I),B≤H.next→S.dP H π →
 ∃H',bf Tryz.prog aq B 220 (aY Tryz.prog 237 0) [(0,S.aH),(1,.int .i64 (a:Nat)),(4,cn g cs),(10,.int .i64 (i:Nat)),(11,.int .i64 (j:Nat))] H
  (.exit 0) [(0,S.aH),(1,.int .i64 (a:Nat)),(10,.int .i64 (k:Nat))] H'∧S.dP H' π∧Fr H H' [S.Q]:=by
 have bA:=ok.n;intro dv;induction dv with
 |zero =>
  intro i j aS U ak aP aF aC;obtain rfl:i=j:=by omega
  refine⟨i,U,aP,aF,aC,fun B H aX w=> ?_⟩;obtain⟨e,ah,U,aC,rfl,rfl,rfl⟩:=O' H B a i i S.aH (cn g cs) (fun e ah U=>e=.exit 0∧ah=[(0,S.aH),(1,.int .i64 (a:Nat)),(4,cn g cs),(10,.int .i64 (i:Nat)),(11,.int .i64 (i:Nat))]∧U=up H 3) (ae aX ⟨b7 (by omega),rfl,rfl,rfl⟩);exact⟨_,(bf.last (by simp) aC).post (bL.facts (ed [0,1,10] (by kernel_rfl))),w.aI ok (Fr.up H 3 []),Fr.up H 3 _⟩
 |succ dv ih =>
  intro i j aS U ak aP aF aC;by_cases eO:i=j
  ·exact ih i j (by omega) U ak aP aF aC
  ·have ck:i≤(i+j)/2∧(i+j)/2<j:=by omega
   generalize pT:(i+j)/2=h at ck;by_cases h8:less (π h) (π a)=true
   ·obtain⟨k,k1,k2,bT,cr,c6⟩:=ih (h+1) j (by omega) (by omega) (by omega) aP (.inr (by rw [show h+1-1=h by omega];exact h8)) aC;refine⟨k,k1,k2,bT,cr,fun B H aX w=> ?_⟩;obtain⟨n,r,bK,D,cV,b9,f1⟩:=w.cmp ok hw ar (i:=h) (j:=a) (e3 h (by omega)) (e3 a (by omega)) 21;obtain⟨H',L,aN,bG⟩:=c6 B ⟨n+3,H.aj⟩ (by show B≤n+3;omega) (b9.aI ok (Fr.up ⟨n,H.aj⟩ 3 []));have lt:=w.1
    obtain⟨e,ah,hk,aC,rfl,rfl,rfl⟩:=O8 H ⟨n,H.aj⟩ B a i j h g cs S.aH (S.it (π h)) (S.it (π a)) (S.fP h) (S.fP a) r (fun e ah U=>e=.normal∧ah=[(0,S.aH),(1,.int .i64 (a:Nat)),(4,cn g cs),(10,.int .i64 ((h+1:Nat):Int)),(11,.int .i64 (j:Nat))]∧U=⟨n+3,H.aj⟩)
     (ae aX ⟨bB (by omega),ae (by omega) ⟨⟨by omega,by omega⟩,⟨by omega,by omega⟩,.mk 1,jm rfl (jl pT (by omega)),ae (by omega) ⟨S.ca rfl (by omega),w.fk ok (by omega) _,by show S.Q<H.next+10;omega,S.ca rfl (by omega),w.fk ok (by omega) _,by show S.Q<H.next+10;omega,⟨D⟩,bB (cV.2 h8),ae (by show B≤n;omega) ⟨⟨by omega,by omega⟩,rfl,by rw [dx],rfl⟩⟩⟩⟩)
    exact⟨H',bf.round aC (bL.refl _ _ _ _) L,aN,((f1.sub (M:=[S.Q]) (by simp)).trans (Fr.up ⟨n,H.aj⟩ 3 []) (by simp)).trans bG (fun x ab _=>ab)⟩
   ·have h8:less (π h) (π a)=false:=by simpa using h8
    obtain⟨k,k1,k2,bT,cr,c6⟩:=ih i h (by omega) U (by omega) (by omega) aF (.inr h8);refine⟨k,k1,k2,bT,cr,fun B H aX w=> ?_⟩;obtain⟨n,r,bK,D,cV,b9,f1⟩:=w.cmp ok hw ar (i:=h) (j:=a) (e3 h (by omega)) (e3 a (by omega)) 21;rw [h8]at cV;obtain⟨H',L,aN,bG⟩:=c6 B ⟨n+2,H.aj⟩ (by show B≤n+2;omega) (b9.aI ok (Fr.up ⟨n,H.aj⟩ 2 []));have lt:=w.1
    obtain⟨e,ah,hk,aC,rfl,rfl,rfl⟩:=O9 H ⟨n,H.aj⟩ B a i j h g cs S.aH (S.it (π h)) (S.it (π a)) (S.fP h) (S.fP a) r (fun e ah U=>e=.normal∧ah=[(0,S.aH),(1,.int .i64 (a:Nat)),(4,cn g cs),(10,.int .i64 (i:Nat)),(11,.int .i64 (h:Nat))]∧U=⟨n+2,H.aj⟩)
     (ae aX ⟨bB (by omega),ae (by omega) ⟨⟨by omega,by omega⟩,⟨by omega,by omega⟩,.mk 1,jm rfl (jl pT (by omega)),ae (by omega) ⟨S.ca rfl (by omega),w.fk ok (by omega) _,by show S.Q<H.next+10;omega,S.ca rfl (by omega),w.fk ok (by omega) _,by show S.Q<H.next+10;omega,⟨D⟩,b7 (fun h=>by have:=cV.1 h;cases this),ae (by show B≤n;omega) ⟨rfl,rfl,rfl⟩⟩⟩⟩)
    exact⟨H',bf.round aC (bL.refl _ _ _ _) L,aN,((f1.sub (M:=[S.Q]) (by simp)).trans (Fr.up ⟨n,H.aj⟩ 2 []) (by simp)).trans bG (fun x ab _=>ab)⟩
theorem PO{a i:Nat}(π:Nat→Nat)(ac:i≤S.N):∀(f k:Nat),k+1+f=i→a≤k→ ∀(B:Nat)(H:I),B≤H.next→S.dP H (dp π a (a+1) (k+1)) →
 ∃H',bf Tryz.prog aq B 220 (aY Tryz.prog 237 1) [(0,S.aH),(10,.int .i64 (i:Nat)),(13,.int .i64 (k:Nat))] H (.exit 2) [] H'∧S.dP H' (dp π a (a+1) i)∧Fr H H' [S.Q]:=by
 have bA:=ok.n;intro f;induction f with
 |zero =>
  intro k e h B H aX w;obtain rfl:i=k+1:=by omega
  obtain⟨e,ah,U,aC,rfl,rfl,rfl⟩:=Pb H B (k+1) k S.aH (fun e ah U=>e=.exit 2∧ah=[(0,S.aH),(10,.int .i64 ((k+1:Nat):Int)),(13,.int .i64 (k:Nat))]∧U=up H 4) (ae aX ⟨⟨by omega,by omega⟩,b7 (by omega),rfl,rfl,rfl⟩);exact⟨_,(bf.last (by simp) aC).post (bL.facts (ed [] (by kernel_rfl))),w.aI ok (Fr.up H 4 []),Fr.up H 4 _⟩
 |succ f ih =>
  intro k e h B H aX w;obtain⟨H1,af,s1,s2,cJ,f2,bK,n2⟩:=w.swap ok (i:=k) (j:=k+1) (by omega) (by omega) (by omega) 22
  have fb:=cJ (dp π a (a+1) (k+2)) (fun q aw=>by
   rw [←Ow π h];unfold oD;by_cases bo:q=k
   ·subst bo;rw [if_pos rfl,if_neg (by omega),if_pos rfl]
   ·rw [if_neg bo];by_cases bO:q=k+1
    ·rw [if_pos bO,if_pos bO]
    ·rw [if_neg bO,if_neg bO,if_neg bo])
  obtain⟨H',L,aN,bG⟩:=ih (k+1) (by omega) (by omega) B (up af 3) (by show B≤af.next+3;omega) (fb.aI ok (Fr.up af 3 []));have lt:=w.1
  obtain⟨e,ah,hk,aC,rfl,rfl,rfl⟩:=Pa H H1 af B i k S.aH (S.it (dp π a (a+1) (k+1) k)) (S.it (dp π a (a+1) (k+1) (k+1))) (S.fP k) (S.fP (k+1)) (fun e ah U=>e=.normal∧ah=[(0,S.aH),(10,.int .i64 (i:Nat)),(13,.int .i64 ((k+1:Nat):Int))]∧U=up af 3)
   (ae aX ⟨⟨by omega,by omega⟩,bB (by omega),ae (by omega) ⟨⟨by omega,by omega⟩,⟨by omega,by omega⟩,S.ca (by omega) (by omega),w.fk ok (by omega) _,by show S.Q<H.next+4;omega,S.ca rfl (by omega),w.fk ok (by omega) _,by show S.Q<H.next+4;omega,S.ca rfl (by omega),cR rfl rfl s1,S.ca (by omega) (by omega),cR rfl rfl s2,ae (by omega) ⟨⟨by omega,by omega⟩,rfl,by rw [dx],rfl⟩⟩⟩)
  exact⟨H',bf.round aC (bL.refl _ _ _ _) L,aN,(f2.trans (Fr.up af 3 []) (by simp)).trans bG (fun x ab _=>ab)⟩
theorem PP{a m:Nat}(π:Nat→Nat)(e3:h7 S.N π)(lS:a<m)(hm:m<S.N):∀(dv i j:Nat),j-i≤dv→a≤i→i≤j→j≤m→(i=a∨less (π m) (π (i-1))=false)→(j=m∨less (π m) (π j)=true) →
 ∃k,a≤k∧k≤m∧(k=a∨less (π m) (π (k-1))=false)∧(k=m∨less (π m) (π k)=true)∧∀(B:Nat)(H:I),B≤H.next→S.dP H π →
 ∃H',bf Tryz.prog aq B 220 (aY Tryz.prog 237 2) [(0,S.aH),(2,.int .i64 (m:Nat)),(4,cn g cs),(14,.int .i64 (i:Nat)),(15,.int .i64 (j:Nat))] H
  (.exit 4) [(0,S.aH),(2,.int .i64 (m:Nat)),(14,.int .i64 (k:Nat))] H'∧S.dP H' π∧Fr H H' [S.Q]:=by
 have bA:=ok.n;intro dv;induction dv with
 |zero =>
  intro i j aS U ak aP aF aC;obtain rfl:i=j:=by omega
  refine⟨i,U,aP,aF,aC,fun B H aX w=> ?_⟩;obtain⟨e,ah,U,aC,rfl,rfl,rfl⟩:=Pe H B m i i S.aH (cn g cs) (fun e ah U=>e=.exit 4∧ah=[(0,S.aH),(2,.int .i64 (m:Nat)),(4,cn g cs),(14,.int .i64 (i:Nat)),(15,.int .i64 (i:Nat))]∧U=up H 3) (ae aX ⟨b7 (by omega),rfl,rfl,rfl⟩);exact⟨_,(bf.last (by simp) aC).post (bL.facts (ed [0,2,14] (by kernel_rfl))),w.aI ok (Fr.up H 3 []),Fr.up H 3 _⟩
 |succ dv ih =>
  intro i j aS U ak aP aF aC;by_cases eO:i=j
  ·exact ih i j (by omega) U ak aP aF aC
  ·have ck:i≤(i+j)/2∧(i+j)/2<j:=by omega
   generalize pT:(i+j)/2=h at ck;by_cases h8:less (π m) (π h)=true
   ·obtain⟨k,k1,k2,bT,cr,c6⟩:=ih i h (by omega) U (by omega) (by omega) aF (.inr h8);refine⟨k,k1,k2,bT,cr,fun B H aX w=> ?_⟩;obtain⟨n,r,bK,D,cV,b9,f1⟩:=w.cmp ok hw ar (i:=m) (j:=h) (e3 m (by omega)) (e3 h (by omega)) 22;obtain⟨H',L,aN,bG⟩:=c6 B ⟨n+2,H.aj⟩ (by show B≤n+2;omega) (b9.aI ok (Fr.up ⟨n,H.aj⟩ 2 []));have lt:=w.1
    obtain⟨e,ah,hk,aC,rfl,rfl,rfl⟩:=Pc H ⟨n,H.aj⟩ B m i j h g cs S.aH (S.it (π m)) (S.it (π h)) (S.fP m) (S.fP h) r (fun e ah U=>e=.normal∧ah=[(0,S.aH),(2,.int .i64 (m:Nat)),(4,cn g cs),(14,.int .i64 (i:Nat)),(15,.int .i64 (h:Nat))]∧U=⟨n+2,H.aj⟩)
     (ae aX ⟨bB (by omega),ae (by omega) ⟨⟨by omega,by omega⟩,⟨by omega,by omega⟩,.mk 1,jm rfl (jl pT (by omega)),ae (by omega) ⟨S.ca rfl (by omega),w.fk ok (by omega) _,by show S.Q<H.next+10;omega,S.ca rfl (by omega),w.fk ok (by omega) _,by show S.Q<H.next+10;omega,⟨D⟩,bB (cV.2 h8),ae (by show B≤n;omega) ⟨rfl,rfl,rfl⟩⟩⟩⟩)
    exact⟨H',bf.round aC (bL.refl _ _ _ _) L,aN,((f1.sub (M:=[S.Q]) (by simp)).trans (Fr.up ⟨n,H.aj⟩ 2 []) (by simp)).trans bG (fun x ab _=>ab)⟩
   ·have h8:less (π m) (π h)=false:=by simpa using h8
    obtain⟨k,k1,k2,bT,cr,c6⟩:=ih (h+1) j (by omega) (by omega) (by omega) aP (.inr (by rw [show h+1-1=h by omega];exact h8)) aC;refine⟨k,k1,k2,bT,cr,fun B H aX w=> ?_⟩;obtain⟨n,r,bK,D,cV,b9,f1⟩:=w.cmp ok hw ar (i:=m) (j:=h) (e3 m (by omega)) (e3 h (by omega)) 22;rw [h8]at cV;obtain⟨H',L,aN,bG⟩:=c6 B ⟨n+3,H.aj⟩ (by show B≤n+3;omega) (b9.aI ok (Fr.up ⟨n,H.aj⟩ 3 []));have lt:=w.1
    obtain⟨e,ah,hk,aC,rfl,rfl,rfl⟩:=Pd H ⟨n,H.aj⟩ B m i j h g cs S.aH (S.it (π m)) (S.it (π h)) (S.fP m) (S.fP h) r (fun e ah U=>e=.normal∧ah=[(0,S.aH),(2,.int .i64 (m:Nat)),(4,cn g cs),(14,.int .i64 ((h+1:Nat):Int)),(15,.int .i64 (j:Nat))]∧U=⟨n+3,H.aj⟩)
     (ae aX ⟨bB (by omega),ae (by omega) ⟨⟨by omega,by omega⟩,⟨by omega,by omega⟩,.mk 1,jm rfl (jl pT (by omega)),ae (by omega) ⟨S.ca rfl (by omega),w.fk ok (by omega) _,by show S.Q<H.next+10;omega,S.ca rfl (by omega),w.fk ok (by omega) _,by show S.Q<H.next+10;omega,⟨D⟩,b7 (fun h=>by have:=cV.1 h;cases this),ae (by show B≤n;omega) ⟨⟨by omega,by omega⟩,rfl,by rw [dx],rfl⟩⟩⟩⟩)
    exact⟨H',bf.round aC (bL.refl _ _ _ _) L,aN,((f1.sub (M:=[S.Q]) (by simp)).trans (Fr.up ⟨n,H.aj⟩ 3 []) (by simp)).trans bG (fun x ab _=>ab)⟩
theorem PQ{m i:Nat}(π:Nat→Nat)(hm:m<S.N):∀(f k:Nat),i+f=k→k≤m→ ∀(B:Nat)(H:I),B≤H.next→S.dP H (dp π k m (m+1)) →
 ∃H',bf Tryz.prog aq B 220 (aY Tryz.prog 237 3) [(0,S.aH),(14,.int .i64 (i:Nat)),(17,.int .i64 (k:Nat))] H (.exit 6) [] H'∧S.dP H' (dp π i m (m+1))∧Fr H H' [S.Q]:=by
 have bA:=ok.n;intro f;induction f with
 |zero =>
  intro k e h B H aX w;obtain rfl:i=k:=by omega
  obtain⟨e,ah,U,aC,rfl,rfl,rfl⟩:=Pg H B i i S.aH (fun e ah U=>e=.exit 6∧ah=[(0,S.aH),(14,.int .i64 (i:Nat)),(17,.int .i64 (i:Nat))]∧U=up H 3) (ae aX ⟨b7 (by omega),rfl,rfl,rfl⟩);exact⟨_,(bf.last (by simp) aC).post (bL.facts (ed [] (by kernel_rfl))),w.aI ok (Fr.up H 3 []),Fr.up H 3 _⟩
 |succ f ih =>
  intro k e h B H aX w;obtain⟨q,rfl⟩:∃q,k=q+1:=⟨k-1,by omega⟩
  obtain⟨H1,af,s1,s2,cJ,f2,bK,n2⟩:=w.swap ok (i:=q+1) (j:=q) (by omega) (by omega) (by omega) 21
  have fb:=cJ (dp π q m (m+1)) (fun x ab=>by
   have r:=Oz π h (by omega);rw [show q+1-1=q by omega]at r;rw [←r];unfold oD;by_cases bo:x=q
   ·rw [if_pos bo]
   ·rw [if_neg bo])
  obtain⟨H',L,aN,bG⟩:=ih q (by omega) (by omega) B (up af 3) (by show B≤af.next+3;omega) (fb.aI ok (Fr.up af 3 []));have lt:=w.1
  obtain⟨e,ah,hk,aC,rfl,rfl,rfl⟩:=Pf H H1 af B i (q+1) S.aH (S.it (dp π (q+1) m (m+1) (q+1))) (S.it (dp π (q+1) m (m+1) q)) (S.fP (q+1)) (S.fP q) (fun e ah U=>e=.normal∧ah=[(0,S.aH),(14,.int .i64 (i:Nat)),(17,.int .i64 (q:Nat))]∧U=up af 3)
   (ae aX ⟨bB (by omega),ae (by omega) ⟨⟨by omega,by omega⟩,⟨by omega,by omega⟩,S.ca (by omega) (by omega),w.fk ok (by omega) _,by show S.Q<H.next+3;omega,S.ca rfl (by omega),w.fk ok (by omega) _,by show S.Q<H.next+3;omega,S.ca rfl (by omega),cR rfl rfl s1,S.ca (by omega) (by omega),cR rfl rfl s2,ae (by omega) ⟨⟨by omega,by omega⟩,rfl,by rw [show((q+1:Nat):Int)-1=(q:Int)by omega],rfl⟩⟩⟩)
  exact⟨H',bf.round aC (bL.refl _ _ _ _) L,aN,(f2.trans (Fr.up af 3 []) (by simp)).trans bG (fun x ab _=>ab)⟩
theorem PR{a m b d n p s0 r0:Nat}(π:Nat→Nat)(e3:h7 S.N π)(ag:∀h,s0≤h→h<r0→h≤p∧p-h<S.N∧h<S.N)(Wv:p<2^50)(D5:r0≤S.N):∀(dv i j:Nat),j-i≤dv→s0≤i→i≤j→j≤r0→(i=s0∨less (π (p- (i-1))) (π (i-1))=false)→(j=r0∨less (π (p-j)) (π j)=true) →
 ∃k,s0≤k∧k≤r0∧(k=s0∨less (π (p- (k-1))) (π (k-1))=false)∧(k=r0∨less (π (p-k)) (π k)=true)∧∀(B:Nat)(H:I),B≤H.next→S.dP H π →
 ∃H',bf Tryz.prog aq B 220 (aY Tryz.prog 237 4) [(0,S.aH),(1,.int .i64 (a:Nat)),(2,.int .i64 (m:Nat)),(3,.int .i64 (b:Nat)),(4,cn g cs),(18,.int .i64 (d:Nat)),(19,.int .i64 (n:Nat)),(20,.int .i64 (i:Nat)),(21,.int .i64 (j:Nat)),(22,.int .i64 (p:Nat))] H
  (.exit 8) [(0,S.aH),(1,.int .i64 (a:Nat)),(2,.int .i64 (m:Nat)),(3,.int .i64 (b:Nat)),(4,cn g cs),(18,.int .i64 (d:Nat)),(19,.int .i64 (n:Nat)),(20,.int .i64 (k:Nat))] H'∧S.dP H' π∧Fr H H' [S.Q]:=by
 have bA:=ok.n;intro dv;induction dv with
 |zero =>
  intro i j aS U ak aP aF aC;obtain rfl:i=j:=by omega
  refine⟨i,U,aP,aF,aC,fun B H aX w=> ?_⟩;obtain⟨e,ah,U,aC,rfl,rfl,rfl⟩:=Pk H B a m b d n i i p S.aH (cn g cs) (fun e ah U=>e=.exit 8∧ah=[(0,S.aH),(1,.int .i64 (a:Nat)),(2,.int .i64 (m:Nat)),(3,.int .i64 (b:Nat)),(4,cn g cs),(18,.int .i64 (d:Nat)),(19,.int .i64 (n:Nat)),(20,.int .i64 (i:Nat)),(21,.int .i64 (i:Nat)),(22,.int .i64 (p:Nat))]∧U=up H 3) (ae aX ⟨b7 (by omega),rfl,rfl,rfl⟩);exact⟨_,(bf.last (by simp) aC).post (bL.facts (ed [0,1,2,3,4,18,19,20] (by kernel_rfl))),w.aI ok (Fr.up H 3 []),Fr.up H 3 _⟩
 |succ dv ih =>
  intro i j aS U ak aP aF aC;by_cases eO:i=j
  ·exact ih i j (by omega) U ak aP aF aC
  ·have ck:i≤(i+j)/2∧(i+j)/2<j:=by omega
   generalize pT:(i+j)/2=h at ck;obtain⟨cv,bu,bS⟩:=ag h (by omega) (by omega);by_cases h8:less (π (p-h)) (π h)=true
   ·obtain⟨k,k1,k2,bT,cr,c6⟩:=ih i h (by omega) U (by omega) (by omega) aF (.inr h8);refine⟨k,k1,k2,bT,cr,fun B H aX w=> ?_⟩;obtain⟨dC,r,bK,D,cV,b9,f1⟩:=w.cmp ok hw ar (i:=p-h) (j:=h) (e3 (p-h) bu) (e3 h bS) 24;obtain⟨H',L,aN,bG⟩:=c6 B ⟨dC+2,H.aj⟩ (by show B≤dC+2;omega) (b9.aI ok (Fr.up ⟨dC,H.aj⟩ 2 []));have lt:=w.1
    obtain⟨e,ah,hk,aC,rfl,rfl,rfl⟩:=Ph H ⟨dC,H.aj⟩ B a m b d n i j p h g cs S.aH (S.it (π (p-h))) (S.it (π h)) (S.fP (p-h)) (S.fP h) r (fun e ah U=>e=.normal∧ah=[(0,S.aH),(1,.int .i64 (a:Nat)),(2,.int .i64 (m:Nat)),(3,.int .i64 (b:Nat)),(4,cn g cs),(18,.int .i64 (d:Nat)),(19,.int .i64 (n:Nat)),(20,.int .i64 (i:Nat)),(21,.int .i64 (h:Nat)),(22,.int .i64 (p:Nat))]∧U=⟨dC+2,H.aj⟩)
     (ae aX ⟨bB (by omega),ae (by omega) ⟨⟨by omega,by omega⟩,⟨by omega,by omega⟩,.mk 1,jm rfl (jl pT (by omega)),ae (by omega) ⟨⟨by omega,by omega⟩,S.ca (by omega) bu,w.fk ok bu _,by show S.Q<H.next+10;omega,S.ca rfl bS,w.fk ok bS _,by show S.Q<H.next+10;omega,⟨D⟩,bB (cV.2 h8),ae (by show B≤dC;omega) ⟨rfl,rfl,rfl⟩⟩⟩⟩)
    exact⟨H',bf.round aC (bL.refl _ _ _ _) L,aN,((f1.sub (M:=[S.Q]) (by simp)).trans (Fr.up ⟨dC,H.aj⟩ 2 []) (by simp)).trans bG (fun x ab _=>ab)⟩
   ·have h8:less (π (p-h)) (π h)=false:=by simpa using h8
    obtain⟨k,k1,k2,bT,cr,c6⟩:=ih (h+1) j (by omega) (by omega) (by omega) aP (.inr (by rw [show h+1-1=h by omega];exact h8)) aC;refine⟨k,k1,k2,bT,cr,fun B H aX w=> ?_⟩;obtain⟨dC,r,bK,D,cV,b9,f1⟩:=w.cmp ok hw ar (i:=p-h) (j:=h) (e3 (p-h) bu) (e3 h bS) 24;rw [h8]at cV;obtain⟨H',L,aN,bG⟩:=c6 B ⟨dC+3,H.aj⟩ (by show B≤dC+3;omega) (b9.aI ok (Fr.up ⟨dC,H.aj⟩ 3 []));have lt:=w.1
    obtain⟨e,ah,hk,aC,rfl,rfl,rfl⟩:=Pj H ⟨dC,H.aj⟩ B a m b d n i j p h g cs S.aH (S.it (π (p-h))) (S.it (π h)) (S.fP (p-h)) (S.fP h) r (fun e ah U=>e=.normal∧ah=[(0,S.aH),(1,.int .i64 (a:Nat)),(2,.int .i64 (m:Nat)),(3,.int .i64 (b:Nat)),(4,cn g cs),(18,.int .i64 (d:Nat)),(19,.int .i64 (n:Nat)),(20,.int .i64 ((h+1:Nat):Int)),(21,.int .i64 (j:Nat)),(22,.int .i64 (p:Nat))]∧U=⟨dC+3,H.aj⟩)
     (ae aX ⟨bB (by omega),ae (by omega) ⟨⟨by omega,by omega⟩,⟨by omega,by omega⟩,.mk 1,jm rfl (jl pT (by omega)),ae (by omega) ⟨⟨by omega,by omega⟩,S.ca (by omega) bu,w.fk ok bu _,by show S.Q<H.next+10;omega,S.ca rfl bS,w.fk ok bS _,by show S.Q<H.next+10;omega,⟨D⟩,b7 (fun h=>by have:=cV.1 h;cases this),ae (by show B≤dC;omega) ⟨⟨by omega,by omega⟩,rfl,by rw [dx],rfl⟩⟩⟩⟩)
    exact⟨H',bf.round aC (bL.refl _ _ _ _) L,aN,((f1.sub (M:=[S.Q]) (by simp)).trans (Fr.up ⟨dC,H.aj⟩ 3 []) (by simp)).trans bG (fun x ab _=>ab)⟩
end
end Go.Proofs.YtjpfnbihopoeeaaGreatDoor
namespace Go.Proofs.YtjpfnbihopoeeaaGreatDoor
open Go.ba
theorem eR{n:Int}{c:Nat}(h:n=c)(ar:c<2^62):some (J.int .i64 (IntKind.wrap .i64 n))=some (J.int .i64 (c:Int)):=by rw [h,Hv (by omega) (by omega)]
theorem gX{n:Int}(h:¬n=1):some (J.bool (n == 1))=some (J.bool false):=by rw [beq_eq_false_iff_ne.2 h]
theorem Hx{n:Int}(h:n=1):some (J.bool (n == 1))=some (J.bool true):=by rw [h];rfl
theorem PS(π:Nat→Nat){m b:Nat}(h:m≤b):dp π m m b=π:=by
 funext k
 unfold dp;by_cases c:m≤k∧k<m+(b-m)
 ·rw [if_pos c];congr 1;omega
 ·rw [if_neg c,if_neg (by omega)]
theorem PT(π:Nat→Nat){a m:Nat}(h:a≤m):dp π a m m=π:=by
 funext k
 unfold dp;rw [if_neg (by omega)];by_cases c:a+(m-m)≤k∧k<m
 ·rw [if_pos c];congr 1;omega
 ·rw [if_neg c]
section
variable {S:ff}(ok:S.dG){g:FuncId}{cs:List J}{less:Nat→Nat→Bool}(hw:u4 less)(ar:S.yl g cs less)
include ok
theorem PU{a m b k bp e:Nat}(π ρ σ eK:Nat→Nat)(jk:bp=(a+b)/2)(he:e=bp+m-k)(fL:k≤m)(fM:k≤bp)(PV:a≤k)(PW:e≤b)(lS:a<m)(oj:m≠a+1)(nG:m<b)(iI:b≠m+1)(ao:b≤S.N)(bl:bp<m)
 (sh:∀(B:Nat)(H:I),B≤H.next→S.dP H π→ ∃H',bf Tryz.prog aq B 220 (aY Tryz.prog 237 4) [(0,S.aH),(1,.int .i64 (a:Nat)),(2,.int .i64 (m:Nat)),(3,.int .i64 (b:Nat)),(4,cn g cs),(18,.int .i64 (bp:Nat)),(19,.int .i64 ((bp+m:Nat):Int)),(20,.int .i64 ((bp+m-b:Nat):Int)),(21,.int .i64 ((bp:Nat):Int)),(22,.int .i64 ((bp+m-1:Nat):Int))] H
  (.exit 8) [(0,S.aH),(1,.int .i64 (a:Nat)),(2,.int .i64 (m:Nat)),(3,.int .i64 (b:Nat)),(4,cn g cs),(18,.int .i64 (bp:Nat)),(19,.int .i64 ((bp+m:Nat):Int)),(20,.int .i64 (k:Nat))] H'∧S.dP H' π∧Fr H H' [S.Q])
 (aC:(k<m∧m<e∧S.Do 249 [S.aH,.int .i64 (k:Nat),.int .i64 (m:Nat),.int .i64 (e:Nat),cn g cs] π ρ)∨(k<m∧¬m<e∧π=ρ)∨(¬k<m∧π=ρ))
 (aF:(a<k∧k<bp∧S.Do 237 [S.aH,.int .i64 (a:Nat),.int .i64 (k:Nat),.int .i64 (bp:Nat),cn g cs] ρ σ)∨(a<k∧¬k<bp∧ρ=σ)∨(¬a<k∧ρ=σ))
 (aM:(bp<e∧e<b∧S.Do 237 [S.aH,.int .i64 (bp:Nat),.int .i64 (e:Nat),.int .i64 (b:Nat),cn g cs] σ eK)∨(bp<e∧¬e<b∧σ=eK)∨(¬bp<e∧σ=eK)) :
 S.Do 237 [S.aH,.int .i64 (a:Nat),.int .i64 (m:Nat),.int .i64 (b:Nat),cn g cs] π eK:=by
 have bA:=ok.n;intro H w;obtain⟨H1,L,b9,g1⟩:=sh H.next (up H 33) (by show H.next≤H.next+33;omega) (w.aI ok (Fr.up H 33 []))
 have bK:H.next+33≤H1.next:=g1.next
 have h6:Fr H H1 [S.Q]:=(Fr.up H 33 [S.Q]).trans g1 (fun x ab _=>ab);rcases aC with ⟨cB,c9,oI⟩|⟨cB,c9,rfl⟩|⟨cB,rfl⟩
 ·rcases aF with ⟨dt,bX,pU⟩|⟨dt,bX,rfl⟩|⟨dt,rfl⟩
  ·rcases aM with ⟨d1,d2,dd⟩|⟨d1,d2,rfl⟩|⟨d1,rfl⟩
   ·obtain⟨af,j9,j',gY⟩:=oI (up H1 18) (b9.aI ok (Fr.up H1 18 []));have rk:H1.next+18≤af.next:=gY.next
    have hN:Fr H af [S.Q]:=(h6.trans (Fr.up H1 18 []) (by simp)).trans gY (fun x ab _=>ab);obtain⟨ax,oJ,oK,kN⟩:=pU (up af 14) (j'.aI ok (Fr.up af 14 []));have ym:af.next+14≤ax.next:=kN.next
    have lq:Fr H ax [S.Q]:=(hN.trans (Fr.up af 14 []) (by simp)).trans kN (fun x ab _=>ab);obtain⟨au,oL,oM,kO⟩:=dd (up ax 14) (oK.aI ok (Fr.up ax 14 []));have yn:ax.next+14≤au.next:=kO.next
    have mE:Fr H au [S.Q]:=(lq.trans (Fr.up ax 14 []) (by simp)).trans kO (fun x ab _=>ab)
    obtain⟨v,U,aM,rfl,rfl⟩:=Po H H1 af ax au a m b bp (bp+m) (bp+m-b) (bp+m-1) k e S.aH (cn g cs) (fun v U=>v=.tuple []∧U=au)
     (ae (Nat.le_refl _) ⟨⟨by omega,by omega⟩,gX (by omega),ae (by omega) ⟨⟨by omega,by omega⟩,gX (by omega),ae (by omega) ⟨⟨by omega,by omega⟩,⟨by omega,by omega⟩,.mk 1,jm rfl (jl jk.symm (by omega)),ae (by omega) ⟨eR (by omega) (by omega),ae (by omega) (ae (by omega) ⟨bB (by omega),ae (by omega) ⟨eR (by omega) (by omega),ae (by omega) (ae (by omega) ⟨eR (by omega) (by omega),⟨aR.cx L,ae (by omega) ⟨eR (by omega) (by omega),ae (by omega) ⟨bB (by omega),⟨bB (by omega),ae (by omega) ⟨⟨j9⟩,ae (by omega) ⟨bB (by omega),⟨bB (by omega),ae (by omega) ⟨⟨oJ⟩,ae (by omega) ⟨bB (by omega),⟨bB (by omega),ae (by omega) ⟨⟨oL⟩,df (by omega) ⟨rfl,rfl⟩⟩⟩⟩⟩⟩⟩⟩⟩⟩⟩⟩⟩)⟩⟩)⟩⟩⟩⟩)
    exact⟨_,aM,oM,mE⟩
   ·obtain⟨af,j9,j',gY⟩:=oI (up H1 18) (b9.aI ok (Fr.up H1 18 []));have rk:H1.next+18≤af.next:=gY.next
    have hN:Fr H af [S.Q]:=(h6.trans (Fr.up H1 18 []) (by simp)).trans gY (fun x ab _=>ab);obtain⟨ax,oJ,oK,kN⟩:=pU (up af 14) (j'.aI ok (Fr.up af 14 []));have ym:af.next+14≤ax.next:=kN.next
    have lq:Fr H ax [S.Q]:=(hN.trans (Fr.up af 14 []) (by simp)).trans kN (fun x ab _=>ab)
    obtain⟨v,U,aM,rfl,rfl⟩:=Pp H H1 af ax H a m b bp (bp+m) (bp+m-b) (bp+m-1) k e S.aH (cn g cs) (fun v U=>v=.tuple []∧U=up ax 8)
     (ae (Nat.le_refl _) ⟨⟨by omega,by omega⟩,gX (by omega),ae (by omega) ⟨⟨by omega,by omega⟩,gX (by omega),ae (by omega) ⟨⟨by omega,by omega⟩,⟨by omega,by omega⟩,.mk 1,jm rfl (jl jk.symm (by omega)),ae (by omega) ⟨eR (by omega) (by omega),ae (by omega) (ae (by omega) ⟨bB (by omega),ae (by omega) ⟨eR (by omega) (by omega),ae (by omega) (ae (by omega) ⟨eR (by omega) (by omega),⟨aR.cx L,ae (by omega) ⟨eR (by omega) (by omega),ae (by omega) ⟨bB (by omega),⟨bB (by omega),ae (by omega) ⟨⟨j9⟩,ae (by omega) ⟨bB (by omega),⟨bB (by omega),ae (by omega) ⟨⟨oJ⟩,ae (by omega) ⟨bB (by omega),⟨b7 (by omega),df (by show H.next≤ax.next+8;omega) ⟨rfl,rfl⟩⟩⟩⟩⟩⟩⟩⟩⟩⟩⟩⟩)⟩⟩)⟩⟩⟩⟩)
    exact⟨_,aM,oK.aI ok (Fr.up ax 8 []),lq.trans (Fr.up ax 8 []) (by simp)⟩
   ·omega
  ·omega
  ·rcases aM with ⟨d1,d2,dd⟩|⟨d1,d2,rfl⟩|⟨d1,rfl⟩
   ·obtain⟨af,j9,j',gY⟩:=oI (up H1 18) (b9.aI ok (Fr.up H1 18 []));have rk:H1.next+18≤af.next:=gY.next
    have hN:Fr H af [S.Q]:=(h6.trans (Fr.up H1 18 []) (by simp)).trans gY (fun x ab _=>ab);obtain⟨au,oL,oM,kO⟩:=dd (up af 22) (j'.aI ok (Fr.up af 22 []));have yn:af.next+22≤au.next:=kO.next
    have mE:Fr H au [S.Q]:=(hN.trans (Fr.up af 22 []) (by simp)).trans kO (fun x ab _=>ab)
    obtain⟨v,U,aM,rfl,rfl⟩:=Pq H H1 af H au a m b bp (bp+m) (bp+m-b) (bp+m-1) k e S.aH (cn g cs) (fun v U=>v=.tuple []∧U=au)
     (ae (Nat.le_refl _) ⟨⟨by omega,by omega⟩,gX (by omega),ae (by omega) ⟨⟨by omega,by omega⟩,gX (by omega),ae (by omega) ⟨⟨by omega,by omega⟩,⟨by omega,by omega⟩,.mk 1,jm rfl (jl jk.symm (by omega)),ae (by omega) ⟨eR (by omega) (by omega),ae (by omega) (ae (by omega) ⟨bB (by omega),ae (by omega) ⟨eR (by omega) (by omega),ae (by omega) (ae (by omega) ⟨eR (by omega) (by omega),⟨aR.cx L,ae (by omega) ⟨eR (by omega) (by omega),ae (by omega) ⟨bB (by omega),⟨bB (by omega),ae (by omega) ⟨⟨j9⟩,ae (by omega) ⟨b7 (by omega),ae (by omega) ⟨bB (by omega),⟨bB (by omega),ae (by omega) ⟨⟨oL⟩,df (by omega) ⟨rfl,rfl⟩⟩⟩⟩⟩⟩⟩⟩⟩⟩⟩)⟩⟩)⟩⟩⟩⟩)
    exact⟨_,aM,oM,mE⟩
   ·obtain⟨af,j9,j',gY⟩:=oI (up H1 18) (b9.aI ok (Fr.up H1 18 []));have rk:H1.next+18≤af.next:=gY.next
    have hN:Fr H af [S.Q]:=(h6.trans (Fr.up H1 18 []) (by simp)).trans gY (fun x ab _=>ab)
    obtain⟨v,U,aM,rfl,rfl⟩:=Pr H H1 af H H a m b bp (bp+m) (bp+m-b) (bp+m-1) k e S.aH (cn g cs) (fun v U=>v=.tuple []∧U=up af 16)
     (ae (Nat.le_refl _) ⟨⟨by omega,by omega⟩,gX (by omega),ae (by omega) ⟨⟨by omega,by omega⟩,gX (by omega),ae (by omega) ⟨⟨by omega,by omega⟩,⟨by omega,by omega⟩,.mk 1,jm rfl (jl jk.symm (by omega)),ae (by omega) ⟨eR (by omega) (by omega),ae (by omega) (ae (by omega) ⟨bB (by omega),ae (by omega) ⟨eR (by omega) (by omega),ae (by omega) (ae (by omega) ⟨eR (by omega) (by omega),⟨aR.cx L,ae (by omega) ⟨eR (by omega) (by omega),ae (by omega) ⟨bB (by omega),⟨bB (by omega),ae (by omega) ⟨⟨j9⟩,ae (by omega) ⟨b7 (by omega),ae (by omega) ⟨bB (by omega),⟨b7 (by omega),df (by show H.next≤af.next+16;omega) ⟨rfl,rfl⟩⟩⟩⟩⟩⟩⟩⟩⟩⟩)⟩⟩)⟩⟩⟩⟩)
    exact⟨_,aM,j'.aI ok (Fr.up af 16 []),hN.trans (Fr.up af 16 []) (by simp)⟩
   ·omega
 ·rcases aF with ⟨dt,bX,pU⟩|⟨dt,bX,rfl⟩|⟨dt,rfl⟩
  ·omega
  ·rcases aM with ⟨d1,d2,dd⟩|⟨d1,d2,rfl⟩|⟨d1,rfl⟩
   ·obtain⟨au,oL,oM,kO⟩:=dd (up H1 34) (b9.aI ok (Fr.up H1 34 []));have yn:H1.next+34≤au.next:=kO.next
    have mE:Fr H au [S.Q]:=(h6.trans (Fr.up H1 34 []) (by simp)).trans kO (fun x ab _=>ab)
    obtain⟨v,U,aM,rfl,rfl⟩:=Pn H H1 H H au a m b bp (bp+m) (bp+m-b) (bp+m-1) k e S.aH (cn g cs) (fun v U=>v=.tuple []∧U=au)
     (ae (Nat.le_refl _) ⟨⟨by omega,by omega⟩,gX (by omega),ae (by omega) ⟨⟨by omega,by omega⟩,gX (by omega),ae (by omega) ⟨⟨by omega,by omega⟩,⟨by omega,by omega⟩,.mk 1,jm rfl (jl jk.symm (by omega)),ae (by omega) ⟨eR (by omega) (by omega),ae (by omega) (ae (by omega) ⟨bB (by omega),ae (by omega) ⟨eR (by omega) (by omega),ae (by omega) (ae (by omega) ⟨eR (by omega) (by omega),⟨aR.cx L,ae (by omega) ⟨eR (by omega) (by omega),ae (by omega) ⟨bB (by omega),⟨b7 (by omega),ae (by omega) ⟨bB (by omega),⟨b7 (by omega),ae (by omega) ⟨bB (by omega),⟨bB (by omega),ae (by omega) ⟨⟨oL⟩,df (by omega) ⟨rfl,rfl⟩⟩⟩⟩⟩⟩⟩⟩⟩⟩⟩)⟩⟩)⟩⟩⟩⟩)
    exact⟨_,aM,oM,mE⟩
   ·omega
   ·omega
  ·omega
 ·omega
theorem PX{a m b k bp e:Nat}(π ρ σ eK:Nat→Nat)(jk:bp=(a+b)/2)(he:e=bp+m-k)(fL:k≤m)(fM:k≤bp)(PV:a≤k)(PW:e≤b)(lS:a<m)(oj:m≠a+1)(nG:m<b)(iI:b≠m+1)(ao:b≤S.N)(bl:¬bp<m)
 (sh:∀(B:Nat)(H:I),B≤H.next→S.dP H π→ ∃H',bf Tryz.prog aq B 220 (aY Tryz.prog 237 4) [(0,S.aH),(1,.int .i64 (a:Nat)),(2,.int .i64 (m:Nat)),(3,.int .i64 (b:Nat)),(4,cn g cs),(18,.int .i64 (bp:Nat)),(19,.int .i64 ((bp+m:Nat):Int)),(20,.int .i64 ((a:Nat):Int)),(21,.int .i64 ((m:Nat):Int)),(22,.int .i64 ((bp+m-1:Nat):Int))] H
  (.exit 8) [(0,S.aH),(1,.int .i64 (a:Nat)),(2,.int .i64 (m:Nat)),(3,.int .i64 (b:Nat)),(4,cn g cs),(18,.int .i64 (bp:Nat)),(19,.int .i64 ((bp+m:Nat):Int)),(20,.int .i64 (k:Nat))] H'∧S.dP H' π∧Fr H H' [S.Q])
 (aC:(k<m∧m<e∧S.Do 249 [S.aH,.int .i64 (k:Nat),.int .i64 (m:Nat),.int .i64 (e:Nat),cn g cs] π ρ)∨(k<m∧¬m<e∧π=ρ)∨(¬k<m∧π=ρ))
 (aF:(a<k∧k<bp∧S.Do 237 [S.aH,.int .i64 (a:Nat),.int .i64 (k:Nat),.int .i64 (bp:Nat),cn g cs] ρ σ)∨(a<k∧¬k<bp∧ρ=σ)∨(¬a<k∧ρ=σ))
 (aM:(bp<e∧e<b∧S.Do 237 [S.aH,.int .i64 (bp:Nat),.int .i64 (e:Nat),.int .i64 (b:Nat),cn g cs] σ eK)∨(bp<e∧¬e<b∧σ=eK)∨(¬bp<e∧σ=eK)) :
 S.Do 237 [S.aH,.int .i64 (a:Nat),.int .i64 (m:Nat),.int .i64 (b:Nat),cn g cs] π eK:=by
 have bA:=ok.n;intro H w;obtain⟨H1,L,b9,g1⟩:=sh H.next (up H 31) (by show H.next≤H.next+31;omega) (w.aI ok (Fr.up H 31 []))
 have bK:H.next+31≤H1.next:=g1.next
 have h6:Fr H H1 [S.Q]:=(Fr.up H 31 [S.Q]).trans g1 (fun x ab _=>ab);rcases aC with ⟨cB,c9,oI⟩|⟨cB,c9,rfl⟩|⟨cB,rfl⟩
 ·rcases aF with ⟨dt,bX,pU⟩|⟨dt,bX,rfl⟩|⟨dt,rfl⟩
  ·rcases aM with ⟨d1,d2,dd⟩|⟨d1,d2,rfl⟩|⟨d1,rfl⟩
   ·obtain⟨af,j9,j',gY⟩:=oI (up H1 18) (b9.aI ok (Fr.up H1 18 []));have rk:H1.next+18≤af.next:=gY.next
    have hN:Fr H af [S.Q]:=(h6.trans (Fr.up H1 18 []) (by simp)).trans gY (fun x ab _=>ab);obtain⟨ax,oJ,oK,kN⟩:=pU (up af 14) (j'.aI ok (Fr.up af 14 []));have ym:af.next+14≤ax.next:=kN.next
    have lq:Fr H ax [S.Q]:=(hN.trans (Fr.up af 14 []) (by simp)).trans kN (fun x ab _=>ab);obtain⟨au,oL,oM,kO⟩:=dd (up ax 14) (oK.aI ok (Fr.up ax 14 []));have yn:ax.next+14≤au.next:=kO.next
    have mE:Fr H au [S.Q]:=(lq.trans (Fr.up ax 14 []) (by simp)).trans kO (fun x ab _=>ab)
    obtain⟨v,U,aM,rfl,rfl⟩:=Ps H H1 af ax au a m b bp (bp+m) (bp+m-b) (bp+m-1) k e S.aH (cn g cs) (fun v U=>v=.tuple []∧U=au)
     (ae (Nat.le_refl _) ⟨⟨by omega,by omega⟩,gX (by omega),ae (by omega) ⟨⟨by omega,by omega⟩,gX (by omega),ae (by omega) ⟨⟨by omega,by omega⟩,⟨by omega,by omega⟩,.mk 1,jm rfl (jl jk.symm (by omega)),ae (by omega) ⟨eR (by omega) (by omega),ae (by omega) (ae (by omega) ⟨b7 (by omega),ae (by omega) (ae (by omega) (ae (by omega) ⟨eR (by omega) (by omega),⟨aR.cx L,ae (by omega) ⟨eR (by omega) (by omega),ae (by omega) ⟨bB (by omega),⟨bB (by omega),ae (by omega) ⟨⟨j9⟩,ae (by omega) ⟨bB (by omega),⟨bB (by omega),ae (by omega) ⟨⟨oJ⟩,ae (by omega) ⟨bB (by omega),⟨bB (by omega),ae (by omega) ⟨⟨oL⟩,df (by omega) ⟨rfl,rfl⟩⟩⟩⟩⟩⟩⟩⟩⟩⟩⟩⟩⟩))⟩)⟩⟩⟩⟩)
    exact⟨_,aM,oM,mE⟩
   ·obtain⟨af,j9,j',gY⟩:=oI (up H1 18) (b9.aI ok (Fr.up H1 18 []));have rk:H1.next+18≤af.next:=gY.next
    have hN:Fr H af [S.Q]:=(h6.trans (Fr.up H1 18 []) (by simp)).trans gY (fun x ab _=>ab);obtain⟨ax,oJ,oK,kN⟩:=pU (up af 14) (j'.aI ok (Fr.up af 14 []));have ym:af.next+14≤ax.next:=kN.next
    have lq:Fr H ax [S.Q]:=(hN.trans (Fr.up af 14 []) (by simp)).trans kN (fun x ab _=>ab)
    obtain⟨v,U,aM,rfl,rfl⟩:=Pt H H1 af ax H a m b bp (bp+m) (bp+m-b) (bp+m-1) k e S.aH (cn g cs) (fun v U=>v=.tuple []∧U=up ax 8)
     (ae (Nat.le_refl _) ⟨⟨by omega,by omega⟩,gX (by omega),ae (by omega) ⟨⟨by omega,by omega⟩,gX (by omega),ae (by omega) ⟨⟨by omega,by omega⟩,⟨by omega,by omega⟩,.mk 1,jm rfl (jl jk.symm (by omega)),ae (by omega) ⟨eR (by omega) (by omega),ae (by omega) (ae (by omega) ⟨b7 (by omega),ae (by omega) (ae (by omega) (ae (by omega) ⟨eR (by omega) (by omega),⟨aR.cx L,ae (by omega) ⟨eR (by omega) (by omega),ae (by omega) ⟨bB (by omega),⟨bB (by omega),ae (by omega) ⟨⟨j9⟩,ae (by omega) ⟨bB (by omega),⟨bB (by omega),ae (by omega) ⟨⟨oJ⟩,ae (by omega) ⟨bB (by omega),⟨b7 (by omega),df (by show H.next≤ax.next+8;omega) ⟨rfl,rfl⟩⟩⟩⟩⟩⟩⟩⟩⟩⟩⟩⟩))⟩)⟩⟩⟩⟩)
    exact⟨_,aM,oK.aI ok (Fr.up ax 8 []),lq.trans (Fr.up ax 8 []) (by simp)⟩
   ·omega
  ·omega
  ·rcases aM with ⟨d1,d2,dd⟩|⟨d1,d2,rfl⟩|⟨d1,rfl⟩
   ·obtain⟨af,j9,j',gY⟩:=oI (up H1 18) (b9.aI ok (Fr.up H1 18 []));have rk:H1.next+18≤af.next:=gY.next
    have hN:Fr H af [S.Q]:=(h6.trans (Fr.up H1 18 []) (by simp)).trans gY (fun x ab _=>ab);obtain⟨au,oL,oM,kO⟩:=dd (up af 22) (j'.aI ok (Fr.up af 22 []));have yn:af.next+22≤au.next:=kO.next
    have mE:Fr H au [S.Q]:=(hN.trans (Fr.up af 22 []) (by simp)).trans kO (fun x ab _=>ab)
    obtain⟨v,U,aM,rfl,rfl⟩:=Pu H H1 af H au a m b bp (bp+m) (bp+m-b) (bp+m-1) k e S.aH (cn g cs) (fun v U=>v=.tuple []∧U=au)
     (ae (Nat.le_refl _) ⟨⟨by omega,by omega⟩,gX (by omega),ae (by omega) ⟨⟨by omega,by omega⟩,gX (by omega),ae (by omega) ⟨⟨by omega,by omega⟩,⟨by omega,by omega⟩,.mk 1,jm rfl (jl jk.symm (by omega)),ae (by omega) ⟨eR (by omega) (by omega),ae (by omega) (ae (by omega) ⟨b7 (by omega),ae (by omega) (ae (by omega) (ae (by omega) ⟨eR (by omega) (by omega),⟨aR.cx L,ae (by omega) ⟨eR (by omega) (by omega),ae (by omega) ⟨bB (by omega),⟨bB (by omega),ae (by omega) ⟨⟨j9⟩,ae (by omega) ⟨b7 (by omega),ae (by omega) ⟨bB (by omega),⟨bB (by omega),ae (by omega) ⟨⟨oL⟩,df (by omega) ⟨rfl,rfl⟩⟩⟩⟩⟩⟩⟩⟩⟩⟩⟩))⟩)⟩⟩⟩⟩)
    exact⟨_,aM,oM,mE⟩
   ·obtain⟨af,j9,j',gY⟩:=oI (up H1 18) (b9.aI ok (Fr.up H1 18 []));have rk:H1.next+18≤af.next:=gY.next
    have hN:Fr H af [S.Q]:=(h6.trans (Fr.up H1 18 []) (by simp)).trans gY (fun x ab _=>ab)
    obtain⟨v,U,aM,rfl,rfl⟩:=Pv H H1 af H H a m b bp (bp+m) (bp+m-b) (bp+m-1) k e S.aH (cn g cs) (fun v U=>v=.tuple []∧U=up af 16)
     (ae (Nat.le_refl _) ⟨⟨by omega,by omega⟩,gX (by omega),ae (by omega) ⟨⟨by omega,by omega⟩,gX (by omega),ae (by omega) ⟨⟨by omega,by omega⟩,⟨by omega,by omega⟩,.mk 1,jm rfl (jl jk.symm (by omega)),ae (by omega) ⟨eR (by omega) (by omega),ae (by omega) (ae (by omega) ⟨b7 (by omega),ae (by omega) (ae (by omega) (ae (by omega) ⟨eR (by omega) (by omega),⟨aR.cx L,ae (by omega) ⟨eR (by omega) (by omega),ae (by omega) ⟨bB (by omega),⟨bB (by omega),ae (by omega) ⟨⟨j9⟩,ae (by omega) ⟨b7 (by omega),ae (by omega) ⟨bB (by omega),⟨b7 (by omega),df (by show H.next≤af.next+16;omega) ⟨rfl,rfl⟩⟩⟩⟩⟩⟩⟩⟩⟩⟩))⟩)⟩⟩⟩⟩)
    exact⟨_,aM,j'.aI ok (Fr.up af 16 []),hN.trans (Fr.up af 16 []) (by simp)⟩
   ·omega
 ·omega
 ·rcases aF with ⟨dt,bX,pU⟩|⟨dt,bX,rfl⟩|⟨dt,rfl⟩
  ·rcases aM with ⟨d1,d2,dd⟩|⟨d1,d2,rfl⟩|⟨d1,rfl⟩
   ·omega
   ·omega
   ·obtain⟨ax,oJ,oK,kN⟩:=pU (up H1 26) (b9.aI ok (Fr.up H1 26 []));have ym:H1.next+26≤ax.next:=kN.next
    have lq:Fr H ax [S.Q]:=(h6.trans (Fr.up H1 26 []) (by simp)).trans kN (fun x ab _=>ab)
    obtain⟨v,U,aM,rfl,rfl⟩:=Pw H H1 H ax H a m b bp (bp+m) (bp+m-b) (bp+m-1) k e S.aH (cn g cs) (fun v U=>v=.tuple []∧U=up ax 8)
     (ae (Nat.le_refl _) ⟨⟨by omega,by omega⟩,gX (by omega),ae (by omega) ⟨⟨by omega,by omega⟩,gX (by omega),ae (by omega) ⟨⟨by omega,by omega⟩,⟨by omega,by omega⟩,.mk 1,jm rfl (jl jk.symm (by omega)),ae (by omega) ⟨eR (by omega) (by omega),ae (by omega) (ae (by omega) ⟨b7 (by omega),ae (by omega) (ae (by omega) (ae (by omega) ⟨eR (by omega) (by omega),⟨aR.cx L,ae (by omega) ⟨eR (by omega) (by omega),ae (by omega) ⟨b7 (by omega),ae (by omega) ⟨bB (by omega),⟨bB (by omega),ae (by omega) ⟨⟨oJ⟩,ae (by omega) ⟨b7 (by omega),df (by show H.next≤ax.next+8;omega) ⟨rfl,rfl⟩⟩⟩⟩⟩⟩⟩⟩⟩))⟩)⟩⟩⟩⟩)
    exact⟨_,aM,oK.aI ok (Fr.up ax 8 []),lq.trans (Fr.up ax 8 []) (by simp)⟩
  ·rcases aM with ⟨d1,d2,dd⟩|⟨d1,d2,rfl⟩|⟨d1,rfl⟩
   ·omega
   ·omega
   ·obtain⟨v,U,aM,rfl,rfl⟩:=Px H H1 H H H a m b bp (bp+m) (bp+m-b) (bp+m-1) k e S.aH (cn g cs) (fun v U=>v=.tuple []∧U=up H1 28)
     (ae (Nat.le_refl _) ⟨⟨by omega,by omega⟩,gX (by omega),ae (by omega) ⟨⟨by omega,by omega⟩,gX (by omega),ae (by omega) ⟨⟨by omega,by omega⟩,⟨by omega,by omega⟩,.mk 1,jm rfl (jl jk.symm (by omega)),ae (by omega) ⟨eR (by omega) (by omega),ae (by omega) (ae (by omega) ⟨b7 (by omega),ae (by omega) (ae (by omega) (ae (by omega) ⟨eR (by omega) (by omega),⟨aR.cx L,ae (by omega) ⟨eR (by omega) (by omega),ae (by omega) ⟨b7 (by omega),ae (by omega) ⟨bB (by omega),⟨b7 (by omega),ae (by omega) ⟨b7 (by omega),df (by show H.next≤H1.next+28;omega) ⟨rfl,rfl⟩⟩⟩⟩⟩⟩⟩⟩))⟩)⟩⟩⟩⟩)
    exact⟨_,aM,b9.aI ok (Fr.up H1 28 []),h6.trans (Fr.up H1 28 []) (by simp)⟩
  ·omega
include hw ar
theorem PY{a m b:Nat}(π:Nat→Nat)(e3:h7 S.N π)(hm:m=a+1)(nG:m<b)(ao:b≤S.N)(ag:kL less π a m b) :
 ∃σ,dM π σ a b∧fV less σ a b∧S.Do 237 [S.aH,.int .i64 (a:Nat),.int .i64 (m:Nat),.int .i64 (b:Nat),cn g cs] π σ:=by
 have bA:=ok.n;subst hm;obtain⟨k,k1,k2,bT,cr,c6⟩:=PN ok hw ar π e3 (by omega:a<b) ao (b- (a+1)) (a+1) b (by omega) (by omega) (by omega) (by omega) (.inl rfl) (.inl rfl);refine⟨_,(yg π (by omega) (by omega)).wide (Nat.le_refl a) k2 (by omega),Ox hw ag k1 k2 bT cr,fun H w=> ?_⟩;obtain⟨H1,hM,b9,f1⟩:=c6 H.next (up H 8) (by show H.next≤H.next+8;omega) (w.aI ok (Fr.up H 8 []))
 have bK:H.next+8≤H1.next:=f1.next
 obtain⟨af,pV,cJ,f2⟩:=PO ok hw ar (a:=a) (i:=k) π (by omega) (k- (a+1)) a (by omega) (by omega) H.next (up H1 2) (by show H.next≤H1.next+2;omega) (by rw [Ov];exact b9.aI ok (Fr.up H1 2 []))
 have n2:H1.next+2≤af.next:=f2.next
 obtain⟨v,U,aM,rfl,rfl⟩:=Pl H H1 af a (a+1) b k S.aH (cn g cs) (fun v U=>v=.tuple []∧U=af) (ae (Nat.le_refl _) ⟨⟨by omega,by omega⟩,Hx (by omega),ae (by omega) (ae (by omega) ⟨aR.cx hM,ae (by omega) ⟨aR.cx pV,df (by omega) ⟨rfl,rfl⟩⟩⟩)⟩);exact⟨_,aM,cJ,(((Fr.up H 8 [S.Q]).trans f1 (fun x ab _=>ab)).trans (Fr.up H1 2 []) (by simp)).trans f2 (fun x ab _=>ab)⟩
theorem PZ{a m b:Nat}(π:Nat→Nat)(e3:h7 S.N π)(lS:a<m)(Ww:m≠a+1)(P0:b=m+1)(ao:b≤S.N)(ag:kL less π a m b) :
 ∃σ,dM π σ a b∧fV less σ a b∧S.Do 237 [S.aH,.int .i64 (a:Nat),.int .i64 (m:Nat),.int .i64 (b:Nat),cn g cs] π σ:=by
 have bA:=ok.n;subst P0;obtain⟨k,k1,k2,bT,cr,c6⟩:=PP ok hw ar π e3 lS (by omega) (m-a) a m (by omega) (by omega) (by omega) (by omega) (.inl rfl) (.inl rfl);refine⟨_,(yg π k2 (by omega)).wide k1 (Nat.le_refl _) (by omega),OA hw ag k1 k2 bT cr,fun H w=> ?_⟩;obtain⟨H1,hM,b9,f1⟩:=c6 H.next (up H 12) (by show H.next≤H.next+12;omega) (w.aI ok (Fr.up H 12 []))
 have bK:H.next+12≤H1.next:=f1.next
 obtain⟨af,pV,cJ,f2⟩:=PQ ok hw ar (i:=k) π (by omega:m<S.N) (m-k) m (by omega) (by omega) H.next (up H1 2) (by show H.next≤H1.next+2;omega) (by rw [Oy];exact b9.aI ok (Fr.up H1 2 []))
 have n2:H1.next+2≤af.next:=f2.next
 obtain⟨v,U,aM,rfl,rfl⟩:=Pm H H1 af a m (m+1) k S.aH (cn g cs) (fun v U=>v=.tuple []∧U=af) (ae (Nat.le_refl _) ⟨⟨by omega,by omega⟩,gX (by omega),ae (by omega) ⟨⟨by omega,by omega⟩,Hx (by omega),ae (by omega) (ae (by omega) ⟨aR.cx hM,ae (by omega) ⟨aR.cx pV,df (by omega) ⟨rfl,rfl⟩⟩⟩)⟩⟩);exact⟨_,aM,cJ,(((Fr.up H 12 [S.Q]).trans f1 (fun x ab _=>ab)).trans (Fr.up H1 2 []) (by simp)).trans f2 (fun x ab _=>ab)⟩
theorem Hy:∀(f a m b:Nat)(π:Nat→Nat),b-a≤f→h7 S.N π→a<m→m<b→b≤S.N→kL less π a m b →
 ∃σ,dM π σ a b∧fV less σ a b∧S.Do 237 [S.aH,.int .i64 (a:Nat),.int .i64 (m:Nat),.int .i64 (b:Nat),cn g cs] π σ:=by
 have bA:=ok.n;intro f;induction f with
 |zero=>intro a m b π aS;omega
 |succ f ih =>
  intro a m b π aS e3 lS nG ao ag;by_cases bo:m=a+1
  ·exact PY ok hw ar π e3 bo nG ao ag
  by_cases bO:b=m+1
  ·exact PZ ok hw ar π e3 lS bo bO ao ag
  obtain⟨bp,jk⟩:∃bp,bp=(a+b)/2:=⟨_,rfl⟩
  obtain⟨k,k1,k2,bT,cr,c6⟩:=PR ok hw ar (a:=a) (m:=m) (b:=b) (d:=bp) (n:=bp+m) (p:=bp+m-1) (s0:=if bp<m then bp+m-b else a) (r0:=if bp<m then bp else m) π e3
   (fun h U ak=>by split at U<;>split at ak<;>omega) (by omega) (by split<;>omega) b (if bp<m then bp+m-b else a) (if bp<m then bp else m) (by split<;>omega) (by omega) (by split<;>omega) (by omega) (.inl rfl) (.inl rfl)
  obtain⟨vg,Cq,vh⟩:=OB hw ag lS nG jk k1 k2 bT cr;have cq:a≤k∧k≤m∧k≤bp∧m≤bp+m-k∧bp+m-k≤b:=by split at k1<;>split at k2<;>omega
  obtain⟨e,he⟩:∃e,e=bp+m-k:=⟨_,rfl⟩
  rw [←he]at vg Cq vh cq;obtain⟨ρ,b1⟩:∃ρ,ρ=dp π k m e:=⟨_,rfl⟩
  rw [←b1]at vg Cq vh;have c':dM π ρ k e:=by rw [b1];exact yg π (by omega) (by omega)
  have Hz:h7 S.N ρ:=e3.same c' (by omega)
  have aC:(k<m∧m<e∧S.Do 249 [S.aH,.int .i64 (k:Nat),.int .i64 (m:Nat),.int .i64 (e:Nat),cn g cs] π ρ)∨(k<m∧¬m<e∧π=ρ)∨(¬k<m∧π=ρ):=by
   by_cases cC:k<m
   ·by_cases ci:m<e
    ·exact .inl ⟨cC,ci,by rw [b1];exact PJ ok π cC ci (by omega) _⟩
    ·exact .inr (.inl ⟨cC,ci,by rw [b1,show e=m by omega,PT π (by omega)]⟩)
   ·exact .inr (.inr ⟨cC,by rw [b1,show k=m by omega,PS π (by omega)]⟩)
  have aF:∃σ,dM ρ σ a bp∧fV less σ a bp∧((a<k∧k<bp∧S.Do 237 [S.aH,.int .i64 (a:Nat),.int .i64 (k:Nat),.int .i64 (bp:Nat),cn g cs] ρ σ)∨(a<k∧¬k<bp∧ρ=σ)∨(¬a<k∧ρ=σ)):=by
   by_cases cC:a<k
   ·by_cases ci:k<bp
    ·obtain⟨σ,cB,c9,rj⟩:=ih a k bp ρ (by omega) Hz cC ci (by omega) vg;exact⟨σ,cB,c9,.inl ⟨cC,ci,rj⟩⟩
    ·refine⟨ρ,dM.refl _ _ _,?_,.inr (.inl ⟨cC,ci,rfl⟩)⟩;have:=vg.one
     rwa [show k=bp by omega]at this
   ·refine⟨ρ,dM.refl _ _ _,?_,.inr (.inr ⟨cC,rfl⟩)⟩;have:=vg.two
    rwa [show k=a by omega]at this
  obtain⟨σ,dt,bX,mF⟩:=aF;have P1:h7 S.N σ:=Hz.same dt (by omega);have Cr:kL less σ bp e b:=kL.congr Cq (by omega) (by omega) fun k U ak=>dt.out k (.inr U)
  have aM:∃eK,dM σ eK bp b∧fV less eK bp b∧((bp<e∧e<b∧S.Do 237 [S.aH,.int .i64 (bp:Nat),.int .i64 (e:Nat),.int .i64 (b:Nat),cn g cs] σ eK)∨(bp<e∧¬e<b∧σ=eK)∨(¬bp<e∧σ=eK)):=by
   by_cases cC:bp<e
   ·by_cases ci:e<b
    ·obtain⟨eK,cB,c9,rj⟩:=ih bp e b σ (by omega) P1 cC ci ao Cr;exact⟨eK,cB,c9,.inl ⟨cC,ci,rj⟩⟩
    ·refine⟨σ,dM.refl _ _ _,?_,.inr (.inl ⟨cC,ci,rfl⟩)⟩;have:=Cr.one
     rwa [show e=b by omega]at this
   ·refine⟨σ,dM.refl _ _ _,?_,.inr (.inr ⟨cC,rfl⟩)⟩;have:=Cr.two
    rwa [show e=bp by omega]at this
  obtain⟨eK,d1,d2,d3⟩:=aM;refine⟨eK,(c'.wide (by omega) (by omega) (by omega)).trans ((dt.wide (Nat.le_refl _) (by omega) (by omega)).trans (d1.wide (by omega) (Nat.le_refl _) (by omega))),merge_join (by omega) (by omega) dt bX d1 d2 vh,?_⟩;by_cases bl:bp<m
  ·simp only [if_pos bl]at c6;exact PU ok π ρ σ eK jk he cq.2.1 cq.2.2.1 cq.1 cq.2.2.2.2 lS bo nG bO ao bl c6 aC mF d3
  ·simp only [if_neg bl]at c6;exact PX ok π ρ σ eK jk he cq.2.1 cq.2.2.1 cq.1 cq.2.2.2.2 lS bo nG bO ao bl c6 aC mF d3
end
end Go.Proofs.YtjpfnbihopoeeaaGreatDoor
namespace Go.Proofs.YtjpfnbihopoeeaaGreatDoor
open Go.ba
def gZ(less:Nat→Nat→Bool)(π ρ:Nat→Nat)(aB ac:Nat):Prop:=fV less ρ aB ac∧∀j,aB≤j→j<ac→ ∃i,aB≤i∧i<ac∧ρ j=π i
theorem gZ.congr{less:Nat→Nat→Bool}{π ρ σ:Nat→Nat}{aB ac:Nat}(h:gZ less π ρ aB ac)(e:∀k,aB≤k→k<ac→σ k=ρ k):gZ less π σ aB ac :=
 ⟨fun i j U ak aP=>by rw [e i U (by omega),e j (by omega) aP];exact h.1 i j U ak aP,fun j U ak=>by rw [e j U ak];exact h.2 j U ak⟩
theorem gZ.parts{less:Nat→Nat→Bool}{π ρ:Nat→Nat}{a m b N:Nat}(h:gZ less π ρ a m)(k:gZ less π ρ m b)(ao:b≤N)(kM:∀i j,i<j→j<N→π i<π j):kL less ρ a m b :=
 ⟨h.1,k.1,fun i j U ak aP bQ=>by
  obtain⟨x,cf,cu,hH⟩:=h.2 i U ak;obtain⟨y,gw,gk,qQ⟩:=k.2 j aP bQ
  rw [hH,qQ];exact kM x y (by omega) (by omega)⟩
theorem gZ.merge{less:Nat→Nat→Bool}{π ρ σ:Nat→Nat}{a m b:Nat}(h:gZ less π ρ a m)(k:gZ less π ρ m b)(lS:a≤m)(nG:m≤b)(s:dM ρ σ a b)(t:fV less σ a b):gZ less π σ a b :=
 ⟨t, fun j U ak=>by
  obtain⟨x,cf,cu,hH⟩:=s.from U ak
  by_cases c:x<m
  ·obtain⟨y,gw,gk,qQ⟩:=h.2 x cf c;exact⟨y,gw,by omega,by rw [hH,qQ]⟩
  ·obtain⟨y,gw,gk,qQ⟩:=k.2 x (by omega) cu
   exact⟨y,by omega,gk,by rw [hH,qQ]⟩⟩
section
variable {S:ff}(ok:S.dG){g:FuncId}{cs:List J}{less:Nat→Nat→Bool}(hw:u4 less)(ar:S.yl g cs less){π:Nat→Nat}(e3:h7 S.N π)(kM:∀i j,i<j→j<S.N→π i<π j)
include ok hw ar e3 kM
theorem P2:∀(f a:Nat)(ρ:Nat→Nat),S.N-a≤f→a≤S.N→20∣a→dM π ρ 0 a→(∀aB,20∣aB→aB<a→gZ less π ρ aB (aB+20)) →
 ∃k σ,k≤S.N∧S.N<k+20∧20∣k∧dM π σ 0 k∧(∀aB,20∣aB→aB<k→gZ less π σ aB (aB+20))∧∀(B:Nat)(H:I),B≤H.next→S.dP H ρ→ ∃H',
 bf Tryz.prog aq B 63 (aY Tryz.prog 217 0) [(0,S.aH),(1,.int .i64 (S.N:Nat)),(2,cn g cs),(6,.int .i64 (20:Nat)),(7,.int .i64 (a:Nat)),(8,.int .i64 ((a+20:Nat):Int))] H
  (.exit 0) [(0,S.aH),(1,.int .i64 (S.N:Nat)),(2,cn g cs),(6,.int .i64 (20:Nat)),(7,.int .i64 (k:Nat))] H'∧S.dP H' σ∧Fr H H' [S.Q]:=by
 have bA:=ok.n;intro f;induction f with
 |zero =>
  intro a ρ aS aW Cs hs dO;refine⟨a,ρ,aW,by omega,Cs,hs,dO,fun B H aX w=> ?_⟩;obtain⟨e,ah,U,aC,rfl,rfl,rfl⟩:=Hr H B S.N 20 a (a+20) S.aH (cn g cs) (fun e ah U=>e=.exit 0∧ah=[(0,S.aH),(1,.int .i64 (S.N:Nat)),(2,cn g cs),(6,.int .i64 (20:Nat)),(7,.int .i64 (a:Nat)),(8,.int .i64 ((a+20:Nat):Int))]∧U=up H 3) (ae aX ⟨b7 (by omega),rfl,rfl,rfl⟩);exact⟨_,(bf.last (by simp) aC).post (bL.facts (ed [0,1,2,6,7] (by kernel_rfl))),w.aI ok (Fr.up H 3 []),Fr.up H 3 _⟩
 |succ f ih =>
  intro a ρ aS aW Cs hs dO;by_cases ao:a+20≤S.N
  ·have b1:h7 S.N ρ:=e3.same hs aW;have jY:∀k,a≤k→ρ k=π k:=fun k az=>hs.out k (.inr az)
   obtain⟨σ,s1,s2,fF⟩:=Hw ok hw ar (a:=a) (b:=a+20) ρ b1 (by omega) ao (fun i j U ak aP=>by rw [jY i U,jY j (by omega)];exact kM i j ak (by omega));have dE:dM π σ 0 (a+20):=(hs.wide (Nat.le_refl _) (by omega) (by omega)).trans (s1.wide (by omega) (Nat.le_refl _) (by omega))
   have nr:∀aB,20∣aB→aB<a+20→gZ less π σ aB (aB+20):=by
    intro aB aM bH;by_cases c:aB<a
    ·exact(dO aB aM c).congr fun k U ak=>s1.out k (.inl (by omega))
    ·obtain rfl:aB=a:=by omega
     refine⟨s2,fun j U ak=> ?_⟩;obtain⟨x,cf,cu,hH⟩:=s1.from U ak
     exact⟨x,cf,cu,by rw [hH,jY x cf]⟩
   obtain⟨k,eK,k1,k2,bT,cr,c6,ev⟩:=ih (a+20) σ (by omega) ao (by omega) dE nr;refine⟨k,eK,k1,k2,bT,cr,c6,fun B H aX w=> ?_⟩;obtain⟨H1,D,b9,f1⟩:=fF (up H 8) (w.aI ok (Fr.up H 8 []));have bK:H.next+8≤H1.next:=f1.next
   obtain⟨H',L,aN,bG⟩:=ev B (up H1 6) (by show B≤H1.next+6;omega) (b9.aI ok (Fr.up H1 6 []))
   obtain⟨e,ah,U,aC,rfl,rfl,rfl⟩:=Py H H1 B S.N 20 a (a+20) S.aH (cn g cs) (fun e ah U=>e=.normal∧ah=[(0,S.aH),(1,.int .i64 (S.N:Nat)),(2,cn g cs),(6,.int .i64 (20:Nat)),(7,.int .i64 ((a+20:Nat):Int)),(8,.int .i64 ((a+20+20:Nat):Int))]∧U=up H1 6)
    (ae aX ⟨bB (by omega),ae (by omega) ⟨⟨D⟩,ae (by omega) (ae (by omega) ⟨⟨by omega,by omega⟩,rfl,by rw [show((a+20:Nat):Int)+((20:Nat):Int)=((a+20+20:Nat):Int)by omega],rfl⟩)⟩⟩)
   exact⟨H',bf.round aC (bL.refl _ _ _ _) L,aN,(((Fr.up H 8 [S.Q]).trans f1 (fun x ab _=>ab)).trans (Fr.up H1 6 []) (by simp)).trans bG (fun x ab _=>ab)⟩
  ·refine⟨a,ρ,aW,by omega,Cs,hs,dO,fun B H aX w=> ?_⟩;obtain⟨e,ah,U,aC,rfl,rfl,rfl⟩:=Hr H B S.N 20 a (a+20) S.aH (cn g cs) (fun e ah U=>e=.exit 0∧ah=[(0,S.aH),(1,.int .i64 (S.N:Nat)),(2,cn g cs),(6,.int .i64 (20:Nat)),(7,.int .i64 (a:Nat)),(8,.int .i64 ((a+20:Nat):Int))]∧U=up H 3) (ae aX ⟨b7 (by omega),rfl,rfl,rfl⟩);exact⟨_,(bf.last (by simp) aC).post (bL.facts (ed [0,1,2,6,7] (by kernel_rfl))),w.aI ok (Fr.up H 3 []),Fr.up H 3 _⟩
theorem P3{s:Nat}(lh:0<s)(HA:s<S.N):∀(f a:Nat)(ρ:Nat→Nat),S.N-a≤f→a≤S.N→2*s∣a→dM π ρ 0 S.N→(∀aB,2*s∣aB→aB<a→gZ less π ρ aB (aB+2*s))→(∀aB,s∣aB→a≤aB→aB<S.N→gZ less π ρ aB (min (aB+s) S.N)) →
 ∃k σ,k≤S.N∧S.N<k+2*s∧2*s∣k∧dM π σ 0 S.N∧(∀aB,2*s∣aB→aB<k→gZ less π σ aB (aB+2*s))∧(∀aB,s∣aB→k≤aB→aB<S.N→gZ less π σ aB (min (aB+s) S.N))∧∀(B:Nat)(H:I),B≤H.next→S.dP H ρ→ ∃H',
 bf Tryz.prog aq B 63 (aY Tryz.prog 217 2) [(0,S.aH),(1,.int .i64 (S.N:Nat)),(2,cn g cs),(6,.int .i64 (s:Nat)),(7,.int .i64 (a:Nat)),(8,.int .i64 ((a+2*s:Nat):Int))] H
  (.exit 4) [(0,S.aH),(1,.int .i64 (S.N:Nat)),(2,cn g cs),(6,.int .i64 (s:Nat)),(7,.int .i64 (k:Nat))] H'∧S.dP H' σ∧Fr H H' [S.Q]:=by
 have bA:=ok.n;intro f
 have stop:∀(a:Nat)(ρ:Nat→Nat)(B:Nat)(H:I),B≤H.next→S.dP H ρ→ ¬a+2*s≤S.N→ ∃H',bf Tryz.prog aq B 63 (aY Tryz.prog 217 2) [(0,S.aH),(1,.int .i64 (S.N:Nat)),(2,cn g cs),(6,.int .i64 (s:Nat)),(7,.int .i64 (a:Nat)),(8,.int .i64 ((a+2*s:Nat):Int))] H
  (.exit 4) [(0,S.aH),(1,.int .i64 (S.N:Nat)),(2,cn g cs),(6,.int .i64 (s:Nat)),(7,.int .i64 (a:Nat))] H'∧S.dP H' ρ∧Fr H H' [S.Q]:=by
  intro a ρ B H aX w be;obtain⟨e,ah,U,aC,rfl,rfl,rfl⟩:=PA H B S.N s a (a+2*s) S.aH (cn g cs) (fun e ah U=>e=.exit 4∧ah=[(0,S.aH),(1,.int .i64 (S.N:Nat)),(2,cn g cs),(6,.int .i64 (s:Nat)),(7,.int .i64 (a:Nat)),(8,.int .i64 ((a+2*s:Nat):Int))]∧U=up H 3) (ae aX ⟨b7 (by omega),rfl,rfl,rfl⟩);exact⟨_,(bf.last (by simp) aC).post (bL.facts (ed [0,1,2,6,7] (by kernel_rfl))),w.aI ok (Fr.up H 3 []),Fr.up H 3 _⟩
 induction f with
 |zero =>
  intro a ρ aS aW aM hs dO aC;exact⟨a,ρ,aW,by omega,aM,hs,dO,aC,fun B H aX w=>stop a ρ B H aX w (by omega)⟩
 |succ f ih =>
  intro a ρ aS aW aM hs dO aC;by_cases ao:a+2*s≤S.N
  ·have b1:h7 S.N ρ:=e3.same hs (Nat.le_refl _);have HB:s∣a:=Nat.dvd_trans ⟨2,by omega⟩ aM;have cC:=aC a HB (Nat.le_refl _) (by omega);have ci:=aC (a+s) (Nat.dvd_add HB (Nat.dvd_refl s)) (by omega) (by omega);rw [show min (a+s) S.N=a+s by omega]at cC;rw [show min (a+s+s) S.N=a+2*s by omega]at ci;obtain⟨σ,s1,s2,fF⟩:=Hy ok hw ar (a+2*s-a) a (a+s) (a+2*s) ρ (Nat.le_refl _) b1 (by omega) (by omega) ao (cC.parts ci ao kM);have jw:=cC.merge ci (by omega) (by omega) s1 s2;have dE:dM π σ 0 S.N:=hs.trans (s1.wide (by omega) ao (by omega))
   have nr:∀aB,2*s∣aB→aB<a+2*s→gZ less π σ aB (aB+2*s):=by
    intro aB tX bH;by_cases c:aB<a
    ·have:2*s≤a-aB:=Nat.le_of_dvd (by omega) (Nat.dvd_sub aM tX);exact(dO aB tX c).congr fun k U ak=>s1.out k (.inl (by omega))
    ·by_cases b8:aB=a
     ·subst b8;exact jw
     ·have:2*s≤aB-a:=Nat.le_of_dvd (by omega) (Nat.dvd_sub tX aM);omega
   have cV:∀aB,s∣aB→a+2*s≤aB→aB<S.N→gZ less π σ aB (min (aB+s) S.N):=fun aB U ak aP=>(aC aB U (by omega) aP).congr fun k bQ ct=>s1.out k (.inr (by omega))
   obtain⟨k,eK,k1,k2,bT,cr,c6,ev,kA⟩:=ih (a+2*s) σ (by omega) ao (Nat.dvd_add aM (Nat.dvd_refl _)) dE nr cV;refine⟨k,eK,k1,k2,bT,cr,c6,ev,fun B H aX w=> ?_⟩;obtain⟨H1,D,b9,f1⟩:=fF (up H 11) (w.aI ok (Fr.up H 11 []));have bK:H.next+11≤H1.next:=f1.next
   obtain⟨H',L,aN,bG⟩:=kA B (up H1 7) (by show B≤H1.next+7;omega) (b9.aI ok (Fr.up H1 7 []))
   obtain⟨e,ah,U,aC,rfl,rfl,rfl⟩:=Pz H H1 B S.N s a (a+2*s) S.aH (cn g cs) (fun e ah U=>e=.normal∧ah=[(0,S.aH),(1,.int .i64 (S.N:Nat)),(2,cn g cs),(6,.int .i64 (s:Nat)),(7,.int .i64 ((a+2*s:Nat):Int)),(8,.int .i64 ((a+2*s+2*s:Nat):Int))]∧U=up H1 7)
    (ae aX ⟨bB (by omega),ae (by omega) ⟨⟨by omega,by omega⟩,⟨by rw [show(a:Int)+(s:Int)=((a+s:Nat):Int)by omega];exact D⟩,ae (by omega) (ae (by omega) ⟨⟨by omega,by omega⟩,⟨by omega,by omega⟩,rfl,by rw [show((a+2*s:Nat):Int)+2* (s:Int)=((a+2*s+2*s:Nat):Int)by omega],rfl⟩)⟩⟩)
   exact⟨H',bf.round aC (bL.refl _ _ _ _) L,aN,(((Fr.up H 11 [S.Q]).trans f1 (fun x ab _=>ab)).trans (Fr.up H1 7 []) (by simp)).trans bG (fun x ab _=>ab)⟩
  ·exact⟨a,ρ,aW,by omega,aM,hs,dO,aC,fun B H aX w=>stop a ρ B H aX w (by omega)⟩
theorem P4:∀(f s:Nat)(ρ:Nat→Nat),S.N-s≤f→0<s→s<2^46→dM π ρ 0 S.N→(∀aB,s∣aB→aB<S.N→gZ less π ρ aB (min (aB+s) S.N)) →
 ∃σ,dM π σ 0 S.N∧fV less σ 0 S.N∧∀(B:Nat)(H:I),B≤H.next→S.dP H ρ→ ∃H',
 bf Tryz.prog aq B 63 (aY Tryz.prog 217 1) [(0,S.aH),(1,.int .i64 (S.N:Nat)),(2,cn g cs),(6,.int .i64 (s:Nat))] H (.exit 2) [] H'∧S.dP H' σ∧Fr H H' [S.Q]:=by
 have bA:=ok.n;intro f;induction f with
 |zero =>
  intro s ρ aS lh P5 hs dO;refine⟨ρ,hs,?_,fun B H aX w=> ?_⟩
  ·by_cases bt:S.N=0
   ·intro i j U ak aP;omega
   ·have:=(dO 0 ⟨0,rfl⟩ (by omega)).1
    rwa [show min (0+s) S.N=S.N by omega]at this
  ·obtain⟨e,ah,U,aC,rfl,rfl,rfl⟩:=Hs H B S.N s S.aH (cn g cs) (fun e ah U=>e=.exit 2∧ah=[(0,S.aH),(1,.int .i64 (S.N:Nat)),(2,cn g cs),(6,.int .i64 (s:Nat))]∧U=up H 3) (ae aX ⟨b7 (by omega),rfl,rfl,rfl⟩);exact⟨_,(bf.last (by simp) aC).post (bL.facts (ed [] (by kernel_rfl))),w.aI ok (Fr.up H 3 []),Fr.up H 3 _⟩
 |succ f ih =>
  intro s ρ aS lh P5 hs dO;by_cases HA:s<S.N
  ·obtain⟨k,σ,k1,k2,bT,cr,c6,ev,kA⟩:=P3 ok hw ar e3 kM lh HA S.N 0 ρ (by omega) (by omega) ⟨0,rfl⟩ hs (fun aB _ h=>by omega) (fun aB U _ ak=>dO aB U ak);have pz:s∣k:=Nat.dvd_trans ⟨2,by omega⟩ bT
   have fin:∀eK:Nat→Nat,(∀j,j<k→eK j=σ j)→(k<S.N→gZ less π eK k S.N)→ ∀aB,s*2∣aB→aB<S.N→gZ less π eK aB (min (aB+s*2) S.N):=by
    intro eK bo bO aB aM bH;rw [Nat.mul_comm]at aM;by_cases c:aB<k
    ·have:2*s≤k-aB:=Nat.le_of_dvd (by omega) (Nat.dvd_sub bT aM);rw [show min (aB+s*2) S.N=aB+2*s by omega];exact(c6 aB aM c).congr fun j U ak=>bo j (by omega)
    ·by_cases b8:aB=k
     ·subst b8;rw [show min (aB+s*2) S.N=S.N by omega];exact bO bH
     ·have:2*s≤aB-k:=Nat.le_of_dvd (by omega) (Nat.dvd_sub aM bT);omega
   by_cases az:k+s<S.N
   ·have iP:h7 S.N σ:=e3.same cr (Nat.le_refl _);have cC:=ev k pz (Nat.le_refl _) (by omega);have ci:=ev (k+s) (Nat.dvd_add pz (Nat.dvd_refl s)) (by omega) (by omega);rw [show min (k+s) S.N=k+s by omega]at cC;rw [show min (k+s+s) S.N=S.N by omega]at ci;obtain⟨eK,t1,t2,t3⟩:=Hy ok hw ar (S.N-k) k (k+s) S.N σ (Nat.le_refl _) iP (by omega) (by omega) (Nat.le_refl _) (cC.parts ci (Nat.le_refl _) kM);obtain⟨Ct,lr,jF,oN⟩:=ih (s*2) eK (by omega) (by omega) (by omega) (cr.trans (t1.wide (by omega) (Nat.le_refl _) (by omega))) (fin eK (fun j ay=>t1.out j (.inl ay)) fun _=>cC.merge ci (by omega) (by omega) t1 t2);refine⟨Ct,lr,jF,fun B H aX w=> ?_⟩;obtain⟨H1,hM,b9,f1⟩:=kA B (up H 7) (by show B≤H.next+7;omega) (w.aI ok (Fr.up H 7 []));have bK:H.next+7≤H1.next:=f1.next
    rw [show((0+2*s:Nat):Int)=2* (s:Int)by omega]at hM;obtain⟨af,D,cJ,f2⟩:=t3 (up H1 13) (b9.aI ok (Fr.up H1 13 []));have n2:H1.next+13≤af.next:=f2.next
    obtain⟨H',L,aN,bG⟩:=oN B (up af 3) (by show B≤af.next+3;omega) (cJ.aI ok (Fr.up af 3 []))
    obtain⟨e,ah,U,aC,rfl,rfl,rfl⟩:=PB H H1 af B S.N s k S.aH (cn g cs) (fun e ah U=>e=.normal∧ah=[(0,S.aH),(1,.int .i64 (S.N:Nat)),(2,cn g cs),(6,.int .i64 ((s*2:Nat):Int))]∧U=up af 3)
     (ae aX ⟨bB (by omega),ae (by omega) ⟨⟨by omega,by omega⟩,aR.cx hM,ae (by omega) ⟨⟨by omega,by omega⟩,ae (by omega) ⟨bB (by omega),ae (by omega) ⟨⟨by rw [show(k:Int)+(s:Int)=((k+s:Nat):Int)by omega];exact D⟩,ae (by omega) ⟨⟨by omega,by omega⟩,rfl,by rw [show(s:Int)*2=((s*2:Nat):Int)by omega],rfl⟩⟩⟩⟩⟩⟩)
    exact⟨H',bf.round aC (bL.refl _ _ _ _) L,aN,(((((Fr.up H 7 [S.Q]).trans f1 (fun x ab _=>ab)).trans (Fr.up H1 13 []) (by simp)).trans f2 (fun x ab _=>ab)).trans (Fr.up af 3 []) (by simp)).trans bG (fun x ab _=>ab)⟩
   ·obtain⟨Ct,lr,jF,oN⟩:=ih (s*2) σ (by omega) (by omega) (by omega) cr (fin σ (fun j ay=>rfl) fun h=>by
     have cC:=ev k pz (Nat.le_refl _) h
     rwa [show min (k+s) S.N=S.N by omega]at cC)
    refine⟨Ct,lr,jF,fun B H aX w=> ?_⟩;obtain⟨H1,hM,b9,f1⟩:=kA B (up H 7) (by show B≤H.next+7;omega) (w.aI ok (Fr.up H 7 []));have bK:H.next+7≤H1.next:=f1.next
    rw [show((0+2*s:Nat):Int)=2* (s:Int)by omega]at hM;obtain⟨H',L,aN,bG⟩:=oN B (up H1 10) (by show B≤H1.next+10;omega) (b9.aI ok (Fr.up H1 10 []))
    obtain⟨e,ah,U,aC,rfl,rfl,rfl⟩:=PC H H1 B S.N s k S.aH (cn g cs) (fun e ah U=>e=.normal∧ah=[(0,S.aH),(1,.int .i64 (S.N:Nat)),(2,cn g cs),(6,.int .i64 ((s*2:Nat):Int))]∧U=up H1 10)
     (ae aX ⟨bB (by omega),ae (by omega) ⟨⟨by omega,by omega⟩,aR.cx hM,ae (by omega) ⟨⟨by omega,by omega⟩,ae (by omega) ⟨b7 (by omega),ae (by omega) ⟨⟨by omega,by omega⟩,rfl,by rw [show(s:Int)*2=((s*2:Nat):Int)by omega],rfl⟩⟩⟩⟩⟩)
    exact⟨H',bf.round aC (bL.refl _ _ _ _) L,aN,(((Fr.up H 7 [S.Q]).trans f1 (fun x ab _=>ab)).trans (Fr.up H1 10 []) (by simp)).trans bG (fun x ab _=>ab)⟩
  ·refine⟨ρ,hs,?_,fun B H aX w=> ?_⟩
   ·by_cases bt:S.N=0
    ·intro i j U ak aP;omega
    ·have:=(dO 0 ⟨0,rfl⟩ (by omega)).1
     rwa [show min (0+s) S.N=S.N by omega]at this
   ·obtain⟨e,ah,U,aC,rfl,rfl,rfl⟩:=Hs H B S.N s S.aH (cn g cs) (fun e ah U=>e=.exit 2∧ah=[(0,S.aH),(1,.int .i64 (S.N:Nat)),(2,cn g cs),(6,.int .i64 (s:Nat))]∧U=up H 3) (ae aX ⟨b7 (by omega),rfl,rfl,rfl⟩);exact⟨_,(bf.last (by simp) aC).post (bL.facts (ed [] (by kernel_rfl))),w.aI ok (Fr.up H 3 []),Fr.up H 3 _⟩
theorem P6:∃σ,dM π σ 0 S.N∧fV less σ 0 S.N∧S.Do 184 [S.aH,cn g cs] π σ:=by
 have bA:=ok.n;obtain⟨k,ρ,k1,k2,bT,cr,c6,ev⟩:=P2 ok hw ar e3 kM S.N 0 π (by omega) (by omega) ⟨0,rfl⟩ (dM.refl _ _ _) (fun aB _ h=>by omega);have b1:h7 S.N ρ:=e3.same cr k1;have jY:∀j,k≤j→ρ j=π j:=fun j ay=>cr.out j (.inr ay)
 obtain⟨σ,s1,s2,fF⟩:=Hw ok hw ar (a:=k) (b:=S.N) ρ b1 k1 (Nat.le_refl _) (fun i j U ak aP=>by rw [jY i U,jY j (by omega)];exact kM i j ak aP);have dE:dM π σ 0 S.N:=(cr.wide (Nat.le_refl _) k1 (by omega)).trans (s1.wide (by omega) (Nat.le_refl _) (by omega))
 have nr:∀aB,20∣aB→aB<S.N→gZ less π σ aB (min (aB+20) S.N):=by
  intro aB aM bH;by_cases c:aB<k
  ·rw [show min (aB+20) S.N=aB+20 by omega];exact(c6 aB aM c).congr fun j U ak=>s1.out j (.inl (by omega))
  ·obtain rfl:aB=k:=by omega
   rw [show min (aB+20) S.N=S.N by omega];refine⟨s2,fun j U ak=> ?_⟩;obtain⟨x,cf,cu,hH⟩:=s1.from U ak
   exact⟨x,cf,cu,by rw [hH,jY x cf]⟩
 obtain⟨eK,t1,t2,t3⟩:=P4 ok hw ar e3 kM S.N 20 σ (by omega) (by omega) (by omega) dE nr;refine⟨eK,t1,t2,fun H w=> ?_⟩;obtain⟨H1,hM,b9,f1⟩:=ev (H.next+5) (up H 9) (by show H.next+5≤H.next+9;omega) (w.aI ok (Fr.up H 9 []));have bK:H.next+9≤H1.next:=f1.next
 obtain⟨af,D,cJ,f2⟩:=fF (up H1 5) (b9.aI ok (Fr.up H1 5 []));have n2:H1.next+5≤af.next:=f2.next
 obtain⟨ax,sO,fb,f3⟩:=t3 (H.next+5) af (by omega) cJ;have b2:af.next≤ax.next:=f3.next
 obtain⟨v,U,aM,rfl,bo⟩:=PD (up H 5) H1 af ax S.N k S.aH (cn g cs) (fun v U=>v=.tuple []∧U=ax) (ae (Nat.le_refl _) (ae (by show H.next+5≤H.next+5+1;omega) ⟨aR.cx hM,ae (by show H.next+5≤H1.next;omega) ⟨⟨D⟩,aR.cx sO,df (by show H.next+5≤ax.next;omega) ⟨rfl,rfl⟩⟩⟩));rw [bo]at aM;obtain⟨v,U,ol,rfl,rfl⟩:=PE H ax S.N S.cap (some ⟨S.Q,S.V,S.O,0,1⟩) (cn g cs) (fun v U=>v=.tuple []∧U=ax) (ae (Nat.le_refl _) ⟨⟨aM⟩,df (by omega) ⟨rfl,rfl⟩⟩);exact⟨_,ol,fb,((((Fr.up H 9 [S.Q]).trans f1 (fun x ab _=>ab)).trans (Fr.up H1 5 []) (by simp)).trans f2 (fun x ab _=>ab)).trans f3 (fun x ab _=>ab)⟩
end
end Go.Proofs.YtjpfnbihopoeeaaGreatDoor
namespace Go.Proofs.YtjpfnbihopoeeaaGreatDoor
open Go.ba
abbrev dh(l:List Int):List J:=l.map (J.int .i64)
def bs:List Int→Int
 |[]=>0
 |x::r=>x+bs r
theorem Cu:∀(l:List Int)(x:Int),bs (l++[x])=bs l+x
 |[],x=>by simp [bs]
 |a::r,x=>by simp only [List.cons_append,bs,Cu r x];omega
theorem vi{m:Int} :∀(l:List Int),(∀x∈l, -m≤x∧x≤m)→ -(m*l.length)≤bs l∧bs l≤m*l.length
 |[],_=>by simp [bs]
 |a::r,h=>by
  have ih:=vi r fun x ab=>h x (List.mem_cons_of_mem _ ab)
  have aW:=h a (by simp);simp only [bs,List.length_cons];rw [show m* ((r.length+1:Nat):Int)=m*r.length+m by rw [Int.natCast_add,Int.mul_add];simp];omega
theorem dJ.int{H:I}{q:Nat}{v:J}{l:List Int}(h:dJ H q v (dh l)){i:Nat}(ac:i<l.length) :
 ∃a,bb (bh.D env) 28 v (.int .i64 (i:Nat))=some (.ptr (some a))∧a.id<H.next∧∀n,aQ (bh.D env) 3 a ⟨n,H.aj⟩=some (.int .i64 l[i]):=by
 have:=h.at lp (i:=i) (by simpa using ac) (by rw [List.getElem_map];exact rfl);rw [List.getElem_map]at this;exact this
theorem P7{B N wc q:Nat}{wo:Option aO}{l:List Int}(bA:N=l.length)(yo:N<2^60)(ao:∀i,i≤l.length→ -2^62≤bs (l.take i)∧bs (l.take i)≤2^62):∀(f i:Nat)(H:I),i+f=N→B≤H.next→dJ H q (.slice wo N wc) (dh l) →
 ∃n,H.next≤n∧bf Tryz.prog aq B 17 (aY Tryz.prog 93 0) [(3,.int .i64 (bs (l.take i))),(6,.slice wo N wc),(7,.int .i64 (N:Nat)),(8,.int .i64 (i:Nat))] H (.exit 0) [(3,.int .i64 (bs l))] ⟨n,H.aj⟩:=by
 intro f;induction f with
 |zero =>
  intro i H ac aX r;obtain rfl:i=N:=by omega
  have cl:=bs (l.take i);obtain⟨e,ah,U,aC,rfl,rfl,rfl⟩:=OK H B i wc i wo (bs (l.take i)) (fun e ah U=>e=.exit 0∧ah=[(3,.int .i64 (bs (l.take i))),(6,.slice wo i wc),(7,.int .i64 (i:Nat)),(8,.int .i64 (i:Nat))]∧U=up H 1) (ae aX ⟨b7 (by omega),rfl,rfl,rfl⟩);have L:=(bf.last (by simp) aC).post (bL.facts (G:=[(3,.int .i64 (bs (l.take i)))]) (ed [3] (by kernel_rfl)));rw [List.take_of_length_le (by omega)]at L⊢;exact⟨H.next+1,by omega,L⟩
 |succ f ih =>
  intro i H ac aX r;have bH:i<l.length:=by omega
  obtain⟨p,cv,bu,bS⟩:=r.int bH
  have hs:bs (l.take (i+1))=bs (l.take i)+l[i]:=by rw [List.take_add_one,List.getElem?_eq_getElem bH];exact Cu _ _
  have aT:=ao (i+1) (by omega);rw [hs]at aT;obtain⟨n,q7,L⟩:=ih (i+1) (up H 10) (by omega) (by show B≤H.next+10;omega) (r.aI (Fr.up H 10 []) (by simp));have q7:H.next+10≤n:=q7
  rw [hs]at L
  obtain⟨e,ah,U,aC,rfl,rfl,rfl⟩:=OJ H B N wc i wo (bs (l.take i)) l[i] p (fun e ah U=>e=.normal∧ah=[(3,.int .i64 (bs (l.take i)+l[i])),(6,.slice wo N wc),(7,.int .i64 (N:Nat)),(8,.int .i64 ((i+1:Nat):Int))]∧U=up H 10)
   (ae aX ⟨bB (by omega),ae (by omega) ⟨cv,bS _,ae (by omega) ⟨⟨by omega,by omega⟩,ae (by omega) ⟨⟨by omega,by omega⟩,rfl,by rw [dx],rfl⟩⟩⟩⟩)
  exact⟨n,by omega,bf.round aC (bL.refl _ _ _ _) L⟩
theorem vj{H:I}{q:Nat}{v:J}{l:List Int}(yo:l.length<2^60)(ao:∀i,i≤l.length→ -2^62≤bs (l.take i)∧bs (l.take i)≤2^62)(r:dJ H q v (dh l)) :
 ∃n,H.next<n∧aZ Tryz.prog aq 93 [v] H (.int .i64 (bs l)) ⟨n,H.aj⟩:=by
 obtain⟨wo,wc,rfl⟩:=r.eS;rw [List.length_map]at r⊢;obtain⟨n,q7,L⟩:=P7 (B:=H.next) rfl yo ao l.length 0 (up H 5) (by omega) (by show H.next≤H.next+5;omega) (r.aI (Fr.up H 5 []) (by simp));have q7:H.next+5≤n:=q7
 obtain⟨v,U,aM,rfl,rfl⟩:=OL H ⟨n,H.aj⟩ l.length wc wo (bs l) (fun v U=>v=.int .i64 (bs l)∧U=⟨n+2,H.aj⟩)
  (ae (Nat.le_refl _) (ae (by omega) (ae (by omega) ⟨aR.cx L,ae (by show H.next≤n;omega) (df (by show H.next≤n+2;omega) ⟨rfl,rfl⟩)⟩)))
 exact⟨n+2,by omega,aM⟩
end Go.Proofs.YtjpfnbihopoeeaaGreatDoor
namespace Go.Proofs.YtjpfnbihopoeeaaGreatDoor
open Go.ba
theorem P8{F:a6}{k nid:Nat}{x:J}{H:I}(dT:a1 F (.tmp k)=x)(ab:jG x):∃b,aV env bz nid (a1 F) H (Op.box 28 (Operand.tmp k))=some (.ptr (some ⟨nid,0,0,0,1⟩),H.set nid b)∧∀(G:I),G.get nid=some b→ ∀n,aQ (bh.D env) 28 ⟨nid,0,0,0,1⟩ ⟨n,G.aj⟩=some x:=by
 obtain⟨d,d1,d2⟩:=Option.map_eq_some_iff.1 (show(bh.D env 28).map (fun d=>(d.kind.isAgg,d.size))=some (false,1)by kernel_rfl);have he:env.D 28=some d:=d1;simp only [Prod.mk.injEq]at d2
 have aS:x.fits d.kind.isAgg d.size=true:=by rw [d2.1,d2.2];cases x<;>first|rfl|cases ab
 refine⟨.made [x] 1 true (some (28,1)),?_,fun G an n=> ?_⟩
 ·simp only [aV,he,dT];rw [if_pos (by rw [aS,d2.2];rfl),d2.2]
 ·unfold aQ;have sP:I.get ⟨n,G.aj⟩ nid=some (.made [x] 1 true (some (28,1))):=an;simp only [d1,sP,d2.1,d2.2];exact yf ab
theorem kP{F:a6}{k nid N:Nat}{H:I}(dT:a1 F (.tmp k)=.int .i64 (N:Nat))(bA:N<2^43):aV env bz nid (a1 F) H (Op.makeSlice 28 (Operand.tmp k) (Operand.tmp k))=some (.slice (some ⟨nid,0,0,0,1⟩) N N,H.set nid (aJ.made (List.replicate N (.int .i64 0)) 1 true)):=by
 obtain⟨d,y,d1,d2,cf,cu,hH,_⟩:=Hp.ty;have d1:bh.D env 28=some d:=d1;obtain⟨er,gw,gk⟩:=Option.map_eq_some_iff.1 (show(bh.D env 3).map (fun d=>(d.zero,d.kind.isAgg))=some (some (.int .i64 0),false)by kernel_rfl);have cf:bh.D env 3=some y:=cf;rw [cf]at gw;simp only [Option.some.injEq]at gw;subst gw;simp only [Prod.mk.injEq]at gk;have:aV env bz nid (a1 F) H (Op.makeSlice 28 (Operand.tmp k) (Operand.tmp k))=n4 (bh.D env) 28 (.int .i64 (N:Nat)) (.int .i64 (N:Nat)) nid H:=by rw [←dT];rfl
 rw [this];unfold n4;simp only [d1,d2,cf,gk.1];rw [if_pos ⟨by omega,Int.le_refl _,by omega,by rw [hH];omega,by omega,by rw [gk.2,cu];rfl⟩];simp [ii,cu]
def pW(x:List Int)(p q:Nat):Bool:=decide (x.getD q 0<x.getD p 0)
theorem P9(x:List Int):u4 (pW x):=by
 constructor
 ·intro p q h;have h:=of_decide_eq_true h;exact decide_eq_false (by omega)
 ·intro p q r U ak;have U:=of_decide_eq_false U;have ak:=of_decide_eq_false ak;exact decide_eq_false (by omega)
theorem P'{H:I}{z qr:Nat}{dR:J}{x:List Int}(cl:∀n,aQ (bh.D env) 28 ⟨z,0,0,0,1⟩ ⟨n,H.aj⟩=some dR)(Wx:z<H.next)(r:dJ H qr dR (dh x))(ab:∀y∈x, -2^61≤y∧y≤2^61){p q:Nat}(ag:p<x.length)(aw:q<x.length) :
 aZ Tryz.prog aq 185 [.int .i64 (p:Nat),.int .i64 (q:Nat),.ptr (some ⟨z,0,0,0,1⟩)] H (.int .i64 (x[q]-x[p])) (up H 11):=by
 obtain⟨ro,rc,rfl⟩:=r.eS;obtain⟨a,cM,a2,a3⟩:=r.int ag;obtain⟨b,aT,bw,cy⟩:=r.int aw;have U:=ab _ (List.getElem_mem ag);have ak:=ab _ (List.getElem_mem aw)
 obtain⟨v,h',aM,rfl,rfl⟩:=OU H (dh x).length rc z ro p q x[p] x[q] b a (fun v U=>v=.int .i64 (x[q]-x[p])∧U=up H 11)
  (ae (Nat.le_refl _) (ae (by omega) ⟨cl _,by omega,aT,cy _,by omega,cl _,by omega,cM,a3 _,by omega,⟨by omega,by omega⟩,df (by omega) ⟨rfl,rfl⟩⟩))
 exact aM
def nI(H:I)(Q N:Nat)(f:Nat→J):Prop:=Q<H.next∧∃b,H.get Q=some b∧b.ver=0∧b.ro=false∧b.exact=true∧b.a'=[]++(List.range N).map f++[]
theorem nI.aI{H H':I}{Q N:Nat}{f:Nat→J}{L:List Nat}(h:nI H Q N f)(m:Fr H H' L)(aw:Q ∉ L):nI H' Q N f:=by obtain⟨U,b,ak,aP⟩:=h;exact⟨Nat.lt_of_lt_of_le U m.next,b,(m.get Q U aw).trans ak,aP⟩
abbrev Cv(Q N:Nat):ff:=⟨Q,0,0,N,N,fun k=> .int .i64 (k:Nat),[],[],fun _=>True⟩
theorem Qa{Q N:Nat}(h:N<2^44):(Cv Q N).dG:=⟨h,rfl,fun k=>rfl,fun _ _ _ _=>trivial⟩
theorem nI.hq{H:I}{Q N i:Nat}{f:Nat→J}{x:J}(h:nI H Q N f)(bA:N<2^44)(ac:i<N)(aS:jG (f i))(ab:jG x)(n:Nat) :
 ∃H1,e7 (bh.D env) 3 ⟨Q,0,0+i,0,1⟩ x (up H n)=some H1∧nI H1 Q N (fun k=>if k=i then x else f k)∧Fr H H1 [Q]∧H1.next=H.next+n:=by
 obtain⟨U,b,ak,aP,bQ,ct,cL⟩:=h;have e:=Co (H:=up H n) (S:=Cv Q N) (Qa bA) ak aP bQ cL ac aS ab;exact⟨_,e,⟨by show Q<H.next+n;omega,_,I.eG _ _ _,aP,bQ,ct,rfl⟩,(Fr.up H n [Q]).trans (Fr.set (L:=[Q]) (up H n) _ _ (by simp)) (fun x ab _=>ab),rfl⟩
theorem Qb{B N Q:Nat}{k:Int}{av bv:J}(bA:N<2^40):∀(f i:Nat)(H:I),i+f=N→B≤H.next→nI H Q N (fun j=>if j<i then .int .i64 (j:Nat)else .int .i64 0) →
 ∃H',bf Tryz.prog aq B 41 (aY Tryz.prog 144 0) [(0,av),(2,.int .i64 k),(4,bv),(6,.slice (some ⟨Q,0,0,0,1⟩) N N),(14,.int .i64 (N:Nat)),(15,.int .i64 (i:Nat))] H (.exit 0) [(0,av),(2,.int .i64 k),(4,bv),(6,.slice (some ⟨Q,0,0,0,1⟩) N N)] H'∧nI H' Q N (fun j=> .int .i64 (j:Nat))∧Fr H H' [Q]:=by
 intro f;induction f with
 |zero =>
  intro i H ac aX w;obtain rfl:i=N:=by omega
  obtain⟨e,ah,U,aC,rfl,rfl,rfl⟩:=OR H B i i k av bv (.slice (some ⟨Q,0,0,0,1⟩) i i) (fun e ah U=>e=.exit 0∧ah=[(0,av),(2,.int .i64 k),(4,bv),(6,.slice (some ⟨Q,0,0,0,1⟩) i i),(14,.int .i64 (i:Nat)),(15,.int .i64 (i:Nat))]∧U=up H 1) (ae aX ⟨b7 (by omega),rfl,rfl,rfl⟩);refine⟨up H 1,(bf.last (by simp) aC).post (bL.facts (ed [0,2,4,6] (by kernel_rfl))),?_,Fr.up H 1 [Q]⟩;obtain⟨g1,b,g2,g3,g4,g5,g6⟩:=w.aI (Fr.up H 1 []) (by simp);refine⟨g1,b,g2,g3,g4,g5,?_⟩;rw [g6]
  congr 2
  refine List.map_congr_left fun j ay=> ?_
  rw [if_pos (List.mem_range.1 ay)]
 |succ f ih =>
  intro i H ac aX w;have bH:i<N:=by omega
  obtain⟨H1,bo,b9,f1,bK⟩:=w.hq (i:=i) (x:= .int .i64 (i:Nat)) (by omega) bH (by show jG (if i<i then _ else _);rw [if_neg (by omega)];rfl) rfl 8;have ca:=(Cv Q N).ca (e:=(i:Int)) (i:=i) rfl bH
  have cJ:nI (up H1 2) Q N (fun j=>if j<i+1 then .int .i64 (j:Nat)else .int .i64 0):=by
   obtain⟨g1,b,g2,g3,g4,g5,g6⟩:=b9.aI (Fr.up H1 2 []) (by simp);refine⟨g1,b,g2,g3,g4,g5,?_⟩;rw [g6]
   congr 2
   refine List.map_congr_left fun j ay=> ?_
   by_cases U:j=i
   ·subst U;rw [if_pos rfl,if_pos (by omega)]
   ·rw [if_neg U];by_cases ak:j<i
    ·rw [if_pos ak,if_pos (by omega)]
    ·rw [if_neg ak,if_neg (by omega)]
  obtain⟨H',L,aN,bG⟩:=ih (i+1) (up H1 2) (by omega) (by show B≤H1.next+2;omega) cJ
  obtain⟨e,ah,U,aC,rfl,rfl,rfl⟩:=OQ H H1 B N i k av bv (.slice (some ⟨Q,0,0,0,1⟩) N N) ⟨Q,0,0+i,0,1⟩ (fun e ah U=>e=.normal∧ah=[(0,av),(2,.int .i64 k),(4,bv),(6,.slice (some ⟨Q,0,0,0,1⟩) N N),(14,.int .i64 (N:Nat)),(15,.int .i64 ((i+1:Nat):Int))]∧U=up H1 2)
   (ae aX ⟨bB (by omega),ae (by omega) (ae (by omega) ⟨ca,cR rfl rfl bo,ae (by omega) ⟨⟨by omega,by omega⟩,rfl,by rw [dx],rfl⟩⟩)⟩)
  exact⟨H',bf.round aC (bL.refl _ _ _ _) L,aN,(f1.trans (Fr.up H1 2 []) (by simp)).trans bG (fun x ab _=>ab)⟩
end Go.Proofs.YtjpfnbihopoeeaaGreatDoor
namespace Go.Proofs.YtjpfnbihopoeeaaGreatDoor
open Go.ba
def fl(σ:Nat→Nat)(y:List Int):Nat→List Int
 |0=>y
 |i+1=>(fl σ y i).set (σ i) ((fl σ y i).getD (σ i) 0+1)
theorem pX(σ:Nat→Nat)(y:List Int):∀i,(fl σ y i).length=y.length
 |0=>rfl
 |i+1=>by unfold fl;rw [List.length_set,pX σ y i]
theorem yp{aB ac:Int}{σ:Nat→Nat}{y:List Int}(h:∀v∈y,aB≤v∧v≤ac):∀i,(∀j,j<i→σ j<y.length)→ ∀v∈fl σ y i,aB≤v∧v≤ac+i
 |0,_,v,a7=>by have:=h v a7;omega
 |i +1,hs,v,a7=>by
  have ih:=yp h i fun j ay=>hs j (by omega)
  unfold fl at a7;have du:=hs i (by omega);rcases List.mem_or_eq_of_mem_set a7 with U|U
  ·have:=ih v U;omega
  ·have aF:σ i<(fl σ y i).length:=by rw [pX];exact du
   have e:(fl σ y i).getD (σ i) 0=(fl σ y i)[σ i]:=by simp [List.getD,aF]
   have:=ih _ (List.getElem_mem aF);rw [U,e];omega
theorem Cw{σ:Nat→Nat}{y:List Int} :∀i,(∀j,j<i→σ j<y.length)→bs (fl σ y i)=bs y+i
 |0,_=>by simp [fl]
 |i + 1,hs=>by
  have ih:=Cw i fun j ay=>hs j (by omega)
  have aF:σ i<(fl σ y i).length:=by rw [pX];exact hs i (by omega)
  have key:∀(l:List Int)(k:Nat),k<l.length→bs (l.set k (l.getD k 0+1))=bs l+1:=by
   intro l;induction l with
   |nil=>intro k az;simp at az
   |cons a r ih =>
    intro k az;cases k with
    |zero=>simp [bs];omega
    |succ k =>
     have:=ih k (by simpa using az);simp only [List.set_cons_succ,List.getD_cons_succ,bs,this];omega
  unfold fl;rw [key _ _ aF,ih];omega
theorem Qc{B Q qa m mc:Nat}{av:J}{y:List Int}{σ:Nat→Nat}(hm:m<2^40)(iP:∀j,j<m→σ j<y.length)(bi:∀v∈y, -2^61≤v∧v≤2^61)(cg:Q≠qa):∀(f i:Nat)(H:I),i+f=m→B≤H.next→dJ H Q (.slice (some ⟨Q,0,0,0,1⟩) m mc) ((List.range m).map fun k=> .int .i64 (σ k:Nat))→cQ H 3 qa av (dh (fl σ y i)) →
 ∃H',bf Tryz.prog aq B 41 (aY Tryz.prog 144 1) [(0,av),(28,.slice (some ⟨Q,0,0,0,1⟩) m mc),(29,.int .i64 (m:Nat)),(30,.int .i64 (i:Nat))] H (.exit 2) [] H'∧cQ H' 3 qa av (dh (fl σ y m))∧Fr H H' [qa]:=by
 intro f;induction f with
 |zero =>
  intro i H ac aX r w;obtain rfl:i=m:=by omega
  obtain⟨e,ah,U,aC,rfl,rfl,rfl⟩:=OT H B i i av (.slice (some ⟨Q,0,0,0,1⟩) i mc) (fun e ah U=>e=.exit 2∧ah=[(0,av),(28,.slice (some ⟨Q,0,0,0,1⟩) i mc),(29,.int .i64 (i:Nat)),(30,.int .i64 (i:Nat))]∧U=up H 1) (ae aX ⟨b7 (by omega),rfl,rfl,rfl⟩);exact⟨up H 1,(bf.last (by simp) aC).post (bL.facts (ed [] (by kernel_rfl))),w.aI (Fr.up H 1 []) (by simp),Fr.up H 1 [qa]⟩
 |succ f ih =>
  intro i H ac aX r w;have bH:i<m:=by omega
  have AB:=iP i bH;have aF:σ i<(fl σ y i).length:=by rw [pX];exact AB
  obtain⟨p,cv,bu,bS⟩:=r.at lp (i:=i) (by simpa using bH) (by rw [List.getElem_map];rfl);rw [List.getElem_map,List.getElem_range]at bS;obtain⟨a,cM,a2,a3⟩:=w.rd.int aF;obtain⟨bN,H1,aT,bw,cy,fv,fQ,iQ⟩:=w.hq lp (i:=σ i) (x:= .int .i64 ((fl σ y i)[σ i]+1)) (by simpa using aF) (by rw [List.getElem_map];rfl) rfl 11
  have Qd:bN=a:=by rw [cM]at aT;simpa using aT.symm
  subst Qd;have ao:=yp bi i (fun j ay=>iP j (by omega)) _ (List.getElem_mem aF)
  have cJ:cQ (up H1 2) 3 qa av (dh (fl σ y (i+1))):=by
   have e:dh (fl σ y (i+1))=(dh (fl σ y i)).set (σ i) (.int .i64 ((fl σ y i)[σ i]+1)):=by show dh ((fl σ y i).set (σ i) ((fl σ y i).getD (σ i) 0+1))=_;rw [dh,List.map_set];simp [List.getD,aF]
   rw [e];exact cy.aI (Fr.up H1 2 []) (by simp)
  have f2:Fr H (up H1 2) [qa]:=fQ.trans (Fr.up H1 2 []) (by simp);obtain⟨H',L,aN,bG⟩:=ih (i+1) (up H1 2) (by omega) (by show B≤H1.next+2;omega) (r.aI f2 (by simpa using cg)) cJ
  obtain⟨e,ah,U,aC,rfl,rfl,rfl⟩:=OS H H1 B m i av (.slice (some ⟨Q,0,0,0,1⟩) m mc) (σ i:Nat) (fl σ y i)[σ i] p bN (fun e ah U=>e=.normal∧ah=[(0,av),(28,.slice (some ⟨Q,0,0,0,1⟩) m mc),(29,.int .i64 (m:Nat)),(30,.int .i64 ((i+1:Nat):Int))]∧U=up H1 2)
   (ae aX ⟨bB (by omega),ae (by omega) ⟨cv,bS _,ae (by omega) ⟨cM,a3 _,⟨by omega,by omega⟩,cM,cR rfl rfl bw,ae (by omega) ⟨⟨by omega,by omega⟩,rfl,by rw [dx],rfl⟩⟩⟩⟩)
  exact⟨H',bf.round aC (bL.refl _ _ _ _) L,aN,f2.trans bG (fun x ab _=>ab)⟩
theorem HC{H : I}{qa qr k : Nat}{av bv:J}{x y:List Int}(aW:cQ H 3 qa av (dh y))(Wy:qa<H.next)(ao:dJ H qr bv (dh x))(zL:qr<H.next)(aF:x.length=y.length)(bA:y.length<2^40)(az:k≤y.length)(ab:∀v∈x, -2^61≤v∧v≤2^61)(bi:∀v∈y, -2^61≤v∧v≤2^61) :
 ∃σ H',aZ Tryz.prog aq 144 [av,bv,.int .i64 (k:Nat)] H (.tuple []) H'∧dM (fun k=>k) σ 0 y.length∧fV (pW x) σ 0 y.length∧cQ H' 3 qa av (dh (fl σ y k))∧Fr H H' [qa]∧H.next<H'.next:=by
 obtain⟨oH,oG,rfl⟩:=aW.rd.eS;rw [List.length_map]at aW⊢;obtain⟨N,rl⟩:∃N,N=y.length:=⟨_,rfl⟩
 rw [←rl]at aW bA az aF⊢;obtain⟨lB,Qe,Qf⟩:=P8 (F:=[(0,J.slice oH N oG),(1,bv),(2,.int .i64 (k:Nat))]) (k:=1) (nid:=H.next+0) (H:=up H 1) rfl ao.sv
 let H1:I:=(up H 1).set (H.next+0) lB
 have bK:H1.next=H.next+1:=rfl
 have f1:Fr H H1 []:=(Fr.up H 1 []).more (Fr.set (L:=[H.next]) (up H 1) _ _ (by simp)) (by simp)
 let sQ:I:=up H1 4
 let af:I:=sQ.set (H1.next+2) (aJ.made (List.replicate N (.int .i64 0)) 1 true)
 have n2:af.next=H.next+5:=rfl
 have f12:Fr H1 af []:=(Fr.up H1 4 []).more (Fr.set (L:=[H1.next+2]) sQ _ _ (by simp)) (by intro x ab;simp at ab;omega)
 have cJ:nI (up af 3) (H.next+3) N (fun j=>if j<0 then .int .i64 (j:Nat)else .int .i64 0):=by refine⟨by show H.next+3<H.next+5+3;omega,_,I.eG _ _ _,rfl,rfl,rfl,?_⟩;show List.replicate N _=_;apply List.ext_getElem (by simp);intro i U ak;simp
 obtain⟨ax,jn,fb,f3⟩:=Qb (B:=H.next) (k:=k) (av:= .slice oH N oG) (bv:= .ptr (some ⟨H.next,0,0,0,1⟩)) bA N 0 (up af 3) (by omega) (by show H.next≤H.next+5+3;omega) cJ;have b2:=f3.next
 have b2:H.next+8≤ax.next:=b2
 have f13:Fr H1 ax [H.next+3]:=((f12.more (Fr.up af 3 []) (by simp)).sub (M:=[H.next+3]) (by simp)).trans f3 (fun x ab _=>ab);have HD:Fr H1 (up ax 3) [H.next+3]:=f13.trans (Fr.up ax 3 []) (by simp);have vk:Fr H (up ax 3) []:=f1.more HD (by simp)
 let C:I→Prop:=fun G=>G.get H.next=some lB∧H.next<G.next∧dJ G qr bv (dh x)
 let S:ff:=⟨H.next+3,0,0,N,N,fun k=> .int .i64 (k:Nat),[],[],C⟩
 have ok:S.dG:=⟨by show N<2^44;omega,rfl,fun k=>rfl,fun G B0 c m=>⟨(m.get _ c.2.1 (by show H.next ∉ [H.next+3];simp)).trans c.1,Nat.lt_of_lt_of_le c.2.1 m.next,c.2.2.aI m (by show qr ∉ [H.next+3];simp;omega)⟩⟩
 have Qg:S.yl 185 [.ptr (some ⟨H.next,0,0,0,1⟩)] (pW x):=by refine⟨fun G p q c ag aw=> ?_⟩;have ag:p<N:=ag;have aw:q<N:=aw;have D:=P' (Qf G c.1) c.2.1 c.2.2 ab (p:=p) (q:=q) (by omega) (by omega);refine⟨G.next+11,_,by omega,D,?_⟩;unfold pW;rw [decide_eq_true_iff];simp only [List.getD,List.getElem?_eq_getElem (show q<x.length by omega),List.getElem?_eq_getElem (show p<x.length by omega),Option.getD_some];omega
 obtain⟨σ,s1,s2,fF⟩:=P6 ok (P9 x) Qg (π:=fun k=>k) (fun k az=>az) (fun i j h _=>h)
 have ws:S.dP (up ax 3) (fun k=>k):=by obtain⟨g1,b,g2,g3,g4,g5,g6⟩:=fb.aI (Fr.up ax 3 []) (by simp);refine⟨g1,⟨b,g2,g3,g4,g5,g6⟩,(HD.get _ (by omega) (by simp)).trans (I.eG _ _ _),by show H.next<ax.next+3;omega,ao.aI vk (by simp)⟩
 obtain⟨au,Cx,⟨g1,⟨b,g2,g3,g4,g5,g6⟩,eJ⟩,f4⟩:=fF _ ws;have cY:=f4.next
 have cY:ax.next+3≤au.next:=cY
 have vl : Fr H au [] := vk.more f4 (by intro x ab;have:x=H.next+3:=by simpa using ab
                                        omega)
 have iP:∀j,j<N→σ j<N:=fun j ay=>by
  obtain⟨i,_,ak,e⟩:=s1.from (Nat.zero_le j) ay
  rw [e];exact ak
 have Qh:dJ (up au 5) (H.next+3) (.slice (some ⟨H.next+3,0,0,0,1⟩) k N) ((List.range k).map fun j=> .int .i64 (σ j:Nat)):=by
  refine Hn (by show H.next+3<au.next+5;omega) g2 g3 ⟨((List.range N).drop k).map fun j=> .int .i64 (σ j:Nat),?_⟩ (by simp);rw [g6];show []++(List.range N).map (fun j=>J.int .i64 (σ j:Nat))++[]=_;rw [List.nil_append,List.append_nil,←List.map_append]
  congr 1
  have:=List.take_append_drop k (List.range N);rw [List.take_range,Nat.min_eq_left az]at this;exact this.symm
 obtain⟨aU,hM,mG,f5⟩:=Qc (B:=H.next) (mc:=N) (y:=y) (σ:=σ) (m:=k) (by omega) (fun j ay=>by rw [←rl];exact iP j (by omega)) bi (by omega) k 0 (up au 5) (by omega) (by show H.next≤au.next+5;omega) Qh (aW.aI (vl.more (Fr.up au 5 []) (by simp)) (by simp));have cU:=f5.next
 have cU:au.next+5≤aU.next:=cU
 obtain⟨v,U,aM,rfl,rfl⟩:=OV H H1 af ax au aU N oG (H.next+3) H.next k N oH k bv (fun v U=>v=.tuple []∧U=aU)
  (ae (Nat.le_refl _) ⟨Qe,ae (by omega) ⟨kP rfl (by omega),ae (by omega) ⟨aR.cx jn,ae (by omega) ⟨⟨Cx⟩,ae (by omega) ⟨OH lp az,aR.cx hM,df (by omega) ⟨rfl,rfl⟩⟩⟩⟩⟩⟩)
 exact⟨σ,_,aM,s1,s2,mG,((vl.more (Fr.up au 5 []) (by simp)).sub (M:=[qa]) (by simp)).trans f5 (fun x ab _=>ab),by omega⟩
end Go.Proofs.YtjpfnbihopoeeaaGreatDoor
namespace Go.Proofs.YtjpfnbihopoeeaaGreatDoor
open Go.ba
theorem vm{p:Prop}{α:Type}{d:Decidable p}{a b:α}(h:¬p):(Decidable.rec (motive:=fun _=>α) (fun _=>a) (fun _=>b) d)=a:=by
 cases d with
 |isFalse _=>rfl
 |isTrue e=>exact absurd e h
def fm(Y:List Int)(i:Nat):List Int:=Y.take i++List.replicate (Y.length-i) 0
theorem yq(Y:List Int){i:Nat}(h:i≤Y.length):(fm Y i).length=Y.length:=by unfold fm;simp only [List.length_append,List.length_take,List.length_replicate];omega
theorem yr(Y:List Int){i:Nat}(h:i<Y.length):(fm Y i).set i Y[i]=fm Y (i+1):=by
 unfold fm;have bl:(Y.take i).length=i:=by rw [List.length_take];omega
 rw [List.set_append_right _ _ (by omega),bl,Nat.sub_self,show Y.length-i=(Y.length- (i+1))+1 by omega,List.replicate_succ,List.set_cons_zero];have e:Y.take (i+1)=Y.take i++[Y[i]]:=by rw [List.take_add_one,List.getElem?_eq_getElem h];rfl
 rw [e,List.append_assoc,List.singleton_append]
def c1(t al:Int)(w:List Int):List Int:=w.map fun x=>IntKind.wrap .i64 (Int.tdiv (t*x) al)
def e4(t al:Int)(w:List Int):List Int:=w.map fun x=>Int.tmod (t*x) al
abbrev Cy(t al:Int)(dg dR:J)(wo:Option aO)(N wc i:Nat):a6:=[(0,.int .i64 t),(5,.int .i64 al),(6,dg),(7,dR),(21,.slice wo N wc),(22,.int .i64 (N:Nat)),(23,.int .i64 (i:Nat))]
theorem Qi{B N wc qw qo qr:Nat}{wo:Option aO}{dg dR:J}{t al:Int}{w:List Int}(bA:N=w.length)(yo:N<2^40)(et:¬al=0)(bl:∀x∈w, -2^62≤t*x∧t*x≤2^62)(U:qo≠qr)(ak:qw≠qo)(aP:qw≠qr):∀(f i:Nat)(H:I),i+f=N→B≤H.next→dJ H qw (.slice wo N wc) (dh w)→cQ H 3 qo dg (dh (fm (c1 t al w) i))→cQ H 3 qr dR (dh (fm (e4 t al w) i)) →
 ∃H',bf Tryz.prog aq B 53 (aY Tryz.prog 94 0) (Cy t al dg dR wo N wc i) H (.exit 0) [(0,.int .i64 t),(6,dg),(7,dR)] H'∧cQ H' 3 qo dg (dh (c1 t al w))∧cQ H' 3 qr dR (dh (e4 t al w))∧Fr H H' [qo,qr]:=by
 have gy:(c1 t al w).length=N:=by rw [c1,List.length_map,bA]
 have nJ:(e4 t al w).length=N:=by rw [e4,List.length_map,bA]
 intro f;induction f with
 |zero =>
  intro i H ac aX r nK wr;obtain rfl:i=N:=by omega
  have eq:fm (c1 t al w) i=c1 t al w:=by unfold fm;rw [gy,Nat.sub_self,List.take_of_length_le (by omega)];simp
  have jH:fm (e4 t al w) i=e4 t al w:=by unfold fm;rw [nJ,Nat.sub_self,List.take_of_length_le (by omega)];simp
  rw [eq]at nK;rw [jH]at wr;obtain⟨e,ah,U,aC,rfl,rfl,rfl⟩:=OO H B i wc i wo t al dg dR (fun e ah U=>e=.exit 0∧ah=Cy t al dg dR wo i wc i∧U=up H 1) (ae aX ⟨b7 (by omega),rfl,rfl,rfl⟩);exact⟨up H 1,(bf.last (by simp) aC).post (bL.facts (ed [0,6,7] (by kernel_rfl))),nK.aI (Fr.up H 1 []) (by simp),wr.aI (Fr.up H 1 []) (by simp),Fr.up H 1 _⟩
 |succ f ih =>
  intro i H ac aX r nK wr;have bH:i<w.length:=by omega
  obtain⟨p,cv,bu,bS⟩:=r.int bH;have ab:=bl _ (List.getElem_mem bH);have oO:(c1 t al w)[i]'(by omega)=IntKind.wrap .i64 (Int.tdiv (t*w[i]) al):=by simp [c1]
  have nc:(e4 t al w)[i]'(by omega)=Int.tmod (t*w[i]) al:=by simp [e4]
  have Qj:=yq (c1 t al w) (i:=i) (by omega);have Qk:=yq (e4 t al w) (i:=i) (by omega);obtain⟨a,H1,aT,bw,cy,fv,fQ,iQ⟩:=nK.hq lp (i:=i) (x:= .int .i64 (IntKind.wrap .i64 (Int.tdiv (t*w[i]) al))) (by rw [List.length_map];omega) (by rw [List.getElem_map];rfl) rfl 15;obtain⟨bN,af,bU,b8,dj,eJ,fB,fS⟩:=(wr.aI fQ (by simp;omega)).hq lp (i:=i) (x:= .int .i64 (Int.tmod (t*w[i]) al)) (by rw [List.length_map];omega) (by rw [List.getElem_map];rfl) rfl 9
  have eq:(dh (fm (c1 t al w) i)).set i (.int .i64 (IntKind.wrap .i64 (Int.tdiv (t*w[i]) al)))=dh (fm (c1 t al w) (i+1)):=by rw [←yr _ (by omega),oO,dh,dh,List.map_set]
  have jH:(dh (fm (e4 t al w) i)).set i (.int .i64 (Int.tmod (t*w[i]) al))=dh (fm (e4 t al w) (i+1)):=by rw [←yr _ (by omega),nc,dh,dh,List.map_set]
  rw [eq]at cy;rw [jH]at dj;have i':=Fr.up af 2 [];have f2:Fr H (up af 2) [qo,qr]:=((fQ.sub (M:=[qo,qr]) (by simp)).trans fB (by intro x ab _;simp at ab;simp [ab])).trans i' (by simp);obtain⟨H',L,k1,k2,bT⟩:=ih (i+1) (up af 2) (by omega) (by show B≤af.next+2;omega) (r.aI f2 (by simp;omega)) ((cy.aI fB (by simpa using U)).aI i' (by simp)) (dj.aI i' (by simp))
  obtain⟨e,ah,hk,aC,rfl,rfl,rfl⟩:=OM H H1 af B N wc i wo t al w[i] (IntKind.wrap .i64 (Int.tdiv (t*w[i]) al)) (Int.tmod (t*w[i]) al) dg dR p a bN (fun e ah U=>e=.normal∧ah=Cy t al dg dR wo N wc (i+1)∧U=up af 2)
   (ae aX ⟨bB (by omega),ae (by omega) ⟨cv,bS _,ae (by omega) ⟨⟨by omega,by omega⟩,vm et,aT,cR rfl rfl bw,ae (by omega) ⟨⟨by omega,by omega⟩,vm et,bU,cR rfl rfl b8,ae (by omega) ⟨⟨by omega,by omega⟩,rfl,by rw [dx],rfl⟩⟩⟩⟩⟩)
  exact⟨H',bf.round aC (bL.refl _ _ _ _) L,k1,k2,f2.trans bT (fun x ab _=>ab)⟩
end Go.Proofs.YtjpfnbihopoeeaaGreatDoor
