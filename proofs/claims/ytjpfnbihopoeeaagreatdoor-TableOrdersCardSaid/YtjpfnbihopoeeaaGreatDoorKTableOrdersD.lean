/-
  Parts of the proof, one behind the other:
  Fields of a row, and what holds rows against each other.
  Contracts: a row's field, sign, cmp.Compare, strings.Compare.
  What holds two rows against each other: the program's and the document's, as trees.
  What By's function and the document's Compare answer.
  THE CLOSED RUN of 'frescolaw14.works' on the abstract machine: it answers true.
  TableOrders: its walk, as a tree.
  THE LIFT: arguments that came in, as rows that must not be written.
  THE LIFT: arguments of flat types (numbers, bools, strings, structs and arrays of these; slices of such), as they came in.
  Flat slices whose elements hold texts: these are not too long.
  TableOrders answers true.
  TableOrders at rows as they lie.
  What the table's statements lean on of the library's variables, where the row's variables hold what the card ties them to; and a world in which all of it lies.
-/
import Derived.ProofKit
import Derived.OpenShut
import Derived.ChangeOld
import Derived.HandedShaped
import Derived.Deep.Slices
import Derived.Test.YtjpfnbihopoeeaaGreatDoorRows
import Derived.LaidMore
import Derived.Stop.Joined
import Derived.Stop.LaidErr
import Derived.MakeChecks
import Derived.Lib.LaidTab
import Derived.LaidOnce
import Derived.Test.YtjpfnbihopoeeaaGreatDoorKTableOrdersC
set_option linter.unusedVariables false
set_option linter.unusedSimpArgs false
set_option linter.unusedSectionVars false
namespace Go.Proofs.YtjpfnbihopoeeaaGreatDoor
open Go.Lift
set_option maxRecDepth 1000000
theorem fieldH_vc(H:AHeap)(o:Option AAddr)(n c:Nat)(k:Int)(p:AAddr)(w:List UInt8)(K0:AVal→AHeap→Prop)(vc:bif Nat.ble (AHeap.next H) (AHeap.next H) && true then bif Nat.ble (AHeap.next H) (AHeap.next H+1) && true then(k<0→bif Nat.ble (AHeap.next H) (AHeap.next H+9) && true then bif Nat.ble (AHeap.next H) (AHeap.next H+10)then K0 (AVal.str []) (AHeap.mk (AHeap.next H+9+1) (AHeap.blks (AHeap.mk (AHeap.next H+1+8) (AHeap.blks (AHeap.mk (AHeap.next H+1) (AHeap.blks H))))))else False else False)∧(¬k<0→((↑n:Int)≤k→bif Nat.ble (AHeap.next H) (AHeap.next H+9) && true then bif Nat.ble (AHeap.next H) (AHeap.next H+10)then K0 (AVal.str []) (AHeap.mk (AHeap.next H+9+1) (AHeap.blks (AHeap.mk (AHeap.next H+1+8) (AHeap.blks (AHeap.mk (AHeap.next H+1) (AHeap.blks H))))))else False else False)∧(¬(↑n:Int)≤k→bif Nat.ble (AHeap.next H) (AHeap.next H+9) && true then aindexAddr (AEnv.D env) 36 (AVal.slice o n c) (AVal.int IntKind.i64 k)=some (AVal.ptr (some p))∧aload (AEnv.D env) 9 p (AHeap.mk (AHeap.next H+14) (H.2))=some (AVal.str w)∧bif Nat.ble (AHeap.next H) (AHeap.next H+14)then K0 (AVal.str w) (AHeap.mk (AHeap.next H+9+5) (AHeap.blks (AHeap.mk (AHeap.next H+1+8) (AHeap.blks (AHeap.mk (AHeap.next H+1) (AHeap.blks H))))))else False else False))else False else False) :
    ∃ v h1,FDoes Tryz.prog cnd 49 [.slice o n c,.int .i64 k] H v h1∧K0 v h1 :=
  tcall_does env_ok mixed noSpecs_ok (hs:= .br 1001 .nil (.br 1006 .nil (.hint (.val 3002 (AVal.ptr (some p))) (.hint (.val 3003 (AVal.str w)) .nil)))) (by kernel_rfl) vc
theorem dfieldH_vc(H:AHeap)(o:Option AAddr)(n c:Nat)(k:Int)(p:AAddr)(w:List UInt8)(K0:AVal→AHeap→Prop)(vc:bif Nat.ble (AHeap.next H) (AHeap.next H) && true then bif Nat.ble (AHeap.next H) (AHeap.next H+1) && true then(k<0→bif Nat.ble (AHeap.next H) (AHeap.next H+9) && true then bif Nat.ble (AHeap.next H) (AHeap.next H+10)then K0 (AVal.str []) (AHeap.mk (AHeap.next H+9+1) (AHeap.blks (AHeap.mk (AHeap.next H+1+8) (AHeap.blks (AHeap.mk (AHeap.next H+1) (AHeap.blks H))))))else False else False)∧(¬k<0→((↑n:Int)≤k→bif Nat.ble (AHeap.next H) (AHeap.next H+9) && true then bif Nat.ble (AHeap.next H) (AHeap.next H+10)then K0 (AVal.str []) (AHeap.mk (AHeap.next H+9+1) (AHeap.blks (AHeap.mk (AHeap.next H+1+8) (AHeap.blks (AHeap.mk (AHeap.next H+1) (AHeap.blks H))))))else False else False)∧(¬(↑n:Int)≤k→bif Nat.ble (AHeap.next H) (AHeap.next H+9) && true then aindexAddr (AEnv.D env) 36 (AVal.slice o n c) (AVal.int IntKind.i64 k)=some (AVal.ptr (some p))∧aload (AEnv.D env) 9 p (AHeap.mk (AHeap.next H+14) (H.2))=some (AVal.str w)∧bif Nat.ble (AHeap.next H) (AHeap.next H+14)then K0 (AVal.str w) (AHeap.mk (AHeap.next H+9+5) (AHeap.blks (AHeap.mk (AHeap.next H+1+8) (AHeap.blks (AHeap.mk (AHeap.next H+1) (AHeap.blks H))))))else False else False))else False else False) :
    ∃ v h1,FDoes Tryz.prog cnd 55 [.slice o n c,.int .i64 k] H v h1∧K0 v h1 :=
  tcall_does env_ok mixed noSpecs_ok (hs:= .br 1001 .nil (.br 1006 .nil (.hint (.val 3002 (AVal.ptr (some p))) (.hint (.val 3003 (AVal.str w)) .nil)))) (by kernel_rfl) vc
theorem sign_vc(x y:Bool)(K0:AVal→AHeap→Prop)(vc:(x=true→K0 (AVal.int IntKind.i64 (-1)) (AHeap.rowsT 3 []))∧(x=false→(y=true→K0 (AVal.int IntKind.i64 (1)) (AHeap.rowsT 4 []))∧(y=false→K0 (AVal.int IntKind.i64 (0)) (AHeap.rowsT 4 [])))) :
    ∃ v h1,FDoes Tryz.prog cnd 69 [.bool x,.bool y] (⟨0,.nil⟩) v h1∧K0 v h1 :=
  tcall_does env_ok mixed noSpecs_ok (hs:= .br 1000 .nil (.br 3000 .nil .nil)) (by kernel_rfl) vc
theorem cmpi_vc(x y:Int)(K0:AVal→AHeap→Prop)(vc:CallT Tryz.prog cnd 120 [AVal.int IntKind.i64 x] (AHeap.rowsT 4 []) (AVal.bool false) (AHeap.rowsT 4 [])∧CallT Tryz.prog cnd 120 [AVal.int IntKind.i64 y] (AHeap.rowsT 7 []) (AVal.bool false) (AHeap.rowsT 7 [])∧(x<y→K0 (AVal.int IntKind.i64 (-1)) (AHeap.rowsT 13 []))∧(¬x<y→(y<x→K0 (AVal.int IntKind.i64 (1)) (AHeap.rowsT 16 []))∧(¬y<x→K0 (AVal.int IntKind.i64 (0)) (AHeap.rowsT 16 [])))) :
    ∃ v h1,FDoes Tryz.prog cnd 66 [.int .i64 x,.int .i64 y] (⟨0,.nil⟩) v h1∧K0 v h1 :=
  tcall_does env_ok mixed noSpecs_ok (hs:= .hint (.val 1001 (AVal.bool false)) (.hint (.val 2001 (AVal.bool false)) (.br 9002 .nil (.br 11002 .nil .nil)))) (by kernel_rfl) vc
theorem nan_vc(x:Int)(K0:AVal→AHeap→Prop)(vc:(x=x→K0 (AVal.bool false) (AHeap.rowsT 5 []))∧(¬x=x→K0 (AVal.bool true) (AHeap.rowsT 5 []))) :
    ∃ v h1,FDoes Tryz.prog cnd 120 [.int .i64 x] (⟨0,.nil⟩) v h1∧K0 v h1 :=
  tcall_does env_ok mixed noSpecs_ok (hs:= .br 1002 .nil .nil) (by kernel_rfl) vc
end Go.Proofs.YtjpfnbihopoeeaaGreatDoor
namespace Go.Proofs.YtjpfnbihopoeeaaGreatDoor
open Go.Lift
set_option maxRecDepth 1000000
def sgnV(a b:Bool):Int:=if a=true then-1 else if b=true then 1 else 0
theorem sign_does(a b:Bool)(H:AHeap):FDoes Tryz.prog cnd 69 [.bool a,.bool b] H (.int .i64 (sgnV a b)) H :=
  FDoes.ofVC (sign_vc a b (fun v _=>v= .int .i64 (sgnV a b)) ⟨fun h=>by rw [h];rfl,fun h=>⟨fun h2=>by rw [h,h2];rfl,fun h2=>by rw [h,h2];rfl⟩⟩) rfl rfl H
theorem nan_does(x:Int)(H:AHeap):FDoes Tryz.prog cnd 120 [.int .i64 x] H (.bool false) H :=
  FDoes.ofVC (nan_vc x (fun v _=>v= .bool false) ⟨fun _=>rfl,fun h=>absurd rfl h⟩) rfl rfl H
theorem cmpi_does(x y:Int)(H:AHeap):FDoes Tryz.prog cnd 66 [.int .i64 x,.int .i64 y] H (.int .i64 (sgnV (decide (x<y)) (decide (y<x)))) H :=
  FDoes.ofVC (cmpi_vc x y (fun v _=>v= .int .i64 (sgnV (decide (x<y)) (decide (y<x)))) ⟨⟨nan_does _ _⟩,⟨nan_does _ _⟩,fun h=>by rw [decide_eq_true h];rfl,fun h=>⟨fun h2=>by rw [decide_eq_false h,decide_eq_true h2];rfl,fun h2=>by rw [decide_eq_false h,decide_eq_false h2];rfl⟩⟩) rfl rfl H
abbrev up(H:AHeap)(m:Nat):AHeap:=⟨H.next+m,H.blks⟩
def RowAt(H:AHeap)(v:AVal)(l:List Bytes):Prop :=
  ∃ o c,v= .slice o l.length c∧ ∀ i,(hi:i<l.length)→ ∃ a b,o=some a∧a.es=1∧a.fld=0∧H.get a.id=some b∧b.elem? a.ver (a.idx+i)=some (.str l[i])
def fieldV(l:List Bytes)(k:Int):Bytes:=if k<0 then []else(l[k.toNat]?).getD []
theorem fieldV_in {l:List Bytes}{k:Int}(h0: ¬k<0)(h: ¬(l.length:Int)≤k):fieldV l k=l[k.toNat]'(by omega):=by
  unfold fieldV
  rw [if_neg h0,List.getElem?_eq_getElem (by omega)];rfl
theorem fieldV_lo {l:List Bytes}{k:Int}(h0:k<0):fieldV l k= []:=if_pos h0
theorem fieldV_hi {l:List Bytes}{k:Int}(h:(l.length:Int)≤k):fieldV l k= []:=by
  unfold fieldV
  split
  · rfl
  · rw [List.getElem?_eq_none (by omega)];rfl
theorem condL {a b:Nat}{p:Prop}(h:a≤b)(k:p):_root_.cond (Nat.ble a b) p False:=by rw [Nat.ble_eq.mpr h];exact k
theorem bifL {a b:Nat}{p:Prop}(h:a≤b)(k:p):bif Nat.ble a b && true then p else False:=by rw [Nat.ble_eq.mpr h];exact k
theorem bump {f:FuncId}{args:List AVal}{H h':AHeap}{v:AVal}{n:Nat}(k:FDoes Tryz.prog cnd f args H v h')(hn:h'.next≤n):FDoes Tryz.prog cnd f args H v ⟨n,h'.blks⟩:=by
  intro S w0 hS hC0 φ w args' hH hB hA
  obtain⟨g1,g2⟩:=k S w0 hS hC0 φ w args' hH hB hA
  exact⟨g1,g2.mono fun e w' ⟨v',φ',a1,a2,a3,a4,a5,a6⟩=>⟨v',φ',a1,a2,a3,a4.next hn,a5,Nat.le_trans a6 hn⟩⟩
theorem RowAt.up {H:AHeap}{v:AVal}{l:List Bytes}(h:RowAt H v l)(m:Nat):RowAt (up H m) v l:=h
theorem rowT {k:Int} {l:List Bytes} {o:Option AAddr} {c:Nat} {H:AHeap} (hr: ∀ i,(hi:i<l.length)→ ∃ a b,o=some a∧a.es=1∧a.fld=0∧H.get a.id=some b∧b.elem? a.ver (a.idx+i)=some (.str l[i])) :
    ∃ p:AAddr,¬k<0→ ¬(l.length:Int)≤k→aindexAddr (AEnv.D env) 36 (AVal.slice o l.length c) (AVal.int IntKind.i64 k)=some (AVal.ptr (some p))∧ ∀ n,aload (AEnv.D env) 9 p (⟨n,H.blks⟩)=some (AVal.str (fieldV l k)):=by
  by_cases h0:k<0
  · exact⟨⟨0,0,0,0,0⟩,fun h=>absurd h0 h⟩
  · by_cases h1:(l.length:Int)≤k
    · exact⟨⟨0,0,0,0,0⟩,fun _ h=>absurd h1 h⟩
    · obtain⟨a,b,rfl,e1,e2,e3,e4⟩:=hr k.toNat (by omega)
      have hD:(AEnv.D env 36).map (fun d=>d.kind)=some (.slice 9):=by kernel_rfl
      have hE:(AEnv.D env 9).map (fun d=>(d.size,d.kind.isAgg))=some (1,false):=by kernel_rfl
      obtain⟨d,d1,d2⟩:=Option.map_eq_some_iff.1 hD
      obtain⟨x,x1,x2⟩:=Option.map_eq_some_iff.1 hE
      simp only [Prod.mk.injEq]at x2
      refine⟨{a with idx:=a.idx+k.toNat},fun _ _=>⟨?_,fun n=> ?_⟩⟩
      · unfold aindexAddr
        simp only [d1,d2,x1]
        rw [if_pos ⟨by omega,by omega,by rw [e1,x2.1],e2⟩]
      · unfold aload
        have hg:AHeap.get ⟨n,H.blks⟩ a.id=some b:=e3
        simp only [x1,hg,e4,x2.2,fieldV_in h0 h1,loadElem,e2]
        rfl
theorem field_does {H:AHeap}{v:AVal}{l:List Bytes}(h:RowAt H v l)(k:Int):FDoes Tryz.prog cnd 49 [v,.int .i64 k] H (.str (fieldV l k)) (up H 14):=by
  obtain⟨o,c,rfl,hr⟩:=h
  obtain⟨p,hp⟩:=rowT (k:=k) (c:=c) hr
  obtain⟨v1,h1,hd,rfl,m,hm,rfl⟩:=fieldH_vc H o l.length c k p (fieldV l k) (fun v h1=>v= .str (fieldV l k)∧ ∃ m,m≤14∧h1=up H m)
    (bifL (Nat.le_refl _) (bifL (by omega) ⟨fun h=>bifL (by omega) (condL (by omega) ⟨by rw [fieldV_lo h],10,by omega,rfl⟩),fun h=>⟨fun h2=>bifL (by omega) (condL (by omega) ⟨by rw [fieldV_hi h2],10,by omega,rfl⟩),
      fun h2=>bifL (by omega) ⟨(hp h h2).1,(hp h h2).2 _,condL (by omega) ⟨rfl,14,by omega,rfl⟩⟩⟩⟩))
  exact bump (h':=up H m) hd (by show H.next+m≤H.next+14;omega)
theorem dfield_does {H:AHeap}{v:AVal}{l:List Bytes}(h:RowAt H v l)(k:Int):FDoes Tryz.prog cnd 55 [v,.int .i64 k] H (.str (fieldV l k)) (up H 14):=by
  obtain⟨o,c,rfl,hr⟩:=h
  obtain⟨p,hp⟩:=rowT (k:=k) (c:=c) hr
  obtain⟨v1,h1,hd,rfl,m,hm,rfl⟩:=dfieldH_vc H o l.length c k p (fieldV l k) (fun v h1=>v= .str (fieldV l k)∧ ∃ m,m≤14∧h1=up H m)
    (bifL (Nat.le_refl _) (bifL (by omega) ⟨fun h=>bifL (by omega) (condL (by omega) ⟨by rw [fieldV_lo h],10,by omega,rfl⟩),fun h=>⟨fun h2=>bifL (by omega) (condL (by omega) ⟨by rw [fieldV_hi h2],10,by omega,rfl⟩),
      fun h2=>bifL (by omega) ⟨(hp h h2).1,(hp h h2).2 _,condL (by omega) ⟨rfl,14,by omega,rfl⟩⟩⟩⟩))
  exact bump (h':=up H m) hd (by show H.next+m≤H.next+14;omega)
end Go.Proofs.YtjpfnbihopoeeaaGreatDoor
namespace Go.Proofs.YtjpfnbihopoeeaaGreatDoor
open Go.Lift
set_option maxRecDepth 1000000
def numI(o:Option Int):Int:=o.getD 0
def numB(o:Option Int):Bool:=o.isSome
theorem numA_eq(o:Option Int):numA o= .tuple [.int .i64 (numI o),.bool (numB o)]:=by cases o<;>rfl
noncomputable def numbS:List AVal→AHeap→Option Alts:=pureS fun a=>match a with | [.str s]=>some (.tuple [.int .i64 (numI (numD s)),.bool (numB (numD s))],[s.length<2^48]) | _=>none
theorem numbS_ok: ∀ args h a,numbS args h=some a→a.Ok Tryz.prog cnd 65 args h:=by
  refine pureS_ok ?_
  intro args v ps e hp H
  split at e<;>first | (cases e;done) | skip
  simp only [Option.some.injEq,Prod.mk.injEq]at e
  obtain⟨rfl,rfl⟩:=e
  have k:=num_does _ hp.head H
  rwa [numA_eq]at k
theorem dnumS_ok: ∀ args h a,numbS args h=some a→a.Ok Tryz.prog cnd 68 args h:=by
  refine pureS_ok ?_
  intro args v ps e hp H
  split at e<;>first | (cases e;done) | skip
  simp only [Option.some.injEq,Prod.mk.injEq]at e
  obtain⟨rfl,rfl⟩:=e
  have k:=dnum_does _ hp.head H
  rwa [numA_eq]at k
def signS:List AVal→AHeap→Option Alts:=pureS fun a=>match a with | [.bool x,.bool y]=>some (.int .i64 (sgnV x y),[]) | _=>none
theorem signS_ok: ∀ args h a,signS args h=some a→a.Ok Tryz.prog cnd 69 args h:=by
  refine pureS_ok ?_
  intro args v ps e hp H
  split at e<;>first | (cases e;done) | skip
  simp only [Option.some.injEq,Prod.mk.injEq]at e
  obtain⟨rfl,rfl⟩:=e
  exact sign_does _ _ H
def cmpiS:List AVal→AHeap→Option Alts:=pureS fun a=>match a with | [.int .i64 x,.int .i64 y]=>some (.int .i64 (sgnV (decide (x<y)) (decide (y<x))),[]) | _=>none
theorem cmpiS_ok: ∀ args h a,cmpiS args h=some a→a.Ok Tryz.prog cnd 66 args h:=by
  refine pureS_ok ?_
  intro args v ps e hp H
  split at e<;>first | (cases e;done) | skip
  simp only [Option.some.injEq,Prod.mk.injEq]at e
  obtain⟨rfl,rfl⟩:=e
  exact cmpi_does _ _ H
def cmpsS:List AVal→AHeap→Option Alts:=pureS fun a=>match a with | [.str x,.str y]=>some (.int .i64 (Lib.compareBytes x y),[]) | _=>none
theorem cmpsS_ok: ∀ args h a,cmpsS args h=some a→a.Ok Tryz.prog cnd 121 args h:=by
  refine pureS_ok ?_
  intro args v ps e hp H
  split at e<;>first | (cases e;done) | skip
  simp only [Option.some.injEq,Prod.mk.injEq]at e
  obtain⟨rfl,rfl⟩:=e
  exact cmps_does _ _ H
noncomputable def specsB:Specs:=((((noSpecs.add 65 numbS).add 68 numbS).add 69 signS).add 66 cmpiS).add 121 cmpsS
theorem specsB_ok:SpecsOk Tryz.prog cnd specsB:=((((noSpecs_ok.add numbS_ok).add dnumS_ok).add signS_ok).add cmpiS_ok).add cmpsS_ok
theorem byT_vc(H H1 H2:AHeap)(va vb:AVal)(p q:Nat)(k:Int)(x y:List UInt8)(K0:AVal→AHeap→Prop)(vc:bif Nat.ble (AHeap.next H) (AHeap.next H) && true then bif Nat.ble (AHeap.next H) (AHeap.next H+1) && true then aload (AEnv.D env) 4 ⟨p,0,0,0,1⟩ (AHeap.mk (AHeap.next H+2) (H.2))=some (AVal.bool true)∧bif Nat.ble (AHeap.next H) (AHeap.next H+2) && true then bif Nat.ble (AHeap.next H) (AHeap.next H+6) && true then aload (AEnv.D env) 3 ⟨q,0,0,0,1⟩ (AHeap.mk (AHeap.next H+14) (H.2))=some (AVal.int IntKind.i64 k)∧q<AHeap.next H+6∧CallT Tryz.prog cnd 49 [vb,AVal.int IntKind.i64 k] (AHeap.mk (AHeap.next H+14) (H.2)) (AVal.str x) H1∧sameOld (AHeap.next H+14) (AHeap.mk (AHeap.next H+14) (H.2)) H1=true∧aload (AEnv.D env) 3 ⟨q,0,0,0,1⟩ H1=some (AVal.int IntKind.i64 k)∧q<AHeap.next H+6∧CallT Tryz.prog cnd 49 [va,AVal.int IntKind.i64 k] H1 (AVal.str y) H2∧Agree [vb,AVal.int IntKind.i64 k] [va,AVal.int IntKind.i64 k] (AHeap.mk (AHeap.next H+14) (H.2)) H1 (AVal.str x) (AVal.str y) H1 H2∧bif Nat.ble (AHeap.next H) (AHeap.next H2) && true then List.length x<281474976710656∧(numB (numD x)=true→bif Nat.ble (AHeap.next H) (AHeap.next H2+7) && true then List.length y<281474976710656∧(numB (numD y)=true→bif Nat.ble (AHeap.next H) (AHeap.next H2+14) && true then bif Nat.ble (AHeap.next H) (AHeap.next H2+19) && true then bif Nat.ble (AHeap.next H) (AHeap.next H2+23)then K0 (AVal.int IntKind.i64 (sgnV (decide (numI (numD x)<numI (numD y))) (decide (numI (numD y)<numI (numD x))))) (AHeap.mk (AHeap.next H2+19+4) (AHeap.blks (AHeap.mk (AHeap.next H2+14+5) (AHeap.blks (AHeap.mk (AHeap.next H2+7+7) (AHeap.blks (AHeap.mk (AHeap.next H2+7) (AHeap.blks H2))))))))else False else False else False)∧(numB (numD y)=false→bif Nat.ble (AHeap.next H) (AHeap.next H2+14) && true then bif Nat.ble (AHeap.next H) (AHeap.next H2+19) && true then bif Nat.ble (AHeap.next H) (AHeap.next H2+21) && true then bif Nat.ble (AHeap.next H) (AHeap.next H2+22)then K0 (AVal.int IntKind.i64 (-1)) (AHeap.mk (AHeap.next H2+21+1) (AHeap.blks (AHeap.mk (AHeap.next H2+19+2) (AHeap.blks (AHeap.mk (AHeap.next H2+14+5) (AHeap.blks (AHeap.mk (AHeap.next H2+7+7) (AHeap.blks (AHeap.mk (AHeap.next H2+7) (AHeap.blks H2))))))))))else False else False else False else False)else False)∧(numB (numD x)=false→bif Nat.ble (AHeap.next H) (AHeap.next H2+7) && true then List.length y<281474976710656∧(numB (numD y)=true→bif Nat.ble (AHeap.next H) (AHeap.next H2+14) && true then bif Nat.ble (AHeap.next H) (AHeap.next H2+19) && true then bif Nat.ble (AHeap.next H) (AHeap.next H2+21) && true then bif Nat.ble (AHeap.next H) (AHeap.next H2+23) && true then bif Nat.ble (AHeap.next H) (AHeap.next H2+24)then K0 (AVal.int IntKind.i64 (1)) (AHeap.mk (AHeap.next H2+23+1) (AHeap.blks (AHeap.mk (AHeap.next H2+21+2) (AHeap.blks (AHeap.mk (AHeap.next H2+19+2) (AHeap.blks (AHeap.mk (AHeap.next H2+14+5) (AHeap.blks (AHeap.mk (AHeap.next H2+7+7) (AHeap.blks (AHeap.mk (AHeap.next H2+7) (AHeap.blks H2))))))))))))else False else False else False else False else False)∧(numB (numD y)=false→bif Nat.ble (AHeap.next H) (AHeap.next H2+14) && true then bif Nat.ble (AHeap.next H) (AHeap.next H2+19) && true then bif Nat.ble (AHeap.next H) (AHeap.next H2+21) && true then bif Nat.ble (AHeap.next H) (AHeap.next H2+23) && true then bif Nat.ble (AHeap.next H2+27) (AHeap.next H2+27) && true then bif Nat.ble (AHeap.next H2+27) (AHeap.next H2+28) && true then bif Nat.ble (AHeap.next H2+27) (AHeap.next H2+32)then bif Nat.ble (AHeap.next H) (AHeap.next H2+32)then K0 (AVal.int IntKind.i64 (Lib.compareBytes x y)) (AHeap.mk (AHeap.next H2+28+4) (AHeap.blks (AHeap.mk (AHeap.next H2+27+1) (AHeap.blks (AHeap.mk (AHeap.next H2+23+4) (AHeap.blks (AHeap.mk (AHeap.next H2+21+2) (AHeap.blks (AHeap.mk (AHeap.next H2+19+2) (AHeap.blks (AHeap.mk (AHeap.next H2+14+5) (AHeap.blks (AHeap.mk (AHeap.next H2+7+7) (AHeap.blks (AHeap.mk (AHeap.next H2+7) (AHeap.blks H2))))))))))))))))else False else False else False else False else False else False else False else False)else False)else False else False else False else False else False) :
    ∃ v h1,FDoes Tryz.prog cnd 64 [va,vb,.ptr (some ⟨p,0,0,0,1⟩),.ptr (some ⟨q,0,0,0,1⟩)] H v h1∧K0 v h1 :=
  tcall_does env_ok mixed specsB_ok (hs:= .hint (.val 1000 (AVal.bool true)) (.hint (.farV 3001 (AVal.int IntKind.i64 k)) (.hint (.act 3002 (AVal.str x) fun x=>H1) (.hint (.farV 3004 (AVal.int IntKind.i64 k)) (.hint (.act 3005 (AVal.str y) fun x=>H2) (.br 4004 (.br 5004 .nil .nil) (.br 5004 .nil (.hint (.enter 12002) .nil)))))))) (by kernel_rfl) vc
theorem byF_vc(H H1 H2:AHeap)(va vb:AVal)(p q:Nat)(k:Int)(x y:List UInt8)(K0:AVal→AHeap→Prop)(vc:bif Nat.ble (AHeap.next H) (AHeap.next H) && true then bif Nat.ble (AHeap.next H) (AHeap.next H+1) && true then aload (AEnv.D env) 4 ⟨p,0,0,0,1⟩ (AHeap.mk (AHeap.next H+2) (H.2))=some (AVal.bool false)∧bif Nat.ble (AHeap.next H) (AHeap.next H+2) && true then aload (AEnv.D env) 3 ⟨q,0,0,0,1⟩ (AHeap.mk (AHeap.next H+10) (H.2))=some (AVal.int IntKind.i64 k)∧q<AHeap.next H+2∧CallT Tryz.prog cnd 49 [va,AVal.int IntKind.i64 k] (AHeap.mk (AHeap.next H+10) (H.2)) (AVal.str x) H1∧sameOld (AHeap.next H+10) (AHeap.mk (AHeap.next H+10) (H.2)) H1=true∧aload (AEnv.D env) 3 ⟨q,0,0,0,1⟩ H1=some (AVal.int IntKind.i64 k)∧q<AHeap.next H+2∧CallT Tryz.prog cnd 49 [vb,AVal.int IntKind.i64 k] H1 (AVal.str y) H2∧Agree [va,AVal.int IntKind.i64 k] [vb,AVal.int IntKind.i64 k] (AHeap.mk (AHeap.next H+10) (H.2)) H1 (AVal.str x) (AVal.str y) H1 H2∧bif Nat.ble (AHeap.next H) (AHeap.next H2) && true then List.length x<281474976710656∧(numB (numD x)=true→bif Nat.ble (AHeap.next H) (AHeap.next H2+7) && true then List.length y<281474976710656∧(numB (numD y)=true→bif Nat.ble (AHeap.next H) (AHeap.next H2+14) && true then bif Nat.ble (AHeap.next H) (AHeap.next H2+19) && true then bif Nat.ble (AHeap.next H) (AHeap.next H2+23)then K0 (AVal.int IntKind.i64 (sgnV (decide (numI (numD x)<numI (numD y))) (decide (numI (numD y)<numI (numD x))))) (AHeap.mk (AHeap.next H2+19+4) (AHeap.blks (AHeap.mk (AHeap.next H2+14+5) (AHeap.blks (AHeap.mk (AHeap.next H2+7+7) (AHeap.blks (AHeap.mk (AHeap.next H2+7) (AHeap.blks H2))))))))else False else False else False)∧(numB (numD y)=false→bif Nat.ble (AHeap.next H) (AHeap.next H2+14) && true then bif Nat.ble (AHeap.next H) (AHeap.next H2+19) && true then bif Nat.ble (AHeap.next H) (AHeap.next H2+21) && true then bif Nat.ble (AHeap.next H) (AHeap.next H2+22)then K0 (AVal.int IntKind.i64 (-1)) (AHeap.mk (AHeap.next H2+21+1) (AHeap.blks (AHeap.mk (AHeap.next H2+19+2) (AHeap.blks (AHeap.mk (AHeap.next H2+14+5) (AHeap.blks (AHeap.mk (AHeap.next H2+7+7) (AHeap.blks (AHeap.mk (AHeap.next H2+7) (AHeap.blks H2))))))))))else False else False else False else False)else False)∧(numB (numD x)=false→bif Nat.ble (AHeap.next H) (AHeap.next H2+7) && true then List.length y<281474976710656∧(numB (numD y)=true→bif Nat.ble (AHeap.next H) (AHeap.next H2+14) && true then bif Nat.ble (AHeap.next H) (AHeap.next H2+19) && true then bif Nat.ble (AHeap.next H) (AHeap.next H2+21) && true then bif Nat.ble (AHeap.next H) (AHeap.next H2+23) && true then bif Nat.ble (AHeap.next H) (AHeap.next H2+24)then K0 (AVal.int IntKind.i64 (1)) (AHeap.mk (AHeap.next H2+23+1) (AHeap.blks (AHeap.mk (AHeap.next H2+21+2) (AHeap.blks (AHeap.mk (AHeap.next H2+19+2) (AHeap.blks (AHeap.mk (AHeap.next H2+14+5) (AHeap.blks (AHeap.mk (AHeap.next H2+7+7) (AHeap.blks (AHeap.mk (AHeap.next H2+7) (AHeap.blks H2))))))))))))else False else False else False else False else False)∧(numB (numD y)=false→bif Nat.ble (AHeap.next H) (AHeap.next H2+14) && true then bif Nat.ble (AHeap.next H) (AHeap.next H2+19) && true then bif Nat.ble (AHeap.next H) (AHeap.next H2+21) && true then bif Nat.ble (AHeap.next H) (AHeap.next H2+23) && true then bif Nat.ble (AHeap.next H2+27) (AHeap.next H2+27) && true then bif Nat.ble (AHeap.next H2+27) (AHeap.next H2+28) && true then bif Nat.ble (AHeap.next H2+27) (AHeap.next H2+32)then bif Nat.ble (AHeap.next H) (AHeap.next H2+32)then K0 (AVal.int IntKind.i64 (Lib.compareBytes x y)) (AHeap.mk (AHeap.next H2+28+4) (AHeap.blks (AHeap.mk (AHeap.next H2+27+1) (AHeap.blks (AHeap.mk (AHeap.next H2+23+4) (AHeap.blks (AHeap.mk (AHeap.next H2+21+2) (AHeap.blks (AHeap.mk (AHeap.next H2+19+2) (AHeap.blks (AHeap.mk (AHeap.next H2+14+5) (AHeap.blks (AHeap.mk (AHeap.next H2+7+7) (AHeap.blks (AHeap.mk (AHeap.next H2+7) (AHeap.blks H2))))))))))))))))else False else False else False else False else False else False else False else False)else False)else False else False else False else False) :
    ∃ v h1,FDoes Tryz.prog cnd 64 [va,vb,.ptr (some ⟨p,0,0,0,1⟩),.ptr (some ⟨q,0,0,0,1⟩)] H v h1∧K0 v h1 :=
  tcall_does env_ok mixed specsB_ok (hs:= .hint (.val 1000 (AVal.bool false)) (.hint (.farV 3001 (AVal.int IntKind.i64 k)) (.hint (.act 3002 (AVal.str x) fun x=>H1) (.hint (.farV 3004 (AVal.int IntKind.i64 k)) (.hint (.act 3005 (AVal.str y) fun x=>H2) (.br 4004 (.br 5004 .nil .nil) (.br 5004 .nil (.hint (.enter 12002) .nil)))))))) (by kernel_rfl) vc
theorem cmp_vc(H H1 H2:AHeap)(va vb:AVal)(k:Int)(d:Bool)(x y:List UInt8)(K0:AVal→AHeap→Prop)(vc:bif Nat.ble (AHeap.next H) (AHeap.next H) && true then bif Nat.ble (AHeap.next H) (AHeap.next H+1) && true then CallT Tryz.prog cnd 55 [va,AVal.int IntKind.i64 k] (AHeap.mk (AHeap.next H+5) (H.2)) (AVal.str x) H1∧bif Nat.ble (AHeap.next H) (AHeap.next H1) && true then CallT Tryz.prog cnd 55 [vb,AVal.int IntKind.i64 k] (AHeap.mk (AHeap.next H1+4) (H1.2)) (AVal.str y) H2∧bif Nat.ble (AHeap.next H) (AHeap.next H2) && true then List.length x<281474976710656∧(numB (numD x)=true→bif Nat.ble (AHeap.next H) (AHeap.next H2+7) && true then List.length y<281474976710656∧(numB (numD y)=true→bif Nat.ble (AHeap.next H) (AHeap.next H2+14) && true then bif Nat.ble (AHeap.next H) (AHeap.next H2+15) && true then bif Nat.ble (AHeap.next H) (AHeap.next H2+20) && true then(numI (numD x)<numI (numD y)→(numI (numD y)<numI (numD x)→bif Nat.ble (AHeap.next H) (AHeap.next H2+28) && true then(d=true→bif Nat.ble (AHeap.next H) (AHeap.next H2+29) && true then bif Nat.ble (AHeap.next H) (AHeap.next H2+32)then K0 (AVal.int IntKind.i64 (1)) (AHeap.mk (AHeap.next H2+29+3) (AHeap.blks (AHeap.mk (AHeap.next H2+28+1) (AHeap.blks (AHeap.mk (AHeap.next H2+20+8) (AHeap.blks (AHeap.mk (AHeap.next H2+15+5) (AHeap.blks (AHeap.mk (AHeap.next H2+14+1) (AHeap.blks (AHeap.mk (AHeap.next H2+7+7) (AHeap.blks (AHeap.mk (AHeap.next H2+7) (AHeap.blks H2))))))))))))))else False else False)∧(d=false→bif Nat.ble (AHeap.next H) (AHeap.next H2+29) && true then bif Nat.ble (AHeap.next H) (AHeap.next H2+31)then K0 (AVal.int IntKind.i64 (-1)) (AHeap.mk (AHeap.next H2+29+2) (AHeap.blks (AHeap.mk (AHeap.next H2+28+1) (AHeap.blks (AHeap.mk (AHeap.next H2+20+8) (AHeap.blks (AHeap.mk (AHeap.next H2+15+5) (AHeap.blks (AHeap.mk (AHeap.next H2+14+1) (AHeap.blks (AHeap.mk (AHeap.next H2+7+7) (AHeap.blks (AHeap.mk (AHeap.next H2+7) (AHeap.blks H2))))))))))))))else False else False)else False)∧(¬numI (numD y)<numI (numD x)→bif Nat.ble (AHeap.next H) (AHeap.next H2+28) && true then(d=true→bif Nat.ble (AHeap.next H) (AHeap.next H2+29) && true then bif Nat.ble (AHeap.next H) (AHeap.next H2+32)then K0 (AVal.int IntKind.i64 (1)) (AHeap.mk (AHeap.next H2+29+3) (AHeap.blks (AHeap.mk (AHeap.next H2+28+1) (AHeap.blks (AHeap.mk (AHeap.next H2+20+8) (AHeap.blks (AHeap.mk (AHeap.next H2+15+5) (AHeap.blks (AHeap.mk (AHeap.next H2+14+1) (AHeap.blks (AHeap.mk (AHeap.next H2+7+7) (AHeap.blks (AHeap.mk (AHeap.next H2+7) (AHeap.blks H2))))))))))))))else False else False)∧(d=false→bif Nat.ble (AHeap.next H) (AHeap.next H2+29) && true then bif Nat.ble (AHeap.next H) (AHeap.next H2+31)then K0 (AVal.int IntKind.i64 (-1)) (AHeap.mk (AHeap.next H2+29+2) (AHeap.blks (AHeap.mk (AHeap.next H2+28+1) (AHeap.blks (AHeap.mk (AHeap.next H2+20+8) (AHeap.blks (AHeap.mk (AHeap.next H2+15+5) (AHeap.blks (AHeap.mk (AHeap.next H2+14+1) (AHeap.blks (AHeap.mk (AHeap.next H2+7+7) (AHeap.blks (AHeap.mk (AHeap.next H2+7) (AHeap.blks H2))))))))))))))else False else False)else False))∧(¬numI (numD x)<numI (numD y)→(numI (numD y)<numI (numD x)→bif Nat.ble (AHeap.next H) (AHeap.next H2+28) && true then(d=true→bif Nat.ble (AHeap.next H) (AHeap.next H2+29) && true then bif Nat.ble (AHeap.next H) (AHeap.next H2+32)then K0 (AVal.int IntKind.i64 (-1)) (AHeap.mk (AHeap.next H2+29+3) (AHeap.blks (AHeap.mk (AHeap.next H2+28+1) (AHeap.blks (AHeap.mk (AHeap.next H2+20+8) (AHeap.blks (AHeap.mk (AHeap.next H2+15+5) (AHeap.blks (AHeap.mk (AHeap.next H2+14+1) (AHeap.blks (AHeap.mk (AHeap.next H2+7+7) (AHeap.blks (AHeap.mk (AHeap.next H2+7) (AHeap.blks H2))))))))))))))else False else False)∧(d=false→bif Nat.ble (AHeap.next H) (AHeap.next H2+29) && true then bif Nat.ble (AHeap.next H) (AHeap.next H2+31)then K0 (AVal.int IntKind.i64 (1)) (AHeap.mk (AHeap.next H2+29+2) (AHeap.blks (AHeap.mk (AHeap.next H2+28+1) (AHeap.blks (AHeap.mk (AHeap.next H2+20+8) (AHeap.blks (AHeap.mk (AHeap.next H2+15+5) (AHeap.blks (AHeap.mk (AHeap.next H2+14+1) (AHeap.blks (AHeap.mk (AHeap.next H2+7+7) (AHeap.blks (AHeap.mk (AHeap.next H2+7) (AHeap.blks H2))))))))))))))else False else False)else False)∧(¬numI (numD y)<numI (numD x)→bif Nat.ble (AHeap.next H) (AHeap.next H2+28) && true then(d=true→bif Nat.ble (AHeap.next H) (AHeap.next H2+29) && true then bif Nat.ble (AHeap.next H) (AHeap.next H2+32)then K0 (AVal.int IntKind.i64 (0)) (AHeap.mk (AHeap.next H2+29+3) (AHeap.blks (AHeap.mk (AHeap.next H2+28+1) (AHeap.blks (AHeap.mk (AHeap.next H2+20+8) (AHeap.blks (AHeap.mk (AHeap.next H2+15+5) (AHeap.blks (AHeap.mk (AHeap.next H2+14+1) (AHeap.blks (AHeap.mk (AHeap.next H2+7+7) (AHeap.blks (AHeap.mk (AHeap.next H2+7) (AHeap.blks H2))))))))))))))else False else False)∧(d=false→bif Nat.ble (AHeap.next H) (AHeap.next H2+29) && true then bif Nat.ble (AHeap.next H) (AHeap.next H2+31)then K0 (AVal.int IntKind.i64 (0)) (AHeap.mk (AHeap.next H2+29+2) (AHeap.blks (AHeap.mk (AHeap.next H2+28+1) (AHeap.blks (AHeap.mk (AHeap.next H2+20+8) (AHeap.blks (AHeap.mk (AHeap.next H2+15+5) (AHeap.blks (AHeap.mk (AHeap.next H2+14+1) (AHeap.blks (AHeap.mk (AHeap.next H2+7+7) (AHeap.blks (AHeap.mk (AHeap.next H2+7) (AHeap.blks H2))))))))))))))else False else False)else False))else False else False else False)∧(numB (numD y)=false→bif Nat.ble (AHeap.next H) (AHeap.next H2+14) && true then bif Nat.ble (AHeap.next H) (AHeap.next H2+15) && true then bif Nat.ble (AHeap.next H) (AHeap.next H2+20) && true then bif Nat.ble (AHeap.next H) (AHeap.next H2+24) && true then bif Nat.ble (AHeap.next H) (AHeap.next H2+28) && true then(d=true→bif Nat.ble (AHeap.next H) (AHeap.next H2+29) && true then bif Nat.ble (AHeap.next H) (AHeap.next H2+32)then K0 (AVal.int IntKind.i64 (1)) (AHeap.mk (AHeap.next H2+29+3) (AHeap.blks (AHeap.mk (AHeap.next H2+28+1) (AHeap.blks (AHeap.mk (AHeap.next H2+24+4) (AHeap.blks (AHeap.mk (AHeap.next H2+20+4) (AHeap.blks (AHeap.mk (AHeap.next H2+15+5) (AHeap.blks (AHeap.mk (AHeap.next H2+14+1) (AHeap.blks (AHeap.mk (AHeap.next H2+7+7) (AHeap.blks (AHeap.mk (AHeap.next H2+7) (AHeap.blks H2))))))))))))))))else False else False)∧(d=false→bif Nat.ble (AHeap.next H) (AHeap.next H2+29) && true then bif Nat.ble (AHeap.next H) (AHeap.next H2+31)then K0 (AVal.int IntKind.i64 (-1)) (AHeap.mk (AHeap.next H2+29+2) (AHeap.blks (AHeap.mk (AHeap.next H2+28+1) (AHeap.blks (AHeap.mk (AHeap.next H2+24+4) (AHeap.blks (AHeap.mk (AHeap.next H2+20+4) (AHeap.blks (AHeap.mk (AHeap.next H2+15+5) (AHeap.blks (AHeap.mk (AHeap.next H2+14+1) (AHeap.blks (AHeap.mk (AHeap.next H2+7+7) (AHeap.blks (AHeap.mk (AHeap.next H2+7) (AHeap.blks H2))))))))))))))))else False else False)else False else False else False else False else False)else False)∧(numB (numD x)=false→bif Nat.ble (AHeap.next H) (AHeap.next H2+7) && true then List.length y<281474976710656∧(numB (numD y)=true→bif Nat.ble (AHeap.next H) (AHeap.next H2+14) && true then bif Nat.ble (AHeap.next H) (AHeap.next H2+15) && true then bif Nat.ble (AHeap.next H) (AHeap.next H2+20) && true then bif Nat.ble (AHeap.next H) (AHeap.next H2+24) && true then bif Nat.ble (AHeap.next H) (AHeap.next H2+28) && true then(d=true→bif Nat.ble (AHeap.next H) (AHeap.next H2+29) && true then bif Nat.ble (AHeap.next H) (AHeap.next H2+32)then K0 (AVal.int IntKind.i64 (-1)) (AHeap.mk (AHeap.next H2+29+3) (AHeap.blks (AHeap.mk (AHeap.next H2+28+1) (AHeap.blks (AHeap.mk (AHeap.next H2+24+4) (AHeap.blks (AHeap.mk (AHeap.next H2+20+4) (AHeap.blks (AHeap.mk (AHeap.next H2+15+5) (AHeap.blks (AHeap.mk (AHeap.next H2+14+1) (AHeap.blks (AHeap.mk (AHeap.next H2+7+7) (AHeap.blks (AHeap.mk (AHeap.next H2+7) (AHeap.blks H2))))))))))))))))else False else False)∧(d=false→bif Nat.ble (AHeap.next H) (AHeap.next H2+29) && true then bif Nat.ble (AHeap.next H) (AHeap.next H2+31)then K0 (AVal.int IntKind.i64 (1)) (AHeap.mk (AHeap.next H2+29+2) (AHeap.blks (AHeap.mk (AHeap.next H2+28+1) (AHeap.blks (AHeap.mk (AHeap.next H2+24+4) (AHeap.blks (AHeap.mk (AHeap.next H2+20+4) (AHeap.blks (AHeap.mk (AHeap.next H2+15+5) (AHeap.blks (AHeap.mk (AHeap.next H2+14+1) (AHeap.blks (AHeap.mk (AHeap.next H2+7+7) (AHeap.blks (AHeap.mk (AHeap.next H2+7) (AHeap.blks H2))))))))))))))))else False else False)else False else False else False else False else False)∧(numB (numD y)=false→bif Nat.ble (AHeap.next H) (AHeap.next H2+14) && true then bif Nat.ble (AHeap.next H) (AHeap.next H2+15) && true then bif Nat.ble (AHeap.next H) (AHeap.next H2+20) && true then bif Nat.ble (AHeap.next H) (AHeap.next H2+24) && true then(Op.bytesLess x y=true→((!(Op.bytesLess x y || x == y))=true→bif Nat.ble (AHeap.next H) (AHeap.next H2+32) && true then(d=true→bif Nat.ble (AHeap.next H) (AHeap.next H2+33) && true then bif Nat.ble (AHeap.next H) (AHeap.next H2+36)then K0 (AVal.int IntKind.i64 (1)) (AHeap.mk (AHeap.next H2+33+3) (AHeap.blks (AHeap.mk (AHeap.next H2+32+1) (AHeap.blks (AHeap.mk (AHeap.next H2+24+8) (AHeap.blks (AHeap.mk (AHeap.next H2+20+4) (AHeap.blks (AHeap.mk (AHeap.next H2+15+5) (AHeap.blks (AHeap.mk (AHeap.next H2+14+1) (AHeap.blks (AHeap.mk (AHeap.next H2+7+7) (AHeap.blks (AHeap.mk (AHeap.next H2+7) (AHeap.blks H2))))))))))))))))else False else False)∧(d=false→bif Nat.ble (AHeap.next H) (AHeap.next H2+33) && true then bif Nat.ble (AHeap.next H) (AHeap.next H2+35)then K0 (AVal.int IntKind.i64 (-1)) (AHeap.mk (AHeap.next H2+33+2) (AHeap.blks (AHeap.mk (AHeap.next H2+32+1) (AHeap.blks (AHeap.mk (AHeap.next H2+24+8) (AHeap.blks (AHeap.mk (AHeap.next H2+20+4) (AHeap.blks (AHeap.mk (AHeap.next H2+15+5) (AHeap.blks (AHeap.mk (AHeap.next H2+14+1) (AHeap.blks (AHeap.mk (AHeap.next H2+7+7) (AHeap.blks (AHeap.mk (AHeap.next H2+7) (AHeap.blks H2))))))))))))))))else False else False)else False)∧((!(Op.bytesLess x y || x == y))=false→bif Nat.ble (AHeap.next H) (AHeap.next H2+32) && true then(d=true→bif Nat.ble (AHeap.next H) (AHeap.next H2+33) && true then bif Nat.ble (AHeap.next H) (AHeap.next H2+36)then K0 (AVal.int IntKind.i64 (1)) (AHeap.mk (AHeap.next H2+33+3) (AHeap.blks (AHeap.mk (AHeap.next H2+32+1) (AHeap.blks (AHeap.mk (AHeap.next H2+24+8) (AHeap.blks (AHeap.mk (AHeap.next H2+20+4) (AHeap.blks (AHeap.mk (AHeap.next H2+15+5) (AHeap.blks (AHeap.mk (AHeap.next H2+14+1) (AHeap.blks (AHeap.mk (AHeap.next H2+7+7) (AHeap.blks (AHeap.mk (AHeap.next H2+7) (AHeap.blks H2))))))))))))))))else False else False)∧(d=false→bif Nat.ble (AHeap.next H) (AHeap.next H2+33) && true then bif Nat.ble (AHeap.next H) (AHeap.next H2+35)then K0 (AVal.int IntKind.i64 (-1)) (AHeap.mk (AHeap.next H2+33+2) (AHeap.blks (AHeap.mk (AHeap.next H2+32+1) (AHeap.blks (AHeap.mk (AHeap.next H2+24+8) (AHeap.blks (AHeap.mk (AHeap.next H2+20+4) (AHeap.blks (AHeap.mk (AHeap.next H2+15+5) (AHeap.blks (AHeap.mk (AHeap.next H2+14+1) (AHeap.blks (AHeap.mk (AHeap.next H2+7+7) (AHeap.blks (AHeap.mk (AHeap.next H2+7) (AHeap.blks H2))))))))))))))))else False else False)else False))∧(Op.bytesLess x y=false→((!(Op.bytesLess x y || x == y))=true→bif Nat.ble (AHeap.next H) (AHeap.next H2+32) && true then(d=true→bif Nat.ble (AHeap.next H) (AHeap.next H2+33) && true then bif Nat.ble (AHeap.next H) (AHeap.next H2+36)then K0 (AVal.int IntKind.i64 (-1)) (AHeap.mk (AHeap.next H2+33+3) (AHeap.blks (AHeap.mk (AHeap.next H2+32+1) (AHeap.blks (AHeap.mk (AHeap.next H2+24+8) (AHeap.blks (AHeap.mk (AHeap.next H2+20+4) (AHeap.blks (AHeap.mk (AHeap.next H2+15+5) (AHeap.blks (AHeap.mk (AHeap.next H2+14+1) (AHeap.blks (AHeap.mk (AHeap.next H2+7+7) (AHeap.blks (AHeap.mk (AHeap.next H2+7) (AHeap.blks H2))))))))))))))))else False else False)∧(d=false→bif Nat.ble (AHeap.next H) (AHeap.next H2+33) && true then bif Nat.ble (AHeap.next H) (AHeap.next H2+35)then K0 (AVal.int IntKind.i64 (1)) (AHeap.mk (AHeap.next H2+33+2) (AHeap.blks (AHeap.mk (AHeap.next H2+32+1) (AHeap.blks (AHeap.mk (AHeap.next H2+24+8) (AHeap.blks (AHeap.mk (AHeap.next H2+20+4) (AHeap.blks (AHeap.mk (AHeap.next H2+15+5) (AHeap.blks (AHeap.mk (AHeap.next H2+14+1) (AHeap.blks (AHeap.mk (AHeap.next H2+7+7) (AHeap.blks (AHeap.mk (AHeap.next H2+7) (AHeap.blks H2))))))))))))))))else False else False)else False)∧((!(Op.bytesLess x y || x == y))=false→bif Nat.ble (AHeap.next H) (AHeap.next H2+32) && true then(d=true→bif Nat.ble (AHeap.next H) (AHeap.next H2+33) && true then bif Nat.ble (AHeap.next H) (AHeap.next H2+36)then K0 (AVal.int IntKind.i64 (0)) (AHeap.mk (AHeap.next H2+33+3) (AHeap.blks (AHeap.mk (AHeap.next H2+32+1) (AHeap.blks (AHeap.mk (AHeap.next H2+24+8) (AHeap.blks (AHeap.mk (AHeap.next H2+20+4) (AHeap.blks (AHeap.mk (AHeap.next H2+15+5) (AHeap.blks (AHeap.mk (AHeap.next H2+14+1) (AHeap.blks (AHeap.mk (AHeap.next H2+7+7) (AHeap.blks (AHeap.mk (AHeap.next H2+7) (AHeap.blks H2))))))))))))))))else False else False)∧(d=false→bif Nat.ble (AHeap.next H) (AHeap.next H2+33) && true then bif Nat.ble (AHeap.next H) (AHeap.next H2+35)then K0 (AVal.int IntKind.i64 (0)) (AHeap.mk (AHeap.next H2+33+2) (AHeap.blks (AHeap.mk (AHeap.next H2+32+1) (AHeap.blks (AHeap.mk (AHeap.next H2+24+8) (AHeap.blks (AHeap.mk (AHeap.next H2+20+4) (AHeap.blks (AHeap.mk (AHeap.next H2+15+5) (AHeap.blks (AHeap.mk (AHeap.next H2+14+1) (AHeap.blks (AHeap.mk (AHeap.next H2+7+7) (AHeap.blks (AHeap.mk (AHeap.next H2+7) (AHeap.blks H2))))))))))))))))else False else False)else False))else False else False else False else False)else False)else False else False else False else False) :
    ∃ v h1,FDoes Tryz.prog cnd 33 [.int .i64 k,.bool d,va,vb] H v h1∧K0 v h1 :=
  tcall_does env_ok mixed specsB_ok (hs:= .hint (.act 1002 (AVal.str x) fun x=>H1) (.hint (.act 2002 (AVal.str y) fun x=>H2) (.br 3004 (.br 4004 (.br 8002 (.br 8005 (.br 11000 .nil .nil) (.br 11000 .nil .nil)) (.br 8005 (.br 11000 .nil .nil) (.br 11000 .nil .nil))) (.br 11000 .nil .nil)) (.br 4004 (.br 11000 .nil .nil) (.br 6002 (.br 6005 (.br 11000 .nil .nil) (.br 11000 .nil .nil)) (.br 6005 (.br 11000 .nil .nil) (.br 11000 .nil .nil))))))) (by kernel_rfl) vc
end Go.Proofs.YtjpfnbihopoeeaaGreatDoor
namespace Go.Proofs.YtjpfnbihopoeeaaGreatDoor
open Go.Lift
set_option maxRecDepth 1000000
def ordR(x y:Bytes):Int :=
  if numB (numD x)=true then(if numB (numD y)=true then sgnV (decide (numI (numD x)<numI (numD y))) (decide (numI (numD y)<numI (numD x)))else-1)
  else if numB (numD y)=true then 1 else sgnV (Op.bytesLess x y) (!(Op.bytesLess x y || x == y))
def ordP(x y:Bytes):Int :=
  if numB (numD x)=true then(if numB (numD y)=true then sgnV (decide (numI (numD x)<numI (numD y))) (decide (numI (numD y)<numI (numD x)))else-1)
  else if numB (numD y)=true then 1 else Lib.compareBytes x y
def docV(d:Bool)(x y:Bytes):Int:=if d=true then-ordR x y else ordR x y
theorem cmp_core {H H1 H2:AHeap}{va vb:AVal}{k:Int}{d:Bool}{x y:Bytes}(c1:FDoes Tryz.prog cnd 55 [va,.int .i64 k] (up H 5) (.str x) H1)(c2:FDoes Tryz.prog cnd 55 [vb,.int .i64 k] (up H1 4) (.str y) H2)
    (n1:H1.next=H.next+19) (n2:H2.next=H.next+37) (b2:H2.blks=H.blks) (hx:x.length<2^48) (hy:y.length<2^48) :
    ∃ v h1,FDoes Tryz.prog cnd 33 [.int .i64 k,.bool d,va,vb] H v h1∧v= .int .i64 (docV d x y)∧h1.blks=H.blks∧h1.next≤H.next+200:=by
  refine cmp_vc H H1 H2 va vb k d x y (fun v h1=>v= .int .i64 (docV d x y)∧h1.blks=H.blks∧h1.next≤H.next+200) ?_
  refine bifL (by omega) (bifL (by omega) ⟨⟨c1⟩,bifL (by omega) ⟨⟨c2⟩,bifL (by omega) ⟨hx,?_⟩⟩⟩)
  unfold docV ordR
  generalize (!(Op.bytesLess x y || x == y))=q
  generalize Op.bytesLess x y=p
  repeat' (first | refine bifL (by(try dsimp only);omega) ?_ | refine condL (by(try dsimp only);omega) ?_ | refine⟨?_,?_⟩ | intro _)
  all_goals first
    | exact hy
    | exact b2
    | (dsimp only;omega)
    | (simp [*,sgnV];done)
    | skip
theorem by_core(d:Bool){H H1 H2:AHeap}{va vb:AVal}{p q:Nat}{k:Int}{x y:Bytes}(N:Nat)(hN:N=if d=true then 14 else 10)
    (hd: ∀ n,aload (AEnv.D env) 4 ⟨p,0,0,0,1⟩ ⟨n,H.blks⟩=some (.bool d)) (hk: ∀ n,aload (AEnv.D env) 3 ⟨q,0,0,0,1⟩ ⟨n,H.blks⟩=some (.int .i64 k)) (hq:q<H.next)
    (c1:FDoes Tryz.prog cnd 49 [if d=true then vb else va,.int .i64 k] (up H N) (.str x) H1) (c2:FDoes Tryz.prog cnd 49 [if d=true then va else vb,.int .i64 k] H1 (.str y) H2)
    (n1:H1.next=H.next+N+14) (n2:H2.next=H.next+N+28) (b1:H1.blks=H.blks) (b2:H2.blks=H.blks) (hx:x.length<2^48) (hy:y.length<2^48) :
    ∃ v h1,FDoes Tryz.prog cnd 64 [va,vb,.ptr (some ⟨p,0,0,0,1⟩),.ptr (some ⟨q,0,0,0,1⟩)] H v h1∧v= .int .i64 (ordP x y)∧h1.blks=H.blks∧h1.next≤H.next+200:=by
  have hs: ∀ n,sameOld n (up H N) H1=true:=fun n=>sameOld_of fun i _=>by show H1.blks.get i=H.blks.get i;rw [b1]
  have hk1:aload (AEnv.D env) 3 ⟨q,0,0,0,1⟩ H1=some (.int .i64 k):=by have:=hk H1.next;rwa [← b1]at this
  have ag: ∀ {a b:List AVal} {v u:AVal},Agree a b (up H N) H1 v u H1 H2:=⟨fun _ e=>absurd (congrArg AHeap.next e) (by show ¬ H.next+N=H1.next;omega)⟩
  cases d
  · have hN:N=10:=hN
    subst hN
    refine byF_vc H H1 H2 va vb p q k x y (fun v h1=>v= .int .i64 (ordP x y)∧h1.blks=H.blks∧h1.next≤H.next+200) ?_
    refine bifL (by omega) (bifL (by omega) ⟨hd _,bifL (by omega) ⟨hk _,by omega,⟨c1⟩,hs _,hk1,by omega,⟨c2⟩,ag,bifL (by omega) ⟨hx,?_⟩⟩⟩)
    unfold ordP
    repeat' (first | refine bifL (by(try dsimp only);omega) ?_ | refine condL (by(try dsimp only);omega) ?_ | refine⟨?_,?_⟩ | intro _)
    all_goals first
      | exact hy
      | exact b2
      | (dsimp only;omega)
      | (simp [*];done)
      | skip
  · have hN:N=14:=hN
    subst hN
    refine byT_vc H H1 H2 va vb p q k x y (fun v h1=>v= .int .i64 (ordP x y)∧h1.blks=H.blks∧h1.next≤H.next+200) ?_
    refine bifL (by omega) (bifL (by omega) ⟨hd _,bifL (by omega) (bifL (by omega) ⟨hk _,by omega,⟨c1⟩,hs _,hk1,by omega,⟨c2⟩,ag,bifL (by omega) ⟨hx,?_⟩⟩)⟩)
    unfold ordP
    repeat' (first | refine bifL (by(try dsimp only);omega) ?_ | refine condL (by(try dsimp only);omega) ?_ | refine⟨?_,?_⟩ | intro _)
    all_goals first
      | exact hy
      | exact b2
      | (dsimp only;omega)
      | (simp [*];done)
      | skip
def Short(l:List Bytes):Prop:= ∀ x∈l,x.length<2^48
theorem short_field {l:List Bytes}(h:Short l)(k:Int):(fieldV l k).length<2^48:=by
  by_cases h0:k<0
  · rw [fieldV_lo h0];decide
  · by_cases h1:(l.length:Int)≤k
    · rw [fieldV_hi h1];decide
    · rw [fieldV_in h0 h1];exact h _ (List.getElem_mem _)
theorem cmp_does {H:AHeap}{va vb:AVal}{a b:List Bytes}(ha:RowAt H va a)(hb:RowAt H vb b)(sa:Short a)(sb:Short b)(k:Int)(d:Bool) :
    FDoes Tryz.prog cnd 33 [.int .i64 k,.bool d,va,vb] H (.int .i64 (docV d (fieldV a k) (fieldV b k))) (up H 200):=by
  obtain⟨v,h1,hd,rfl,e1,e2⟩:=cmp_core (d:=d) (dfield_does (ha.up 5) k) (dfield_does (H:=up (up (up H 5) 14) 4) hb k) (by show H.next+5+14=_;omega) (by show H.next+5+14+4+14=_;omega) rfl (short_field sa k) (short_field sb k)
  have:=bump (n:=H.next+200) hd e2
  rwa [e1]at this
theorem by_does {H:AHeap}{va vb:AVal}{a b:List Bytes}(ha:RowAt H va a)(hb:RowAt H vb b)(sa:Short a)(sb:Short b)(k:Int)(d:Bool){p q:Nat}
    (hd: ∀ n,aload (AEnv.D env) 4 ⟨p,0,0,0,1⟩ ⟨n,H.blks⟩=some (.bool d)) (hk: ∀ n,aload (AEnv.D env) 3 ⟨q,0,0,0,1⟩ ⟨n,H.blks⟩=some (.int .i64 k)) (hq:q<H.next) :
    FDoes Tryz.prog cnd 64 [va,vb,.ptr (some ⟨p,0,0,0,1⟩),.ptr (some ⟨q,0,0,0,1⟩)] H (.int .i64 (ordP (fieldV (if d=true then b else a) k) (fieldV (if d=true then a else b) k))) (up H 200):=by
  have key: ∀ {v1 v2:AVal} {l1 l2:List Bytes},RowAt H v1 l1→RowAt H v2 l2→Short l1→Short l2→(v1=if d=true then vb else va)→(v2=if d=true then va else vb) →
      FDoes Tryz.prog cnd 64 [va,vb,.ptr (some ⟨p,0,0,0,1⟩),.ptr (some ⟨q,0,0,0,1⟩)] H (.int .i64 (ordP (fieldV l1 k) (fieldV l2 k))) (up H 200):=by
    rintro v1 v2 l1 l2 h1 h2 s1 s2 rfl rfl
    let N:=if d=true then 14 else 10
    obtain⟨v,h1,hd,rfl,e1,e2⟩:=by_core d N rfl hd hk hq (field_does (h1.up N) k) (field_does (H:=up (up H N) 14) h2 k) (by show H.next+N+14=_;omega) (by show H.next+N+14+14=_;omega) rfl rfl (short_field s1 k) (short_field s2 k)
    have:=bump (n:=H.next+200) hd e2
    rwa [e1]at this
  cases d
  · exact key ha hb sa sb rfl rfl
  · exact key hb ha sb sa rfl rfl
theorem cmpB (x:Bytes): ∀ y:Bytes,Lib.compareBytes x y=sgnV (Op.bytesLess x y) (!(Op.bytesLess x y || x == y))∧Lib.compareBytes y x= -Lib.compareBytes x y:=by
  induction x with
  | nil=>intro y;cases y<;>exact⟨rfl,rfl⟩
  | cons a x ih =>
    intro y
    cases y with
    | nil=>exact⟨rfl,rfl⟩
    | cons b y =>
      obtain⟨i1,i2⟩:=ih y
      simp only [Lib.compareBytes,Op.bytesLess]
      by_cases h1:a<b
      · have h2: ¬b<a:=fun h=>absurd (UInt8.lt_trans h1 h) (UInt8.lt_irrefl a)
        simp [h1,h2,sgnV]
      · by_cases h2:b<a
        · have h3: ¬a=b:=fun h=>by subst h;exact UInt8.lt_irrefl _ h2
          simp [h1,h2,h3,sgnV]
        · have h3:a=b:=UInt8.le_antisymm (UInt8.not_lt.1 h2) (UInt8.not_lt.1 h1)
          subst h3
          simp only [if_neg h1]
          refine⟨?_,i2⟩
          rw [i1]
          simp [h1]
theorem ordP_ordR(x y:Bytes):ordP x y=ordR x y:=by unfold ordP ordR;rw [(cmpB x y).1]
theorem ordP_neg(x y:Bytes):ordP y x= -ordP x y:=by
  unfold ordP
  rw [(cmpB x y).2]
  cases numB (numD x)<;>cases numB (numD y)<;>simp [sgnV]
  by_cases h1:numI (numD x)<numI (numD y)
  · have h2: ¬numI (numD y)<numI (numD x):=by omega
    simp [h1,h2]
  · by_cases h2:numI (numD y)<numI (numD x)<;>simp [h1,h2]
theorem by_doc(k:Int)(d:Bool)(a b:List Bytes):ordP (fieldV (if d=true then b else a) k) (fieldV (if d=true then a else b) k)=docV d (fieldV a k) (fieldV b k):=by
  unfold docV
  cases d
  · exact ordP_ordR _ _
  · show ordP (fieldV b k) (fieldV a k)= -ordR (fieldV a k) (fieldV b k)
    rw [← ordP_ordR,ordP_neg]
theorem by_self(x:Bytes):ordP x x=0:=by have:=ordP_neg x x;omega
end Go.Proofs.YtjpfnbihopoeeaaGreatDoor
namespace Go.Proofs.YtjpfnbihopoeeaaGreatDoor
open Go.Lift
set_option maxRecDepth 1000000
theorem works_run:saysTrue (fcall Tryz.prog env 400 18 [] ⟨0,.nil⟩)=true:=by decide+kernel
end Go.Proofs.YtjpfnbihopoeeaaGreatDoor
namespace Go.Proofs.YtjpfnbihopoeeaaGreatDoor
open Go.Lift
set_option maxRecDepth 1000000
theorem works_does(H:AHeap):FDoes Tryz.prog cnd 18 [] H (.bool true) H:=by
  obtain⟨h',hc⟩:=fcall_true works_run
  exact FDoes.ofVC ⟨_,_,FDoes.of_acall env_ok mixed hc,rfl⟩ rfl rfl H
def worksS:List AVal→AHeap→Option Alts:=pureS fun a=>match a with | []=>some (.bool true,[]) | _=>none
theorem worksS_ok: ∀ args h a,worksS args h=some a→a.Ok Tryz.prog cnd 18 args h:=by
  refine pureS_ok ?_
  intro args v ps e hp H
  split at e<;>first | (cases e;done) | skip
  simp only [Option.some.injEq,Prod.mk.injEq]at e
  obtain⟨rfl,rfl⟩:=e
  exact works_does H
noncomputable def specsW:Specs:=noSpecs.add 18 worksS
theorem specsW_ok:SpecsOk Tryz.prog cnd specsW:=noSpecs_ok.add worksS_ok
theorem toT_vc(ba bb:ABlk)(H1 H2 H3 H4 H5 H6 H7:AHeap)(va vb:AVal)(col other r1 r2 r3:Int)(K0:AVal→AHeap→Prop)(vc:CallT Tryz.prog cnd 64 [va,vb,AVal.ptr (some ⟨8,0,0,0,1⟩),AVal.ptr (some ⟨7,0,0,0,1⟩)] (AHeap.rowsT 52 [(0,ba),(1,bb),(7,ABlk.made [AVal.int IntKind.i64 col] 1 true (some (3,1))),(8,ABlk.made [AVal.bool true] 1 true (some (4,1))),(17,ABlk.made [AVal.int IntKind.i64 other] 1 true (some (3,1))),(18,ABlk.made [AVal.bool false] 1 true (some (4,1)))]) (AVal.int IntKind.i64 r1) H1∧CallT Tryz.prog cnd 33 [AVal.int IntKind.i64 col,AVal.bool true,va,vb] H1 (AVal.int IntKind.i64 r1) H2∧some (AVal.bool (r1 == r1))=some (AVal.bool true)∧CallT Tryz.prog cnd 64 [va,vb,AVal.ptr (some ⟨18,0,0,0,1⟩),AVal.ptr (some ⟨17,0,0,0,1⟩)] H2 (AVal.int IntKind.i64 r2) H3∧CallT Tryz.prog cnd 33 [AVal.int IntKind.i64 other,AVal.bool false,va,vb] H3 (AVal.int IntKind.i64 r2) H4∧some (AVal.bool (r2 == r2))=some (AVal.bool true)∧Agree [va,vb,AVal.ptr (some ⟨8,0,0,0,1⟩),AVal.ptr (some ⟨7,0,0,0,1⟩)] [va,vb,AVal.ptr (some ⟨18,0,0,0,1⟩),AVal.ptr (some ⟨17,0,0,0,1⟩)] (AHeap.rowsT 52 [(0,ba),(1,bb),(7,ABlk.made [AVal.int IntKind.i64 col] 1 true (some (3,1))),(8,ABlk.made [AVal.bool true] 1 true (some (4,1))),(17,ABlk.made [AVal.int IntKind.i64 other] 1 true (some (3,1))),(18,ABlk.made [AVal.bool false] 1 true (some (4,1)))]) H2 (AVal.int IntKind.i64 r1) (AVal.int IntKind.i64 r2) H1 H3∧Agree [AVal.int IntKind.i64 col,AVal.bool true,va,vb] [AVal.int IntKind.i64 other,AVal.bool false,va,vb] H1 H3 (AVal.int IntKind.i64 r1) (AVal.int IntKind.i64 r2) H2 H4∧bif Nat.ble 2 (AHeap.next H4) && true then CallT Tryz.prog cnd 64 [vb,va,AVal.ptr (some ⟨8,0,0,0,1⟩),AVal.ptr (some ⟨7,0,0,0,1⟩)] (AHeap.mk (AHeap.next H4+24) (H4.2)) (AVal.int IntKind.i64 r3) H5∧CallT Tryz.prog cnd 33 [AVal.int IntKind.i64 col,AVal.bool true,vb,va] H5 (AVal.int IntKind.i64 r3) H6∧some (AVal.bool (r3 == r3))=some (AVal.bool true)∧CallT Tryz.prog cnd 64 [va,va,AVal.ptr (some ⟨8,0,0,0,1⟩),AVal.ptr (some ⟨7,0,0,0,1⟩)] H6 (AVal.int IntKind.i64 (0)) H7∧some (AVal.bool true)=some (AVal.bool true)∧Agree [vb,va,AVal.ptr (some ⟨8,0,0,0,1⟩),AVal.ptr (some ⟨7,0,0,0,1⟩)] [va,va,AVal.ptr (some ⟨8,0,0,0,1⟩),AVal.ptr (some ⟨7,0,0,0,1⟩)] (AHeap.mk (AHeap.next H4+24) (H4.2)) H6 (AVal.int IntKind.i64 r3) (AVal.int IntKind.i64 (0)) H5 H7∧bif Nat.ble 2 (AHeap.next H7)then K0 (AVal.bool true) H7 else False else False) :
    ∃ v h1,FDoes Tryz.prog cnd 6 [.int .i64 col,.bool true,va,vb,.int .i64 other] (AHeap.of [ba,bb]) v h1∧K0 v h1 :=
  tcall_does env_ok mixed specsW_ok (hs:= .hint (.enter 1002) (.hint (.enter 2003) (.hint (.act 5003 (AVal.int IntKind.i64 r1) fun x=>H1) (.hint (.act 5008 (AVal.int IntKind.i64 r1) fun x=>H2) (.hint (.val 5009 (AVal.bool true)) (.hint (.act 5014 (AVal.int IntKind.i64 r2) fun x=>H3) (.hint (.act 5020 (AVal.int IntKind.i64 r2) fun x=>H4) (.hint (.val 5021 (AVal.bool true)) (.hint (.act 6005 (AVal.int IntKind.i64 r3) fun x=>H5) (.hint (.act 6010 (AVal.int IntKind.i64 r3) fun x=>H6) (.hint (.val 6011 (AVal.bool true)) (.hint (.act 6017 (AVal.int IntKind.i64 0) fun x=>H7) (.hint (.val 6018 (AVal.bool true)) .nil))))))))))))) (by kernel_rfl) vc
theorem toF_vc(ba bb:ABlk)(H1 H2 H3 H4 H5 H6 H7:AHeap)(va vb:AVal)(col other r1 r2 r3:Int)(K0:AVal→AHeap→Prop)(vc:CallT Tryz.prog cnd 64 [va,vb,AVal.ptr (some ⟨8,0,0,0,1⟩),AVal.ptr (some ⟨7,0,0,0,1⟩)] (AHeap.rowsT 52 [(0,ba),(1,bb),(7,ABlk.made [AVal.int IntKind.i64 col] 1 true (some (3,1))),(8,ABlk.made [AVal.bool false] 1 true (some (4,1))),(17,ABlk.made [AVal.int IntKind.i64 other] 1 true (some (3,1))),(18,ABlk.made [AVal.bool true] 1 true (some (4,1)))]) (AVal.int IntKind.i64 r1) H1∧CallT Tryz.prog cnd 33 [AVal.int IntKind.i64 col,AVal.bool false,va,vb] H1 (AVal.int IntKind.i64 r1) H2∧some (AVal.bool (r1 == r1))=some (AVal.bool true)∧CallT Tryz.prog cnd 64 [va,vb,AVal.ptr (some ⟨18,0,0,0,1⟩),AVal.ptr (some ⟨17,0,0,0,1⟩)] H2 (AVal.int IntKind.i64 r2) H3∧CallT Tryz.prog cnd 33 [AVal.int IntKind.i64 other,AVal.bool true,va,vb] H3 (AVal.int IntKind.i64 r2) H4∧some (AVal.bool (r2 == r2))=some (AVal.bool true)∧Agree [va,vb,AVal.ptr (some ⟨8,0,0,0,1⟩),AVal.ptr (some ⟨7,0,0,0,1⟩)] [va,vb,AVal.ptr (some ⟨18,0,0,0,1⟩),AVal.ptr (some ⟨17,0,0,0,1⟩)] (AHeap.rowsT 52 [(0,ba),(1,bb),(7,ABlk.made [AVal.int IntKind.i64 col] 1 true (some (3,1))),(8,ABlk.made [AVal.bool false] 1 true (some (4,1))),(17,ABlk.made [AVal.int IntKind.i64 other] 1 true (some (3,1))),(18,ABlk.made [AVal.bool true] 1 true (some (4,1)))]) H2 (AVal.int IntKind.i64 r1) (AVal.int IntKind.i64 r2) H1 H3∧Agree [AVal.int IntKind.i64 col,AVal.bool false,va,vb] [AVal.int IntKind.i64 other,AVal.bool true,va,vb] H1 H3 (AVal.int IntKind.i64 r1) (AVal.int IntKind.i64 r2) H2 H4∧bif Nat.ble 2 (AHeap.next H4) && true then CallT Tryz.prog cnd 64 [vb,va,AVal.ptr (some ⟨8,0,0,0,1⟩),AVal.ptr (some ⟨7,0,0,0,1⟩)] (AHeap.mk (AHeap.next H4+24) (H4.2)) (AVal.int IntKind.i64 r3) H5∧CallT Tryz.prog cnd 33 [AVal.int IntKind.i64 col,AVal.bool false,vb,va] H5 (AVal.int IntKind.i64 r3) H6∧some (AVal.bool (r3 == r3))=some (AVal.bool true)∧CallT Tryz.prog cnd 64 [va,va,AVal.ptr (some ⟨8,0,0,0,1⟩),AVal.ptr (some ⟨7,0,0,0,1⟩)] H6 (AVal.int IntKind.i64 (0)) H7∧some (AVal.bool true)=some (AVal.bool true)∧Agree [vb,va,AVal.ptr (some ⟨8,0,0,0,1⟩),AVal.ptr (some ⟨7,0,0,0,1⟩)] [va,va,AVal.ptr (some ⟨8,0,0,0,1⟩),AVal.ptr (some ⟨7,0,0,0,1⟩)] (AHeap.mk (AHeap.next H4+24) (H4.2)) H6 (AVal.int IntKind.i64 r3) (AVal.int IntKind.i64 (0)) H5 H7∧bif Nat.ble 2 (AHeap.next H7)then K0 (AVal.bool true) H7 else False else False) :
    ∃ v h1,FDoes Tryz.prog cnd 6 [.int .i64 col,.bool false,va,vb,.int .i64 other] (AHeap.of [ba,bb]) v h1∧K0 v h1 :=
  tcall_does env_ok mixed specsW_ok (hs:= .hint (.enter 1002) (.hint (.enter 2003) (.hint (.act 5003 (AVal.int IntKind.i64 r1) fun x=>H1) (.hint (.act 5008 (AVal.int IntKind.i64 r1) fun x=>H2) (.hint (.val 5009 (AVal.bool true)) (.hint (.act 5014 (AVal.int IntKind.i64 r2) fun x=>H3) (.hint (.act 5020 (AVal.int IntKind.i64 r2) fun x=>H4) (.hint (.val 5021 (AVal.bool true)) (.hint (.act 6005 (AVal.int IntKind.i64 r3) fun x=>H5) (.hint (.act 6010 (AVal.int IntKind.i64 r3) fun x=>H6) (.hint (.val 6011 (AVal.bool true)) (.hint (.act 6017 (AVal.int IntKind.i64 0) fun x=>H7) (.hint (.val 6018 (AVal.bool true)) .nil))))))))))))) (by kernel_rfl) vc
end Go.Proofs.YtjpfnbihopoeeaaGreatDoor
namespace Go.Lift
noncomputable section
open Go.RowKit Go.ChangeShapes Go.WideShapes Go.ChangeAt
structure ArgRow(w:World)(b:ABlk)(p:Place):Prop where
  ro:p.ro=true
  bro:b.ro=true
  ver:b.ver=0
  es:p.es=b.es
  pos:0<p.es
  exact:p.exact=b.exact
  row: ∀ (φ:Map) (S:Nat→Prop),Row φ S b 0 p w
  bare:BareB b
def rowsMap(ps:List Place):Map:=fun i v=>if v=0 then ps[i]? else none
theorem HRel.of_args {w:World} {S:Nat→Prop} (l:List (ABlk×Place)) (h: ∀ x∈l,ArgRow w x.1 x.2):HRel (rowsMap (l.map (·.2))) S (AHeap.of (l.map (·.1))) w where
  dom i v p hp:=by
    unfold rowsMap at hp
    split at hp
    · rename_i hv;subst hv
      rw [List.getElem?_map,Option.map_eq_some_iff]at hp
      obtain⟨x,hx,rfl⟩:=hp
      have k:=h x (List.mem_of_getElem? hx)
      have hi:=(List.getElem?_eq_some_iff.1 hx).1
      refine⟨by rw [AHeap.of_next];simpa using hi,x.1,?_,by omega,k.es,k.exact,(fun h=>by rw [k.bro]at h;cases h),k.pos,k.row _ _⟩
      rw [AHeap.of_get,List.getElem?_map,hx];rfl
    · cases hp
  apart i v p j u q hp hq _ _:=by
    have: ∀ {i v p},rowsMap (l.map (·.2)) i v=some p→p.ro=true:=by
      intro i v p hp
      unfold rowsMap at hp
      split at hp
      · rw [List.getElem?_map,Option.map_eq_some_iff]at hp
        obtain⟨x,hx,rfl⟩:=hp
        exact(h x (List.mem_of_getElem? hx)).ro
      · cases hp
    exact⟨this hp,this hq⟩
  same i v p u q hp hq _:=by
    unfold rowsMap at hp hq
    split at hp
    · split at hq
      · rw [hp]at hq;simp only [Option.some.injEq]at hq;subst hq;exact⟨rfl,rfl⟩
      · cases hq
    · cases hp
def noBlk(es:Nat):ABlk:= {elems:= [],es,exact:=true,ro:=true,ver:=0,minVer:=0,forkLen:=0,ty:=none}
def noPlace(es:Nat):Place:= {blk:=0,off:=0,lo:=0,es,tot:=0,exact:=true,ro:=true}
theorem noRow {w:World}(hw:0<w.heap.size){es:Nat}(he:0<es):ArgRow w (noBlk es) (noPlace es) where
  ro:=rfl
  bro:=rfl
  ver:=rfl
  es:=rfl
  pos:=he
  exact:=rfl
  row φ S:=⟨hw,(fun h=>by cases h),fun o ho=>by simp [noPlace]at ho,(fun h=>by cases h),(fun h=>by cases h),(fun q h=>by cases h),fun i e h1 h2 h3=>by simp [noBlk]at h3⟩
  bare e he:=by simp [noBlk]at he
theorem FDoes.law {P:Program}{C:(Nat→Prop)→World→Prop}{f:FuncId}{args:List AVal}{h h':AHeap}(k:FDoes P C f args h (.bool true) h'){w:World}(hC:C (fun k=>k<w.heap.size) w){φ:Map}(hl:HRel φ (fun k=>k<w.heap.size) h w){args':Array Value}(ha:VRels φ args args'.toList) :
    Calls P f args' w fun e w'=>e= .returned (.bool true)∧Below w.heap.size w w':=by
  have:=(k (fun k=>k<w.heap.size) w (fun _ h=>h) hC _ w args' hl (Safe.refl _ _) ha).2
  exact this.mono fun e w' ⟨v',φ',h1,_,h2,_,h3,_⟩=>by
    simp only [VRel]at h2
    subst h2;exact⟨h1,h3.below⟩
end
end Go.Lift
namespace Go.Lift
noncomputable section
open Go.RowKit Go.ChangeShapes Go.WideShapes Go.ChangeAt
def cellKind (P:Program):Nat→TypeId→Nat→Option TK
  | 0,_,_=>none
  | d+1,t,c =>
    match P.underlying t with
    | some (.int k)=>if c=0 then some (.int k)else none
    | some .bool=>if c=0 then some .bool else none
    | some .string=>if c=0 then some .string else none
    | some (.struct fs)=>fs.toList.findSome? fun f=>if f.offset≤c∧c<f.offset+P.cellsOf f.type then cellKind P d f.type (c-f.offset)else none
    | some (.array n e)=>if c / P.cellsOf e<n then cellKind P d e (c % P.cellsOf e)else none
    | _=>none
def CellIs:TK→Value→Prop
  | .int k,v=> ∃ n,v= .int k n∧(Lit.int k n).wf=true
  | .bool,v=> ∃ b,v= .bool b
  | .string,v=> ∃ s:ByteArray,v= .string s∧s.size≤maxLen
  | _,_=>False
section
variable {H:Type}{enc:TypeId×Value→H}{P:Program}{w:World}{base:Nat}{spare:Nat→Bool}{held:Bool}
theorem cell_flat: ∀ (d:Nat) {t:TypeId} {c:Nat} {k:TK} {fuel:Nat} {cs:List Value} {x:DataW H×List MemPlace},cellKind P d t c=some k→DataW.trod enc P w base spare held fuel t cs=some x→ ∃ v,cs[c]? =some v∧CellIs k v:=by
  intro d
  induction d with
  | zero=>intro t c k fuel cs x h;cases h
  | succ d ih =>
    intro t c k fuel cs x h hx
    simp only [cellKind]at h
    split at h
    · rename_i kk hu
      split at h
      · rename_i hc;subst hc
        simp only [Option.some.injEq]at h;subst h
        obtain⟨n,rfl,_,hw⟩:=DataW.trod_int hu hx
        exact⟨_,rfl,n,rfl,hw⟩
      · cases h
    · rename_i hu
      split at h
      · rename_i hc;subst hc
        simp only [Option.some.injEq]at h;subst h
        obtain⟨b,rfl,_⟩:=DataW.trod_bool hu hx
        exact⟨_,rfl,b,rfl⟩
      · cases h
    · rename_i hu
      split at h
      · rename_i hc;subst hc
        simp only [Option.some.injEq]at h;subst h
        obtain⟨s,rfl,_,hs⟩:=DataW.trod_string hu hx
        exact⟨_,rfl,s,rfl,hs⟩
      · cases h
    · rename_i fs hu
      obtain⟨f,hf,hk⟩:=List.exists_of_findSome?_eq_some h
      split at hk
      · rename_i hc
        obtain⟨xs,n,_,_,hl,hxl,hfs⟩:=DataW.trod_struct hu hx
        obtain⟨j,hj,hfj⟩:=List.mem_iff_getElem.1 hf
        have hj':fs[j]? =some f:=by rw [← Array.getElem?_toList,List.getElem?_eq_getElem hj,hfj]
        have h1:=hfs j f hj'
        rw [List.getElem?_eq_getElem (by rw [hxl];simpa using hj)]at h1
        obtain⟨v,hv,his⟩:=ih hk h1
        rw [List.getElem?_take]at hv
        split at hv
        · rw [List.getElem?_drop,show f.offset+(c-f.offset)=c by omega]at hv
          exact⟨v,hv,his⟩
        · cases hv
      · cases hk
    · rename_i n e hu
      split at h
      · rename_i hc
        obtain⟨xs,m,_,_,hl,hxl,hes⟩:=DataW.trod_array hu hx
        have h1:=hes _ hc
        rw [List.getElem?_eq_getElem (by omega)]at h1
        obtain⟨v,hv,his⟩:=ih h h1
        rw [List.getElem?_take]at hv
        split at hv
        · rw [List.getElem?_drop,Nat.mul_comm,Nat.div_add_mod]at hv
          exact⟨v,hv,his⟩
        · cases hv
      · cases h
    · cases h
theorem CellIs.bare {k:TK}{v:Value}(h:CellIs k v):Bare (ofScalar v)∧(ofScalar v).simple=true∧v.oneCell'=true:=by
  cases k with
  | int k=>obtain⟨n,rfl,_⟩:=h;exact⟨Bare.int _ _,rfl,by first | trivial | rfl⟩
  | bool=>obtain⟨b,rfl⟩:=h;exact⟨Bare.bool _,rfl,by first | trivial | rfl⟩
  | string=>obtain⟨s,rfl,_⟩:=h;exact⟨Bare.str _,rfl,by first | trivial | rfl⟩
  | _=>exact h.elim
def elemA(isA:Bool)(cs:List AVal):AVal:=if isA then .agg cs else cs.headD .undef
theorem elemA_cells {isA:Bool}{cs:List AVal}(h:isA=false→ ∃ a,cs= [a]∧a.simple=true):(elemA isA cs).cells=cs:=by
  unfold elemA
  cases isA with
  | true=>rfl
  | false =>
    obtain⟨a,rfl,ha⟩:=h rfl
    cases a<;>simp [AVal.cells]<;>cases ha
theorem Bare.agg {l:List AVal}(h: ∀ a∈l,Bare a):Bare (.agg l):=by
  refine⟨fun r=> ?_,?_⟩
  · simp only [AVal.ren,AVal.rens_map]
    have:l.map (AVal.ren r)=l:=by
      conv=>rhs;rw [← List.map_id l]
      exact List.map_congr_left fun e he=>(h e he).1 r
    rw [this]
  · simp only [Clo];exact Clos_iff.2 fun a ha=>(h a ha).2
def cellAt(w:World)(x:Addr)(j:Nat):Value:=(w.cell? (x.add j)).getD undef
def elemAt(w:World)(x:Addr)(isA:Bool)(sz i:Nat):AVal:=elemA isA ((List.range sz).map fun j=>ofScalar (cellAt w x (i*sz+j)))
theorem weight_len {t e:TypeId}(ht:P.underlying t=some (.slice e)){a:Option Addr}{len cap:Nat}{dd:DataW H}{ps:List MemPlace}(h:DataW.Trod enc P w base spare held t (.slice a len cap) dd ps)
    (hw: ∀ y∈dd.weights P t,y≤reachBytes):len*P.bytesOf e≤reachBytes:=by
  obtain⟨fuel,hf⟩:=h
  have hf':DataW.trod enc P w base spare held fuel t [.slice a len cap]=some (dd,ps):=hf
  rcases DataW.trod_slice ht hf' with ⟨hcs,_⟩ | ⟨x,l,c,elems,rest,n,_,hcs,hx,_,hl,hm,hlen,_⟩
  · simp at hcs
    obtain⟨_,rfl,_⟩:=hcs
    simp
  · simp at hcs
    obtain⟨_,rfl,_⟩:=hcs
    simp only [Prod.mk.injEq]at hx
    obtain⟨rfl,_⟩:=hx
    have:=hw ((elems.length+rest.length)*P.bytesOf e) (by simp [DataW.weights,ht])
    rw [hlen]at this
    exact Nat.le_trans (Nat.mul_le_mul_right _ (by omega)) this
theorem weights_cons {t:TypeId}{ts:List TypeId}{d:DataW H}{ds:List (DataW H)}{R:Nat}(h: ∀ y∈DataW.weightsEach P (t::ts) (d::ds),y≤R):(∀ y∈d.weights P t,y≤R)∧ ∀ y∈DataW.weightsEach P ts ds,y≤R :=
  ⟨fun y hy=>h y (by simp [DataW.weightsEach,hy]),fun y hy=>h y (by simp [DataW.weightsEach,hy])⟩
end
end
end Go.Lift
namespace Go.Lift
noncomputable section
open Go.RowKit Go.ChangeShapes Go.WideShapes Go.ChangeAt
theorem weights_each {H:Type}{P:Program} : ∀ {ts:List TypeId} {ds:List (DataW H)} {j:Nat} {t:TypeId} {d:DataW H} {y:Nat},ts[j]? =some t→ds[j]? =some d→y∈d.weights P t→y∈DataW.weightsEach P ts ds
  | [],_,_,_,_,_,h,_,_=>by cases h
  | _::_,[],_,_,_,_,_,h,_=>by cases h
  | t::ts,d::ds,0,_,_,_,h1,h2,h3=>by
    simp at h1 h2;subst h1 h2
    simp only [DataW.weightsEach,List.mem_append];exact .inl h3
  | t::ts,d::ds,j+1,_,_,_,h1,h2,h3=>by
    simp only [DataW.weightsEach,List.mem_append];exact .inr (weights_each (j:=j) (by simpa using h1) (by simpa using h2) h3)
theorem weights_all {H:Type}{P:Program}{e:TypeId}{ds:List (DataW H)}{d:DataW H}{y:Nat}(hd:d∈ds)(h3:y∈d.weights P e):y∈DataW.weightsAll P e ds:=by
  induction ds with
  | nil=>cases hd
  | cons a r ih =>
    simp only [DataW.weightsAll,List.mem_append]
    rcases List.mem_cons.1 hd with rfl | hd
    · exact .inl h3
    · exact .inr (ih hd)
section
variable {H:Type}{enc:TypeId×Value→H}{P:Program}{w:World}{base:Nat}{spare:Nat→Bool}{held:Bool}
theorem cell_weight: ∀ (d:Nat) {t:TypeId} {c:Nat} {fuel:Nat} {cs:List Value} {x:DataW H×List MemPlace},cellKind P d t c=some .string→DataW.trod enc P w base spare held fuel t cs=some x→ ∃ s:ByteArray,cs[c]? =some (.string s)∧s.size∈x.1.weights P t:=by
  intro d
  induction d with
  | zero=>intro t c fuel cs x h;cases h
  | succ d ih =>
    intro t c fuel cs x h hx
    simp only [cellKind]at h
    split at h
    · split at h<;>cases h
    · split at h<;>cases h
    · rename_i hu
      split at h
      · rename_i hc;subst hc
        obtain⟨s,rfl,hx',hs⟩:=DataW.trod_string hu hx
        subst hx'
        exact⟨s,rfl,by rw [DataW.weights];exact List.mem_singleton.2 (show s.data.size=s.data.toList.length from Array.length_toList.symm)⟩
      · cases h
    · rename_i fs hu
      obtain⟨f,hf,hk⟩:=List.exists_of_findSome?_eq_some h
      split at hk
      · rename_i hc
        obtain⟨xs,n,_,he,hl,hxl,hfs⟩:=DataW.trod_struct hu hx
        obtain⟨j,hj,hfj⟩:=List.mem_iff_getElem.1 hf
        have hj':fs[j]? =some f:=by rw [← Array.getElem?_toList,List.getElem?_eq_getElem hj,hfj]
        have h1:=hfs j f hj'
        have hjx:j<xs.length:=by rw [hxl];simpa using hj
        rw [List.getElem?_eq_getElem hjx]at h1
        obtain⟨v,hv,his⟩:=ih hk h1
        rw [List.getElem?_take]at hv
        split at hv
        · rw [List.getElem?_drop,show f.offset+(c-f.offset)=c by omega]at hv
          refine⟨v,hv,?_⟩
          subst he
          simp only [DataW.weights,hu]
          exact weights_each (j:=j) (by simp [hj']) (by simp [hjx]) his
        · cases hv
      · cases hk
    · rename_i n e hu
      split at h
      · rename_i hc
        obtain⟨xs,m,_,he,hl,hxl,hes⟩:=DataW.trod_array hu hx
        have h1:=hes _ hc
        rw [List.getElem?_eq_getElem (by omega)]at h1
        obtain⟨v,hv,his⟩:=ih h h1
        rw [List.getElem?_take]at hv
        split at hv
        · rw [List.getElem?_drop,Nat.mul_comm,Nat.div_add_mod]at hv
          refine⟨v,hv,?_⟩
          subst he
          simp only [DataW.weights,hu]
          exact weights_all (List.mem_map.2 ⟨_,List.getElem_mem _,rfl⟩) his
        · cases hv
      · cases h
    · cases h
theorem open_flat_argX {isA:Bool} {t e:TypeId} {d sz:Nat} {ks:List TK} (hw:0<w.heap.size) (ht:P.underlying t=some (.slice e)) (hc:P.cellsOf e=sz) (hsz:Nat.blt 0 sz=true) (hA:isA=false→sz=1)
    (hks:(List.range sz).map (cellKind P d e)=ks.map some) {a:Option Addr} {len cap:Nat} {dd:DataW H} {ps:List MemPlace} (h:DataW.Trod enc P w 0 (fun _=>true) true t (.slice a len cap) dd ps) (id:Nat) :
    ∃ (o:Option AAddr) (c:Nat) (b:ABlk) (p:Place) (x:Addr),SlArg o len c id 0 0 sz∧ArgRow w b p∧len≤maxLen∧(∀ φ:Map,φ id 0=some p→VRel φ (.slice o len c) (.slice a len cap)) ∧
      (∀ i,i<len→b.elem? 0 (0+i)=some (elemAt w x isA sz i))∧(∀ i j,i<len→j<sz→ ∃ k,ks[j]? =some k∧CellIs k (cellAt w x (i*sz+j))) ∧
      (∀ i j,i<len→j<sz→ks[j]? =some .string→ ∃ s:ByteArray,cellAt w x (i*sz+j)= .string s∧s.size∈dd.weights P t):=by
  have hsz:0<sz:=Nat.blt_eq.mp hsz
  have hkk: ∀ j,j<sz→ ∃ k,ks[j]? =some k∧cellKind P d e j=some k:=by
    intro j hj
    have h1:=congrArg (fun(l:List (Option TK))=>l[j]?) hks
    simp only [List.getElem?_map,List.getElem?_range hj,Option.map_some]at h1
    cases hk:ks[j]? with
    | none=>rw [hk]at h1;cases h1
    | some k=>rw [hk]at h1;simp at h1;exact⟨k,rfl,h1⟩
  obtain⟨fuel,hf⟩:=h
  have hf':DataW.trod enc P w 0 (fun _=>true) true fuel t [.slice a len cap]=some (dd,ps):=hf
  rcases DataW.trod_slice ht hf' with ⟨hcs,_⟩ | ⟨x,l,c,elems,rest,n,_,hcs,hxx,_,hl,hm,hlen,hel,hsp,_⟩
  · simp at hcs
    obtain⟨rfl,rfl,rfl⟩:=hcs
    exact⟨none,0,noBlk sz,noPlace sz,⟨0,0,none⟩,.inr ⟨rfl,rfl,rfl⟩,noRow hw hsz,by simp,fun φ _=>by simp [VRel],fun i hi=>by omega,fun i j hi=>by omega,fun i j hi=>by omega⟩
  · simp at hcs
    obtain⟨rfl,rfl,rfl⟩:=hcs
    obtain⟨hrl,hr⟩:=hsp rfl
    have each: ∀ i,i<cap→ ∃ cs y,w.cells? 0 (x.add (i*sz)) sz=some cs∧DataW.trod enc P w 0 (fun _=>true) true n e cs=some y:=by
      intro i hi
      have hb: ∃ y,(w.cells? 0 (x.add (i*P.cellsOf e)) (P.cellsOf e)).bind (DataW.trod enc P w 0 (fun _=>true) true n e)=some y:=by
        by_cases c1:i<len
        · exact⟨_,(hel i c1).trans (List.getElem?_eq_getElem (by omega))⟩
        · have:=hr (i-len) (by omega)
          rw [show len+(i-len)=i by omega]at this
          exact⟨_,this.trans (List.getElem?_eq_getElem (by omega))⟩
      obtain⟨y,hy⟩:=hb
      rw [hc,Option.bind_eq_some_iff]at hy
      obtain⟨cs,h1,h2⟩:=hy
      exact⟨cs,y,h1,h2⟩
    have cell: ∀ i j,i<cap→j<sz→ ∃ v k,w.cell? (x.add (i*sz+j))=some v∧ks[j]? =some k∧CellIs k v:=by
      intro i j hi hj
      obtain⟨cs,y,h1,h2⟩:=each i hi
      obtain⟨k,hk,hkd⟩:=hkk j hj
      obtain⟨v,hv,his⟩:=cell_flat d hkd h2
      refine⟨v,k,?_,hk,his⟩
      rw [← Go.Deep.add_add,(World.cells?_some h1).2.2 j hj,hv]
    have hcellAt: ∀ i j,i<cap→j<sz→w.cell? (x.add (i*sz+j))=some (cellAt w x (i*sz+j))∧ ∃ k,ks[j]? =some k∧CellIs k (cellAt w x (i*sz+j)):=by
      intro i j hi hj
      obtain⟨v,k,h1,h2,h3⟩:=cell i j hi hj
      have:cellAt w x (i*sz+j)=v:=by simp [cellAt,h1]
      rw [this];exact⟨h1,k,h2,h3⟩
    have txt: ∀ i j,i<len→j<sz→ks[j]? =some .string→ ∃ s:ByteArray,cellAt w x (i*sz+j)= .string s∧s.size∈dd.weights P t:=by
      intro i j hi hj hk
      obtain⟨k',hk',hkd⟩:=hkk j hj
      rw [hk]at hk'
      simp only [Option.some.injEq]at hk'
      subst hk'
      simp only [Prod.mk.injEq]at hxx
      have hie:i<elems.length:=by omega
      have h0:=(hel i hi).trans (List.getElem?_eq_getElem hie)
      rw [hc,Option.bind_eq_some_iff]at h0
      obtain⟨cs,h1,h2⟩:=h0
      obtain⟨s,hv,his⟩:=cell_weight d hkd h2
      refine⟨s,?_,?_⟩
      · unfold cellAt
        rw [← Go.Deep.add_add,(World.cells?_some h1).2.2 j hj,hv];rfl
      · rw [hxx.1]
        simp only [DataW.weights,ht]
        refine List.mem_cons_of_mem _ (List.mem_append.2 (.inl (weights_all (List.mem_map.2 ⟨_,List.getElem_mem hie,rfl⟩) his)))
    by_cases hcap:cap=0
    · subst hcap
      obtain rfl:len=0:=by omega
      refine⟨some ⟨id,0,0,0,sz⟩,0,noBlk sz,noPlace sz,x,.inl rfl,noRow hw hsz,by simp,fun φ hφ=> ?_,fun j hj=>by omega,fun i j hi=>by omega,fun i j hi=>by omega⟩
      simp only [VRel]
      exact⟨x,0,rfl,Nat.le_refl _,Nat.le_refl _,.inl ⟨rfl,_,hφ,rfl,.inl rfl,fun _=>rfl⟩⟩
    have hspot:x.spot=none:=by
      have:=(hcellAt 0 0 (by omega) hsz).1
      simpa [Addr.add]using World.cell?_spot this
    have hadd: ∀ i,x.add i=⟨x.block,x.off+i,none⟩:=by
      intro i
      obtain⟨bl,of,sp⟩:=x
      simp only at hspot
      subst hspot
      unfold Addr.add
      split
      · rename_i h0;subst h0;rfl
      · rfl
    have hcells: ∀ i,i<cap→(elemAt w x isA sz i).cells=(List.range sz).map fun j=>ofScalar (cellAt w x (i*sz+j)):=by
      intro i hi
      refine elemA_cells fun hA'=> ?_
      have h1:=hA hA'
      subst h1
      refine⟨_,rfl,?_⟩
      obtain⟨_,k,_,his⟩:=hcellAt i 0 hi (by omega)
      exact his.bare.2.1
    have hblk:x.block<w.heap.size:=by
      have:=(hcellAt 0 0 (by omega) hsz).1
      rw [hadd]at this
      unfold World.cell? at this
      split at this
      · rename_i hb;exact(Array.getElem?_eq_some_iff.1 hb).1
      · cases this
    refine⟨some ⟨id,0,0,0,sz⟩,cap,{elems:=(List.range cap).map (elemAt w x isA sz),es:=sz,exact:=true,ro:=true,ver:=0,minVer:=0,forkLen:=0,ty:=none},{blk:=x.block,off:=x.off,lo:=0,es:=sz,tot:=cap,exact:=true,ro:=true},x,.inl rfl,?_,by omega,?_,?_,fun i j hi hj=>(hcellAt i j (by omega) hj).2,txt⟩
    · refine⟨rfl,rfl,rfl,rfl,hsz,rfl,fun φ S=>⟨hblk,(fun h=>by cases h),?_,(fun h=>by cases h),(fun h=>by cases h),(fun q h=>by cases h),?_⟩,?_⟩
      · intro o ho
        simp only at ho
        have h1:o / sz<cap:=Nat.div_lt_of_lt_mul (by rw [Nat.mul_comm];exact ho)
        have:=(hcellAt (o / sz) (o % sz) h1 (Nat.mod_lt _ hsz)).1
        rw [show o / sz*sz+o % sz=o by rw [Nat.mul_comm];exact Nat.div_add_mod o sz,hadd]at this
        simp only [this];rfl
      · intro i e0 _ _ he
        simp only [List.getElem?_map,Option.map_eq_some_iff]at he
        obtain⟨i',hi',rfl⟩:=he
        have hi:=(List.getElem?_eq_some_iff.1 hi').1
        simp only [List.length_range]at hi
        rw [List.getElem?_range hi]at hi'
        simp only [Option.some.injEq]at hi';subst hi'
        refine⟨by rw [hcells i hi];simp,by simp only;omega,fun j x' hx=> ?_⟩
        rw [hcells i hi,List.getElem?_map,Option.map_eq_some_iff]at hx
        obtain⟨j',hj',rfl⟩:=hx
        have hj:=(List.getElem?_eq_some_iff.1 hj').1
        simp only [List.length_range]at hj
        rw [List.getElem?_range hj]at hj'
        simp only [Option.some.injEq]at hj';subst hj'
        obtain⟨h1,k,_,his⟩:=hcellAt i j hi hj
        refine⟨_,?_,ofScalar_rel φ _,his.bare.2.2⟩
        rw [hadd]at h1
        simp only [Place.at,Nat.sub_zero,Nat.add_assoc]
        exact h1
      · intro e0 he
        obtain⟨i,hi,rfl⟩:=List.mem_map.1 he
        have hi:=List.mem_range.1 hi
        unfold elemAt elemA
        have hall: ∀ a∈(List.range sz).map (fun j=>ofScalar (cellAt w x (i*sz+j))),Bare a:=by
          intro a ha
          obtain⟨j,hj,rfl⟩:=List.mem_map.1 ha
          obtain⟨_,k,_,his⟩:=hcellAt i j hi (List.mem_range.1 hj)
          exact his.bare.1
        cases isA with
        | true=>exact Bare.agg hall
        | false =>
          have h1:=hA rfl
          subst h1
          exact hall _ (by simp)
    · intro φ hφ
      simp only [VRel]
      refine⟨x,cap,rfl,hl,Nat.le_refl _,.inl ⟨rfl,_,hφ,rfl,?_,fun _=>rfl⟩⟩
      refine .inr ⟨Nat.le_refl _,?_,by simp⟩
      have:=hadd 0
      simp only [Addr.add,if_true]at this
      simpa [Place.at]using this
    · intro i hi
      have hi':i<cap:=by omega
      simp [ABlk.elem?,ABlk.lim,hi']
end
end
end Go.Lift
namespace Go.Proofs.YtjpfnbihopoeeaaGreatDoor
open Go.Lift
set_option maxRecDepth 1000000
theorem agN {a b:List AVal}{h k h' k':AHeap}{v u:AVal}(e:h.next≠k.next):Agree a b h k v u h' k':=⟨fun _ q=>absurd (congrArg AHeap.next q) e⟩
theorem orders_core(d:Bool){ba bb:ABlk}{va vb:AVal}{a b:List Bytes}(ha:RowAt (AHeap.of [ba,bb]) va a)(hb:RowAt (AHeap.of [ba,bb]) vb b)(sa:Short a)(sb:Short b)(col other:Int) :
    ∃ h',FDoes Tryz.prog cnd 6 [.int .i64 col,.bool d,va,vb,.int .i64 other] (AHeap.of [ba,bb]) (.bool true) h':=by
  let H0:AHeap:=AHeap.rowsT 52 [(0,ba),(1,bb),(7,ABlk.made [AVal.int IntKind.i64 col] 1 true (some (3,1))),(8,ABlk.made [AVal.bool d] 1 true (some (4,1))),(17,ABlk.made [AVal.int IntKind.i64 other] 1 true (some (3,1))),(18,ABlk.made [AVal.bool (!d)] 1 true (some (4,1)))]
  have low: ∀ {v:AVal} {l:List Bytes},RowAt (AHeap.of [ba,bb]) v l→RowAt H0 v l:=by
    rintro v l ⟨o,c,rfl,hr⟩
    refine⟨o,c,rfl,fun i hi=> ?_⟩
    obtain⟨p,q,e1,e2,e3,e4,e5⟩:=hr i hi
    refine⟨p,q,e1,e2,e3,?_,e5⟩
    rw [AHeap.of_get]at e4
    have hp:p.id<2:=by have:=(List.getElem?_eq_some_iff.1 e4).1;simpa using this
    match hq:p.id,hp with
    | 0,_=>rw [hq]at e4;simp only [List.getElem?_cons_zero]at e4;rw [← e4];rfl
    | 1,_=>rw [hq]at e4;simp only [List.getElem?_cons_succ,List.getElem?_cons_zero]at e4;rw [← e4];rfl
  have A:=low ha
  have B:=low hb
  have ld: ∀ n,aload (AEnv.D env) 4 ⟨8,0,0,0,1⟩ ⟨n,H0.blks⟩=some (.bool d):=fun n=>by kernel_rfl
  have lk: ∀ n,aload (AEnv.D env) 3 ⟨7,0,0,0,1⟩ ⟨n,H0.blks⟩=some (.int .i64 col):=fun n=>by kernel_rfl
  have ld2: ∀ n,aload (AEnv.D env) 4 ⟨18,0,0,0,1⟩ ⟨n,H0.blks⟩=some (.bool (!d)):=fun n=>by kernel_rfl
  have lk2: ∀ n,aload (AEnv.D env) 3 ⟨17,0,0,0,1⟩ ⟨n,H0.blks⟩=some (.int .i64 other):=fun n=>by kernel_rfl
  have c1:=by_does (H:=H0) A B sa sb col d ld lk (by show 7<52;decide)
  rw [by_doc]at c1
  have c2:=cmp_does (H:=up H0 200) A B sa sb col d
  have c3:=by_does (H:=up (up H0 200) 200) A B sa sb other (!d) ld2 lk2 (by show 17<52+200+200;decide)
  rw [by_doc]at c3
  have c4:=cmp_does (H:=up (up (up H0 200) 200) 200) A B sa sb other (!d)
  have c5:=by_does (H:=up (up (up (up (up H0 200) 200) 200) 200) 24) B A sb sa col d ld lk (by show 7<52+200+200+200+200+24;decide)
  rw [by_doc]at c5
  have c6:=cmp_does (H:=up (up (up (up (up (up H0 200) 200) 200) 200) 24) 200) B A sb sa col d
  have c7:=by_does (H:=up (up (up (up (up (up (up H0 200) 200) 200) 200) 24) 200) 200) A A sa sa col d ld lk (by show 7<52+200+200+200+200+24+200+200;decide)
  rw [show(if d=true then a else a)=a by cases d<;>rfl,by_self]at c7
  have eqq: ∀ r:Int,some (AVal.bool (r == r))=some (AVal.bool true):=fun r=>by rw [beq_self_eq_true]
  have n2: ∀ n:Nat,2≤52+n:=fun n=>by omega
  cases d
  · obtain⟨v,h1,hd,rfl⟩:=toF_vc ba bb _ _ _ _ _ _ _ va vb col other _ _ _ (fun v _=>v= .bool true)
      ⟨⟨c1⟩,⟨c2⟩,eqq _,⟨c3⟩,⟨c4⟩,eqq _,agN (by show ¬ 52=52+200+200;decide),agN (by show ¬ 52+200=52+200+200+200;decide),bifL (by show 2≤52+200+200+200+200;decide) ⟨⟨c5⟩,⟨c6⟩,eqq _,⟨c7⟩,rfl,agN (by show ¬ 52+200+200+200+200+24=52+200+200+200+200+24+200+200;decide),condL (by show 2≤52+200+200+200+200+24+200+200+200;decide) rfl⟩⟩
    exact⟨h1,hd⟩
  · obtain⟨v,h1,hd,rfl⟩:=toT_vc ba bb _ _ _ _ _ _ _ va vb col other _ _ _ (fun v _=>v= .bool true)
      ⟨⟨c1⟩,⟨c2⟩,eqq _,⟨c3⟩,⟨c4⟩,eqq _,agN (by show ¬ 52=52+200+200;decide),agN (by show ¬ 52+200=52+200+200+200;decide),bifL (by show 2≤52+200+200+200+200;decide) ⟨⟨c5⟩,⟨c6⟩,eqq _,⟨c7⟩,rfl,agN (by show ¬ 52+200+200+200+200+24=52+200+200+200+200+24+200+200;decide),condL (by show 2≤52+200+200+200+200+24+200+200+200;decide) rfl⟩⟩
    exact⟨h1,hd⟩
end Go.Proofs.YtjpfnbihopoeeaaGreatDoor
namespace Go.Proofs.YtjpfnbihopoeeaaGreatDoor
open Go.Lift Go.RowKit
set_option maxRecDepth 1000000
def textAt(w:World)(x:Addr)(i:Nat):Bytes:=match cellAt w x (i*1+0)with | .string s=>s.data.toList | _=> []
theorem row_at {w:World}{x:Addr}{n c id:Nat}{b:ABlk}{o:Option AAddr}{W:List Nat}{H:AHeap}(hs:SlArg o n c id 0 0 1)(hg:H.get id=some b)(hx: ∀ i,i<n→b.elem? 0 (0+i)=some (elemAt w x false 1 i))
    (tx: ∀ i j,i<n→j<1→([TK.string]:List TK)[j]? =some .string→ ∃ s:ByteArray,cellAt w x (i*1+j)= .string s∧s.size∈W) (wt: ∀ y∈W,y≤reachBytes) :
    RowAt H (.slice o n c) ((List.range n).map (textAt w x))∧Short ((List.range n).map (textAt w x)):=by
  have key: ∀ i,i<n→elemAt w x false 1 i= .str (textAt w x i)∧(textAt w x i).length<2^48:=by
    intro i hi
    obtain⟨s,h1,h2⟩:=tx i 0 hi (by decide) rfl
    have e:elemAt w x false 1 i=ofScalar (cellAt w x (i*1+0)):=rfl
    unfold textAt
    rw [e,h1]
    refine⟨rfl,?_⟩
    have:=wt _ h2
    have h3:s.data.toList.length=s.size:=Array.length_toList
    show s.data.toList.length<2^48
    rw [h3]
    exact Nat.lt_of_le_of_lt this (by decide)
  refine⟨⟨o,c,by rw [List.length_map,List.length_range],fun i hi=> ?_⟩,?_⟩
  · have hi':i<n:=by simpa using hi
    rcases hs with rfl | ⟨_,rfl,_⟩
    · refine⟨_,b,rfl,rfl,rfl,hg,?_⟩
      rw [List.getElem_map,List.getElem_range,← (key i hi').1]
      exact hx i hi'
    · exact absurd hi' (Nat.not_lt_zero _)
  · intro y hy
    obtain⟨i,hi,rfl⟩:=List.mem_map.1 hy
    exact(key i (List.mem_range.1 hi)).2
theorem orders_law_at {w:World}{x2 x3:Addr}{n2 c2 n3 c3:Nat}{b2 b3:ABlk}{o2 o3:Option AAddr}{W2 W3:List Nat}(col:Int)(d:Bool)(other:Int)(hs2:SlArg o2 n2 c2 0 0 0 1)(hs3:SlArg o3 n3 c3 1 0 0 1)
    (hx2: ∀ i,i<n2→b2.elem? 0 (0+i)=some (elemAt w x2 false 1 i)) (hx3: ∀ i,i<n3→b3.elem? 0 (0+i)=some (elemAt w x3 false 1 i))
    (tx2: ∀ i j,i<n2→j<1→([TK.string]:List TK)[j]? =some .string→ ∃ s:ByteArray,cellAt w x2 (i*1+j)= .string s∧s.size∈W2) (tx3: ∀ i j,i<n3→j<1→([TK.string]:List TK)[j]? =some .string→ ∃ s:ByteArray,cellAt w x3 (i*1+j)= .string s∧s.size∈W3)
    (wt2: ∀ y∈W2,y≤reachBytes) (wt3: ∀ y∈W3,y≤reachBytes) :
    ∃ h',FDoes Tryz.prog cnd 6 [.int .i64 col,.bool d,.slice o2 n2 c2,.slice o3 n3 c3,.int .i64 other] (AHeap.of [b2,b3]) (.bool true) h':=by
  obtain⟨r2,s2⟩:=row_at (H:=AHeap.of [b2,b3]) hs2 rfl hx2 tx2 wt2
  obtain⟨r3,s3⟩:=row_at (H:=AHeap.of [b2,b3]) hs3 rfl hx3 tx3 wt3
  exact orders_core d r2 r3 s2 s3 col other
end Go.Proofs.YtjpfnbihopoeeaaGreatDoor
namespace Go.Proofs.YtjpfnbihopoeeaaGreatDoor
open Go.ChangeShapes Go.WideShapes Go.RowKit Go.Stop
open Go.Lift
set_option maxRecDepth 1000000
noncomputable def laidWorld(os:Os):World :=
  {World.doorLaid Tryz.prog 96 os with heap:=(World.doorLaid Tryz.prog 96 os).heap.modify 3 fun
      | .cells _ t frozen=> .cells (Go.Pinned.utf8FirstZ.map fun(z:Nat)=>Value.int .u8 (z:Int)).toArray t frozen
      | o=>o}
theorem laidMet_of_bits {P:Program}{w:World}{l:List (String×DataW Unit)}(fuel M:Nat)(h:(DataW.laidRun P w fuel (l.map (·.1))).bind (fun x=>if nodupBits M x.2 0 && laidRowsB P w x.2 then some x.1 else none)=some l):laidMet P l w:=by
  simp only [Option.bind_eq_some_iff]at h
  obtain⟨x,hx,d⟩:=h
  split at d
  · rename_i hb
    simp only [Bool.and_eq_true]at hb
    simp only [Option.some.injEq]at d
    exact laidMet_of_run (ps:=x.2) fuel (by rw [hx,← d]) (decide_eq_true (nodupBits_sound hb.1).1) hb.2
  · cases d
theorem laid_met(os:Os)(args:Array Value):laidMetH Tryz.prog Rows.tableKnownRow.laid ((laidWorld os).forCall (fun _ _=>0) ⟨#[],args,[]⟩).memory:=by
  rw [MakeChecks.laidMetH_plain _ _ _ (by kernel_rfl)]
  exact laidMet_of_bits 8 257 (by kernel_rfl)
theorem gSyn:Tryz.prog.globalNamed "strconv.ErrSyntax" =some 1:=by kernel_rfl
theorem gSynT:(Tryz.prog.globals[1]?).map (·.type)=some 100:=by kernel_rfl
theorem starE: "*" ++ "errors.errorString" = "*errors.errorString" :=by decide
theorem rowE(u:TypeId)(h:Tryz.prog.typeName? 3 u=some "*errors.errorString"):u=276 :=
  typeName_ptr_named (nm:= "errors.errorString") (by rw [starE];kernel_rfl) (by kernel_rfl) (by decide) u (by rw [starE];exact h)
theorem eCells:Tryz.prog.cellsOf 278=1:=by kernel_rfl
theorem strCells:Tryz.prog.cellsOf 9=1:=by kernel_rfl
theorem cell_of_var {P:Program}{W:World}{n:String}{g:Nat}{v:Value}(hg:P.globalNamed n=some g)(h:W.var? P n=some #[v]):W.cell? ⟨g,0,none⟩=some v∧g<W.heap.size:=by
  unfold World.var? at h
  rw [hg]at h
  simp only [Option.bind_some]at h
  split at h
  · rename_i cs t f hh
    simp only [Option.some.injEq]at h
    subst h
    refine⟨by simp [World.cell?,hh],(Array.getElem?_eq_some_iff.1 hh).1⟩
  · cases h
theorem cnd_of_laid {W:World}(h:laidMetH Tryz.prog Rows.tableKnownRow.laid W):cnd (fun k=>k<W.heap.size) W:=by
  rw [MakeChecks.laidMetH_plain _ _ _ (by kernel_rfl)]at h
  have h5:=laidMet.tail (laidMet.tail (laidMet.tail (laidMet.tail (laidMet.tail h))))
  obtain⟨a2,s2,hs,_⟩:=laid_sentinel h5 gSyn gSynT Tryz.underlying100 rowE Tryz.underlying276 Tryz.underlying278 rfl rfl Tryz.underlying9 eCells strCells
  obtain⟨s1,s2⟩:=cell_of_var gSyn hs
  exact⟨s2,⟨_,_,s1⟩⟩
end Go.Proofs.YtjpfnbihopoeeaaGreatDoor
