/-
  Parts of the proof, one behind the other:
  Contracts: strings.CutPrefix, strings.Cut, table.number.
  Fields of a row, and what holds rows against each other.
  Contracts: a row's field, sign, cmp.Compare, strings.Compare.
  The document's parts: its rounds as trees; memory a variable.
  The document's parts, plainly.
  A list of texts that grows, in a variable memory.
  The document's parts: its loop, in a variable memory.
  The document's parts: the whole loop.
  The document's parts, as a tree.
  The document's parts, in every memory.
  Slices of cells in a variable memory: read, written, grown.
  Tables of texts in a variable memory.
  Same, SameRow, mark, and the rounds of both Rows, as trees.
  Same, SameRow and mark in every memory.
  A mark; slices of one thing; a text split in a variable memory.
  apart, as trees.
  Both Rows in every memory.
  apart: its loops.
  apart: the loop that grows all, and the one that looks at all.
  apart: its last loops, and the whole.
  apart in every memory.
  What holds two rows against each other: the program's and the document's, as trees.
  What By's function and the document's Compare answer.
  THE CLOSED RUN of 'frescolaw14.works' on the abstract machine: it answers true.
  TableReads: its walk, as a tree.
  TableReads answers true.
  The library's sort: insertion, ranges that change places, rotation, as trees.
  The library's sort: symMerge, as trees.
  The library's sort: blocks, as trees.
  STABLE SORTING, plain: the steps of the library's merges on arrangements (functions from places to what stands there).
  The library's sort in a variable memory: what is sorted; ranges that change places; rotation; insertion.
  The library's sort in a variable memory: insertion, and the loops of symMerge.
-/
import Derived.Test.YtjpfnbihopoeeaaGreatDoorKTableSortedC
set_option linter.unusedVariables false
set_option linter.unusedSimpArgs false
set_option linter.unusedSectionVars false
namespace Go.Proofs.YtjpfnbihopoeeaaGreatDoor
open Go.Lift
set_option maxRecDepth 1000000
theorem cutp_does(s:Bytes)(H:AHeap):FDoes Tryz.prog cnd 117 [.str s,.str [45]] H (.tuple [.str (cutV s).1,.bool (cutV s).2]) H:=by
  refine FDoes.ofVC (cutp_vc s (fun v _=>v= .tuple [.str (cutV s).1,.bool (cutV s).2]) ⟨fun h=>⟨⟨by decide,h⟩,fun h1=>⟨⟨by decide,h⟩,?_⟩,fun h1=> ?_⟩,fun h=> ?_⟩) rfl rfl H
  · show _=_;rw [show cutV s=(s.drop 1,true)from if_pos h1]
  · show _=_;rw [show cutV s=(s,false)from if_neg h1]
  · have:s= []:=List.length_eq_zero_iff.1 (by omega)
    subst this;rfl
theorem cut_does(s:Bytes)(hs:s.length<2^48)(H:AHeap):FDoes Tryz.prog cnd 118 [.str s,.str [46]] H (.tuple [.str (dotV s).1,.str (dotV s).2.1,.bool (dotV s).2.2]) H:=by
  have hb:0≤Lib.indexByte s 46→Lib.indexByte s 46<(s.length:Int):=by
    intro h
    rcases dot_cases s with ⟨h1, -⟩ | ⟨a,d,h1, -,h3⟩
    · omega
    · rw [h3,h1];simp only [List.length_append,List.length_cons];omega
  refine FDoes.ofVC (cut_vc s (fun v _=>v= .tuple [.str (dotV s).1,.str (dotV s).2.1,.bool (dotV s).2.2]) ⟨rfl,fun h=>⟨⟨h,by have:=hb h;omega⟩,⟨by omega,by have:=hb h;omega⟩,⟨by omega,by have:=hb h;omega⟩,?_⟩,fun h=> ?_⟩) rfl rfl H
  · show _=_;rw [show dotV s=(s.take (Lib.indexByte s 46).toNat,s.drop (Lib.indexByte s 46+1).toNat,true)from if_pos h]
  · show _=_;rw [show dotV s=(s,[],false)from if_neg h]
theorem valN_lt(r:Bytes): ∀ n:Nat,r.all dig=true→valN n r<(n+1)*10^r.length:=by
  induction r with
  | nil=>intro n h;rw [valN_nil,List.length_nil,Nat.pow_zero];omega
  | cons c r ih =>
    intro n h
    rw [List.all_cons,Bool.and_eq_true]at h
    have hc:48≤c.toNat∧c.toNat≤57:=by have:=h.1;simpa [dig]using this
    rw [valN_cons]
    refine Nat.lt_of_lt_of_le (ih _ h.2) ?_
    rw [List.length_cons,Nat.pow_succ,Nat.mul_comm (10^r.length) 10,← Nat.mul_assoc]
    exact Nat.mul_le_mul_right _ (by omega)
theorem fill_len {a d:Bytes}(h6:d.length≤6):(fillV a d).length=a.length+6:=by
  unfold fillV
  rw [List.length_append,List.length_append,Lib.repeatL_length]
  simp only [List.length_cons,List.length_nil]
  omega
theorem num_big {a d:Bytes}(h1: ¬(a.length:Int)<1)(h9: ¬9<(a.length:Int))(h6: ¬6<(d.length:Int)) :
    Nat.le (Nat.succ (a.length+d.length)) (2^62)∧(-9223372036854775808≤6- (d.length:Int)∧6- (d.length:Int)≤9223372036854775807)∧0≤6- (d.length:Int)∧6- (d.length:Int)≤1048576 ∧
    (∀ x:Bytes,x=Lib.repeatL [48] (6- (d.length:Int)).toNat→Nat.le (Nat.succ ((a++d).length+x.length)) (2^62)) ∧
    (∀ t:Bytes,t=a++d++Lib.repeatL [48] (6- (d.length:Int)).toNat→t=fillV a d∧(t= []→False)∧t.length≤15∧t.length≤1048576 ∧
      (t.all dig=true→(valN 0 t:Int)<1000000000000000)):=by
  have e:(6- (d.length:Int)).toNat=6-d.length:=by omega
  rw [e]
  refine⟨?_,⟨by omega,by omega⟩,by omega,by omega,?_,?_⟩
  · show a.length+d.length<2^62
    exact Nat.lt_of_lt_of_le (m:=100) (by omega) (by decide)
  · rintro x rfl
    show(a++d).length+(Lib.repeatL [48] (6-d.length)).length<2^62
    rw [List.length_append,Lib.repeatL_length]
    exact Nat.lt_of_lt_of_le (m:=100) (by simp only [List.length_cons,List.length_nil];omega) (by decide)
  · rintro t rfl
    have hl:=fill_len (a:=a) (d:=d) (by omega)
    refine⟨rfl,?_,?_,?_,?_⟩
    · intro h
      have:(fillV a d).length=0:=by unfold fillV;rw [h];rfl
      omega
    · show(fillV a d).length≤15;omega
    · show(fillV a d).length≤1048576;omega
    · intro h
      have hv:=valN_lt (fillV a d) 0 h
      have:(0+1)*10^(fillV a d).length≤10^15:=by rw [Nat.one_mul];exact Nat.pow_le_pow_right (by decide) (by omega)
      rw [p15]at this
      show(valN 0 (fillV a d):Int)<_
      omega
theorem numW_1 {a d:Bytes}{q m:Bool}(h:(a.length:Int)<1∨9<(a.length:Int)∨6<(d.length:Int)∨(q=true∧d= [])):numW a d q m=none:=by
  unfold numW
  exact if_pos (h.elim (fun h=>Or.inl (by omega)) fun h=>h.elim (fun h=>Or.inr (Or.inl (by omega))) fun h=>h.elim (fun h=>Or.inr (Or.inr (Or.inl (by omega)))) fun h=>Or.inr (Or.inr (Or.inr h)))
theorem numW_2 {a d:Bytes}{q m:Bool}(h1: ¬(a.length:Int)<1)(h9: ¬9<(a.length:Int))(h6: ¬6<(d.length:Int))(hq:q=true→ ¬d= []) :
    numW a d q m=if(fillV a d).all dig=true then some (if m=true then 0- (valN 0 (fillV a d):Int)else(valN 0 (fillV a d):Int))else none:=by
  unfold numW
  refine if_neg ?_
  rintro (h | h | h | h)
  · omega
  · omega
  · omega
  · exact hq h.1 h.2
theorem fitN(x:Nat)(h:(x:Int)<1000000000000000): -9223372036854775808≤(x:Int)∧(x:Int)≤9223372036854775807:=⟨by omega,by omega⟩
theorem fitM(x:Nat)(h:(x:Int)<1000000000000000): -9223372036854775808≤0- (x:Int)∧0- (x:Int)≤9223372036854775807:=⟨by omega,by omega⟩
theorem num_does(s:Bytes)(hs:s.length<2^48)(H:AHeap):FDoes Tryz.prog cnd 65 [.str s] H (numA (numD s)) H:=by
  rw [← numV_numD]
  have hl:(cutV s).1.length<2^48:=by
    unfold cutV
    split
    · simp only [List.length_drop];omega
    · exact hs
  have c1:=fun H=>cutp_does s H
  have c2:=fun H=>cut_does (cutV s).1 hl H
  unfold numV
  generalize (cutV s).1=r at *
  generalize (cutV s).2=m at *
  generalize (dotV r).1=a at *
  generalize (dotV r).2.1=d at *
  generalize (dotV r).2.2=q at *
  have yes: ∀ {t:Bytes},t=fillV a d→(h1: ¬(a.length:Int)<1)→(h9: ¬9<(a.length:Int))→(h6: ¬6<(d.length:Int))→(hq:q=true→ ¬d= [])→t.all dig=true→numA (numW a d q m)= .tuple [.int .i64 (if m=true then 0- (valN 0 t:Int)else(valN 0 t:Int)),.bool true]:=by
    rintro t rfl h1 h9 h6 hq h
    rw [numW_2 h1 h9 h6 hq,if_pos h];rfl
  have no: ∀ {t:Bytes},t=fillV a d→(h1: ¬(a.length:Int)<1)→(h9: ¬9<(a.length:Int))→(h6: ¬6<(d.length:Int))→(hq:q=true→ ¬d= [])→ ¬t.all dig=true→numA (numW a d q m)= .tuple [.int .i64 0,.bool false]:=by
    rintro t rfl h1 h9 h6 hq h
    rw [numW_2 h1 h9 h6 hq,if_neg h];rfl
  have non:((a.length:Int)<1∨9<(a.length:Int)∨6<(d.length:Int)∨(q=true∧d= []))→AVal.tuple [.int .i64 0,.bool false]=numA (numW a d q m):=fun h=>by rw [numW_1 h];rfl
  cases m<;>cases q
  · refine FDoes.ofVC (numFF_vc s r a d (fun v _=>v=numA (numW a d false false)) ⟨⟨c1 _⟩,⟨c2 _⟩,fun h1=>non (Or.inl h1),fun h1=>⟨fun h9=>non (Or.inr (Or.inl h9)),fun h9=>⟨fun h6=>non (Or.inr (Or.inr (Or.inl h6))),fun h6=> ?_⟩⟩⟩) rfl (numA_bare _) H
    obtain⟨b1,b2,b3,b4,b5,b6⟩:=num_big h1 h9 h6
    refine⟨b1,b2,b3,b4,by decide,b5 _ rfl,fun h=> ?_,fun h=> ?_⟩
    · obtain⟨t1,t2,t3,t4,t5⟩:=b6 _ rfl
      have:=t5 h
      exact⟨rfl,rfl,t2,t3,fitN _ this,(yes t1 h1 h9 h6 (fun h=>by cases h) h).symm⟩
    · obtain⟨t1,t2,t3,t4,t5⟩:=b6 _ rfl
      exact⟨rfl,rfl,t2,t3,rfl,rfl,rfl,rfl,rfl,t4,(no t1 h1 h9 h6 (fun h=>by cases h) h).symm⟩
  · refine FDoes.ofVC (numFT_vc s r a d (fun v _=>v=numA (numW a d true false)) ⟨⟨c1 _⟩,⟨c2 _⟩,fun h1=>non (Or.inl h1),fun h1=>⟨fun h9=>non (Or.inr (Or.inl h9)),fun h9=>⟨fun h6=>non (Or.inr (Or.inr (Or.inl h6))),fun h6=>⟨fun hd=>non (Or.inr (Or.inr (Or.inr ⟨rfl,hd⟩))),fun hd=> ?_⟩⟩⟩⟩) rfl (numA_bare _) H
    obtain⟨b1,b2,b3,b4,b5,b6⟩:=num_big h1 h9 h6
    refine⟨b1,b2,b3,b4,by decide,b5 _ rfl,fun h=> ?_,fun h=> ?_⟩
    · obtain⟨t1,t2,t3,t4,t5⟩:=b6 _ rfl
      have:=t5 h
      exact⟨rfl,rfl,t2,t3,fitN _ this,(yes t1 h1 h9 h6 (fun _=>hd) h).symm⟩
    · obtain⟨t1,t2,t3,t4,t5⟩:=b6 _ rfl
      exact⟨rfl,rfl,t2,t3,rfl,rfl,rfl,rfl,rfl,t4,(no t1 h1 h9 h6 (fun _=>hd) h).symm⟩
  · refine FDoes.ofVC (numTF_vc s r a d (fun v _=>v=numA (numW a d false true)) ⟨⟨c1 _⟩,⟨c2 _⟩,fun h1=>non (Or.inl h1),fun h1=>⟨fun h9=>non (Or.inr (Or.inl h9)),fun h9=>⟨fun h6=>non (Or.inr (Or.inr (Or.inl h6))),fun h6=> ?_⟩⟩⟩) rfl (numA_bare _) H
    obtain⟨b1,b2,b3,b4,b5,b6⟩:=num_big h1 h9 h6
    refine⟨b1,b2,b3,b4,by decide,b5 _ rfl,fun h=> ?_,fun h=> ?_⟩
    · obtain⟨t1,t2,t3,t4,t5⟩:=b6 _ rfl
      have:=t5 h
      exact⟨rfl,rfl,t2,t3,fitN _ this,fitM _ this,(yes t1 h1 h9 h6 (fun h=>by cases h) h).symm⟩
    · obtain⟨t1,t2,t3,t4,t5⟩:=b6 _ rfl
      exact⟨rfl,rfl,t2,t3,rfl,rfl,rfl,rfl,rfl,t4,(no t1 h1 h9 h6 (fun h=>by cases h) h).symm⟩
  · refine FDoes.ofVC (numTT_vc s r a d (fun v _=>v=numA (numW a d true true)) ⟨⟨c1 _⟩,⟨c2 _⟩,fun h1=>non (Or.inl h1),fun h1=>⟨fun h9=>non (Or.inr (Or.inl h9)),fun h9=>⟨fun h6=>non (Or.inr (Or.inr (Or.inl h6))),fun h6=>⟨fun hd=>non (Or.inr (Or.inr (Or.inr ⟨rfl,hd⟩))),fun hd=> ?_⟩⟩⟩⟩) rfl (numA_bare _) H
    obtain⟨b1,b2,b3,b4,b5,b6⟩:=num_big h1 h9 h6
    refine⟨b1,b2,b3,b4,by decide,b5 _ rfl,fun h=> ?_,fun h=> ?_⟩
    · obtain⟨t1,t2,t3,t4,t5⟩:=b6 _ rfl
      have:=t5 h
      exact⟨rfl,rfl,t2,t3,fitN _ this,fitM _ this,(yes t1 h1 h9 h6 (fun _=>hd) h).symm⟩
    · obtain⟨t1,t2,t3,t4,t5⟩:=b6 _ rfl
      exact⟨rfl,rfl,t2,t3,rfl,rfl,rfl,rfl,rfl,t4,(no t1 h1 h9 h6 (fun _=>hd) h).symm⟩
end Go.Proofs.YtjpfnbihopoeeaaGreatDoor
namespace Go.Proofs.YtjpfnbihopoeeaaGreatDoor
open Go.Lift
set_option maxRecDepth 1000000
theorem fieldH_vc(H:AHeap)(o:Option AAddr)(n c:Nat)(k:Int)(p:AAddr)(w:List UInt8)(K0:AVal→AHeap→Prop)(vc:bif Nat.ble (AHeap.next H) (AHeap.next H) && true then bif Nat.ble (AHeap.next H) (AHeap.next H+1) && true then(k<0→bif Nat.ble (AHeap.next H) (AHeap.next H+9) && true then bif Nat.ble (AHeap.next H) (AHeap.next H+10)then K0 (AVal.str []) (AHeap.mk (AHeap.next H+9+1) (AHeap.blks (AHeap.mk (AHeap.next H+1+8) (AHeap.blks (AHeap.mk (AHeap.next H+1) (AHeap.blks H))))))else False else False)∧(¬k<0→((↑n:Int)≤k→bif Nat.ble (AHeap.next H) (AHeap.next H+9) && true then bif Nat.ble (AHeap.next H) (AHeap.next H+10)then K0 (AVal.str []) (AHeap.mk (AHeap.next H+9+1) (AHeap.blks (AHeap.mk (AHeap.next H+1+8) (AHeap.blks (AHeap.mk (AHeap.next H+1) (AHeap.blks H))))))else False else False)∧(¬(↑n:Int)≤k→bif Nat.ble (AHeap.next H) (AHeap.next H+9) && true then aindexAddr (AEnv.D env) 36 (AVal.slice o n c) (AVal.int IntKind.i64 k)=some (AVal.ptr (some p))∧aload (AEnv.D env) 9 p (AHeap.mk (AHeap.next H+14) (H.2))=some (AVal.str w)∧bif Nat.ble (AHeap.next H) (AHeap.next H+14)then K0 (AVal.str w) (AHeap.mk (AHeap.next H+9+5) (AHeap.blks (AHeap.mk (AHeap.next H+1+8) (AHeap.blks (AHeap.mk (AHeap.next H+1) (AHeap.blks H))))))else False else False))else False else False) :
    ∃ v h1,FDoes Tryz.prog cnd 49 [.slice o n c,.int .i64 k] H v h1∧K0 v h1 :=
  tcall_does env_ok mixed noSpecs_ok (hs:= .br 1001 .nil (.br 1006 .nil (.hint (.val 3002 (AVal.ptr (some p))) (.hint (.val 3003 (AVal.str w)) .nil)))) (by kernel_rfl) vc
theorem sign_vc(x y:Bool)(K0:AVal→AHeap→Prop)(vc:(x=true→K0 (AVal.int IntKind.i64 (-1)) (AHeap.rowsT 3 []))∧(x=false→(y=true→K0 (AVal.int IntKind.i64 (1)) (AHeap.rowsT 4 []))∧(y=false→K0 (AVal.int IntKind.i64 (0)) (AHeap.rowsT 4 [])))) :
    ∃ v h1,FDoes Tryz.prog cnd 69 [.bool x,.bool y] (⟨0,.nil⟩) v h1∧K0 v h1 :=
  tcall_does env_ok mixed noSpecs_ok (hs:= .br 1000 .nil (.br 3000 .nil .nil)) (by kernel_rfl) vc
theorem cmpi_vc(x y:Int)(K0:AVal→AHeap→Prop)(vc:CallT Tryz.prog cnd 120 [AVal.int IntKind.i64 x] (AHeap.rowsT 4 []) (AVal.bool false) (AHeap.rowsT 4 [])∧CallT Tryz.prog cnd 120 [AVal.int IntKind.i64 y] (AHeap.rowsT 7 []) (AVal.bool false) (AHeap.rowsT 7 [])∧(x<y→K0 (AVal.int IntKind.i64 (-1)) (AHeap.rowsT 13 []))∧(¬x<y→(y<x→K0 (AVal.int IntKind.i64 (1)) (AHeap.rowsT 16 []))∧(¬y<x→K0 (AVal.int IntKind.i64 (0)) (AHeap.rowsT 16 [])))) :
    ∃ v h1,FDoes Tryz.prog cnd 66 [.int .i64 x,.int .i64 y] (⟨0,.nil⟩) v h1∧K0 v h1 :=
  tcall_does env_ok mixed noSpecs_ok (hs:= .hint (.val 1001 (AVal.bool false)) (.hint (.val 2001 (AVal.bool false)) (.br 9002 .nil (.br 11002 .nil .nil)))) (by kernel_rfl) vc
theorem nan_vc(x:Int)(K0:AVal→AHeap→Prop)(vc:(x=x→K0 (AVal.bool false) (AHeap.rowsT 5 []))∧(¬x=x→K0 (AVal.bool true) (AHeap.rowsT 5 []))) :
    ∃ v h1,FDoes Tryz.prog cnd 120 [.int .i64 x] (⟨0,.nil⟩) v h1∧K0 v h1 :=
  tcall_does env_ok mixed noSpecs_ok (hs:= .br 1002 .nil .nil) (by kernel_rfl) vc
end Go.Proofs.YtjpfnbihopoeeaaGreatDoor
namespace Go.Proofs.YtjpfnbihopoeeaaGreatDoor
open Go.Lift
set_option maxRecDepth 1000000
def sgnV(a b:Bool):Int:=if a=true then-1 else if b=true then 1 else 0
theorem sign_does(a b:Bool)(H:AHeap):FDoes Tryz.prog cnd 69 [.bool a,.bool b] H (.int .i64 (sgnV a b)) H :=
  FDoes.ofVC (sign_vc a b (fun v _=>v= .int .i64 (sgnV a b)) ⟨fun h=>by rw [h];rfl,fun h=>⟨fun h2=>by rw [h,h2];rfl,fun h2=>by rw [h,h2];rfl⟩⟩) rfl rfl H
theorem nan_does(x:Int)(H:AHeap):FDoes Tryz.prog cnd 120 [.int .i64 x] H (.bool false) H :=
  FDoes.ofVC (nan_vc x (fun v _=>v= .bool false) ⟨fun _=>rfl,fun h=>absurd rfl h⟩) rfl rfl H
theorem cmpi_does(x y:Int)(H:AHeap):FDoes Tryz.prog cnd 66 [.int .i64 x,.int .i64 y] H (.int .i64 (sgnV (decide (x<y)) (decide (y<x)))) H :=
  FDoes.ofVC (cmpi_vc x y (fun v _=>v= .int .i64 (sgnV (decide (x<y)) (decide (y<x)))) ⟨⟨nan_does _ _⟩,⟨nan_does _ _⟩,fun h=>by rw [decide_eq_true h];rfl,fun h=>⟨fun h2=>by rw [decide_eq_false h,decide_eq_true h2];rfl,fun h2=>by rw [decide_eq_false h,decide_eq_false h2];rfl⟩⟩) rfl rfl H
abbrev up(H:AHeap)(m:Nat):AHeap:=⟨H.next+m,H.blks⟩
def RowAt(H:AHeap)(v:AVal)(l:List Bytes):Prop :=
  ∃ o c,v= .slice o l.length c∧ ∀ i,(hi:i<l.length)→ ∃ a b,o=some a∧a.es=1∧a.fld=0∧H.get a.id=some b∧b.elem? a.ver (a.idx+i)=some (.str l[i])
def fieldV(l:List Bytes)(k:Int):Bytes:=if k<0 then []else(l[k.toNat]?).getD []
theorem fieldV_in {l:List Bytes}{k:Int}(h0: ¬k<0)(h: ¬(l.length:Int)≤k):fieldV l k=l[k.toNat]'(by omega):=by
  unfold fieldV
  rw [if_neg h0,List.getElem?_eq_getElem (by omega)];rfl
theorem fieldV_lo {l:List Bytes}{k:Int}(h0:k<0):fieldV l k= []:=if_pos h0
theorem fieldV_hi {l:List Bytes}{k:Int}(h:(l.length:Int)≤k):fieldV l k= []:=by
  unfold fieldV
  split
  · rfl
  · rw [List.getElem?_eq_none (by omega)];rfl
theorem condL {a b:Nat}{p:Prop}(h:a≤b)(k:p):_root_.cond (Nat.ble a b) p False:=by rw [Nat.ble_eq.mpr h];exact k
theorem bifL {a b:Nat}{p:Prop}(h:a≤b)(k:p):bif Nat.ble a b && true then p else False:=by rw [Nat.ble_eq.mpr h];exact k
theorem bump {f:FuncId}{args:List AVal}{H h':AHeap}{v:AVal}{n:Nat}(k:FDoes Tryz.prog cnd f args H v h')(hn:h'.next≤n):FDoes Tryz.prog cnd f args H v ⟨n,h'.blks⟩:=by
  intro S w0 hS hC0 φ w args' hH hB hA
  obtain⟨g1,g2⟩:=k S w0 hS hC0 φ w args' hH hB hA
  exact⟨g1,g2.mono fun e w' ⟨v',φ',a1,a2,a3,a4,a5,a6⟩=>⟨v',φ',a1,a2,a3,a4.next hn,a5,Nat.le_trans a6 hn⟩⟩
theorem RowAt.up {H:AHeap}{v:AVal}{l:List Bytes}(h:RowAt H v l)(m:Nat):RowAt (up H m) v l:=h
theorem rowT {k:Int} {l:List Bytes} {o:Option AAddr} {c:Nat} {H:AHeap} (hr: ∀ i,(hi:i<l.length)→ ∃ a b,o=some a∧a.es=1∧a.fld=0∧H.get a.id=some b∧b.elem? a.ver (a.idx+i)=some (.str l[i])) :
    ∃ p:AAddr,¬k<0→ ¬(l.length:Int)≤k→aindexAddr (AEnv.D env) 36 (AVal.slice o l.length c) (AVal.int IntKind.i64 k)=some (AVal.ptr (some p))∧ ∀ n,aload (AEnv.D env) 9 p (⟨n,H.blks⟩)=some (AVal.str (fieldV l k)):=by
  by_cases h0:k<0
  · exact⟨⟨0,0,0,0,0⟩,fun h=>absurd h0 h⟩
  · by_cases h1:(l.length:Int)≤k
    · exact⟨⟨0,0,0,0,0⟩,fun _ h=>absurd h1 h⟩
    · obtain⟨a,b,rfl,e1,e2,e3,e4⟩:=hr k.toNat (by omega)
      have hD:(AEnv.D env 36).map (fun d=>d.kind)=some (.slice 9):=by kernel_rfl
      have hE:(AEnv.D env 9).map (fun d=>(d.size,d.kind.isAgg))=some (1,false):=by kernel_rfl
      obtain⟨d,d1,d2⟩:=Option.map_eq_some_iff.1 hD
      obtain⟨x,x1,x2⟩:=Option.map_eq_some_iff.1 hE
      simp only [Prod.mk.injEq]at x2
      refine⟨{a with idx:=a.idx+k.toNat},fun _ _=>⟨?_,fun n=> ?_⟩⟩
      · unfold aindexAddr
        simp only [d1,d2,x1]
        rw [if_pos ⟨by omega,by omega,by rw [e1,x2.1],e2⟩]
      · unfold aload
        have hg:AHeap.get ⟨n,H.blks⟩ a.id=some b:=e3
        simp only [x1,hg,e4,x2.2,fieldV_in h0 h1,loadElem,e2]
        rfl
theorem field_does {H:AHeap}{v:AVal}{l:List Bytes}(h:RowAt H v l)(k:Int):FDoes Tryz.prog cnd 49 [v,.int .i64 k] H (.str (fieldV l k)) (up H 14):=by
  obtain⟨o,c,rfl,hr⟩:=h
  obtain⟨p,hp⟩:=rowT (k:=k) (c:=c) hr
  obtain⟨v1,h1,hd,rfl,m,hm,rfl⟩:=fieldH_vc H o l.length c k p (fieldV l k) (fun v h1=>v= .str (fieldV l k)∧ ∃ m,m≤14∧h1=up H m)
    (bifL (Nat.le_refl _) (bifL (by omega) ⟨fun h=>bifL (by omega) (condL (by omega) ⟨by rw [fieldV_lo h],10,by omega,rfl⟩),fun h=>⟨fun h2=>bifL (by omega) (condL (by omega) ⟨by rw [fieldV_hi h2],10,by omega,rfl⟩),
      fun h2=>bifL (by omega) ⟨(hp h h2).1,(hp h h2).2 _,condL (by omega) ⟨rfl,14,by omega,rfl⟩⟩⟩⟩))
  exact bump (h':=up H m) hd (by show H.next+m≤H.next+14;omega)
end Go.Proofs.YtjpfnbihopoeeaaGreatDoor
namespace Go.Proofs.YtjpfnbihopoeeaaGreatDoor
open Go.Lift
set_option maxRecDepth 1000000
end Go.Proofs.YtjpfnbihopoeeaaGreatDoor
namespace Go.Proofs.YtjpfnbihopoeeaaGreatDoor
open Go.Lift
end Go.Proofs.YtjpfnbihopoeeaaGreatDoor
namespace Go.Proofs.YtjpfnbihopoeeaaGreatDoor
open Go.Lift
set_option maxRecDepth 1000000
theorem slTx:SlTy env.D 36 9 1 16:=by
  have h1:(env.D 9).map (fun x=>(x.size,x.bytes,x.zeroFits))=some (1,16,true):=by kernel_rfl
  have h2:(env.D 36).map (fun x=>x.kind)=some (.slice 9):=by kernel_rfl
  obtain⟨x,hx,k⟩:=Option.map_eq_some_iff.1 h1
  obtain⟨d,hd,kd⟩:=Option.map_eq_some_iff.1 h2
  simp only [Prod.mk.injEq]at k
  exact⟨d,x,hd,kd,hx,k.1,k.2.1,by decide,k.2.2⟩
end Go.Proofs.YtjpfnbihopoeeaaGreatDoor
namespace Go.Proofs.YtjpfnbihopoeeaaGreatDoor
open Go.Lift
set_option maxRecDepth 1000000
end Go.Proofs.YtjpfnbihopoeeaaGreatDoor
namespace Go.Proofs.YtjpfnbihopoeeaaGreatDoor
open Go.Lift
set_option maxRecDepth 1000000
end Go.Proofs.YtjpfnbihopoeeaaGreatDoor
namespace Go.Proofs.YtjpfnbihopoeeaaGreatDoor
open Go.Lift
set_option maxRecDepth 1000000
end Go.Proofs.YtjpfnbihopoeeaaGreatDoor
namespace Go.Proofs.YtjpfnbihopoeeaaGreatDoor
open Go.Lift
set_option maxRecDepth 1000000
end Go.Proofs.YtjpfnbihopoeeaaGreatDoor
namespace Go.Proofs.YtjpfnbihopoeeaaGreatDoor
open Go.Lift
set_option maxRecDepth 1000000
structure Fr(H H':AHeap)(L:List Nat):Prop where
  next:H.next≤H'.next
  get: ∀ x,x<H.next→x ∉ L→H'.get x=H.get x
theorem Fr.up(H:AHeap)(k:Nat)(L:List Nat):Fr H (up H k) L:=⟨by show H.next≤H.next+k;omega,fun _ _ _=>rfl⟩
theorem Fr.trans {H H1 H2:AHeap}{L M:List Nat}(a:Fr H H1 L)(b:Fr H1 H2 M)(h: ∀ x∈M,x<H.next→x∈L):Fr H H2 L :=
  ⟨Nat.le_trans a.next b.next,fun x hx hL=>by
    have hn:=a.next
    rw [b.get x (by omega) (fun k=>hL (h x k hx)),a.get x hx hL]⟩
theorem Fr.sub {H H1:AHeap}{L M:List Nat}(a:Fr H H1 L)(h: ∀ x∈L,x<H.next→x∈M):Fr H H1 M:=⟨a.next,fun x hx hM=>a.get x hx fun k=>hM (h x k hx)⟩
theorem Fr.set(H:AHeap)(q:Nat)(b:ABlk){L:List Nat}(h:q<H.next→q∈L):Fr H (H.set q b) L:=⟨Nat.le_refl _,fun x hx hL=>AHeap.get_set_ne _ _ fun e=>by subst e;exact hL (h hx)⟩
structure El(t e by':Nat):Prop where
  sl:SlTy env.D t e 1 by'
  ag:(AEnv.D env e).map (fun d=>d.kind.isAgg)=some false
theorem slRw:SlTy env.D 22 36 1 24:=by
  have h1:(env.D 36).map (fun x=>(x.size,x.bytes,x.zeroFits))=some (1,24,true):=by kernel_rfl
  have h2:(env.D 22).map (fun x=>x.kind)=some (.slice 36):=by kernel_rfl
  obtain⟨x,hx,k⟩:=Option.map_eq_some_iff.1 h1
  obtain⟨d,hd,kd⟩:=Option.map_eq_some_iff.1 h2
  simp only [Prod.mk.injEq]at k
  exact⟨d,x,hd,kd,hx,k.1,k.2.1,by decide,k.2.2⟩
theorem elS:El 36 9 16:=⟨slTx,by kernel_rfl⟩
theorem elR:El 22 36 24:=⟨slRw,by kernel_rfl⟩
def Rd(H:AHeap)(q:Nat)(v:AVal)(els:List AVal):Prop :=
  ∃ o c,v= .slice o els.length c∧(∀ a,o=some a→a.es=1∧a.fld=0)∧(els= []∨ ∃ ver off b,o=some ⟨q,ver,off,0,1⟩∧q<H.next∧H.get q=some b∧ ∀ i,(hi:i<els.length)→b.elem? ver (off+i)=some els[i])
theorem Rd.fr {H H':AHeap}{q:Nat}{v:AVal}{els:List AVal}{L:List Nat}(h:Rd H q v els)(m:Fr H H' L)(hq:q ∉ L):Rd H' q v els:=by
  obtain⟨o,c,e,z,k⟩:=h
  refine⟨o,c,e,z,k.imp_right fun⟨ver,off,b,k1,k2,k3,k4⟩=>⟨ver,off,b,k1,Nat.lt_of_lt_of_le k2 m.next,(m.get q k2 hq).trans k3,k4⟩⟩
theorem Rd.nil(H:AHeap)(q:Nat):Rd H q (.slice none 0 0) []:=⟨none,0,rfl,(fun a h=>by cases h),.inl rfl⟩
theorem Rd.elems {H:AHeap}{q:Nat}{v:AVal}{els:List AVal}(h:Rd H q v els):elemsOf 1 v H=some els:=by
  obtain⟨o,c,rfl,z,k⟩:=h
  by_cases hz:els= []
  · subst hz
    cases o with
    | none=>rfl
    | some a =>
      obtain⟨z1,z2⟩:=z a rfl
      simp only [elemsOf,List.length_nil]
      rw [if_pos z2,if_pos z1]
      cases H.get a.id<;>simp
  · rcases k with k | ⟨ver,off,b,rfl,k2,k3,k4⟩
    · exact absurd k hz
    have:=elemsOf_slice (n:=els.length) (c:=c) (h:=H) (sz:=1) (id:=q) (ver:=ver) (off:=off) (o:=some ⟨q,ver,off,0,1⟩) (.inl rfl) k3 (f:=fun i=>els.getD i .undef) (fun j hj=>by rw [k4 j hj];simp [List.getD,hj])
    rw [this]
    congr 1
    apply List.ext_getElem (by simp)
    intro i h1 h2
    simp [List.getD,h2]
theorem Rd.sl {H:AHeap}{q:Nat}{v:AVal}{els:List AVal}(h:Rd H q v els): ∃ o c,v= .slice o els.length c:=by
  obtain⟨o,c,e,_,k⟩:=h
  exact⟨o,c,e⟩
def Sv(v:AVal):Prop:=v.simple=true
theorem load_sv {e:AVal}(h:Sv e):loadElem false 1 0 e=some e:=by
  cases e<;>first | rfl | cases h
theorem store_sv {e x:AVal}(h:Sv e)(hx:Sv x):storeElem 0 x e=some x:=by
  cases e<;>first | (simp only [storeElem];rw [if_pos ⟨trivial,hx⟩];done) | cases h
theorem Rd.at {H:AHeap}{q t e by':Nat}{v:AVal}{els:List AVal}(h:Rd H q v els)(E:El t e by'){i:Nat}(hi:i<els.length)(hs:Sv els[i]) :
    ∃ a,aindexAddr (AEnv.D env) t v (.int .i64 (i:Nat))=some (.ptr (some a))∧a.id<H.next∧ ∀ n,aload (AEnv.D env) e a ⟨n,H.blks⟩=some els[i]:=by
  obtain⟨o,c,rfl,_,k⟩:=h
  rcases k with k | ⟨ver,off,b,rfl,k2,k3,k4⟩
  · rw [k]at hi;exact absurd hi (by simp)
  obtain⟨d,x,d1,d2,x1,x2,_⟩:=E.sl.ty
  obtain⟨x',x1',x3⟩:=Option.map_eq_some_iff.1 E.ag
  have d1:AEnv.D env t=some d:=d1
  have x1:AEnv.D env e=some x:=x1
  rw [x1]at x1'
  simp only [Option.some.injEq]at x1'
  subst x1'
  refine⟨⟨q,ver,off+i,0,1⟩,?_,k2,fun n=> ?_⟩
  · unfold aindexAddr
    simp only [d1,d2,x1]
    rw [if_pos ⟨by omega,by omega,by rw [x2],by trivial⟩]
    simp
  · unfold aload
    have hg:AHeap.get ⟨n,H.blks⟩ q=some b:=k3
    simp only [x1,hg,k4 i hi,x3]
    rw [x2]
    exact load_sv hs
def Rw(H:AHeap)(e q:Nat)(v:AVal)(els:List AVal):Prop :=
  (els= []∧v= .slice none 0 0)∨ ∃ b,v= .slice (some ⟨q,b.ver,0,0,1⟩) els.length els.length∧q<H.next∧H.get q=some b∧b.elems=els∧b.ro=false∧(b.exact=true∨(b.exact=false∧(b.ty=none∨b.ty=some (e,0))))
theorem Rw.fr {H H':AHeap}{e q:Nat}{v:AVal}{els:List AVal}{L:List Nat}(h:Rw H e q v els)(m:Fr H H' L)(hq:q ∉ L):Rw H' e q v els:=by
  rcases h with h | ⟨b,k1,k2,k3,k4⟩
  · exact .inl h
  · exact .inr ⟨b,k1,Nat.lt_of_lt_of_le k2 m.next,(m.get q k2 hq).trans k3,k4⟩
theorem elem_cur {b:ABlk}{i:Nat}(hi:i<b.elems.length):b.elem? b.ver (0+i)=some b.elems[i]:=by
  unfold ABlk.elem? ABlk.lim
  rw [if_pos rfl,if_pos (by omega),Nat.zero_add]
  exact List.getElem?_eq_getElem hi
theorem Rw.rd {H:AHeap}{e q:Nat}{v:AVal}{els:List AVal}(h:Rw H e q v els):Rd H q v els:=by
  rcases h with ⟨rfl,rfl⟩ | ⟨b,rfl,k2,k3,rfl,k5,k6⟩
  · exact Rd.nil H q
  · exact⟨_,_,rfl,(fun a h=>by cases h;exact⟨rfl,rfl⟩),.inr ⟨_,_,b,rfl,k2,k3,fun i hi=>elem_cur hi⟩⟩
end Go.Proofs.YtjpfnbihopoeeaaGreatDoor
namespace Go.Proofs.YtjpfnbihopoeeaaGreatDoor
open Go.Lift
set_option maxRecDepth 1000000
structure Rr where
  q:Nat
  v:AVal
  l:List Bys
abbrev vsOf(rs:List Rr):List AVal:=rs.map (·.v)
abbrev qsOf(rs:List Rr):List Nat:=rs.map (·.q)
abbrev lsOf(rs:List Rr):List (List Bys):=rs.map (·.l)
structure Tb(H:AHeap)(B E:Nat)(v:AVal)(o:Nat)(rs:List Rr):Prop where
  out:Rw H 36 o v (vsOf rs)
  inn: ∀ r∈rs,Rw H 9 r.q r.v (r.l.map AVal.str)
  nd:(o::qsOf rs).Nodup
  ge: ∀ x∈o::qsOf rs,B≤x∧x<E
theorem Rd.sv {H:AHeap}{q:Nat}{v:AVal}{els:List AVal}(h:Rd H q v els):Sv v:=by
  obtain⟨o,c,e,_,k⟩:=h
  rw [e];rfl
theorem Rd.txt {H:AHeap}{q:Nat}{v:AVal}{l:List Bys}(h:Rd H q v (l.map AVal.str)){i:Nat}(hi:i<l.length) :
    ∃ a,aindexAddr (AEnv.D env) 36 v (.int .i64 (i:Nat))=some (.ptr (some a))∧a.id<H.next∧ ∀ n,aload (AEnv.D env) 9 a ⟨n,H.blks⟩=some (.str l[i]):=by
  have:=h.at elS (i:=i) (by simpa using hi) (by rw [List.getElem_map];exact rfl)
  rw [List.getElem_map]at this
  exact this
end Go.Proofs.YtjpfnbihopoeeaaGreatDoor
namespace Go.Proofs.YtjpfnbihopoeeaaGreatDoor
open Go.Lift
set_option maxRecDepth 1000000
end Go.Proofs.YtjpfnbihopoeeaaGreatDoor
namespace Go.Proofs.YtjpfnbihopoeeaaGreatDoor
open Go.Lift
set_option maxRecDepth 1000000
theorem succI(i:Nat):(i:Int)+1=((i+1:Nat):Int):=by omega
theorem boolT {p:Prop}[Decidable p](h:p):some (AVal.bool (decide p))=some (AVal.bool true):=by rw [decide_eq_true h]
theorem boolF {p:Prop}[Decidable p](h: ¬p):some (AVal.bool (decide p))=some (AVal.bool false):=by rw [decide_eq_false h]
end Go.Proofs.YtjpfnbihopoeeaaGreatDoor
namespace Go.Proofs.YtjpfnbihopoeeaaGreatDoor
open Go.Lift
set_option maxRecDepth 1000000
theorem build1R {F:Facts}{k nid:Nat}{x:AVal}{H:AHeap}(hF:getF F (.tmp k)=x)(hx:Sv x):aop env noCall nid (getF F) H (Op.buildSlice 22 1 {toList:= [(0,Operand.tmp k)]})=some (.slice (some ⟨nid,0,0,0,1⟩) 1 1,H.set nid (ABlk.made [x] 1 true)):=by
  have:aop env noCall nid (getF F) H (Op.buildSlice 22 1 {toList:= [(0,Operand.tmp k)]})=abuildSlice (AEnv.D env) 22 1 [(0,x)] nid H:=by rw [← hF];rfl
  refine this.trans ?_
  cases x with
  | agg=>cases hx
  | tuple=>cases hx
  | undef=>cases hx
  | _=>exact(by kernel_rfl)
theorem one_elem(H:AHeap)(q:Nat)(x:AVal):elemsOf 1 (.slice (some ⟨q,0,0,0,1⟩) 1 1) (H.set q (ABlk.made [x] 1 true))=some [x]:=by
  have h5:=AHeap.get_set_self H q (ABlk.made [x] 1 true)
  simp only [elemsOf,if_true,h5]
  rw [if_neg (by decide),if_pos ⟨by simp [ABlk.lim,ABlk.made],by simp [ABlk.made]⟩]
  simp [ABlk.made]
end Go.Proofs.YtjpfnbihopoeeaaGreatDoor
namespace Go.Proofs.YtjpfnbihopoeeaaGreatDoor
open Go.Lift
set_option maxRecDepth 1000000
end Go.Proofs.YtjpfnbihopoeeaaGreatDoor
namespace Go.Proofs.YtjpfnbihopoeeaaGreatDoor
open Go.Lift
set_option maxRecDepth 1000000
end Go.Proofs.YtjpfnbihopoeeaaGreatDoor
namespace Go.Proofs.YtjpfnbihopoeeaaGreatDoor
open Go.Lift
set_option maxRecDepth 1000000
theorem aop_storeG {t:TypeId}{F:Facts}{H H1:AHeap}{a:AAddr}{v:AVal}{nid:Nat}{x y:Operand}(hf:getF F x= .ptr (some a))(hv:getF F y=v)(hs:astore (AEnv.D env) t a v H=some H1):aop env noCall nid (getF F) H (Op.store t x y)=some (.tuple [],H1):=by
  simp only [aop,hf,hv,hs,Option.map_some]
theorem fle {F G:Facts}(l:List Nat)(h:onlyF F l=G):Facts.le G F:=h▸Facts.only_le F l
end Go.Proofs.YtjpfnbihopoeeaaGreatDoor
namespace Go.Proofs.YtjpfnbihopoeeaaGreatDoor
open Go.Lift
set_option maxRecDepth 1000000
end Go.Proofs.YtjpfnbihopoeeaaGreatDoor
namespace Go.Proofs.YtjpfnbihopoeeaaGreatDoor
open Go.Lift
set_option maxRecDepth 1000000
end Go.Proofs.YtjpfnbihopoeeaaGreatDoor
namespace Go.Proofs.YtjpfnbihopoeeaaGreatDoor
open Go.Lift
set_option maxRecDepth 1000000
theorem rd_made(H:AHeap)(q:Nat)(x:AVal)(hq:q<H.next):Rd (H.set q (ABlk.made [x] 1 true)) q (.slice (some ⟨q,0,0,0,1⟩) 1 1) [x] :=
  ⟨_,_,rfl,(fun a h=>by cases h;exact⟨rfl,rfl⟩),.inr ⟨0,0,_,rfl,hq,AHeap.get_set_self _ _ _,fun i hi=>by
    have:i=0:=by simp at hi;omega
    subst this
    rfl⟩⟩
end Go.Proofs.YtjpfnbihopoeeaaGreatDoor
namespace Go.Proofs.YtjpfnbihopoeeaaGreatDoor
open Go.Lift
set_option maxRecDepth 1000000
def numI(o:Option Int):Int:=o.getD 0
def numB(o:Option Int):Bool:=o.isSome
theorem numA_eq(o:Option Int):numA o= .tuple [.int .i64 (numI o),.bool (numB o)]:=by cases o<;>rfl
noncomputable def numbS:List AVal→AHeap→Option Alts:=pureS fun a=>match a with | [.str s]=>some (.tuple [.int .i64 (numI (numD s)),.bool (numB (numD s))],[s.length<2^48]) | _=>none
theorem numbS_ok: ∀ args h a,numbS args h=some a→a.Ok Tryz.prog cnd 65 args h:=by
  refine pureS_ok ?_
  intro args v ps e hp H
  split at e<;>first | (cases e;done) | skip
  simp only [Option.some.injEq,Prod.mk.injEq]at e
  obtain⟨rfl,rfl⟩:=e
  have k:=num_does _ hp.head H
  rwa [numA_eq]at k
theorem dnumS_ok: ∀ args h a,numbS args h=some a→a.Ok Tryz.prog cnd 68 args h:=by
  refine pureS_ok ?_
  intro args v ps e hp H
  split at e<;>first | (cases e;done) | skip
  simp only [Option.some.injEq,Prod.mk.injEq]at e
  obtain⟨rfl,rfl⟩:=e
  have k:=dnum_does _ hp.head H
  rwa [numA_eq]at k
def signS:List AVal→AHeap→Option Alts:=pureS fun a=>match a with | [.bool x,.bool y]=>some (.int .i64 (sgnV x y),[]) | _=>none
theorem signS_ok: ∀ args h a,signS args h=some a→a.Ok Tryz.prog cnd 69 args h:=by
  refine pureS_ok ?_
  intro args v ps e hp H
  split at e<;>first | (cases e;done) | skip
  simp only [Option.some.injEq,Prod.mk.injEq]at e
  obtain⟨rfl,rfl⟩:=e
  exact sign_does _ _ H
def cmpiS:List AVal→AHeap→Option Alts:=pureS fun a=>match a with | [.int .i64 x,.int .i64 y]=>some (.int .i64 (sgnV (decide (x<y)) (decide (y<x))),[]) | _=>none
theorem cmpiS_ok: ∀ args h a,cmpiS args h=some a→a.Ok Tryz.prog cnd 66 args h:=by
  refine pureS_ok ?_
  intro args v ps e hp H
  split at e<;>first | (cases e;done) | skip
  simp only [Option.some.injEq,Prod.mk.injEq]at e
  obtain⟨rfl,rfl⟩:=e
  exact cmpi_does _ _ H
def cmpsS:List AVal→AHeap→Option Alts:=pureS fun a=>match a with | [.str x,.str y]=>some (.int .i64 (Lib.compareBytes x y),[]) | _=>none
theorem cmpsS_ok: ∀ args h a,cmpsS args h=some a→a.Ok Tryz.prog cnd 121 args h:=by
  refine pureS_ok ?_
  intro args v ps e hp H
  split at e<;>first | (cases e;done) | skip
  simp only [Option.some.injEq,Prod.mk.injEq]at e
  obtain⟨rfl,rfl⟩:=e
  exact cmps_does _ _ H
noncomputable def specsB:Specs:=((((noSpecs.add 65 numbS).add 68 numbS).add 69 signS).add 66 cmpiS).add 121 cmpsS
theorem specsB_ok:SpecsOk Tryz.prog cnd specsB:=((((noSpecs_ok.add numbS_ok).add dnumS_ok).add signS_ok).add cmpiS_ok).add cmpsS_ok
theorem byT_vc(H H1 H2:AHeap)(va vb:AVal)(p q:Nat)(k:Int)(x y:List UInt8)(K0:AVal→AHeap→Prop)(vc:bif Nat.ble (AHeap.next H) (AHeap.next H) && true then bif Nat.ble (AHeap.next H) (AHeap.next H+1) && true then aload (AEnv.D env) 4 ⟨p,0,0,0,1⟩ (AHeap.mk (AHeap.next H+2) (H.2))=some (AVal.bool true)∧bif Nat.ble (AHeap.next H) (AHeap.next H+2) && true then bif Nat.ble (AHeap.next H) (AHeap.next H+6) && true then aload (AEnv.D env) 3 ⟨q,0,0,0,1⟩ (AHeap.mk (AHeap.next H+14) (H.2))=some (AVal.int IntKind.i64 k)∧q<AHeap.next H+6∧CallT Tryz.prog cnd 49 [vb,AVal.int IntKind.i64 k] (AHeap.mk (AHeap.next H+14) (H.2)) (AVal.str x) H1∧sameOld (AHeap.next H+14) (AHeap.mk (AHeap.next H+14) (H.2)) H1=true∧aload (AEnv.D env) 3 ⟨q,0,0,0,1⟩ H1=some (AVal.int IntKind.i64 k)∧q<AHeap.next H+6∧CallT Tryz.prog cnd 49 [va,AVal.int IntKind.i64 k] H1 (AVal.str y) H2∧Agree [vb,AVal.int IntKind.i64 k] [va,AVal.int IntKind.i64 k] (AHeap.mk (AHeap.next H+14) (H.2)) H1 (AVal.str x) (AVal.str y) H1 H2∧bif Nat.ble (AHeap.next H) (AHeap.next H2) && true then List.length x<281474976710656∧(numB (numD x)=true→bif Nat.ble (AHeap.next H) (AHeap.next H2+7) && true then List.length y<281474976710656∧(numB (numD y)=true→bif Nat.ble (AHeap.next H) (AHeap.next H2+14) && true then bif Nat.ble (AHeap.next H) (AHeap.next H2+19) && true then bif Nat.ble (AHeap.next H) (AHeap.next H2+23)then K0 (AVal.int IntKind.i64 (sgnV (decide (numI (numD x)<numI (numD y))) (decide (numI (numD y)<numI (numD x))))) (AHeap.mk (AHeap.next H2+19+4) (AHeap.blks (AHeap.mk (AHeap.next H2+14+5) (AHeap.blks (AHeap.mk (AHeap.next H2+7+7) (AHeap.blks (AHeap.mk (AHeap.next H2+7) (AHeap.blks H2))))))))else False else False else False)∧(numB (numD y)=false→bif Nat.ble (AHeap.next H) (AHeap.next H2+14) && true then bif Nat.ble (AHeap.next H) (AHeap.next H2+19) && true then bif Nat.ble (AHeap.next H) (AHeap.next H2+21) && true then bif Nat.ble (AHeap.next H) (AHeap.next H2+22)then K0 (AVal.int IntKind.i64 (-1)) (AHeap.mk (AHeap.next H2+21+1) (AHeap.blks (AHeap.mk (AHeap.next H2+19+2) (AHeap.blks (AHeap.mk (AHeap.next H2+14+5) (AHeap.blks (AHeap.mk (AHeap.next H2+7+7) (AHeap.blks (AHeap.mk (AHeap.next H2+7) (AHeap.blks H2))))))))))else False else False else False else False)else False)∧(numB (numD x)=false→bif Nat.ble (AHeap.next H) (AHeap.next H2+7) && true then List.length y<281474976710656∧(numB (numD y)=true→bif Nat.ble (AHeap.next H) (AHeap.next H2+14) && true then bif Nat.ble (AHeap.next H) (AHeap.next H2+19) && true then bif Nat.ble (AHeap.next H) (AHeap.next H2+21) && true then bif Nat.ble (AHeap.next H) (AHeap.next H2+23) && true then bif Nat.ble (AHeap.next H) (AHeap.next H2+24)then K0 (AVal.int IntKind.i64 (1)) (AHeap.mk (AHeap.next H2+23+1) (AHeap.blks (AHeap.mk (AHeap.next H2+21+2) (AHeap.blks (AHeap.mk (AHeap.next H2+19+2) (AHeap.blks (AHeap.mk (AHeap.next H2+14+5) (AHeap.blks (AHeap.mk (AHeap.next H2+7+7) (AHeap.blks (AHeap.mk (AHeap.next H2+7) (AHeap.blks H2))))))))))))else False else False else False else False else False)∧(numB (numD y)=false→bif Nat.ble (AHeap.next H) (AHeap.next H2+14) && true then bif Nat.ble (AHeap.next H) (AHeap.next H2+19) && true then bif Nat.ble (AHeap.next H) (AHeap.next H2+21) && true then bif Nat.ble (AHeap.next H) (AHeap.next H2+23) && true then bif Nat.ble (AHeap.next H2+27) (AHeap.next H2+27) && true then bif Nat.ble (AHeap.next H2+27) (AHeap.next H2+28) && true then bif Nat.ble (AHeap.next H2+27) (AHeap.next H2+32)then bif Nat.ble (AHeap.next H) (AHeap.next H2+32)then K0 (AVal.int IntKind.i64 (Lib.compareBytes x y)) (AHeap.mk (AHeap.next H2+28+4) (AHeap.blks (AHeap.mk (AHeap.next H2+27+1) (AHeap.blks (AHeap.mk (AHeap.next H2+23+4) (AHeap.blks (AHeap.mk (AHeap.next H2+21+2) (AHeap.blks (AHeap.mk (AHeap.next H2+19+2) (AHeap.blks (AHeap.mk (AHeap.next H2+14+5) (AHeap.blks (AHeap.mk (AHeap.next H2+7+7) (AHeap.blks (AHeap.mk (AHeap.next H2+7) (AHeap.blks H2))))))))))))))))else False else False else False else False else False else False else False else False)else False)else False else False else False else False else False) :
    ∃ v h1,FDoes Tryz.prog cnd 64 [va,vb,.ptr (some ⟨p,0,0,0,1⟩),.ptr (some ⟨q,0,0,0,1⟩)] H v h1∧K0 v h1 :=
  tcall_does env_ok mixed specsB_ok (hs:= .hint (.val 1000 (AVal.bool true)) (.hint (.farV 3001 (AVal.int IntKind.i64 k)) (.hint (.act 3002 (AVal.str x) fun x=>H1) (.hint (.farV 3004 (AVal.int IntKind.i64 k)) (.hint (.act 3005 (AVal.str y) fun x=>H2) (.br 4004 (.br 5004 .nil .nil) (.br 5004 .nil (.hint (.enter 12002) .nil)))))))) (by kernel_rfl) vc
theorem byF_vc(H H1 H2:AHeap)(va vb:AVal)(p q:Nat)(k:Int)(x y:List UInt8)(K0:AVal→AHeap→Prop)(vc:bif Nat.ble (AHeap.next H) (AHeap.next H) && true then bif Nat.ble (AHeap.next H) (AHeap.next H+1) && true then aload (AEnv.D env) 4 ⟨p,0,0,0,1⟩ (AHeap.mk (AHeap.next H+2) (H.2))=some (AVal.bool false)∧bif Nat.ble (AHeap.next H) (AHeap.next H+2) && true then aload (AEnv.D env) 3 ⟨q,0,0,0,1⟩ (AHeap.mk (AHeap.next H+10) (H.2))=some (AVal.int IntKind.i64 k)∧q<AHeap.next H+2∧CallT Tryz.prog cnd 49 [va,AVal.int IntKind.i64 k] (AHeap.mk (AHeap.next H+10) (H.2)) (AVal.str x) H1∧sameOld (AHeap.next H+10) (AHeap.mk (AHeap.next H+10) (H.2)) H1=true∧aload (AEnv.D env) 3 ⟨q,0,0,0,1⟩ H1=some (AVal.int IntKind.i64 k)∧q<AHeap.next H+2∧CallT Tryz.prog cnd 49 [vb,AVal.int IntKind.i64 k] H1 (AVal.str y) H2∧Agree [va,AVal.int IntKind.i64 k] [vb,AVal.int IntKind.i64 k] (AHeap.mk (AHeap.next H+10) (H.2)) H1 (AVal.str x) (AVal.str y) H1 H2∧bif Nat.ble (AHeap.next H) (AHeap.next H2) && true then List.length x<281474976710656∧(numB (numD x)=true→bif Nat.ble (AHeap.next H) (AHeap.next H2+7) && true then List.length y<281474976710656∧(numB (numD y)=true→bif Nat.ble (AHeap.next H) (AHeap.next H2+14) && true then bif Nat.ble (AHeap.next H) (AHeap.next H2+19) && true then bif Nat.ble (AHeap.next H) (AHeap.next H2+23)then K0 (AVal.int IntKind.i64 (sgnV (decide (numI (numD x)<numI (numD y))) (decide (numI (numD y)<numI (numD x))))) (AHeap.mk (AHeap.next H2+19+4) (AHeap.blks (AHeap.mk (AHeap.next H2+14+5) (AHeap.blks (AHeap.mk (AHeap.next H2+7+7) (AHeap.blks (AHeap.mk (AHeap.next H2+7) (AHeap.blks H2))))))))else False else False else False)∧(numB (numD y)=false→bif Nat.ble (AHeap.next H) (AHeap.next H2+14) && true then bif Nat.ble (AHeap.next H) (AHeap.next H2+19) && true then bif Nat.ble (AHeap.next H) (AHeap.next H2+21) && true then bif Nat.ble (AHeap.next H) (AHeap.next H2+22)then K0 (AVal.int IntKind.i64 (-1)) (AHeap.mk (AHeap.next H2+21+1) (AHeap.blks (AHeap.mk (AHeap.next H2+19+2) (AHeap.blks (AHeap.mk (AHeap.next H2+14+5) (AHeap.blks (AHeap.mk (AHeap.next H2+7+7) (AHeap.blks (AHeap.mk (AHeap.next H2+7) (AHeap.blks H2))))))))))else False else False else False else False)else False)∧(numB (numD x)=false→bif Nat.ble (AHeap.next H) (AHeap.next H2+7) && true then List.length y<281474976710656∧(numB (numD y)=true→bif Nat.ble (AHeap.next H) (AHeap.next H2+14) && true then bif Nat.ble (AHeap.next H) (AHeap.next H2+19) && true then bif Nat.ble (AHeap.next H) (AHeap.next H2+21) && true then bif Nat.ble (AHeap.next H) (AHeap.next H2+23) && true then bif Nat.ble (AHeap.next H) (AHeap.next H2+24)then K0 (AVal.int IntKind.i64 (1)) (AHeap.mk (AHeap.next H2+23+1) (AHeap.blks (AHeap.mk (AHeap.next H2+21+2) (AHeap.blks (AHeap.mk (AHeap.next H2+19+2) (AHeap.blks (AHeap.mk (AHeap.next H2+14+5) (AHeap.blks (AHeap.mk (AHeap.next H2+7+7) (AHeap.blks (AHeap.mk (AHeap.next H2+7) (AHeap.blks H2))))))))))))else False else False else False else False else False)∧(numB (numD y)=false→bif Nat.ble (AHeap.next H) (AHeap.next H2+14) && true then bif Nat.ble (AHeap.next H) (AHeap.next H2+19) && true then bif Nat.ble (AHeap.next H) (AHeap.next H2+21) && true then bif Nat.ble (AHeap.next H) (AHeap.next H2+23) && true then bif Nat.ble (AHeap.next H2+27) (AHeap.next H2+27) && true then bif Nat.ble (AHeap.next H2+27) (AHeap.next H2+28) && true then bif Nat.ble (AHeap.next H2+27) (AHeap.next H2+32)then bif Nat.ble (AHeap.next H) (AHeap.next H2+32)then K0 (AVal.int IntKind.i64 (Lib.compareBytes x y)) (AHeap.mk (AHeap.next H2+28+4) (AHeap.blks (AHeap.mk (AHeap.next H2+27+1) (AHeap.blks (AHeap.mk (AHeap.next H2+23+4) (AHeap.blks (AHeap.mk (AHeap.next H2+21+2) (AHeap.blks (AHeap.mk (AHeap.next H2+19+2) (AHeap.blks (AHeap.mk (AHeap.next H2+14+5) (AHeap.blks (AHeap.mk (AHeap.next H2+7+7) (AHeap.blks (AHeap.mk (AHeap.next H2+7) (AHeap.blks H2))))))))))))))))else False else False else False else False else False else False else False else False)else False)else False else False else False else False) :
    ∃ v h1,FDoes Tryz.prog cnd 64 [va,vb,.ptr (some ⟨p,0,0,0,1⟩),.ptr (some ⟨q,0,0,0,1⟩)] H v h1∧K0 v h1 :=
  tcall_does env_ok mixed specsB_ok (hs:= .hint (.val 1000 (AVal.bool false)) (.hint (.farV 3001 (AVal.int IntKind.i64 k)) (.hint (.act 3002 (AVal.str x) fun x=>H1) (.hint (.farV 3004 (AVal.int IntKind.i64 k)) (.hint (.act 3005 (AVal.str y) fun x=>H2) (.br 4004 (.br 5004 .nil .nil) (.br 5004 .nil (.hint (.enter 12002) .nil)))))))) (by kernel_rfl) vc
end Go.Proofs.YtjpfnbihopoeeaaGreatDoor
namespace Go.Proofs.YtjpfnbihopoeeaaGreatDoor
open Go.Lift
set_option maxRecDepth 1000000
def ordP(x y:Bytes):Int :=
  if numB (numD x)=true then(if numB (numD y)=true then sgnV (decide (numI (numD x)<numI (numD y))) (decide (numI (numD y)<numI (numD x)))else-1)
  else if numB (numD y)=true then 1 else Lib.compareBytes x y
theorem by_core(d:Bool){H H1 H2:AHeap}{va vb:AVal}{p q:Nat}{k:Int}{x y:Bytes}(N:Nat)(hN:N=if d=true then 14 else 10)
    (hd: ∀ n,aload (AEnv.D env) 4 ⟨p,0,0,0,1⟩ ⟨n,H.blks⟩=some (.bool d)) (hk: ∀ n,aload (AEnv.D env) 3 ⟨q,0,0,0,1⟩ ⟨n,H.blks⟩=some (.int .i64 k)) (hq:q<H.next)
    (c1:FDoes Tryz.prog cnd 49 [if d=true then vb else va,.int .i64 k] (up H N) (.str x) H1) (c2:FDoes Tryz.prog cnd 49 [if d=true then va else vb,.int .i64 k] H1 (.str y) H2)
    (n1:H1.next=H.next+N+14) (n2:H2.next=H.next+N+28) (b1:H1.blks=H.blks) (b2:H2.blks=H.blks) (hx:x.length<2^48) (hy:y.length<2^48) :
    ∃ v h1,FDoes Tryz.prog cnd 64 [va,vb,.ptr (some ⟨p,0,0,0,1⟩),.ptr (some ⟨q,0,0,0,1⟩)] H v h1∧v= .int .i64 (ordP x y)∧h1.blks=H.blks∧h1.next≤H.next+200:=by
  have hs: ∀ n,sameOld n (up H N) H1=true:=fun n=>sameOld_of fun i _=>by show H1.blks.get i=H.blks.get i;rw [b1]
  have hk1:aload (AEnv.D env) 3 ⟨q,0,0,0,1⟩ H1=some (.int .i64 k):=by have:=hk H1.next;rwa [← b1]at this
  have ag: ∀ {a b:List AVal} {v u:AVal},Agree a b (up H N) H1 v u H1 H2:=⟨fun _ e=>absurd (congrArg AHeap.next e) (by show ¬ H.next+N=H1.next;omega)⟩
  cases d
  · have hN:N=10:=hN
    subst hN
    refine byF_vc H H1 H2 va vb p q k x y (fun v h1=>v= .int .i64 (ordP x y)∧h1.blks=H.blks∧h1.next≤H.next+200) ?_
    refine bifL (by omega) (bifL (by omega) ⟨hd _,bifL (by omega) ⟨hk _,by omega,⟨c1⟩,hs _,hk1,by omega,⟨c2⟩,ag,bifL (by omega) ⟨hx,?_⟩⟩⟩)
    unfold ordP
    repeat' (first | refine bifL (by(try dsimp only);omega) ?_ | refine condL (by(try dsimp only);omega) ?_ | refine⟨?_,?_⟩ | intro _)
    all_goals first
      | exact hy
      | exact b2
      | (dsimp only;omega)
      | (simp [*];done)
      | skip
  · have hN:N=14:=hN
    subst hN
    refine byT_vc H H1 H2 va vb p q k x y (fun v h1=>v= .int .i64 (ordP x y)∧h1.blks=H.blks∧h1.next≤H.next+200) ?_
    refine bifL (by omega) (bifL (by omega) ⟨hd _,bifL (by omega) (bifL (by omega) ⟨hk _,by omega,⟨c1⟩,hs _,hk1,by omega,⟨c2⟩,ag,bifL (by omega) ⟨hx,?_⟩⟩)⟩)
    unfold ordP
    repeat' (first | refine bifL (by(try dsimp only);omega) ?_ | refine condL (by(try dsimp only);omega) ?_ | refine⟨?_,?_⟩ | intro _)
    all_goals first
      | exact hy
      | exact b2
      | (dsimp only;omega)
      | (simp [*];done)
      | skip
def Short(l:List Bytes):Prop:= ∀ x∈l,x.length<2^48
theorem short_field {l:List Bytes}(h:Short l)(k:Int):(fieldV l k).length<2^48:=by
  by_cases h0:k<0
  · rw [fieldV_lo h0];decide
  · by_cases h1:(l.length:Int)≤k
    · rw [fieldV_hi h1];decide
    · rw [fieldV_in h0 h1];exact h _ (List.getElem_mem _)
theorem by_does {H:AHeap}{va vb:AVal}{a b:List Bytes}(ha:RowAt H va a)(hb:RowAt H vb b)(sa:Short a)(sb:Short b)(k:Int)(d:Bool){p q:Nat}
    (hd: ∀ n,aload (AEnv.D env) 4 ⟨p,0,0,0,1⟩ ⟨n,H.blks⟩=some (.bool d)) (hk: ∀ n,aload (AEnv.D env) 3 ⟨q,0,0,0,1⟩ ⟨n,H.blks⟩=some (.int .i64 k)) (hq:q<H.next) :
    FDoes Tryz.prog cnd 64 [va,vb,.ptr (some ⟨p,0,0,0,1⟩),.ptr (some ⟨q,0,0,0,1⟩)] H (.int .i64 (ordP (fieldV (if d=true then b else a) k) (fieldV (if d=true then a else b) k))) (up H 200):=by
  have key: ∀ {v1 v2:AVal} {l1 l2:List Bytes},RowAt H v1 l1→RowAt H v2 l2→Short l1→Short l2→(v1=if d=true then vb else va)→(v2=if d=true then va else vb) →
      FDoes Tryz.prog cnd 64 [va,vb,.ptr (some ⟨p,0,0,0,1⟩),.ptr (some ⟨q,0,0,0,1⟩)] H (.int .i64 (ordP (fieldV l1 k) (fieldV l2 k))) (up H 200):=by
    rintro v1 v2 l1 l2 h1 h2 s1 s2 rfl rfl
    let N:=if d=true then 14 else 10
    obtain⟨v,h1,hd,rfl,e1,e2⟩:=by_core d N rfl hd hk hq (field_does (h1.up N) k) (field_does (H:=up (up H N) 14) h2 k) (by show H.next+N+14=_;omega) (by show H.next+N+14+14=_;omega) rfl rfl (short_field s1 k) (short_field s2 k)
    have:=bump (n:=H.next+200) hd e2
    rwa [e1]at this
  cases d
  · exact key ha hb sa sb rfl rfl
  · exact key hb ha sb sa rfl rfl
theorem cmpB (x:Bytes): ∀ y:Bytes,Lib.compareBytes x y=sgnV (Op.bytesLess x y) (!(Op.bytesLess x y || x == y))∧Lib.compareBytes y x= -Lib.compareBytes x y:=by
  induction x with
  | nil=>intro y;cases y<;>exact⟨rfl,rfl⟩
  | cons a x ih =>
    intro y
    cases y with
    | nil=>exact⟨rfl,rfl⟩
    | cons b y =>
      obtain⟨i1,i2⟩:=ih y
      simp only [Lib.compareBytes,Op.bytesLess]
      by_cases h1:a<b
      · have h2: ¬b<a:=fun h=>absurd (UInt8.lt_trans h1 h) (UInt8.lt_irrefl a)
        simp [h1,h2,sgnV]
      · by_cases h2:b<a
        · have h3: ¬a=b:=fun h=>by subst h;exact UInt8.lt_irrefl _ h2
          simp [h1,h2,h3,sgnV]
        · have h3:a=b:=UInt8.le_antisymm (UInt8.not_lt.1 h2) (UInt8.not_lt.1 h1)
          subst h3
          simp only [if_neg h1]
          refine⟨?_,i2⟩
          rw [i1]
          simp [h1]
theorem ordP_neg(x y:Bytes):ordP y x= -ordP x y:=by
  unfold ordP
  rw [(cmpB x y).2]
  cases numB (numD x)<;>cases numB (numD y)<;>simp [sgnV]
  by_cases h1:numI (numD x)<numI (numD y)
  · have h2: ¬numI (numD y)<numI (numD x):=by omega
    simp [h1,h2]
  · by_cases h2:numI (numD y)<numI (numD x)<;>simp [h1,h2]
end Go.Proofs.YtjpfnbihopoeeaaGreatDoor
namespace Go.Proofs.YtjpfnbihopoeeaaGreatDoor
open Go.Lift
set_option maxRecDepth 1000000
theorem works_run:saysTrue (fcall Tryz.prog env 400 18 [] ⟨0,.nil⟩)=true:=by decide+kernel
end Go.Proofs.YtjpfnbihopoeeaaGreatDoor
namespace Go.Proofs.YtjpfnbihopoeeaaGreatDoor
open Go.Lift
set_option maxRecDepth 1000000
theorem works_does(H:AHeap):FDoes Tryz.prog cnd 18 [] H (.bool true) H:=by
  obtain⟨h',hc⟩:=fcall_true works_run
  exact FDoes.ofVC ⟨_,_,FDoes.of_acall env_ok mixed hc,rfl⟩ rfl rfl H
def worksS:List AVal→AHeap→Option Alts:=pureS fun a=>match a with | []=>some (.bool true,[]) | _=>none
theorem worksS_ok: ∀ args h a,worksS args h=some a→a.Ok Tryz.prog cnd 18 args h:=by
  refine pureS_ok ?_
  intro args v ps e hp H
  split at e<;>first | (cases e;done) | skip
  simp only [Option.some.injEq,Prod.mk.injEq]at e
  obtain⟨rfl,rfl⟩:=e
  exact works_does H
noncomputable def specsW:Specs:=noSpecs.add 18 worksS
theorem specsW_ok:SpecsOk Tryz.prog cnd specsW:=noSpecs_ok.add worksS_ok
end Go.Proofs.YtjpfnbihopoeeaaGreatDoor
namespace Go.Proofs.YtjpfnbihopoeeaaGreatDoor
open Go.Lift
set_option maxRecDepth 1000000
theorem agNe {a b:List AVal}{h k h' k':AHeap}{v u:AVal}(e:h.next≠k.next):Agree a b h k v u h' k':=⟨fun _ q=>absurd (congrArg AHeap.next q) e⟩
end Go.Proofs.YtjpfnbihopoeeaaGreatDoor
namespace Go.Proofs.YtjpfnbihopoeeaaGreatDoor
open Go.Lift
set_option maxRecDepth 1000000
theorem inS_vp(H H1 H2 H3:AHeap)(B a m i j:Nat)(g:FuncId)(cs:List AVal)(dv x y:AVal)(p q:AAddr)(r:Int)(K0:AExit→Facts→AHeap→Prop)(vc:bif Nat.ble B (AHeap.next H) && true then some (AVal.bool (decide ((↑j:Int)>(↑a:Int))))=some (AVal.bool true)∧aindexAddr (AEnv.D env) 22 dv (AVal.int IntKind.i64 (↑j:Int))=some (AVal.ptr (some p))∧aload (AEnv.D env) 36 p (AHeap.mk (AHeap.next H+17) (H.2))=some x∧AAddr.id p<AHeap.next H∧(-9223372036854775808≤(↑j:Int)-1∧(↑j:Int)-1≤9223372036854775807)∧aindexAddr (AEnv.D env) 22 dv (AVal.int IntKind.i64 ((↑j:Int)-1))=some (AVal.ptr (some q))∧aload (AEnv.D env) 36 q (AHeap.mk (AHeap.next H+17) (H.2))=some y∧AAddr.id q<AHeap.next H∧CallT Tryz.prog cnd g (x::y::cs) (AHeap.mk (AHeap.next H+17) (H.2)) (AVal.int IntKind.i64 r) H1∧some (AVal.bool (decide (r<0)))=some (AVal.bool true)∧bif Nat.ble B (AHeap.next H1) && true then(-9223372036854775808≤(↑j:Int)-1∧(↑j:Int)-1≤9223372036854775807)∧(-9223372036854775808≤(↑j:Int)-1∧(↑j:Int)-1≤9223372036854775807)∧aindexAddr (AEnv.D env) 22 dv (AVal.int IntKind.i64 ((↑j:Int)-1))=some (AVal.ptr (some q))∧aload (AEnv.D env) 36 q (AHeap.mk (AHeap.next H1+18) (H1.2))=some y∧AAddr.id q<AHeap.next H1∧aindexAddr (AEnv.D env) 22 dv (AVal.int IntKind.i64 (↑j:Int))=some (AVal.ptr (some p))∧aload (AEnv.D env) 36 p (AHeap.mk (AHeap.next H1+18) (H1.2))=some x∧AAddr.id p<AHeap.next H1∧aindexAddr (AEnv.D env) 22 dv (AVal.int IntKind.i64 (↑j:Int))=some (AVal.ptr (some p))∧aop env noCall (AHeap.next H1+15) (getF [(51,AVal.ptr (some p)),(50,x),(49,AVal.ptr (some p)),(48,AVal.int IntKind.i64 (↑j:Int)),(47,dv),(46,y),(45,AVal.ptr (some q)),(44,AVal.int IntKind.i64 ((↑j:Int)-1)),(43,AVal.int IntKind.i64 (↑j:Int)),(42,dv),(41,AVal.int IntKind.i64 ((↑j:Int)-1)),(40,AVal.int IntKind.i64 (↑j:Int)),(39,dv),(38,AVal.int IntKind.i64 (↑j:Int)),(37,dv),(34,AVal.bool true),(33,AVal.bool true),(32,AVal.int IntKind.i64 r),(31,y),(30,AVal.ptr (some q)),(29,AVal.int IntKind.i64 ((↑j:Int)-1)),(28,AVal.int IntKind.i64 (↑j:Int)),(27,dv),(26,x),(25,AVal.ptr (some p)),(24,AVal.int IntKind.i64 (↑j:Int)),(23,dv),(22,AVal.func (Fn.func g) [] cs),(21,AVal.bool true),(20,AVal.bool true),(19,AVal.int IntKind.i64 (↑a:Int)),(18,AVal.int IntKind.i64 (↑j:Int)),(0,dv),(1,AVal.int IntKind.i64 (↑a:Int)),(2,AVal.int IntKind.i64 (↑m:Int)),(3,AVal.func (Fn.func g) [] cs),(8,AVal.int IntKind.i64 (↑i:Int)),(9,AVal.int IntKind.i64 (↑j:Int))]) (AHeap.mk (AHeap.next H1+18) (H1.2)) (Op.store 36 (Operand.tmp 51) (Operand.tmp 46))=some (AVal.tuple [],H2)∧aindexAddr (AEnv.D env) 22 dv (AVal.int IntKind.i64 ((↑j:Int)-1))=some (AVal.ptr (some q))∧aop env noCall (AHeap.next H1+17) (getF [(52,AVal.ptr (some q)),(51,AVal.ptr (some p)),(50,x),(49,AVal.ptr (some p)),(48,AVal.int IntKind.i64 (↑j:Int)),(47,dv),(46,y),(45,AVal.ptr (some q)),(44,AVal.int IntKind.i64 ((↑j:Int)-1)),(43,AVal.int IntKind.i64 (↑j:Int)),(42,dv),(41,AVal.int IntKind.i64 ((↑j:Int)-1)),(40,AVal.int IntKind.i64 (↑j:Int)),(39,dv),(38,AVal.int IntKind.i64 (↑j:Int)),(37,dv),(34,AVal.bool true),(33,AVal.bool true),(32,AVal.int IntKind.i64 r),(31,y),(30,AVal.ptr (some q)),(29,AVal.int IntKind.i64 ((↑j:Int)-1)),(28,AVal.int IntKind.i64 (↑j:Int)),(27,dv),(26,x),(25,AVal.ptr (some p)),(24,AVal.int IntKind.i64 (↑j:Int)),(23,dv),(22,AVal.func (Fn.func g) [] cs),(21,AVal.bool true),(20,AVal.bool true),(19,AVal.int IntKind.i64 (↑a:Int)),(18,AVal.int IntKind.i64 (↑j:Int)),(0,dv),(1,AVal.int IntKind.i64 (↑a:Int)),(2,AVal.int IntKind.i64 (↑m:Int)),(3,AVal.func (Fn.func g) [] cs),(8,AVal.int IntKind.i64 (↑i:Int)),(9,AVal.int IntKind.i64 (↑j:Int))]) H2 (Op.store 36 (Operand.tmp 52) (Operand.tmp 50))=some (AVal.tuple [],H3)∧bif Nat.ble B (AHeap.next H3) && true then(-9223372036854775808≤(↑j:Int)-1∧(↑j:Int)-1≤9223372036854775807)∧K0 AExit.normal [(0,dv),(1,AVal.int IntKind.i64 (↑a:Int)),(2,AVal.int IntKind.i64 (↑m:Int)),(3,AVal.func (Fn.func g) [] cs),(8,AVal.int IntKind.i64 (↑i:Int)),(9,AVal.int IntKind.i64 ((↑j:Int)-1))] (AHeap.mk (AHeap.next H3+3) (AHeap.blks H3))else False else False else False) :
    ∃ e F1 h1,Runs Tryz.prog cnd B 53 (loopAt Tryz.prog 160 1) [(0,dv),(1,.int .i64 a),(2,.int .i64 m),(3,.func (.func g) [] cs),(8,.int .i64 i),(9,.int .i64 j)] H e F1 h1∧K0 e F1 h1 :=
  tpath_runs env_ok mixed noSpecs_ok (hs:= .hint (.val 4002 (AVal.bool true)) (.hint (.val 4007 (AVal.ptr (some p))) (.hint (.farV 4008 x) (.hint (.go 4011) (.hint (.val 4012 (AVal.ptr (some q))) (.hint (.farV 4013 y) (.hint (.act 4014 (AVal.int IntKind.i64 r) fun x=>H1) (.hint (.val 4015 (AVal.bool true)) (.hint (.go 6004) (.hint (.go 6007) (.hint (.val 6008 (AVal.ptr (some q))) (.hint (.farV 6009 y) (.hint (.val 6012 (AVal.ptr (some p))) (.hint (.farV 6013 x) (.hint (.val 6014 (AVal.ptr (some p))) (.hint (.act 6015 (AVal.tuple []) fun x=>H2) (.hint (.val 6016 (AVal.ptr (some q))) (.hint (.act 6017 (AVal.tuple []) fun x=>H3) (.hint (.go 5001) .nil))))))))))))))))))) (keep:= [0,1,2,3,8,9]) (by kernel_rfl) vc
theorem inB_vp(H H1:AHeap)(B a m i j:Nat)(g:FuncId)(cs:List AVal)(dv x y:AVal)(p q:AAddr)(r:Int)(K0:AExit→Facts→AHeap→Prop)(vc:bif Nat.ble B (AHeap.next H) && true then some (AVal.bool (decide ((↑j:Int)>(↑a:Int))))=some (AVal.bool true)∧aindexAddr (AEnv.D env) 22 dv (AVal.int IntKind.i64 (↑j:Int))=some (AVal.ptr (some p))∧aload (AEnv.D env) 36 p (AHeap.mk (AHeap.next H+17) (H.2))=some x∧AAddr.id p<AHeap.next H∧(-9223372036854775808≤(↑j:Int)-1∧(↑j:Int)-1≤9223372036854775807)∧aindexAddr (AEnv.D env) 22 dv (AVal.int IntKind.i64 ((↑j:Int)-1))=some (AVal.ptr (some q))∧aload (AEnv.D env) 36 q (AHeap.mk (AHeap.next H+17) (H.2))=some y∧AAddr.id q<AHeap.next H∧CallT Tryz.prog cnd g (x::y::cs) (AHeap.mk (AHeap.next H+17) (H.2)) (AVal.int IntKind.i64 r) H1∧some (AVal.bool (decide (r<0)))=some (AVal.bool false)∧K0 (AExit.exit 2) [(0,dv),(1,AVal.int IntKind.i64 (↑a:Int)),(2,AVal.int IntKind.i64 (↑m:Int)),(3,AVal.func (Fn.func g) [] cs),(8,AVal.int IntKind.i64 (↑i:Int)),(9,AVal.int IntKind.i64 (↑j:Int))] H1 else False) :
    ∃ e F1 h1,Runs Tryz.prog cnd B 53 (loopAt Tryz.prog 160 1) [(0,dv),(1,.int .i64 a),(2,.int .i64 m),(3,.func (.func g) [] cs),(8,.int .i64 i),(9,.int .i64 j)] H e F1 h1∧K0 e F1 h1 :=
  tpath_runs env_ok mixed noSpecs_ok (hs:= .hint (.val 4002 (AVal.bool true)) (.hint (.val 4007 (AVal.ptr (some p))) (.hint (.farV 4008 x) (.hint (.go 4011) (.hint (.val 4012 (AVal.ptr (some q))) (.hint (.farV 4013 y) (.hint (.act 4014 (AVal.int IntKind.i64 r) fun x=>H1) (.hint (.val 4015 (AVal.bool false)) .nil)))))))) (keep:= [0,1,2,3,8,9]) (by kernel_rfl) vc
theorem inE_vp(H:AHeap)(B a m i j:Nat)(dv cv:AVal)(K0:AExit→Facts→AHeap→Prop)(vc:bif Nat.ble B (AHeap.next H) && true then some (AVal.bool (decide ((↑j:Int)>(↑a:Int))))=some (AVal.bool false)∧K0 (AExit.exit 2) [(0,dv),(1,AVal.int IntKind.i64 (↑a:Int)),(2,AVal.int IntKind.i64 (↑m:Int)),(3,cv),(8,AVal.int IntKind.i64 (↑i:Int)),(9,AVal.int IntKind.i64 (↑j:Int))] (AHeap.mk (AHeap.next H+17) (AHeap.blks H))else False) :
    ∃ e F1 h1,Runs Tryz.prog cnd B 53 (loopAt Tryz.prog 160 1) [(0,dv),(1,.int .i64 a),(2,.int .i64 m),(3,cv),(8,.int .i64 i),(9,.int .i64 j)] H e F1 h1∧K0 e F1 h1 :=
  tpath_runs env_ok mixed noSpecs_ok (hs:= .hint (.val 4002 (AVal.bool false)) .nil) (keep:= [0,1,2,3,8,9]) (by kernel_rfl) vc
theorem ioS_vp(H H1:AHeap)(B a m i:Nat)(dv cv:AVal)(K0:AExit→Facts→AHeap→Prop)(vc:bif Nat.ble B (AHeap.next H) && true then some (AVal.bool (decide ((↑i:Int)<(↑m:Int))))=some (AVal.bool true)∧bif Nat.ble B (AHeap.next H+3) && true then Runs Tryz.prog cnd B 53 (Code.loop (loopAt Tryz.prog 160 1)) [(0,dv),(1,AVal.int IntKind.i64 (↑a:Int)),(2,AVal.int IntKind.i64 (↑m:Int)),(3,cv),(8,AVal.int IntKind.i64 (↑i:Int)),(9,AVal.int IntKind.i64 (↑i:Int))] (AHeap.mk (AHeap.next H+3+2) (AHeap.blks (AHeap.mk (AHeap.next H+3) (AHeap.blks H)))) (AExit.exit 2) [(0,dv),(1,AVal.int IntKind.i64 (↑a:Int)),(2,AVal.int IntKind.i64 (↑m:Int)),(3,cv),(8,AVal.int IntKind.i64 (↑i:Int))] H1∧bif Nat.ble B (AHeap.next H1) && true then(-9223372036854775808≤(↑i:Int)+1∧(↑i:Int)+1≤9223372036854775807)∧K0 AExit.normal [(0,dv),(1,AVal.int IntKind.i64 (↑a:Int)),(2,AVal.int IntKind.i64 (↑m:Int)),(3,cv),(8,AVal.int IntKind.i64 ((↑i:Int)+1))] (AHeap.mk (AHeap.next H1+3) (AHeap.blks H1))else False else False else False) :
    ∃ e F1 h1,Runs Tryz.prog cnd B 53 (loopAt Tryz.prog 160 0) [(0,dv),(1,.int .i64 a),(2,.int .i64 m),(3,cv),(8,.int .i64 i)] H e F1 h1∧K0 e F1 h1 :=
  tpath_runs env_ok mixed noSpecs_ok (hs:= .hint (.val 1002 (AVal.bool true)) (.hint (.keep [0,1,2,3,8,9]) (.hint (.loop [(0,dv),(1,AVal.int IntKind.i64 (↑a:Int)),(2,AVal.int IntKind.i64 (↑m:Int)),(3,cv),(8,AVal.int IntKind.i64 (↑i:Int))] H1 (AExit.exit 2)) (.hint (.go 2001) .nil)))) (keep:= [0,1,2,3,8]) (by kernel_rfl) vc
theorem ioE_vp(H:AHeap)(B a m i:Nat)(dv cv:AVal)(K0:AExit→Facts→AHeap→Prop)(vc:bif Nat.ble B (AHeap.next H) && true then some (AVal.bool (decide ((↑i:Int)<(↑m:Int))))=some (AVal.bool false)∧K0 (AExit.exit 0) [(0,dv),(1,AVal.int IntKind.i64 (↑a:Int)),(2,AVal.int IntKind.i64 (↑m:Int)),(3,cv),(8,AVal.int IntKind.i64 (↑i:Int))] (AHeap.mk (AHeap.next H+3) (AHeap.blks H))else False) :
    ∃ e F1 h1,Runs Tryz.prog cnd B 53 (loopAt Tryz.prog 160 0) [(0,dv),(1,.int .i64 a),(2,.int .i64 m),(3,cv),(8,.int .i64 i)] H e F1 h1∧K0 e F1 h1 :=
  tpath_runs env_ok mixed noSpecs_ok (hs:= .hint (.val 1002 (AVal.bool false)) .nil) (keep:= [0,1,2,3,8]) (by kernel_rfl) vc
theorem ins_vc(H H1:AHeap)(a m i:Nat)(dv cv:AVal)(K0:AVal→AHeap→Prop)(vc:bif Nat.ble (AHeap.next H) (AHeap.next H) && true then(-9223372036854775808≤(↑a:Int)+1∧(↑a:Int)+1≤9223372036854775807)∧Runs Tryz.prog cnd (AHeap.next H) 53 (Code.loop (loopAt Tryz.prog 160 0)) [(0,dv),(1,AVal.int IntKind.i64 (↑a:Int)),(2,AVal.int IntKind.i64 (↑m:Int)),(3,cv),(8,AVal.int IntKind.i64 ((↑a:Int)+1))] (AHeap.mk (AHeap.next H+3) (AHeap.blks H)) (AExit.exit 0) [] H1∧bif Nat.ble (AHeap.next H) (AHeap.next H1)then K0 (AVal.tuple []) H1 else False else False) :
    ∃ v h1,FDoes Tryz.prog cnd 160 [dv,.int .i64 a,.int .i64 m,cv] H v h1∧K0 v h1 :=
  tcall_does env_ok mixed noSpecs_ok (hs:= .hint (.go 1) (.hint (.keep [0,1,2,3,8]) (.hint (.loop [] H1 (AExit.exit 0)) .nil))) (by kernel_rfl) vc
theorem swS_vp(H H1 H2:AHeap)(B a m k i:Nat)(dv x y:AVal)(p q:AAddr)(K0:AExit→Facts→AHeap→Prop)(vc:bif Nat.ble B (AHeap.next H) && true then some (AVal.bool (decide ((↑i:Int)<(↑k:Int))))=some (AVal.bool true)∧bif Nat.ble B (AHeap.next H+3) && true then(-9223372036854775808≤(↑a:Int)+(↑i:Int)∧(↑a:Int)+(↑i:Int)≤9223372036854775807)∧(-9223372036854775808≤(↑m:Int)+(↑i:Int)∧(↑m:Int)+(↑i:Int)≤9223372036854775807)∧(-9223372036854775808≤(↑m:Int)+(↑i:Int)∧(↑m:Int)+(↑i:Int)≤9223372036854775807)∧aindexAddr (AEnv.D env) 22 dv (AVal.int IntKind.i64 ((↑m:Int)+(↑i:Int)))=some (AVal.ptr (some q))∧aload (AEnv.D env) 36 q (AHeap.mk (AHeap.next H+27) (H.2))=some y∧AAddr.id q<AHeap.next H+3∧(-9223372036854775808≤(↑a:Int)+(↑i:Int)∧(↑a:Int)+(↑i:Int)≤9223372036854775807)∧aindexAddr (AEnv.D env) 22 dv (AVal.int IntKind.i64 ((↑a:Int)+(↑i:Int)))=some (AVal.ptr (some p))∧aload (AEnv.D env) 36 p (AHeap.mk (AHeap.next H+27) (H.2))=some x∧AAddr.id p<AHeap.next H+3∧aindexAddr (AEnv.D env) 22 dv (AVal.int IntKind.i64 ((↑a:Int)+(↑i:Int)))=some (AVal.ptr (some p))∧aop env noCall (AHeap.next H+24) (getF [(36,AVal.ptr (some p)),(35,x),(34,AVal.ptr (some p)),(33,AVal.int IntKind.i64 ((↑a:Int)+(↑i:Int))),(32,AVal.int IntKind.i64 (↑i:Int)),(31,AVal.int IntKind.i64 (↑a:Int)),(30,dv),(29,y),(28,AVal.ptr (some q)),(27,AVal.int IntKind.i64 ((↑m:Int)+(↑i:Int))),(26,AVal.int IntKind.i64 (↑i:Int)),(25,AVal.int IntKind.i64 (↑m:Int)),(24,dv),(23,AVal.int IntKind.i64 ((↑m:Int)+(↑i:Int))),(22,AVal.int IntKind.i64 (↑i:Int)),(21,AVal.int IntKind.i64 (↑m:Int)),(20,dv),(19,AVal.int IntKind.i64 ((↑a:Int)+(↑i:Int))),(18,AVal.int IntKind.i64 (↑i:Int)),(17,AVal.int IntKind.i64 (↑a:Int)),(16,dv),(13,AVal.bool true),(12,AVal.int IntKind.i64 (↑k:Int)),(11,AVal.int IntKind.i64 (↑i:Int)),(0,dv),(1,AVal.int IntKind.i64 (↑a:Int)),(2,AVal.int IntKind.i64 (↑m:Int)),(3,AVal.int IntKind.i64 (↑k:Int)),(10,AVal.int IntKind.i64 (↑i:Int))]) (AHeap.mk (AHeap.next H+27) (H.2)) (Op.store 36 (Operand.tmp 36) (Operand.tmp 29))=some (AVal.tuple [],H1)∧aindexAddr (AEnv.D env) 22 dv (AVal.int IntKind.i64 ((↑m:Int)+(↑i:Int)))=some (AVal.ptr (some q))∧aop env noCall (AHeap.next H+26) (getF [(37,AVal.ptr (some q)),(36,AVal.ptr (some p)),(35,x),(34,AVal.ptr (some p)),(33,AVal.int IntKind.i64 ((↑a:Int)+(↑i:Int))),(32,AVal.int IntKind.i64 (↑i:Int)),(31,AVal.int IntKind.i64 (↑a:Int)),(30,dv),(29,y),(28,AVal.ptr (some q)),(27,AVal.int IntKind.i64 ((↑m:Int)+(↑i:Int))),(26,AVal.int IntKind.i64 (↑i:Int)),(25,AVal.int IntKind.i64 (↑m:Int)),(24,dv),(23,AVal.int IntKind.i64 ((↑m:Int)+(↑i:Int))),(22,AVal.int IntKind.i64 (↑i:Int)),(21,AVal.int IntKind.i64 (↑m:Int)),(20,dv),(19,AVal.int IntKind.i64 ((↑a:Int)+(↑i:Int))),(18,AVal.int IntKind.i64 (↑i:Int)),(17,AVal.int IntKind.i64 (↑a:Int)),(16,dv),(13,AVal.bool true),(12,AVal.int IntKind.i64 (↑k:Int)),(11,AVal.int IntKind.i64 (↑i:Int)),(0,dv),(1,AVal.int IntKind.i64 (↑a:Int)),(2,AVal.int IntKind.i64 (↑m:Int)),(3,AVal.int IntKind.i64 (↑k:Int)),(10,AVal.int IntKind.i64 (↑i:Int))]) H1 (Op.store 36 (Operand.tmp 37) (Operand.tmp 35))=some (AVal.tuple [],H2)∧bif Nat.ble B (AHeap.next H2) && true then(-9223372036854775808≤(↑i:Int)+1∧(↑i:Int)+1≤9223372036854775807)∧K0 AExit.normal [(0,dv),(1,AVal.int IntKind.i64 (↑a:Int)),(2,AVal.int IntKind.i64 (↑m:Int)),(3,AVal.int IntKind.i64 (↑k:Int)),(10,AVal.int IntKind.i64 ((↑i:Int)+1))] (AHeap.mk (AHeap.next H2+3) (AHeap.blks H2))else False else False else False) :
    ∃ e F1 h1,Runs Tryz.prog cnd B 38 (loopAt Tryz.prog 221 0) [(0,dv),(1,.int .i64 a),(2,.int .i64 m),(3,.int .i64 k),(10,.int .i64 i)] H e F1 h1∧K0 e F1 h1 :=
  tpath_runs env_ok mixed noSpecs_ok (hs:= .hint (.val 1002 (AVal.bool true)) (.hint (.go 3003) (.hint (.go 3007) (.hint (.go 3011) (.hint (.val 3012 (AVal.ptr (some q))) (.hint (.farV 3013 y) (.hint (.go 3017) (.hint (.val 3018 (AVal.ptr (some p))) (.hint (.farV 3019 x) (.hint (.val 3020 (AVal.ptr (some p))) (.hint (.act 3021 (AVal.tuple []) fun x=>H1) (.hint (.val 3022 (AVal.ptr (some q))) (.hint (.act 3023 (AVal.tuple []) fun x=>H2) (.hint (.go 2001) .nil)))))))))))))) (keep:= [0,1,2,3,10]) (by kernel_rfl) vc
theorem swE_vp(H:AHeap)(B a m k i:Nat)(dv:AVal)(K0:AExit→Facts→AHeap→Prop)(vc:bif Nat.ble B (AHeap.next H) && true then some (AVal.bool (decide ((↑i:Int)<(↑k:Int))))=some (AVal.bool false)∧K0 (AExit.exit 0) [(0,dv),(1,AVal.int IntKind.i64 (↑a:Int)),(2,AVal.int IntKind.i64 (↑m:Int)),(3,AVal.int IntKind.i64 (↑k:Int)),(10,AVal.int IntKind.i64 (↑i:Int))] (AHeap.mk (AHeap.next H+3) (AHeap.blks H))else False) :
    ∃ e F1 h1,Runs Tryz.prog cnd B 38 (loopAt Tryz.prog 221 0) [(0,dv),(1,.int .i64 a),(2,.int .i64 m),(3,.int .i64 k),(10,.int .i64 i)] H e F1 h1∧K0 e F1 h1 :=
  tpath_runs env_ok mixed noSpecs_ok (hs:= .hint (.val 1002 (AVal.bool false)) .nil) (keep:= [0,1,2,3,10]) (by kernel_rfl) vc
theorem swr_vc(H H1:AHeap)(a m k:Nat)(dv cv:AVal)(K0:AVal→AHeap→Prop)(vc:bif Nat.ble (AHeap.next H) (AHeap.next H) && true then Runs Tryz.prog cnd (AHeap.next H) 38 (Code.loop (loopAt Tryz.prog 221 0)) [(0,dv),(1,AVal.int IntKind.i64 (↑a:Int)),(2,AVal.int IntKind.i64 (↑m:Int)),(3,AVal.int IntKind.i64 (↑k:Int)),(10,AVal.int IntKind.i64 (0))] (AHeap.mk (AHeap.next H+1) (AHeap.blks H)) (AExit.exit 0) [] H1∧bif Nat.ble (AHeap.next H) (AHeap.next H1)then K0 (AVal.tuple []) H1 else False else False) :
    ∃ v h1,FDoes Tryz.prog cnd 221 [dv,.int .i64 a,.int .i64 m,.int .i64 k,cv] H v h1∧K0 v h1 :=
  tcall_does env_ok mixed noSpecs_ok (hs:= .hint (.keep [0,1,2,3,10]) (.hint (.loop [] H1 (AExit.exit 0)) .nil)) (by kernel_rfl) vc
theorem roA_vp(H H1:AHeap)(B m i j:Nat)(dv cv:AVal)(K0:AExit→Facts→AHeap→Prop)(vc:bif Nat.ble B (AHeap.next H) && true then some (AVal.bool ((↑i:Int) != (↑j:Int)))=some (AVal.bool true)∧bif Nat.ble B (AHeap.next H+3) && true then some (AVal.bool (decide ((↑i:Int)>(↑j:Int))))=some (AVal.bool true)∧bif Nat.ble B (AHeap.next H+6) && true then(-9223372036854775808≤(↑m:Int)- (↑i:Int)∧(↑m:Int)- (↑i:Int)≤9223372036854775807)∧CallT Tryz.prog cnd 221 [dv,AVal.int IntKind.i64 ((↑m:Int)- (↑i:Int)),AVal.int IntKind.i64 (↑m:Int),AVal.int IntKind.i64 (↑j:Int),cv] (AHeap.mk (AHeap.next H+14) (H.2)) (AVal.tuple []) H1∧bif Nat.ble B (AHeap.next H1) && true then(-9223372036854775808≤(↑i:Int)- (↑j:Int)∧(↑i:Int)- (↑j:Int)≤9223372036854775807)∧K0 AExit.normal [(0,dv),(2,AVal.int IntKind.i64 (↑m:Int)),(4,cv),(10,AVal.int IntKind.i64 ((↑i:Int)- (↑j:Int))),(11,AVal.int IntKind.i64 (↑j:Int))] (AHeap.mk (AHeap.next H1+4) (AHeap.blks H1))else False else False else False else False) :
    ∃ e F1 h1,Runs Tryz.prog cnd B 58 (loopAt Tryz.prog 195 0) [(0,dv),(2,.int .i64 m),(4,cv),(10,.int .i64 i),(11,.int .i64 j)] H e F1 h1∧K0 e F1 h1 :=
  tpath_runs env_ok mixed noSpecs_ok (hs:= .hint (.val 2002 (AVal.bool true)) (.hint (.val 3002 (AVal.bool true)) (.hint (.go 4003) (.hint (.act 4007 (AVal.tuple []) fun x=>H1) (.hint (.go 5002) .nil))))) (keep:= [0,2,4,10,11]) (by kernel_rfl) vc
theorem roB_vp(H H1:AHeap)(B m i j:Nat)(dv cv:AVal)(K0:AExit→Facts→AHeap→Prop)(vc:bif Nat.ble B (AHeap.next H) && true then some (AVal.bool ((↑i:Int) != (↑j:Int)))=some (AVal.bool true)∧bif Nat.ble B (AHeap.next H+3) && true then some (AVal.bool (decide ((↑i:Int)>(↑j:Int))))=some (AVal.bool false)∧bif Nat.ble B (AHeap.next H+6) && true then(-9223372036854775808≤(↑m:Int)- (↑i:Int)∧(↑m:Int)- (↑i:Int)≤9223372036854775807)∧(-9223372036854775808≤(↑m:Int)+(↑j:Int)∧(↑m:Int)+(↑j:Int)≤9223372036854775807)∧(-9223372036854775808≤(↑m:Int)+(↑j:Int)- (↑i:Int)∧(↑m:Int)+(↑j:Int)- (↑i:Int)≤9223372036854775807)∧CallT Tryz.prog cnd 221 [dv,AVal.int IntKind.i64 ((↑m:Int)- (↑i:Int)),AVal.int IntKind.i64 ((↑m:Int)+(↑j:Int)- (↑i:Int)),AVal.int IntKind.i64 (↑i:Int),cv] (AHeap.mk (AHeap.next H+18) (H.2)) (AVal.tuple []) H1∧bif Nat.ble B (AHeap.next H1) && true then(-9223372036854775808≤(↑j:Int)- (↑i:Int)∧(↑j:Int)- (↑i:Int)≤9223372036854775807)∧K0 AExit.normal [(0,dv),(2,AVal.int IntKind.i64 (↑m:Int)),(4,cv),(10,AVal.int IntKind.i64 (↑i:Int)),(11,AVal.int IntKind.i64 ((↑j:Int)- (↑i:Int)))] (AHeap.mk (AHeap.next H1+4) (AHeap.blks H1))else False else False else False else False) :
    ∃ e F1 h1,Runs Tryz.prog cnd B 58 (loopAt Tryz.prog 195 0) [(0,dv),(2,.int .i64 m),(4,cv),(10,.int .i64 i),(11,.int .i64 j)] H e F1 h1∧K0 e F1 h1 :=
  tpath_runs env_ok mixed noSpecs_ok (hs:= .hint (.val 2002 (AVal.bool true)) (.hint (.val 3002 (AVal.bool false)) (.hint (.go 6003) (.hint (.go 6006) (.hint (.go 6008) (.hint (.act 6011 (AVal.tuple []) fun x=>H1) (.hint (.go 7002) .nil))))))) (keep:= [0,2,4,10,11]) (by kernel_rfl) vc
theorem roE_vp(H:AHeap)(B m i j:Nat)(dv cv:AVal)(K0:AExit→Facts→AHeap→Prop)(vc:bif Nat.ble B (AHeap.next H) && true then some (AVal.bool ((↑i:Int) != (↑j:Int)))=some (AVal.bool false)∧K0 (AExit.exit 0) [(0,dv),(2,AVal.int IntKind.i64 (↑m:Int)),(4,cv),(10,AVal.int IntKind.i64 (↑i:Int)),(11,AVal.int IntKind.i64 (↑j:Int))] (AHeap.mk (AHeap.next H+3) (AHeap.blks H))else False) :
    ∃ e F1 h1,Runs Tryz.prog cnd B 58 (loopAt Tryz.prog 195 0) [(0,dv),(2,.int .i64 m),(4,cv),(10,.int .i64 i),(11,.int .i64 j)] H e F1 h1∧K0 e F1 h1 :=
  tpath_runs env_ok mixed noSpecs_ok (hs:= .hint (.val 2002 (AVal.bool false)) .nil) (keep:= [0,2,4,10,11]) (by kernel_rfl) vc
theorem rot_vc(H H1 H2:AHeap)(a m z i:Nat)(dv cv:AVal)(K0:AVal→AHeap→Prop)(vc:bif Nat.ble (AHeap.next H) (AHeap.next H) && true then(-9223372036854775808≤(↑m:Int)- (↑a:Int)∧(↑m:Int)- (↑a:Int)≤9223372036854775807)∧bif Nat.ble (AHeap.next H) (AHeap.next H+4) && true then(-9223372036854775808≤(↑z:Int)- (↑m:Int)∧(↑z:Int)- (↑m:Int)≤9223372036854775807)∧Runs Tryz.prog cnd (AHeap.next H) 58 (Code.loop (loopAt Tryz.prog 195 0)) [(0,dv),(2,AVal.int IntKind.i64 (↑m:Int)),(4,cv),(10,AVal.int IntKind.i64 ((↑m:Int)- (↑a:Int))),(11,AVal.int IntKind.i64 ((↑z:Int)- (↑m:Int)))] (AHeap.mk (AHeap.next H+4+4) (AHeap.blks (AHeap.mk (AHeap.next H+4) (AHeap.blks H)))) (AExit.exit 0) [(0,dv),(2,AVal.int IntKind.i64 (↑m:Int)),(4,cv),(10,AVal.int IntKind.i64 (↑i:Int))] H1∧bif Nat.ble (AHeap.next H) (AHeap.next H1) && true then(-9223372036854775808≤(↑m:Int)- (↑i:Int)∧(↑m:Int)- (↑i:Int)≤9223372036854775807)∧CallT Tryz.prog cnd 221 [dv,AVal.int IntKind.i64 ((↑m:Int)- (↑i:Int)),AVal.int IntKind.i64 (↑m:Int),AVal.int IntKind.i64 (↑i:Int),cv] (AHeap.mk (AHeap.next H1+8) (H1.2)) (AVal.tuple []) H2∧bif Nat.ble (AHeap.next H) (AHeap.next H2)then K0 (AVal.tuple []) H2 else False else False else False else False) :
    ∃ v h1,FDoes Tryz.prog cnd 195 [dv,.int .i64 a,.int .i64 m,.int .i64 z,cv] H v h1∧K0 v h1 :=
  tcall_does env_ok mixed noSpecs_ok (hs:= .hint (.go 2) (.hint (.go 1002) (.hint (.keep [0,2,4,10,11]) (.hint (.loop [(0,dv),(2,AVal.int IntKind.i64 (↑m:Int)),(4,cv),(10,AVal.int IntKind.i64 (↑i:Int))] H1 (AExit.exit 0)) (.hint (.go 8003) (.hint (.act 8007 (AVal.tuple []) fun x=>H2) .nil)))))) (by kernel_rfl) vc
end Go.Proofs.YtjpfnbihopoeeaaGreatDoor
namespace Go.Proofs.YtjpfnbihopoeeaaGreatDoor
open Go.Lift
set_option maxRecDepth 1000000
theorem s0T_vp(H H1:AHeap)(B a i j c:Nat)(g:FuncId)(cs:List AVal)(dv x y:AVal)(p q:AAddr)(r:Int)(K0:AExit→Facts→AHeap→Prop)(vc:bif Nat.ble B (AHeap.next H) && true then some (AVal.bool (decide ((↑i:Int)<(↑j:Int))))=some (AVal.bool true)∧bif Nat.ble B (AHeap.next H+3) && true then(-9223372036854775808≤(↑i:Int)+(↑j:Int)∧(↑i:Int)+(↑j:Int)≤9223372036854775807)∧(0≤(↑i:Int)+(↑j:Int)∧(↑i:Int)+(↑j:Int)≤18446744073709551615)∧Int.NonNeg (1-0)∧aop env noCall (AHeap.next H+8) (getF [(38,AVal.int IntKind.u64 (ishr IntKind.u64 ((↑i:Int)+(↑j:Int)) (1))),(37,AVal.int IntKind.u64 ((↑i:Int)+(↑j:Int))),(36,AVal.int IntKind.i64 ((↑i:Int)+(↑j:Int))),(35,AVal.int IntKind.i64 (↑j:Int)),(34,AVal.int IntKind.i64 (↑i:Int)),(33,AVal.bool true),(32,AVal.int IntKind.i64 (↑j:Int)),(31,AVal.int IntKind.i64 (↑i:Int)),(0,dv),(1,AVal.int IntKind.i64 (↑a:Int)),(4,AVal.func (Fn.func g) [] cs),(10,AVal.int IntKind.i64 (↑i:Int)),(11,AVal.int IntKind.i64 (↑j:Int))]) (AHeap.mk (AHeap.next H+10) (H.2)) (Op.convert 108 3 (Operand.tmp 38))=some (AVal.int IntKind.i64 (↑c:Int),(AHeap.mk (AHeap.next H+10) (H.2)))∧bif Nat.ble B (AHeap.next H+10) && true then aindexAddr (AEnv.D env) 22 dv (AVal.int IntKind.i64 (↑c:Int))=some (AVal.ptr (some p))∧aload (AEnv.D env) 36 p (AHeap.mk (AHeap.next H+21) (H.2))=some x∧AAddr.id p<AHeap.next H+10∧aindexAddr (AEnv.D env) 22 dv (AVal.int IntKind.i64 (↑a:Int))=some (AVal.ptr (some q))∧aload (AEnv.D env) 36 q (AHeap.mk (AHeap.next H+21) (H.2))=some y∧AAddr.id q<AHeap.next H+10∧CallT Tryz.prog cnd g (x::y::cs) (AHeap.mk (AHeap.next H+21) (H.2)) (AVal.int IntKind.i64 r) H1∧some (AVal.bool (decide (r<0)))=some (AVal.bool true)∧bif Nat.ble B (AHeap.next H1) && true then(-9223372036854775808≤(↑c:Int)+1∧(↑c:Int)+1≤9223372036854775807)∧K0 AExit.normal [(0,dv),(1,AVal.int IntKind.i64 (↑a:Int)),(4,AVal.func (Fn.func g) [] cs),(10,AVal.int IntKind.i64 ((↑c:Int)+1)),(11,AVal.int IntKind.i64 (↑j:Int))] (AHeap.mk (AHeap.next H1+3) (AHeap.blks H1))else False else False else False else False) :
    ∃ e F1 h1,Runs Tryz.prog cnd B 220 (loopAt Tryz.prog 161 0) [(0,dv),(1,.int .i64 a),(4,.func (.func g) [] cs),(10,.int .i64 i),(11,.int .i64 j)] H e F1 h1∧K0 e F1 h1 :=
  tpath_runs env_ok mixed noSpecs_ok (hs:= .hint (.val 3002 (AVal.bool true)) (.hint (.go 4002) (.hint (.go 4003) (.hint (.go 4004) (.hint (.val 4005 (AVal.int IntKind.i64 (↑c:Int))) (.hint (.val 5003 (AVal.ptr (some p))) (.hint (.farV 5004 x) (.hint (.val 5007 (AVal.ptr (some q))) (.hint (.farV 5008 y) (.hint (.act 5009 (AVal.int IntKind.i64 r) fun x=>H1) (.hint (.val 5010 (AVal.bool true)) (.hint (.go 6001) .nil)))))))))))) (keep:= [0,1,4,10,11]) (by kernel_rfl) vc
theorem s0F_vp(H H1:AHeap)(B a i j c:Nat)(g:FuncId)(cs:List AVal)(dv x y:AVal)(p q:AAddr)(r:Int)(K0:AExit→Facts→AHeap→Prop)(vc:bif Nat.ble B (AHeap.next H) && true then some (AVal.bool (decide ((↑i:Int)<(↑j:Int))))=some (AVal.bool true)∧bif Nat.ble B (AHeap.next H+3) && true then(-9223372036854775808≤(↑i:Int)+(↑j:Int)∧(↑i:Int)+(↑j:Int)≤9223372036854775807)∧(0≤(↑i:Int)+(↑j:Int)∧(↑i:Int)+(↑j:Int)≤18446744073709551615)∧Int.NonNeg (1-0)∧aop env noCall (AHeap.next H+8) (getF [(38,AVal.int IntKind.u64 (ishr IntKind.u64 ((↑i:Int)+(↑j:Int)) (1))),(37,AVal.int IntKind.u64 ((↑i:Int)+(↑j:Int))),(36,AVal.int IntKind.i64 ((↑i:Int)+(↑j:Int))),(35,AVal.int IntKind.i64 (↑j:Int)),(34,AVal.int IntKind.i64 (↑i:Int)),(33,AVal.bool true),(32,AVal.int IntKind.i64 (↑j:Int)),(31,AVal.int IntKind.i64 (↑i:Int)),(0,dv),(1,AVal.int IntKind.i64 (↑a:Int)),(4,AVal.func (Fn.func g) [] cs),(10,AVal.int IntKind.i64 (↑i:Int)),(11,AVal.int IntKind.i64 (↑j:Int))]) (AHeap.mk (AHeap.next H+10) (H.2)) (Op.convert 108 3 (Operand.tmp 38))=some (AVal.int IntKind.i64 (↑c:Int),(AHeap.mk (AHeap.next H+10) (H.2)))∧bif Nat.ble B (AHeap.next H+10) && true then aindexAddr (AEnv.D env) 22 dv (AVal.int IntKind.i64 (↑c:Int))=some (AVal.ptr (some p))∧aload (AEnv.D env) 36 p (AHeap.mk (AHeap.next H+21) (H.2))=some x∧AAddr.id p<AHeap.next H+10∧aindexAddr (AEnv.D env) 22 dv (AVal.int IntKind.i64 (↑a:Int))=some (AVal.ptr (some q))∧aload (AEnv.D env) 36 q (AHeap.mk (AHeap.next H+21) (H.2))=some y∧AAddr.id q<AHeap.next H+10∧CallT Tryz.prog cnd g (x::y::cs) (AHeap.mk (AHeap.next H+21) (H.2)) (AVal.int IntKind.i64 r) H1∧some (AVal.bool (decide (r<0)))=some (AVal.bool false)∧bif Nat.ble B (AHeap.next H1) && true then K0 AExit.normal [(0,dv),(1,AVal.int IntKind.i64 (↑a:Int)),(4,AVal.func (Fn.func g) [] cs),(10,AVal.int IntKind.i64 (↑i:Int)),(11,AVal.int IntKind.i64 (↑c:Int))] (AHeap.mk (AHeap.next H1+2) (AHeap.blks H1))else False else False else False else False) :
    ∃ e F1 h1,Runs Tryz.prog cnd B 220 (loopAt Tryz.prog 161 0) [(0,dv),(1,.int .i64 a),(4,.func (.func g) [] cs),(10,.int .i64 i),(11,.int .i64 j)] H e F1 h1∧K0 e F1 h1 :=
  tpath_runs env_ok mixed noSpecs_ok (hs:= .hint (.val 3002 (AVal.bool true)) (.hint (.go 4002) (.hint (.go 4003) (.hint (.go 4004) (.hint (.val 4005 (AVal.int IntKind.i64 (↑c:Int))) (.hint (.val 5003 (AVal.ptr (some p))) (.hint (.farV 5004 x) (.hint (.val 5007 (AVal.ptr (some q))) (.hint (.farV 5008 y) (.hint (.act 5009 (AVal.int IntKind.i64 r) fun x=>H1) (.hint (.val 5010 (AVal.bool false)) .nil))))))))))) (keep:= [0,1,4,10,11]) (by kernel_rfl) vc
theorem s0E_vp(H:AHeap)(B a i j:Nat)(dv cv:AVal)(K0:AExit→Facts→AHeap→Prop)(vc:bif Nat.ble B (AHeap.next H) && true then some (AVal.bool (decide ((↑i:Int)<(↑j:Int))))=some (AVal.bool false)∧K0 (AExit.exit 0) [(0,dv),(1,AVal.int IntKind.i64 (↑a:Int)),(4,cv),(10,AVal.int IntKind.i64 (↑i:Int)),(11,AVal.int IntKind.i64 (↑j:Int))] (AHeap.mk (AHeap.next H+3) (AHeap.blks H))else False) :
    ∃ e F1 h1,Runs Tryz.prog cnd B 220 (loopAt Tryz.prog 161 0) [(0,dv),(1,.int .i64 a),(4,cv),(10,.int .i64 i),(11,.int .i64 j)] H e F1 h1∧K0 e F1 h1 :=
  tpath_runs env_ok mixed noSpecs_ok (hs:= .hint (.val 3002 (AVal.bool false)) .nil) (keep:= [0,1,4,10,11]) (by kernel_rfl) vc
theorem s1S_vp(H H1 H2:AHeap)(B i k:Nat)(dv x y:AVal)(p q:AAddr)(K0:AExit→Facts→AHeap→Prop)(vc:bif Nat.ble B (AHeap.next H) && true then(-9223372036854775808≤(↑i:Int)-1∧(↑i:Int)-1≤9223372036854775807)∧some (AVal.bool (decide ((↑k:Int)<(↑i:Int)-1)))=some (AVal.bool true)∧bif Nat.ble B (AHeap.next H+4) && true then(-9223372036854775808≤(↑k:Int)+1∧(↑k:Int)+1≤9223372036854775807)∧(-9223372036854775808≤(↑k:Int)+1∧(↑k:Int)+1≤9223372036854775807)∧aindexAddr (AEnv.D env) 22 dv (AVal.int IntKind.i64 ((↑k:Int)+1))=some (AVal.ptr (some q))∧aload (AEnv.D env) 36 q (AHeap.mk (AHeap.next H+22) (H.2))=some y∧AAddr.id q<AHeap.next H+4∧aindexAddr (AEnv.D env) 22 dv (AVal.int IntKind.i64 (↑k:Int))=some (AVal.ptr (some p))∧aload (AEnv.D env) 36 p (AHeap.mk (AHeap.next H+22) (H.2))=some x∧AAddr.id p<AHeap.next H+4∧aindexAddr (AEnv.D env) 22 dv (AVal.int IntKind.i64 (↑k:Int))=some (AVal.ptr (some p))∧aop env noCall (AHeap.next H+19) (getF [(75,AVal.ptr (some p)),(74,x),(73,AVal.ptr (some p)),(72,AVal.int IntKind.i64 (↑k:Int)),(71,dv),(70,y),(69,AVal.ptr (some q)),(68,AVal.int IntKind.i64 ((↑k:Int)+1)),(67,AVal.int IntKind.i64 (↑k:Int)),(66,dv),(65,AVal.int IntKind.i64 ((↑k:Int)+1)),(64,AVal.int IntKind.i64 (↑k:Int)),(63,dv),(62,AVal.int IntKind.i64 (↑k:Int)),(61,dv),(58,AVal.bool true),(57,AVal.int IntKind.i64 ((↑i:Int)-1)),(56,AVal.int IntKind.i64 (↑i:Int)),(55,AVal.int IntKind.i64 (↑k:Int)),(0,dv),(10,AVal.int IntKind.i64 (↑i:Int)),(13,AVal.int IntKind.i64 (↑k:Int))]) (AHeap.mk (AHeap.next H+22) (H.2)) (Op.store 36 (Operand.tmp 75) (Operand.tmp 70))=some (AVal.tuple [],H1)∧aindexAddr (AEnv.D env) 22 dv (AVal.int IntKind.i64 ((↑k:Int)+1))=some (AVal.ptr (some q))∧aop env noCall (AHeap.next H+21) (getF [(76,AVal.ptr (some q)),(75,AVal.ptr (some p)),(74,x),(73,AVal.ptr (some p)),(72,AVal.int IntKind.i64 (↑k:Int)),(71,dv),(70,y),(69,AVal.ptr (some q)),(68,AVal.int IntKind.i64 ((↑k:Int)+1)),(67,AVal.int IntKind.i64 (↑k:Int)),(66,dv),(65,AVal.int IntKind.i64 ((↑k:Int)+1)),(64,AVal.int IntKind.i64 (↑k:Int)),(63,dv),(62,AVal.int IntKind.i64 (↑k:Int)),(61,dv),(58,AVal.bool true),(57,AVal.int IntKind.i64 ((↑i:Int)-1)),(56,AVal.int IntKind.i64 (↑i:Int)),(55,AVal.int IntKind.i64 (↑k:Int)),(0,dv),(10,AVal.int IntKind.i64 (↑i:Int)),(13,AVal.int IntKind.i64 (↑k:Int))]) H1 (Op.store 36 (Operand.tmp 76) (Operand.tmp 74))=some (AVal.tuple [],H2)∧bif Nat.ble B (AHeap.next H2) && true then(-9223372036854775808≤(↑k:Int)+1∧(↑k:Int)+1≤9223372036854775807)∧K0 AExit.normal [(0,dv),(10,AVal.int IntKind.i64 (↑i:Int)),(13,AVal.int IntKind.i64 ((↑k:Int)+1))] (AHeap.mk (AHeap.next H2+3) (AHeap.blks H2))else False else False else False) :
    ∃ e F1 h1,Runs Tryz.prog cnd B 220 (loopAt Tryz.prog 161 1) [(0,dv),(10,.int .i64 i),(13,.int .i64 k)] H e F1 h1∧K0 e F1 h1 :=
  tpath_runs env_ok mixed noSpecs_ok (hs:= .hint (.go 9002) (.hint (.val 9003 (AVal.bool true)) (.hint (.go 11004) (.hint (.go 11007) (.hint (.val 11008 (AVal.ptr (some q))) (.hint (.farV 11009 y) (.hint (.val 11012 (AVal.ptr (some p))) (.hint (.farV 11013 x) (.hint (.val 11014 (AVal.ptr (some p))) (.hint (.act 11015 (AVal.tuple []) fun x=>H1) (.hint (.val 11016 (AVal.ptr (some q))) (.hint (.act 11017 (AVal.tuple []) fun x=>H2) (.hint (.go 10001) .nil))))))))))))) (keep:= [0,10,13]) (by kernel_rfl) vc
theorem s1E_vp(H:AHeap)(B i k:Nat)(dv:AVal)(K0:AExit→Facts→AHeap→Prop)(vc:bif Nat.ble B (AHeap.next H) && true then(-9223372036854775808≤(↑i:Int)-1∧(↑i:Int)-1≤9223372036854775807)∧some (AVal.bool (decide ((↑k:Int)<(↑i:Int)-1)))=some (AVal.bool false)∧K0 (AExit.exit 2) [(0,dv),(10,AVal.int IntKind.i64 (↑i:Int)),(13,AVal.int IntKind.i64 (↑k:Int))] (AHeap.mk (AHeap.next H+4) (AHeap.blks H))else False) :
    ∃ e F1 h1,Runs Tryz.prog cnd B 220 (loopAt Tryz.prog 161 1) [(0,dv),(10,.int .i64 i),(13,.int .i64 k)] H e F1 h1∧K0 e F1 h1 :=
  tpath_runs env_ok mixed noSpecs_ok (hs:= .hint (.go 9002) (.hint (.val 9003 (AVal.bool false)) .nil)) (keep:= [0,10,13]) (by kernel_rfl) vc
theorem s2T_vp(H H1:AHeap)(B m i j c:Nat)(g:FuncId)(cs:List AVal)(dv x y:AVal)(p q:AAddr)(r:Int)(K0:AExit→Facts→AHeap→Prop)(vc:bif Nat.ble B (AHeap.next H) && true then some (AVal.bool (decide ((↑i:Int)<(↑j:Int))))=some (AVal.bool true)∧bif Nat.ble B (AHeap.next H+3) && true then(-9223372036854775808≤(↑i:Int)+(↑j:Int)∧(↑i:Int)+(↑j:Int)≤9223372036854775807)∧(0≤(↑i:Int)+(↑j:Int)∧(↑i:Int)+(↑j:Int)≤18446744073709551615)∧Int.NonNeg (1-0)∧aop env noCall (AHeap.next H+8) (getF [(90,AVal.int IntKind.u64 (ishr IntKind.u64 ((↑i:Int)+(↑j:Int)) (1))),(89,AVal.int IntKind.u64 ((↑i:Int)+(↑j:Int))),(88,AVal.int IntKind.i64 ((↑i:Int)+(↑j:Int))),(87,AVal.int IntKind.i64 (↑j:Int)),(86,AVal.int IntKind.i64 (↑i:Int)),(85,AVal.bool true),(84,AVal.int IntKind.i64 (↑j:Int)),(83,AVal.int IntKind.i64 (↑i:Int)),(0,dv),(2,AVal.int IntKind.i64 (↑m:Int)),(4,AVal.func (Fn.func g) [] cs),(14,AVal.int IntKind.i64 (↑i:Int)),(15,AVal.int IntKind.i64 (↑j:Int))]) (AHeap.mk (AHeap.next H+10) (H.2)) (Op.convert 108 3 (Operand.tmp 90))=some (AVal.int IntKind.i64 (↑c:Int),(AHeap.mk (AHeap.next H+10) (H.2)))∧bif Nat.ble B (AHeap.next H+10) && true then aindexAddr (AEnv.D env) 22 dv (AVal.int IntKind.i64 (↑m:Int))=some (AVal.ptr (some p))∧aload (AEnv.D env) 36 p (AHeap.mk (AHeap.next H+22) (H.2))=some x∧AAddr.id p<AHeap.next H+10∧aindexAddr (AEnv.D env) 22 dv (AVal.int IntKind.i64 (↑c:Int))=some (AVal.ptr (some q))∧aload (AEnv.D env) 36 q (AHeap.mk (AHeap.next H+22) (H.2))=some y∧AAddr.id q<AHeap.next H+10∧CallT Tryz.prog cnd g (x::y::cs) (AHeap.mk (AHeap.next H+22) (H.2)) (AVal.int IntKind.i64 r) H1∧some (AVal.bool (decide (r<0)))=some (AVal.bool true)∧bif Nat.ble B (AHeap.next H1) && true then K0 AExit.normal [(0,dv),(2,AVal.int IntKind.i64 (↑m:Int)),(4,AVal.func (Fn.func g) [] cs),(14,AVal.int IntKind.i64 (↑i:Int)),(15,AVal.int IntKind.i64 (↑c:Int))] (AHeap.mk (AHeap.next H1+2) (AHeap.blks H1))else False else False else False else False) :
    ∃ e F1 h1,Runs Tryz.prog cnd B 220 (loopAt Tryz.prog 161 2) [(0,dv),(2,.int .i64 m),(4,.func (.func g) [] cs),(14,.int .i64 i),(15,.int .i64 j)] H e F1 h1∧K0 e F1 h1 :=
  tpath_runs env_ok mixed noSpecs_ok (hs:= .hint (.val 15002 (AVal.bool true)) (.hint (.go 16002) (.hint (.go 16003) (.hint (.go 16004) (.hint (.val 16005 (AVal.int IntKind.i64 (↑c:Int))) (.hint (.val 17003 (AVal.ptr (some p))) (.hint (.farV 17004 x) (.hint (.val 17007 (AVal.ptr (some q))) (.hint (.farV 17008 y) (.hint (.act 17009 (AVal.int IntKind.i64 r) fun x=>H1) (.hint (.val 17010 (AVal.bool true)) .nil))))))))))) (keep:= [0,2,4,14,15]) (by kernel_rfl) vc
theorem s2F_vp(H H1:AHeap)(B m i j c:Nat)(g:FuncId)(cs:List AVal)(dv x y:AVal)(p q:AAddr)(r:Int)(K0:AExit→Facts→AHeap→Prop)(vc:bif Nat.ble B (AHeap.next H) && true then some (AVal.bool (decide ((↑i:Int)<(↑j:Int))))=some (AVal.bool true)∧bif Nat.ble B (AHeap.next H+3) && true then(-9223372036854775808≤(↑i:Int)+(↑j:Int)∧(↑i:Int)+(↑j:Int)≤9223372036854775807)∧(0≤(↑i:Int)+(↑j:Int)∧(↑i:Int)+(↑j:Int)≤18446744073709551615)∧Int.NonNeg (1-0)∧aop env noCall (AHeap.next H+8) (getF [(90,AVal.int IntKind.u64 (ishr IntKind.u64 ((↑i:Int)+(↑j:Int)) (1))),(89,AVal.int IntKind.u64 ((↑i:Int)+(↑j:Int))),(88,AVal.int IntKind.i64 ((↑i:Int)+(↑j:Int))),(87,AVal.int IntKind.i64 (↑j:Int)),(86,AVal.int IntKind.i64 (↑i:Int)),(85,AVal.bool true),(84,AVal.int IntKind.i64 (↑j:Int)),(83,AVal.int IntKind.i64 (↑i:Int)),(0,dv),(2,AVal.int IntKind.i64 (↑m:Int)),(4,AVal.func (Fn.func g) [] cs),(14,AVal.int IntKind.i64 (↑i:Int)),(15,AVal.int IntKind.i64 (↑j:Int))]) (AHeap.mk (AHeap.next H+10) (H.2)) (Op.convert 108 3 (Operand.tmp 90))=some (AVal.int IntKind.i64 (↑c:Int),(AHeap.mk (AHeap.next H+10) (H.2)))∧bif Nat.ble B (AHeap.next H+10) && true then aindexAddr (AEnv.D env) 22 dv (AVal.int IntKind.i64 (↑m:Int))=some (AVal.ptr (some p))∧aload (AEnv.D env) 36 p (AHeap.mk (AHeap.next H+22) (H.2))=some x∧AAddr.id p<AHeap.next H+10∧aindexAddr (AEnv.D env) 22 dv (AVal.int IntKind.i64 (↑c:Int))=some (AVal.ptr (some q))∧aload (AEnv.D env) 36 q (AHeap.mk (AHeap.next H+22) (H.2))=some y∧AAddr.id q<AHeap.next H+10∧CallT Tryz.prog cnd g (x::y::cs) (AHeap.mk (AHeap.next H+22) (H.2)) (AVal.int IntKind.i64 r) H1∧some (AVal.bool (decide (r<0)))=some (AVal.bool false)∧bif Nat.ble B (AHeap.next H1) && true then(-9223372036854775808≤(↑c:Int)+1∧(↑c:Int)+1≤9223372036854775807)∧K0 AExit.normal [(0,dv),(2,AVal.int IntKind.i64 (↑m:Int)),(4,AVal.func (Fn.func g) [] cs),(14,AVal.int IntKind.i64 ((↑c:Int)+1)),(15,AVal.int IntKind.i64 (↑j:Int))] (AHeap.mk (AHeap.next H1+3) (AHeap.blks H1))else False else False else False else False) :
    ∃ e F1 h1,Runs Tryz.prog cnd B 220 (loopAt Tryz.prog 161 2) [(0,dv),(2,.int .i64 m),(4,.func (.func g) [] cs),(14,.int .i64 i),(15,.int .i64 j)] H e F1 h1∧K0 e F1 h1 :=
  tpath_runs env_ok mixed noSpecs_ok (hs:= .hint (.val 15002 (AVal.bool true)) (.hint (.go 16002) (.hint (.go 16003) (.hint (.go 16004) (.hint (.val 16005 (AVal.int IntKind.i64 (↑c:Int))) (.hint (.val 17003 (AVal.ptr (some p))) (.hint (.farV 17004 x) (.hint (.val 17007 (AVal.ptr (some q))) (.hint (.farV 17008 y) (.hint (.act 17009 (AVal.int IntKind.i64 r) fun x=>H1) (.hint (.val 17010 (AVal.bool false)) (.hint (.go 18001) .nil)))))))))))) (keep:= [0,2,4,14,15]) (by kernel_rfl) vc
theorem s2E_vp(H:AHeap)(B m i j:Nat)(dv cv:AVal)(K0:AExit→Facts→AHeap→Prop)(vc:bif Nat.ble B (AHeap.next H) && true then some (AVal.bool (decide ((↑i:Int)<(↑j:Int))))=some (AVal.bool false)∧K0 (AExit.exit 4) [(0,dv),(2,AVal.int IntKind.i64 (↑m:Int)),(4,cv),(14,AVal.int IntKind.i64 (↑i:Int)),(15,AVal.int IntKind.i64 (↑j:Int))] (AHeap.mk (AHeap.next H+3) (AHeap.blks H))else False) :
    ∃ e F1 h1,Runs Tryz.prog cnd B 220 (loopAt Tryz.prog 161 2) [(0,dv),(2,.int .i64 m),(4,cv),(14,.int .i64 i),(15,.int .i64 j)] H e F1 h1∧K0 e F1 h1 :=
  tpath_runs env_ok mixed noSpecs_ok (hs:= .hint (.val 15002 (AVal.bool false)) .nil) (keep:= [0,2,4,14,15]) (by kernel_rfl) vc
theorem s3S_vp(H H1 H2:AHeap)(B i k:Nat)(dv x y:AVal)(p q:AAddr)(K0:AExit→Facts→AHeap→Prop)(vc:bif Nat.ble B (AHeap.next H) && true then some (AVal.bool (decide ((↑k:Int)>(↑i:Int))))=some (AVal.bool true)∧bif Nat.ble B (AHeap.next H+3) && true then(-9223372036854775808≤(↑k:Int)-1∧(↑k:Int)-1≤9223372036854775807)∧(-9223372036854775808≤(↑k:Int)-1∧(↑k:Int)-1≤9223372036854775807)∧aindexAddr (AEnv.D env) 22 dv (AVal.int IntKind.i64 ((↑k:Int)-1))=some (AVal.ptr (some q))∧aload (AEnv.D env) 36 q (AHeap.mk (AHeap.next H+21) (H.2))=some y∧AAddr.id q<AHeap.next H+3∧aindexAddr (AEnv.D env) 22 dv (AVal.int IntKind.i64 (↑k:Int))=some (AVal.ptr (some p))∧aload (AEnv.D env) 36 p (AHeap.mk (AHeap.next H+21) (H.2))=some x∧AAddr.id p<AHeap.next H+3∧aindexAddr (AEnv.D env) 22 dv (AVal.int IntKind.i64 (↑k:Int))=some (AVal.ptr (some p))∧aop env noCall (AHeap.next H+18) (getF [(127,AVal.ptr (some p)),(126,x),(125,AVal.ptr (some p)),(124,AVal.int IntKind.i64 (↑k:Int)),(123,dv),(122,y),(121,AVal.ptr (some q)),(120,AVal.int IntKind.i64 ((↑k:Int)-1)),(119,AVal.int IntKind.i64 (↑k:Int)),(118,dv),(117,AVal.int IntKind.i64 ((↑k:Int)-1)),(116,AVal.int IntKind.i64 (↑k:Int)),(115,dv),(114,AVal.int IntKind.i64 (↑k:Int)),(113,dv),(110,AVal.bool true),(109,AVal.int IntKind.i64 (↑i:Int)),(108,AVal.int IntKind.i64 (↑k:Int)),(0,dv),(14,AVal.int IntKind.i64 (↑i:Int)),(17,AVal.int IntKind.i64 (↑k:Int))]) (AHeap.mk (AHeap.next H+21) (H.2)) (Op.store 36 (Operand.tmp 127) (Operand.tmp 122))=some (AVal.tuple [],H1)∧aindexAddr (AEnv.D env) 22 dv (AVal.int IntKind.i64 ((↑k:Int)-1))=some (AVal.ptr (some q))∧aop env noCall (AHeap.next H+20) (getF [(128,AVal.ptr (some q)),(127,AVal.ptr (some p)),(126,x),(125,AVal.ptr (some p)),(124,AVal.int IntKind.i64 (↑k:Int)),(123,dv),(122,y),(121,AVal.ptr (some q)),(120,AVal.int IntKind.i64 ((↑k:Int)-1)),(119,AVal.int IntKind.i64 (↑k:Int)),(118,dv),(117,AVal.int IntKind.i64 ((↑k:Int)-1)),(116,AVal.int IntKind.i64 (↑k:Int)),(115,dv),(114,AVal.int IntKind.i64 (↑k:Int)),(113,dv),(110,AVal.bool true),(109,AVal.int IntKind.i64 (↑i:Int)),(108,AVal.int IntKind.i64 (↑k:Int)),(0,dv),(14,AVal.int IntKind.i64 (↑i:Int)),(17,AVal.int IntKind.i64 (↑k:Int))]) H1 (Op.store 36 (Operand.tmp 128) (Operand.tmp 126))=some (AVal.tuple [],H2)∧bif Nat.ble B (AHeap.next H2) && true then(-9223372036854775808≤(↑k:Int)-1∧(↑k:Int)-1≤9223372036854775807)∧K0 AExit.normal [(0,dv),(14,AVal.int IntKind.i64 (↑i:Int)),(17,AVal.int IntKind.i64 ((↑k:Int)-1))] (AHeap.mk (AHeap.next H2+3) (AHeap.blks H2))else False else False else False) :
    ∃ e F1 h1,Runs Tryz.prog cnd B 220 (loopAt Tryz.prog 161 3) [(0,dv),(14,.int .i64 i),(17,.int .i64 k)] H e F1 h1∧K0 e F1 h1 :=
  tpath_runs env_ok mixed noSpecs_ok (hs:= .hint (.val 21002 (AVal.bool true)) (.hint (.go 23004) (.hint (.go 23007) (.hint (.val 23008 (AVal.ptr (some q))) (.hint (.farV 23009 y) (.hint (.val 23012 (AVal.ptr (some p))) (.hint (.farV 23013 x) (.hint (.val 23014 (AVal.ptr (some p))) (.hint (.act 23015 (AVal.tuple []) fun x=>H1) (.hint (.val 23016 (AVal.ptr (some q))) (.hint (.act 23017 (AVal.tuple []) fun x=>H2) (.hint (.go 22001) .nil)))))))))))) (keep:= [0,14,17]) (by kernel_rfl) vc
theorem s3E_vp(H:AHeap)(B i k:Nat)(dv:AVal)(K0:AExit→Facts→AHeap→Prop)(vc:bif Nat.ble B (AHeap.next H) && true then some (AVal.bool (decide ((↑k:Int)>(↑i:Int))))=some (AVal.bool false)∧K0 (AExit.exit 6) [(0,dv),(14,AVal.int IntKind.i64 (↑i:Int)),(17,AVal.int IntKind.i64 (↑k:Int))] (AHeap.mk (AHeap.next H+3) (AHeap.blks H))else False) :
    ∃ e F1 h1,Runs Tryz.prog cnd B 220 (loopAt Tryz.prog 161 3) [(0,dv),(14,.int .i64 i),(17,.int .i64 k)] H e F1 h1∧K0 e F1 h1 :=
  tpath_runs env_ok mixed noSpecs_ok (hs:= .hint (.val 21002 (AVal.bool false)) .nil) (keep:= [0,14,17]) (by kernel_rfl) vc
theorem s4T_vp(H H1:AHeap)(B a m z d n i j w c:Nat)(g:FuncId)(cs:List AVal)(dv x y:AVal)(p q:AAddr)(r:Int)(K0:AExit→Facts→AHeap→Prop)(vc:bif Nat.ble B (AHeap.next H) && true then some (AVal.bool (decide ((↑i:Int)<(↑j:Int))))=some (AVal.bool true)∧bif Nat.ble B (AHeap.next H+3) && true then(-9223372036854775808≤(↑i:Int)+(↑j:Int)∧(↑i:Int)+(↑j:Int)≤9223372036854775807)∧(0≤(↑i:Int)+(↑j:Int)∧(↑i:Int)+(↑j:Int)≤18446744073709551615)∧Int.NonNeg (1-0)∧aop env noCall (AHeap.next H+8) (getF [(156,AVal.int IntKind.u64 (ishr IntKind.u64 ((↑i:Int)+(↑j:Int)) (1))),(155,AVal.int IntKind.u64 ((↑i:Int)+(↑j:Int))),(154,AVal.int IntKind.i64 ((↑i:Int)+(↑j:Int))),(153,AVal.int IntKind.i64 (↑j:Int)),(152,AVal.int IntKind.i64 (↑i:Int)),(151,AVal.bool true),(150,AVal.int IntKind.i64 (↑j:Int)),(149,AVal.int IntKind.i64 (↑i:Int)),(0,dv),(1,AVal.int IntKind.i64 (↑a:Int)),(2,AVal.int IntKind.i64 (↑m:Int)),(3,AVal.int IntKind.i64 (↑z:Int)),(4,AVal.func (Fn.func g) [] cs),(18,AVal.int IntKind.i64 (↑d:Int)),(19,AVal.int IntKind.i64 (↑n:Int)),(20,AVal.int IntKind.i64 (↑i:Int)),(21,AVal.int IntKind.i64 (↑j:Int)),(22,AVal.int IntKind.i64 (↑w:Int))]) (AHeap.mk (AHeap.next H+10) (H.2)) (Op.convert 108 3 (Operand.tmp 156))=some (AVal.int IntKind.i64 (↑c:Int),(AHeap.mk (AHeap.next H+10) (H.2)))∧bif Nat.ble B (AHeap.next H+10) && true then(-9223372036854775808≤(↑w:Int)- (↑c:Int)∧(↑w:Int)- (↑c:Int)≤9223372036854775807)∧aindexAddr (AEnv.D env) 22 dv (AVal.int IntKind.i64 ((↑w:Int)- (↑c:Int)))=some (AVal.ptr (some p))∧aload (AEnv.D env) 36 p (AHeap.mk (AHeap.next H+24) (H.2))=some x∧AAddr.id p<AHeap.next H+10∧aindexAddr (AEnv.D env) 22 dv (AVal.int IntKind.i64 (↑c:Int))=some (AVal.ptr (some q))∧aload (AEnv.D env) 36 q (AHeap.mk (AHeap.next H+24) (H.2))=some y∧AAddr.id q<AHeap.next H+10∧CallT Tryz.prog cnd g (x::y::cs) (AHeap.mk (AHeap.next H+24) (H.2)) (AVal.int IntKind.i64 r) H1∧some (AVal.bool (decide (r<0)))=some (AVal.bool true)∧bif Nat.ble B (AHeap.next H1) && true then K0 AExit.normal [(0,dv),(1,AVal.int IntKind.i64 (↑a:Int)),(2,AVal.int IntKind.i64 (↑m:Int)),(3,AVal.int IntKind.i64 (↑z:Int)),(4,AVal.func (Fn.func g) [] cs),(18,AVal.int IntKind.i64 (↑d:Int)),(19,AVal.int IntKind.i64 (↑n:Int)),(20,AVal.int IntKind.i64 (↑i:Int)),(21,AVal.int IntKind.i64 (↑c:Int)),(22,AVal.int IntKind.i64 (↑w:Int))] (AHeap.mk (AHeap.next H1+2) (AHeap.blks H1))else False else False else False else False) :
    ∃ e F1 h1,Runs Tryz.prog cnd B 220 (loopAt Tryz.prog 161 4) [(0,dv),(1,.int .i64 a),(2,.int .i64 m),(3,.int .i64 z),(4,.func (.func g) [] cs),(18,.int .i64 d),(19,.int .i64 n),(20,.int .i64 i),(21,.int .i64 j),(22,.int .i64 w)] H e F1 h1∧K0 e F1 h1 :=
  tpath_runs env_ok mixed noSpecs_ok (hs:= .hint (.val 33002 (AVal.bool true)) (.hint (.go 34002) (.hint (.go 34003) (.hint (.go 34004) (.hint (.val 34005 (AVal.int IntKind.i64 (↑c:Int))) (.hint (.go 35004) (.hint (.val 35005 (AVal.ptr (some p))) (.hint (.farV 35006 x) (.hint (.val 35009 (AVal.ptr (some q))) (.hint (.farV 35010 y) (.hint (.act 35011 (AVal.int IntKind.i64 r) fun x=>H1) (.hint (.val 35012 (AVal.bool true)) .nil)))))))))))) (keep:= [0,1,2,3,4,18,19,20,21,22]) (by kernel_rfl) vc
theorem s4F_vp(H H1:AHeap)(B a m z d n i j w c:Nat)(g:FuncId)(cs:List AVal)(dv x y:AVal)(p q:AAddr)(r:Int)(K0:AExit→Facts→AHeap→Prop)(vc:bif Nat.ble B (AHeap.next H) && true then some (AVal.bool (decide ((↑i:Int)<(↑j:Int))))=some (AVal.bool true)∧bif Nat.ble B (AHeap.next H+3) && true then(-9223372036854775808≤(↑i:Int)+(↑j:Int)∧(↑i:Int)+(↑j:Int)≤9223372036854775807)∧(0≤(↑i:Int)+(↑j:Int)∧(↑i:Int)+(↑j:Int)≤18446744073709551615)∧Int.NonNeg (1-0)∧aop env noCall (AHeap.next H+8) (getF [(156,AVal.int IntKind.u64 (ishr IntKind.u64 ((↑i:Int)+(↑j:Int)) (1))),(155,AVal.int IntKind.u64 ((↑i:Int)+(↑j:Int))),(154,AVal.int IntKind.i64 ((↑i:Int)+(↑j:Int))),(153,AVal.int IntKind.i64 (↑j:Int)),(152,AVal.int IntKind.i64 (↑i:Int)),(151,AVal.bool true),(150,AVal.int IntKind.i64 (↑j:Int)),(149,AVal.int IntKind.i64 (↑i:Int)),(0,dv),(1,AVal.int IntKind.i64 (↑a:Int)),(2,AVal.int IntKind.i64 (↑m:Int)),(3,AVal.int IntKind.i64 (↑z:Int)),(4,AVal.func (Fn.func g) [] cs),(18,AVal.int IntKind.i64 (↑d:Int)),(19,AVal.int IntKind.i64 (↑n:Int)),(20,AVal.int IntKind.i64 (↑i:Int)),(21,AVal.int IntKind.i64 (↑j:Int)),(22,AVal.int IntKind.i64 (↑w:Int))]) (AHeap.mk (AHeap.next H+10) (H.2)) (Op.convert 108 3 (Operand.tmp 156))=some (AVal.int IntKind.i64 (↑c:Int),(AHeap.mk (AHeap.next H+10) (H.2)))∧bif Nat.ble B (AHeap.next H+10) && true then(-9223372036854775808≤(↑w:Int)- (↑c:Int)∧(↑w:Int)- (↑c:Int)≤9223372036854775807)∧aindexAddr (AEnv.D env) 22 dv (AVal.int IntKind.i64 ((↑w:Int)- (↑c:Int)))=some (AVal.ptr (some p))∧aload (AEnv.D env) 36 p (AHeap.mk (AHeap.next H+24) (H.2))=some x∧AAddr.id p<AHeap.next H+10∧aindexAddr (AEnv.D env) 22 dv (AVal.int IntKind.i64 (↑c:Int))=some (AVal.ptr (some q))∧aload (AEnv.D env) 36 q (AHeap.mk (AHeap.next H+24) (H.2))=some y∧AAddr.id q<AHeap.next H+10∧CallT Tryz.prog cnd g (x::y::cs) (AHeap.mk (AHeap.next H+24) (H.2)) (AVal.int IntKind.i64 r) H1∧some (AVal.bool (decide (r<0)))=some (AVal.bool false)∧bif Nat.ble B (AHeap.next H1) && true then(-9223372036854775808≤(↑c:Int)+1∧(↑c:Int)+1≤9223372036854775807)∧K0 AExit.normal [(0,dv),(1,AVal.int IntKind.i64 (↑a:Int)),(2,AVal.int IntKind.i64 (↑m:Int)),(3,AVal.int IntKind.i64 (↑z:Int)),(4,AVal.func (Fn.func g) [] cs),(18,AVal.int IntKind.i64 (↑d:Int)),(19,AVal.int IntKind.i64 (↑n:Int)),(20,AVal.int IntKind.i64 ((↑c:Int)+1)),(21,AVal.int IntKind.i64 (↑j:Int)),(22,AVal.int IntKind.i64 (↑w:Int))] (AHeap.mk (AHeap.next H1+3) (AHeap.blks H1))else False else False else False else False) :
    ∃ e F1 h1,Runs Tryz.prog cnd B 220 (loopAt Tryz.prog 161 4) [(0,dv),(1,.int .i64 a),(2,.int .i64 m),(3,.int .i64 z),(4,.func (.func g) [] cs),(18,.int .i64 d),(19,.int .i64 n),(20,.int .i64 i),(21,.int .i64 j),(22,.int .i64 w)] H e F1 h1∧K0 e F1 h1 :=
  tpath_runs env_ok mixed noSpecs_ok (hs:= .hint (.val 33002 (AVal.bool true)) (.hint (.go 34002) (.hint (.go 34003) (.hint (.go 34004) (.hint (.val 34005 (AVal.int IntKind.i64 (↑c:Int))) (.hint (.go 35004) (.hint (.val 35005 (AVal.ptr (some p))) (.hint (.farV 35006 x) (.hint (.val 35009 (AVal.ptr (some q))) (.hint (.farV 35010 y) (.hint (.act 35011 (AVal.int IntKind.i64 r) fun x=>H1) (.hint (.val 35012 (AVal.bool false)) (.hint (.go 36001) .nil))))))))))))) (keep:= [0,1,2,3,4,18,19,20,21,22]) (by kernel_rfl) vc
theorem s4E_vp(H:AHeap)(B a m z d n i j w:Nat)(dv cv:AVal)(K0:AExit→Facts→AHeap→Prop)(vc:bif Nat.ble B (AHeap.next H) && true then some (AVal.bool (decide ((↑i:Int)<(↑j:Int))))=some (AVal.bool false)∧K0 (AExit.exit 8) [(0,dv),(1,AVal.int IntKind.i64 (↑a:Int)),(2,AVal.int IntKind.i64 (↑m:Int)),(3,AVal.int IntKind.i64 (↑z:Int)),(4,cv),(18,AVal.int IntKind.i64 (↑d:Int)),(19,AVal.int IntKind.i64 (↑n:Int)),(20,AVal.int IntKind.i64 (↑i:Int)),(21,AVal.int IntKind.i64 (↑j:Int)),(22,AVal.int IntKind.i64 (↑w:Int))] (AHeap.mk (AHeap.next H+3) (AHeap.blks H))else False) :
    ∃ e F1 h1,Runs Tryz.prog cnd B 220 (loopAt Tryz.prog 161 4) [(0,dv),(1,.int .i64 a),(2,.int .i64 m),(3,.int .i64 z),(4,cv),(18,.int .i64 d),(19,.int .i64 n),(20,.int .i64 i),(21,.int .i64 j),(22,.int .i64 w)] H e F1 h1∧K0 e F1 h1 :=
  tpath_runs env_ok mixed noSpecs_ok (hs:= .hint (.val 33002 (AVal.bool false)) .nil) (keep:= [0,1,2,3,4,18,19,20,21,22]) (by kernel_rfl) vc
theorem smO_vc(H H1 H2:AHeap)(a m z i:Nat)(dv cv:AVal)(K0:AVal→AHeap→Prop)(vc:bif Nat.ble (AHeap.next H) (AHeap.next H) && true then(-9223372036854775808≤(↑m:Int)- (↑a:Int)∧(↑m:Int)- (↑a:Int)≤9223372036854775807)∧some (AVal.bool ((↑m:Int)- (↑a:Int) == 1))=some (AVal.bool true)∧bif Nat.ble (AHeap.next H) (AHeap.next H+4) && true then bif Nat.ble (AHeap.next H) (AHeap.next H+6) && true then Runs Tryz.prog cnd (AHeap.next H) 220 (Code.loop (loopAt Tryz.prog 161 0)) [(0,dv),(1,AVal.int IntKind.i64 (↑a:Int)),(4,cv),(10,AVal.int IntKind.i64 (↑m:Int)),(11,AVal.int IntKind.i64 (↑z:Int))] (AHeap.mk (AHeap.next H+6+2) (AHeap.blks (AHeap.mk (AHeap.next H+4+2) (AHeap.blks (AHeap.mk (AHeap.next H+4) (AHeap.blks H)))))) (AExit.exit 0) [(0,dv),(1,AVal.int IntKind.i64 (↑a:Int)),(10,AVal.int IntKind.i64 (↑i:Int))] H1∧bif Nat.ble (AHeap.next H) (AHeap.next H1) && true then Runs Tryz.prog cnd (AHeap.next H) 220 (Code.loop (loopAt Tryz.prog 161 1)) [(0,dv),(10,AVal.int IntKind.i64 (↑i:Int)),(13,AVal.int IntKind.i64 (↑a:Int))] (AHeap.mk (AHeap.next H1+2) (AHeap.blks H1)) (AExit.exit 2) [] H2∧bif Nat.ble (AHeap.next H) (AHeap.next H2)then K0 (AVal.tuple []) H2 else False else False else False else False else False) :
    ∃ v h1,FDoes Tryz.prog cnd 161 [dv,.int .i64 a,.int .i64 m,.int .i64 z,cv] H v h1∧K0 v h1 :=
  tcall_does env_ok mixed noSpecs_ok (hs:= .hint (.go 2) (.hint (.val 3 (AVal.bool true)) (.hint (.keep [0,1,4,10,11]) (.hint (.loop [(0,dv),(1,AVal.int IntKind.i64 (↑a:Int)),(10,AVal.int IntKind.i64 (↑i:Int))] H1 (AExit.exit 0)) (.hint (.keep [0,10,13]) (.hint (.loop [] H2 (AExit.exit 2)) .nil)))))) (by kernel_rfl) vc
theorem smL_vc(H H1 H2:AHeap)(a m z i:Nat)(dv cv:AVal)(K0:AVal→AHeap→Prop)(vc:bif Nat.ble (AHeap.next H) (AHeap.next H) && true then(-9223372036854775808≤(↑m:Int)- (↑a:Int)∧(↑m:Int)- (↑a:Int)≤9223372036854775807)∧some (AVal.bool ((↑m:Int)- (↑a:Int) == 1))=some (AVal.bool false)∧bif Nat.ble (AHeap.next H) (AHeap.next H+4) && true then(-9223372036854775808≤(↑z:Int)- (↑m:Int)∧(↑z:Int)- (↑m:Int)≤9223372036854775807)∧some (AVal.bool ((↑z:Int)- (↑m:Int) == 1))=some (AVal.bool true)∧bif Nat.ble (AHeap.next H) (AHeap.next H+8) && true then bif Nat.ble (AHeap.next H) (AHeap.next H+10) && true then Runs Tryz.prog cnd (AHeap.next H) 220 (Code.loop (loopAt Tryz.prog 161 2)) [(0,dv),(2,AVal.int IntKind.i64 (↑m:Int)),(4,cv),(14,AVal.int IntKind.i64 (↑a:Int)),(15,AVal.int IntKind.i64 (↑m:Int))] (AHeap.mk (AHeap.next H+10+2) (AHeap.blks (AHeap.mk (AHeap.next H+8+2) (AHeap.blks (AHeap.mk (AHeap.next H+4+4) (AHeap.blks (AHeap.mk (AHeap.next H+4) (AHeap.blks H)))))))) (AExit.exit 4) [(0,dv),(2,AVal.int IntKind.i64 (↑m:Int)),(14,AVal.int IntKind.i64 (↑i:Int))] H1∧bif Nat.ble (AHeap.next H) (AHeap.next H1) && true then Runs Tryz.prog cnd (AHeap.next H) 220 (Code.loop (loopAt Tryz.prog 161 3)) [(0,dv),(14,AVal.int IntKind.i64 (↑i:Int)),(17,AVal.int IntKind.i64 (↑m:Int))] (AHeap.mk (AHeap.next H1+2) (AHeap.blks H1)) (AExit.exit 6) [] H2∧bif Nat.ble (AHeap.next H) (AHeap.next H2)then K0 (AVal.tuple []) H2 else False else False else False else False else False else False) :
    ∃ v h1,FDoes Tryz.prog cnd 161 [dv,.int .i64 a,.int .i64 m,.int .i64 z,cv] H v h1∧K0 v h1 :=
  tcall_does env_ok mixed noSpecs_ok (hs:= .hint (.go 2) (.hint (.val 3 (AVal.bool false)) (.hint (.go 12002) (.hint (.val 12003 (AVal.bool true)) (.hint (.keep [0,2,4,14,15]) (.hint (.loop [(0,dv),(2,AVal.int IntKind.i64 (↑m:Int)),(14,AVal.int IntKind.i64 (↑i:Int))] H1 (AExit.exit 4)) (.hint (.keep [0,14,17]) (.hint (.loop [] H2 (AExit.exit 6)) .nil)))))))) (by kernel_rfl) vc
theorem smA_vc(H H1 H2 H3 H4:AHeap)(a m z d n s w i k:Nat)(dv cv:AVal)(K0:AVal→AHeap→Prop)(vc:bif Nat.ble (AHeap.next H) (AHeap.next H) && true then(-9223372036854775808≤(↑m:Int)- (↑a:Int)∧(↑m:Int)- (↑a:Int)≤9223372036854775807)∧some (AVal.bool ((↑m:Int)- (↑a:Int) == 1))=some (AVal.bool false)∧bif Nat.ble (AHeap.next H) (AHeap.next H+4) && true then(-9223372036854775808≤(↑z:Int)- (↑m:Int)∧(↑z:Int)- (↑m:Int)≤9223372036854775807)∧some (AVal.bool ((↑z:Int)- (↑m:Int) == 1))=some (AVal.bool false)∧bif Nat.ble (AHeap.next H) (AHeap.next H+8) && true then(-9223372036854775808≤(↑a:Int)+(↑z:Int)∧(↑a:Int)+(↑z:Int)≤9223372036854775807)∧(0≤(↑a:Int)+(↑z:Int)∧(↑a:Int)+(↑z:Int)≤18446744073709551615)∧Int.NonNeg (1-0)∧aop env noCall (AHeap.next H+13) (getF [(133,AVal.int IntKind.u64 (ishr IntKind.u64 ((↑a:Int)+(↑z:Int)) (1))),(132,AVal.int IntKind.u64 ((↑a:Int)+(↑z:Int))),(131,AVal.int IntKind.i64 ((↑a:Int)+(↑z:Int))),(130,AVal.int IntKind.i64 (↑z:Int)),(129,AVal.int IntKind.i64 (↑a:Int)),(80,AVal.bool false),(79,AVal.int IntKind.i64 ((↑z:Int)- (↑m:Int))),(78,AVal.int IntKind.i64 (↑m:Int)),(77,AVal.int IntKind.i64 (↑z:Int)),(28,AVal.bool false),(27,AVal.int IntKind.i64 ((↑m:Int)- (↑a:Int))),(26,AVal.int IntKind.i64 (↑a:Int)),(25,AVal.int IntKind.i64 (↑m:Int)),(0,dv),(1,AVal.int IntKind.i64 (↑a:Int)),(2,AVal.int IntKind.i64 (↑m:Int)),(3,AVal.int IntKind.i64 (↑z:Int)),(4,cv)]) (AHeap.mk (AHeap.next H+15) (H.2)) (Op.convert 108 3 (Operand.tmp 133))=some (AVal.int IntKind.i64 (↑d:Int),(AHeap.mk (AHeap.next H+15) (H.2)))∧bif Nat.ble (AHeap.next H) (AHeap.next H+15) && true then some (AVal.int IntKind.i64 (IntKind.wrap IntKind.i64 ((↑d:Int)+(↑m:Int))))=some (AVal.int IntKind.i64 (↑n:Int))∧bif Nat.ble (AHeap.next H) (AHeap.next H+19) && true then bif Nat.ble (AHeap.next H) (AHeap.next H+21) && true then some (AVal.bool (decide ((↑m:Int)>(↑d:Int))))=some (AVal.bool true)∧bif Nat.ble (AHeap.next H) (AHeap.next H+24) && true then some (AVal.int IntKind.i64 (IntKind.wrap IntKind.i64 ((↑n:Int)- (↑z:Int))))=some (AVal.int IntKind.i64 (↑s:Int))∧bif Nat.ble (AHeap.next H) (AHeap.next H+28) && true then bif Nat.ble (AHeap.next H) (AHeap.next H+30) && true then some (AVal.int IntKind.i64 (IntKind.wrap IntKind.i64 ((↑n:Int)-1)))=some (AVal.int IntKind.i64 (↑w:Int))∧Runs Tryz.prog cnd (AHeap.next H) 220 (Code.loop (loopAt Tryz.prog 161 4)) [(0,dv),(1,AVal.int IntKind.i64 (↑a:Int)),(2,AVal.int IntKind.i64 (↑m:Int)),(3,AVal.int IntKind.i64 (↑z:Int)),(4,cv),(18,AVal.int IntKind.i64 (↑d:Int)),(19,AVal.int IntKind.i64 (↑n:Int)),(20,AVal.int IntKind.i64 (↑s:Int)),(21,AVal.int IntKind.i64 (↑d:Int)),(22,AVal.int IntKind.i64 (↑w:Int))] (AHeap.mk (AHeap.next H+30+3) (AHeap.blks (AHeap.mk (AHeap.next H+28+2) (AHeap.blks (AHeap.mk (AHeap.next H+24+4) (AHeap.blks (AHeap.mk (AHeap.next H+21+3) (AHeap.blks (AHeap.mk (AHeap.next H+19+2) (AHeap.blks (AHeap.mk (AHeap.next H+15+4) (AHeap.blks (AHeap.mk (AHeap.next H+8+7) (AHeap.blks (AHeap.mk (AHeap.next H+4+4) (AHeap.blks (AHeap.mk (AHeap.next H+4) (AHeap.blks H)))))))))))))))))) (AExit.exit 8) [(0,dv),(1,AVal.int IntKind.i64 (↑a:Int)),(2,AVal.int IntKind.i64 (↑m:Int)),(3,AVal.int IntKind.i64 (↑z:Int)),(4,cv),(18,AVal.int IntKind.i64 (↑d:Int)),(19,AVal.int IntKind.i64 (↑n:Int)),(20,AVal.int IntKind.i64 (↑i:Int))] H1∧bif Nat.ble (AHeap.next H) (AHeap.next H1) && true then some (AVal.int IntKind.i64 (IntKind.wrap IntKind.i64 ((↑n:Int)- (↑i:Int))))=some (AVal.int IntKind.i64 (↑k:Int))∧bif Nat.ble (AHeap.next H) (AHeap.next H1+4) && true then some (AVal.bool (decide ((↑i:Int)<(↑m:Int))))=some (AVal.bool true)∧some (AVal.bool (decide ((↑m:Int)<(↑k:Int))))=some (AVal.bool false)∧bif Nat.ble (AHeap.next H) (AHeap.next H1+12) && true then some (AVal.bool (decide ((↑a:Int)<(↑i:Int))))=some (AVal.bool true)∧some (AVal.bool (decide ((↑i:Int)<(↑d:Int))))=some (AVal.bool false)∧bif Nat.ble (AHeap.next H) (AHeap.next H1+20) && true then some (AVal.bool (decide ((↑d:Int)<(↑k:Int))))=some (AVal.bool true)∧some (AVal.bool (decide ((↑k:Int)<(↑z:Int))))=some (AVal.bool true)∧bif Nat.ble (AHeap.next H) (AHeap.next H1+28) && true then CallT Tryz.prog cnd 161 [dv,AVal.int IntKind.i64 (↑d:Int),AVal.int IntKind.i64 (↑k:Int),AVal.int IntKind.i64 (↑z:Int),cv] (AHeap.mk (AHeap.next H1+34) (H1.2)) (AVal.tuple []) H4∧bif Nat.ble (AHeap.next H) (AHeap.next H4)then K0 (AVal.tuple []) H4 else False else False else False else False else False else False else False else False else False else False else False else False else False else False else False) :
    ∃ v h1,FDoes Tryz.prog cnd 161 [dv,.int .i64 a,.int .i64 m,.int .i64 z,cv] H v h1∧K0 v h1 :=
  tcall_does env_ok mixed noSpecs_ok (hs:= .hint (.go 2) (.hint (.val 3 (AVal.bool false)) (.hint (.go 12002) (.hint (.val 12003 (AVal.bool false)) (.hint (.go 24002) (.hint (.go 24003) (.hint (.go 24004) (.hint (.val 24005 (AVal.int IntKind.i64 (↑d:Int))) (.hint (.val 25002 (AVal.int IntKind.i64 (↑n:Int))) (.hint (.val 27002 (AVal.bool true)) (.hint (.val 28002 (AVal.int IntKind.i64 (↑s:Int))) (.hint (.val 32001 (AVal.int IntKind.i64 (↑w:Int))) (.hint (.keep [0,1,2,3,4,18,19,20,21,22]) (.hint (.loop [(0,dv),(1,AVal.int IntKind.i64 (↑a:Int)),(2,AVal.int IntKind.i64 (↑m:Int)),(3,AVal.int IntKind.i64 (↑z:Int)),(4,cv),(18,AVal.int IntKind.i64 (↑d:Int)),(19,AVal.int IntKind.i64 (↑n:Int)),(20,AVal.int IntKind.i64 (↑i:Int))] H1 (AExit.exit 8)) (.hint (.val 38002 (AVal.int IntKind.i64 (↑k:Int))) (.hint (.val 39002 (AVal.bool true)) (.hint (.val 39006 (AVal.bool false)) (.hint (.val 41002 (AVal.bool true)) (.hint (.val 41006 (AVal.bool false)) (.hint (.val 43002 (AVal.bool true)) (.hint (.val 43006 (AVal.bool true)) (.hint (.act 44005 (AVal.tuple []) fun x=>H4) .nil)))))))))))))))))))))) (by kernel_rfl) vc
theorem smB_vc(H H1 H2 H3 H4:AHeap)(a m z d n s w i k:Nat)(dv cv:AVal)(K0:AVal→AHeap→Prop)(vc:bif Nat.ble (AHeap.next H) (AHeap.next H) && true then(-9223372036854775808≤(↑m:Int)- (↑a:Int)∧(↑m:Int)- (↑a:Int)≤9223372036854775807)∧some (AVal.bool ((↑m:Int)- (↑a:Int) == 1))=some (AVal.bool false)∧bif Nat.ble (AHeap.next H) (AHeap.next H+4) && true then(-9223372036854775808≤(↑z:Int)- (↑m:Int)∧(↑z:Int)- (↑m:Int)≤9223372036854775807)∧some (AVal.bool ((↑z:Int)- (↑m:Int) == 1))=some (AVal.bool false)∧bif Nat.ble (AHeap.next H) (AHeap.next H+8) && true then(-9223372036854775808≤(↑a:Int)+(↑z:Int)∧(↑a:Int)+(↑z:Int)≤9223372036854775807)∧(0≤(↑a:Int)+(↑z:Int)∧(↑a:Int)+(↑z:Int)≤18446744073709551615)∧Int.NonNeg (1-0)∧aop env noCall (AHeap.next H+13) (getF [(133,AVal.int IntKind.u64 (ishr IntKind.u64 ((↑a:Int)+(↑z:Int)) (1))),(132,AVal.int IntKind.u64 ((↑a:Int)+(↑z:Int))),(131,AVal.int IntKind.i64 ((↑a:Int)+(↑z:Int))),(130,AVal.int IntKind.i64 (↑z:Int)),(129,AVal.int IntKind.i64 (↑a:Int)),(80,AVal.bool false),(79,AVal.int IntKind.i64 ((↑z:Int)- (↑m:Int))),(78,AVal.int IntKind.i64 (↑m:Int)),(77,AVal.int IntKind.i64 (↑z:Int)),(28,AVal.bool false),(27,AVal.int IntKind.i64 ((↑m:Int)- (↑a:Int))),(26,AVal.int IntKind.i64 (↑a:Int)),(25,AVal.int IntKind.i64 (↑m:Int)),(0,dv),(1,AVal.int IntKind.i64 (↑a:Int)),(2,AVal.int IntKind.i64 (↑m:Int)),(3,AVal.int IntKind.i64 (↑z:Int)),(4,cv)]) (AHeap.mk (AHeap.next H+15) (H.2)) (Op.convert 108 3 (Operand.tmp 133))=some (AVal.int IntKind.i64 (↑d:Int),(AHeap.mk (AHeap.next H+15) (H.2)))∧bif Nat.ble (AHeap.next H) (AHeap.next H+15) && true then some (AVal.int IntKind.i64 (IntKind.wrap IntKind.i64 ((↑d:Int)+(↑m:Int))))=some (AVal.int IntKind.i64 (↑n:Int))∧bif Nat.ble (AHeap.next H) (AHeap.next H+19) && true then bif Nat.ble (AHeap.next H) (AHeap.next H+21) && true then some (AVal.bool (decide ((↑m:Int)>(↑d:Int))))=some (AVal.bool true)∧bif Nat.ble (AHeap.next H) (AHeap.next H+24) && true then some (AVal.int IntKind.i64 (IntKind.wrap IntKind.i64 ((↑n:Int)- (↑z:Int))))=some (AVal.int IntKind.i64 (↑s:Int))∧bif Nat.ble (AHeap.next H) (AHeap.next H+28) && true then bif Nat.ble (AHeap.next H) (AHeap.next H+30) && true then some (AVal.int IntKind.i64 (IntKind.wrap IntKind.i64 ((↑n:Int)-1)))=some (AVal.int IntKind.i64 (↑w:Int))∧Runs Tryz.prog cnd (AHeap.next H) 220 (Code.loop (loopAt Tryz.prog 161 4)) [(0,dv),(1,AVal.int IntKind.i64 (↑a:Int)),(2,AVal.int IntKind.i64 (↑m:Int)),(3,AVal.int IntKind.i64 (↑z:Int)),(4,cv),(18,AVal.int IntKind.i64 (↑d:Int)),(19,AVal.int IntKind.i64 (↑n:Int)),(20,AVal.int IntKind.i64 (↑s:Int)),(21,AVal.int IntKind.i64 (↑d:Int)),(22,AVal.int IntKind.i64 (↑w:Int))] (AHeap.mk (AHeap.next H+30+3) (AHeap.blks (AHeap.mk (AHeap.next H+28+2) (AHeap.blks (AHeap.mk (AHeap.next H+24+4) (AHeap.blks (AHeap.mk (AHeap.next H+21+3) (AHeap.blks (AHeap.mk (AHeap.next H+19+2) (AHeap.blks (AHeap.mk (AHeap.next H+15+4) (AHeap.blks (AHeap.mk (AHeap.next H+8+7) (AHeap.blks (AHeap.mk (AHeap.next H+4+4) (AHeap.blks (AHeap.mk (AHeap.next H+4) (AHeap.blks H)))))))))))))))))) (AExit.exit 8) [(0,dv),(1,AVal.int IntKind.i64 (↑a:Int)),(2,AVal.int IntKind.i64 (↑m:Int)),(3,AVal.int IntKind.i64 (↑z:Int)),(4,cv),(18,AVal.int IntKind.i64 (↑d:Int)),(19,AVal.int IntKind.i64 (↑n:Int)),(20,AVal.int IntKind.i64 (↑i:Int))] H1∧bif Nat.ble (AHeap.next H) (AHeap.next H1) && true then some (AVal.int IntKind.i64 (IntKind.wrap IntKind.i64 ((↑n:Int)- (↑i:Int))))=some (AVal.int IntKind.i64 (↑k:Int))∧bif Nat.ble (AHeap.next H) (AHeap.next H1+4) && true then some (AVal.bool (decide ((↑i:Int)<(↑m:Int))))=some (AVal.bool true)∧some (AVal.bool (decide ((↑m:Int)<(↑k:Int))))=some (AVal.bool true)∧bif Nat.ble (AHeap.next H) (AHeap.next H1+12) && true then CallT Tryz.prog cnd 195 [dv,AVal.int IntKind.i64 (↑i:Int),AVal.int IntKind.i64 (↑m:Int),AVal.int IntKind.i64 (↑k:Int),cv] (AHeap.mk (AHeap.next H1+18) (H1.2)) (AVal.tuple []) H2∧bif Nat.ble (AHeap.next H) (AHeap.next H2) && true then some (AVal.bool (decide ((↑a:Int)<(↑i:Int))))=some (AVal.bool true)∧some (AVal.bool (decide ((↑i:Int)<(↑d:Int))))=some (AVal.bool true)∧bif Nat.ble (AHeap.next H) (AHeap.next H2+8) && true then CallT Tryz.prog cnd 161 [dv,AVal.int IntKind.i64 (↑a:Int),AVal.int IntKind.i64 (↑i:Int),AVal.int IntKind.i64 (↑d:Int),cv] (AHeap.mk (AHeap.next H2+14) (H2.2)) (AVal.tuple []) H3∧bif Nat.ble (AHeap.next H) (AHeap.next H3) && true then some (AVal.bool (decide ((↑d:Int)<(↑k:Int))))=some (AVal.bool true)∧some (AVal.bool (decide ((↑k:Int)<(↑z:Int))))=some (AVal.bool true)∧bif Nat.ble (AHeap.next H) (AHeap.next H3+8) && true then CallT Tryz.prog cnd 161 [dv,AVal.int IntKind.i64 (↑d:Int),AVal.int IntKind.i64 (↑k:Int),AVal.int IntKind.i64 (↑z:Int),cv] (AHeap.mk (AHeap.next H3+14) (H3.2)) (AVal.tuple []) H4∧bif Nat.ble (AHeap.next H) (AHeap.next H4)then K0 (AVal.tuple []) H4 else False else False else False else False else False else False else False else False else False else False else False else False else False else False else False else False else False) :
    ∃ v h1,FDoes Tryz.prog cnd 161 [dv,.int .i64 a,.int .i64 m,.int .i64 z,cv] H v h1∧K0 v h1 :=
  tcall_does env_ok mixed noSpecs_ok (hs:= .hint (.go 2) (.hint (.val 3 (AVal.bool false)) (.hint (.go 12002) (.hint (.val 12003 (AVal.bool false)) (.hint (.go 24002) (.hint (.go 24003) (.hint (.go 24004) (.hint (.val 24005 (AVal.int IntKind.i64 (↑d:Int))) (.hint (.val 25002 (AVal.int IntKind.i64 (↑n:Int))) (.hint (.val 27002 (AVal.bool true)) (.hint (.val 28002 (AVal.int IntKind.i64 (↑s:Int))) (.hint (.val 32001 (AVal.int IntKind.i64 (↑w:Int))) (.hint (.keep [0,1,2,3,4,18,19,20,21,22]) (.hint (.loop [(0,dv),(1,AVal.int IntKind.i64 (↑a:Int)),(2,AVal.int IntKind.i64 (↑m:Int)),(3,AVal.int IntKind.i64 (↑z:Int)),(4,cv),(18,AVal.int IntKind.i64 (↑d:Int)),(19,AVal.int IntKind.i64 (↑n:Int)),(20,AVal.int IntKind.i64 (↑i:Int))] H1 (AExit.exit 8)) (.hint (.val 38002 (AVal.int IntKind.i64 (↑k:Int))) (.hint (.val 39002 (AVal.bool true)) (.hint (.val 39006 (AVal.bool true)) (.hint (.act 40005 (AVal.tuple []) fun x=>H2) (.hint (.val 41002 (AVal.bool true)) (.hint (.val 41006 (AVal.bool true)) (.hint (.act 42005 (AVal.tuple []) fun x=>H3) (.hint (.val 43002 (AVal.bool true)) (.hint (.val 43006 (AVal.bool true)) (.hint (.act 44005 (AVal.tuple []) fun x=>H4) .nil)))))))))))))))))))))))) (by kernel_rfl) vc
theorem smC_vc(H H1 H2 H3 H4:AHeap)(a m z d n s w i k:Nat)(dv cv:AVal)(K0:AVal→AHeap→Prop)(vc:bif Nat.ble (AHeap.next H) (AHeap.next H) && true then(-9223372036854775808≤(↑m:Int)- (↑a:Int)∧(↑m:Int)- (↑a:Int)≤9223372036854775807)∧some (AVal.bool ((↑m:Int)- (↑a:Int) == 1))=some (AVal.bool false)∧bif Nat.ble (AHeap.next H) (AHeap.next H+4) && true then(-9223372036854775808≤(↑z:Int)- (↑m:Int)∧(↑z:Int)- (↑m:Int)≤9223372036854775807)∧some (AVal.bool ((↑z:Int)- (↑m:Int) == 1))=some (AVal.bool false)∧bif Nat.ble (AHeap.next H) (AHeap.next H+8) && true then(-9223372036854775808≤(↑a:Int)+(↑z:Int)∧(↑a:Int)+(↑z:Int)≤9223372036854775807)∧(0≤(↑a:Int)+(↑z:Int)∧(↑a:Int)+(↑z:Int)≤18446744073709551615)∧Int.NonNeg (1-0)∧aop env noCall (AHeap.next H+13) (getF [(133,AVal.int IntKind.u64 (ishr IntKind.u64 ((↑a:Int)+(↑z:Int)) (1))),(132,AVal.int IntKind.u64 ((↑a:Int)+(↑z:Int))),(131,AVal.int IntKind.i64 ((↑a:Int)+(↑z:Int))),(130,AVal.int IntKind.i64 (↑z:Int)),(129,AVal.int IntKind.i64 (↑a:Int)),(80,AVal.bool false),(79,AVal.int IntKind.i64 ((↑z:Int)- (↑m:Int))),(78,AVal.int IntKind.i64 (↑m:Int)),(77,AVal.int IntKind.i64 (↑z:Int)),(28,AVal.bool false),(27,AVal.int IntKind.i64 ((↑m:Int)- (↑a:Int))),(26,AVal.int IntKind.i64 (↑a:Int)),(25,AVal.int IntKind.i64 (↑m:Int)),(0,dv),(1,AVal.int IntKind.i64 (↑a:Int)),(2,AVal.int IntKind.i64 (↑m:Int)),(3,AVal.int IntKind.i64 (↑z:Int)),(4,cv)]) (AHeap.mk (AHeap.next H+15) (H.2)) (Op.convert 108 3 (Operand.tmp 133))=some (AVal.int IntKind.i64 (↑d:Int),(AHeap.mk (AHeap.next H+15) (H.2)))∧bif Nat.ble (AHeap.next H) (AHeap.next H+15) && true then some (AVal.int IntKind.i64 (IntKind.wrap IntKind.i64 ((↑d:Int)+(↑m:Int))))=some (AVal.int IntKind.i64 (↑n:Int))∧bif Nat.ble (AHeap.next H) (AHeap.next H+19) && true then bif Nat.ble (AHeap.next H) (AHeap.next H+21) && true then some (AVal.bool (decide ((↑m:Int)>(↑d:Int))))=some (AVal.bool true)∧bif Nat.ble (AHeap.next H) (AHeap.next H+24) && true then some (AVal.int IntKind.i64 (IntKind.wrap IntKind.i64 ((↑n:Int)- (↑z:Int))))=some (AVal.int IntKind.i64 (↑s:Int))∧bif Nat.ble (AHeap.next H) (AHeap.next H+28) && true then bif Nat.ble (AHeap.next H) (AHeap.next H+30) && true then some (AVal.int IntKind.i64 (IntKind.wrap IntKind.i64 ((↑n:Int)-1)))=some (AVal.int IntKind.i64 (↑w:Int))∧Runs Tryz.prog cnd (AHeap.next H) 220 (Code.loop (loopAt Tryz.prog 161 4)) [(0,dv),(1,AVal.int IntKind.i64 (↑a:Int)),(2,AVal.int IntKind.i64 (↑m:Int)),(3,AVal.int IntKind.i64 (↑z:Int)),(4,cv),(18,AVal.int IntKind.i64 (↑d:Int)),(19,AVal.int IntKind.i64 (↑n:Int)),(20,AVal.int IntKind.i64 (↑s:Int)),(21,AVal.int IntKind.i64 (↑d:Int)),(22,AVal.int IntKind.i64 (↑w:Int))] (AHeap.mk (AHeap.next H+30+3) (AHeap.blks (AHeap.mk (AHeap.next H+28+2) (AHeap.blks (AHeap.mk (AHeap.next H+24+4) (AHeap.blks (AHeap.mk (AHeap.next H+21+3) (AHeap.blks (AHeap.mk (AHeap.next H+19+2) (AHeap.blks (AHeap.mk (AHeap.next H+15+4) (AHeap.blks (AHeap.mk (AHeap.next H+8+7) (AHeap.blks (AHeap.mk (AHeap.next H+4+4) (AHeap.blks (AHeap.mk (AHeap.next H+4) (AHeap.blks H)))))))))))))))))) (AExit.exit 8) [(0,dv),(1,AVal.int IntKind.i64 (↑a:Int)),(2,AVal.int IntKind.i64 (↑m:Int)),(3,AVal.int IntKind.i64 (↑z:Int)),(4,cv),(18,AVal.int IntKind.i64 (↑d:Int)),(19,AVal.int IntKind.i64 (↑n:Int)),(20,AVal.int IntKind.i64 (↑i:Int))] H1∧bif Nat.ble (AHeap.next H) (AHeap.next H1) && true then some (AVal.int IntKind.i64 (IntKind.wrap IntKind.i64 ((↑n:Int)- (↑i:Int))))=some (AVal.int IntKind.i64 (↑k:Int))∧bif Nat.ble (AHeap.next H) (AHeap.next H1+4) && true then some (AVal.bool (decide ((↑i:Int)<(↑m:Int))))=some (AVal.bool true)∧some (AVal.bool (decide ((↑m:Int)<(↑k:Int))))=some (AVal.bool true)∧bif Nat.ble (AHeap.next H) (AHeap.next H1+12) && true then CallT Tryz.prog cnd 195 [dv,AVal.int IntKind.i64 (↑i:Int),AVal.int IntKind.i64 (↑m:Int),AVal.int IntKind.i64 (↑k:Int),cv] (AHeap.mk (AHeap.next H1+18) (H1.2)) (AVal.tuple []) H2∧bif Nat.ble (AHeap.next H) (AHeap.next H2) && true then some (AVal.bool (decide ((↑a:Int)<(↑i:Int))))=some (AVal.bool true)∧some (AVal.bool (decide ((↑i:Int)<(↑d:Int))))=some (AVal.bool true)∧bif Nat.ble (AHeap.next H) (AHeap.next H2+8) && true then CallT Tryz.prog cnd 161 [dv,AVal.int IntKind.i64 (↑a:Int),AVal.int IntKind.i64 (↑i:Int),AVal.int IntKind.i64 (↑d:Int),cv] (AHeap.mk (AHeap.next H2+14) (H2.2)) (AVal.tuple []) H3∧bif Nat.ble (AHeap.next H) (AHeap.next H3) && true then some (AVal.bool (decide ((↑d:Int)<(↑k:Int))))=some (AVal.bool true)∧some (AVal.bool (decide ((↑k:Int)<(↑z:Int))))=some (AVal.bool false)∧bif Nat.ble (AHeap.next H) (AHeap.next H3+8)then K0 (AVal.tuple []) (AHeap.mk (AHeap.next H3+8) (AHeap.blks H3))else False else False else False else False else False else False else False else False else False else False else False else False else False else False else False else False) :
    ∃ v h1,FDoes Tryz.prog cnd 161 [dv,.int .i64 a,.int .i64 m,.int .i64 z,cv] H v h1∧K0 v h1 :=
  tcall_does env_ok mixed noSpecs_ok (hs:= .hint (.go 2) (.hint (.val 3 (AVal.bool false)) (.hint (.go 12002) (.hint (.val 12003 (AVal.bool false)) (.hint (.go 24002) (.hint (.go 24003) (.hint (.go 24004) (.hint (.val 24005 (AVal.int IntKind.i64 (↑d:Int))) (.hint (.val 25002 (AVal.int IntKind.i64 (↑n:Int))) (.hint (.val 27002 (AVal.bool true)) (.hint (.val 28002 (AVal.int IntKind.i64 (↑s:Int))) (.hint (.val 32001 (AVal.int IntKind.i64 (↑w:Int))) (.hint (.keep [0,1,2,3,4,18,19,20,21,22]) (.hint (.loop [(0,dv),(1,AVal.int IntKind.i64 (↑a:Int)),(2,AVal.int IntKind.i64 (↑m:Int)),(3,AVal.int IntKind.i64 (↑z:Int)),(4,cv),(18,AVal.int IntKind.i64 (↑d:Int)),(19,AVal.int IntKind.i64 (↑n:Int)),(20,AVal.int IntKind.i64 (↑i:Int))] H1 (AExit.exit 8)) (.hint (.val 38002 (AVal.int IntKind.i64 (↑k:Int))) (.hint (.val 39002 (AVal.bool true)) (.hint (.val 39006 (AVal.bool true)) (.hint (.act 40005 (AVal.tuple []) fun x=>H2) (.hint (.val 41002 (AVal.bool true)) (.hint (.val 41006 (AVal.bool true)) (.hint (.act 42005 (AVal.tuple []) fun x=>H3) (.hint (.val 43002 (AVal.bool true)) (.hint (.val 43006 (AVal.bool false)) .nil))))))))))))))))))))))) (by kernel_rfl) vc
theorem smD_vc(H H1 H2 H3 H4:AHeap)(a m z d n s w i k:Nat)(dv cv:AVal)(K0:AVal→AHeap→Prop)(vc:bif Nat.ble (AHeap.next H) (AHeap.next H) && true then(-9223372036854775808≤(↑m:Int)- (↑a:Int)∧(↑m:Int)- (↑a:Int)≤9223372036854775807)∧some (AVal.bool ((↑m:Int)- (↑a:Int) == 1))=some (AVal.bool false)∧bif Nat.ble (AHeap.next H) (AHeap.next H+4) && true then(-9223372036854775808≤(↑z:Int)- (↑m:Int)∧(↑z:Int)- (↑m:Int)≤9223372036854775807)∧some (AVal.bool ((↑z:Int)- (↑m:Int) == 1))=some (AVal.bool false)∧bif Nat.ble (AHeap.next H) (AHeap.next H+8) && true then(-9223372036854775808≤(↑a:Int)+(↑z:Int)∧(↑a:Int)+(↑z:Int)≤9223372036854775807)∧(0≤(↑a:Int)+(↑z:Int)∧(↑a:Int)+(↑z:Int)≤18446744073709551615)∧Int.NonNeg (1-0)∧aop env noCall (AHeap.next H+13) (getF [(133,AVal.int IntKind.u64 (ishr IntKind.u64 ((↑a:Int)+(↑z:Int)) (1))),(132,AVal.int IntKind.u64 ((↑a:Int)+(↑z:Int))),(131,AVal.int IntKind.i64 ((↑a:Int)+(↑z:Int))),(130,AVal.int IntKind.i64 (↑z:Int)),(129,AVal.int IntKind.i64 (↑a:Int)),(80,AVal.bool false),(79,AVal.int IntKind.i64 ((↑z:Int)- (↑m:Int))),(78,AVal.int IntKind.i64 (↑m:Int)),(77,AVal.int IntKind.i64 (↑z:Int)),(28,AVal.bool false),(27,AVal.int IntKind.i64 ((↑m:Int)- (↑a:Int))),(26,AVal.int IntKind.i64 (↑a:Int)),(25,AVal.int IntKind.i64 (↑m:Int)),(0,dv),(1,AVal.int IntKind.i64 (↑a:Int)),(2,AVal.int IntKind.i64 (↑m:Int)),(3,AVal.int IntKind.i64 (↑z:Int)),(4,cv)]) (AHeap.mk (AHeap.next H+15) (H.2)) (Op.convert 108 3 (Operand.tmp 133))=some (AVal.int IntKind.i64 (↑d:Int),(AHeap.mk (AHeap.next H+15) (H.2)))∧bif Nat.ble (AHeap.next H) (AHeap.next H+15) && true then some (AVal.int IntKind.i64 (IntKind.wrap IntKind.i64 ((↑d:Int)+(↑m:Int))))=some (AVal.int IntKind.i64 (↑n:Int))∧bif Nat.ble (AHeap.next H) (AHeap.next H+19) && true then bif Nat.ble (AHeap.next H) (AHeap.next H+21) && true then some (AVal.bool (decide ((↑m:Int)>(↑d:Int))))=some (AVal.bool true)∧bif Nat.ble (AHeap.next H) (AHeap.next H+24) && true then some (AVal.int IntKind.i64 (IntKind.wrap IntKind.i64 ((↑n:Int)- (↑z:Int))))=some (AVal.int IntKind.i64 (↑s:Int))∧bif Nat.ble (AHeap.next H) (AHeap.next H+28) && true then bif Nat.ble (AHeap.next H) (AHeap.next H+30) && true then some (AVal.int IntKind.i64 (IntKind.wrap IntKind.i64 ((↑n:Int)-1)))=some (AVal.int IntKind.i64 (↑w:Int))∧Runs Tryz.prog cnd (AHeap.next H) 220 (Code.loop (loopAt Tryz.prog 161 4)) [(0,dv),(1,AVal.int IntKind.i64 (↑a:Int)),(2,AVal.int IntKind.i64 (↑m:Int)),(3,AVal.int IntKind.i64 (↑z:Int)),(4,cv),(18,AVal.int IntKind.i64 (↑d:Int)),(19,AVal.int IntKind.i64 (↑n:Int)),(20,AVal.int IntKind.i64 (↑s:Int)),(21,AVal.int IntKind.i64 (↑d:Int)),(22,AVal.int IntKind.i64 (↑w:Int))] (AHeap.mk (AHeap.next H+30+3) (AHeap.blks (AHeap.mk (AHeap.next H+28+2) (AHeap.blks (AHeap.mk (AHeap.next H+24+4) (AHeap.blks (AHeap.mk (AHeap.next H+21+3) (AHeap.blks (AHeap.mk (AHeap.next H+19+2) (AHeap.blks (AHeap.mk (AHeap.next H+15+4) (AHeap.blks (AHeap.mk (AHeap.next H+8+7) (AHeap.blks (AHeap.mk (AHeap.next H+4+4) (AHeap.blks (AHeap.mk (AHeap.next H+4) (AHeap.blks H)))))))))))))))))) (AExit.exit 8) [(0,dv),(1,AVal.int IntKind.i64 (↑a:Int)),(2,AVal.int IntKind.i64 (↑m:Int)),(3,AVal.int IntKind.i64 (↑z:Int)),(4,cv),(18,AVal.int IntKind.i64 (↑d:Int)),(19,AVal.int IntKind.i64 (↑n:Int)),(20,AVal.int IntKind.i64 (↑i:Int))] H1∧bif Nat.ble (AHeap.next H) (AHeap.next H1) && true then some (AVal.int IntKind.i64 (IntKind.wrap IntKind.i64 ((↑n:Int)- (↑i:Int))))=some (AVal.int IntKind.i64 (↑k:Int))∧bif Nat.ble (AHeap.next H) (AHeap.next H1+4) && true then some (AVal.bool (decide ((↑i:Int)<(↑m:Int))))=some (AVal.bool true)∧some (AVal.bool (decide ((↑m:Int)<(↑k:Int))))=some (AVal.bool true)∧bif Nat.ble (AHeap.next H) (AHeap.next H1+12) && true then CallT Tryz.prog cnd 195 [dv,AVal.int IntKind.i64 (↑i:Int),AVal.int IntKind.i64 (↑m:Int),AVal.int IntKind.i64 (↑k:Int),cv] (AHeap.mk (AHeap.next H1+18) (H1.2)) (AVal.tuple []) H2∧bif Nat.ble (AHeap.next H) (AHeap.next H2) && true then some (AVal.bool (decide ((↑a:Int)<(↑i:Int))))=some (AVal.bool false)∧bif Nat.ble (AHeap.next H) (AHeap.next H2+8) && true then some (AVal.bool (decide ((↑d:Int)<(↑k:Int))))=some (AVal.bool true)∧some (AVal.bool (decide ((↑k:Int)<(↑z:Int))))=some (AVal.bool true)∧bif Nat.ble (AHeap.next H) (AHeap.next H2+16) && true then CallT Tryz.prog cnd 161 [dv,AVal.int IntKind.i64 (↑d:Int),AVal.int IntKind.i64 (↑k:Int),AVal.int IntKind.i64 (↑z:Int),cv] (AHeap.mk (AHeap.next H2+22) (H2.2)) (AVal.tuple []) H4∧bif Nat.ble (AHeap.next H) (AHeap.next H4)then K0 (AVal.tuple []) H4 else False else False else False else False else False else False else False else False else False else False else False else False else False else False else False else False) :
    ∃ v h1,FDoes Tryz.prog cnd 161 [dv,.int .i64 a,.int .i64 m,.int .i64 z,cv] H v h1∧K0 v h1 :=
  tcall_does env_ok mixed noSpecs_ok (hs:= .hint (.go 2) (.hint (.val 3 (AVal.bool false)) (.hint (.go 12002) (.hint (.val 12003 (AVal.bool false)) (.hint (.go 24002) (.hint (.go 24003) (.hint (.go 24004) (.hint (.val 24005 (AVal.int IntKind.i64 (↑d:Int))) (.hint (.val 25002 (AVal.int IntKind.i64 (↑n:Int))) (.hint (.val 27002 (AVal.bool true)) (.hint (.val 28002 (AVal.int IntKind.i64 (↑s:Int))) (.hint (.val 32001 (AVal.int IntKind.i64 (↑w:Int))) (.hint (.keep [0,1,2,3,4,18,19,20,21,22]) (.hint (.loop [(0,dv),(1,AVal.int IntKind.i64 (↑a:Int)),(2,AVal.int IntKind.i64 (↑m:Int)),(3,AVal.int IntKind.i64 (↑z:Int)),(4,cv),(18,AVal.int IntKind.i64 (↑d:Int)),(19,AVal.int IntKind.i64 (↑n:Int)),(20,AVal.int IntKind.i64 (↑i:Int))] H1 (AExit.exit 8)) (.hint (.val 38002 (AVal.int IntKind.i64 (↑k:Int))) (.hint (.val 39002 (AVal.bool true)) (.hint (.val 39006 (AVal.bool true)) (.hint (.act 40005 (AVal.tuple []) fun x=>H2) (.hint (.val 41002 (AVal.bool false)) (.hint (.val 43002 (AVal.bool true)) (.hint (.val 43006 (AVal.bool true)) (.hint (.act 44005 (AVal.tuple []) fun x=>H4) .nil)))))))))))))))))))))) (by kernel_rfl) vc
theorem smE_vc(H H1 H2 H3 H4:AHeap)(a m z d n s w i k:Nat)(dv cv:AVal)(K0:AVal→AHeap→Prop)(vc:bif Nat.ble (AHeap.next H) (AHeap.next H) && true then(-9223372036854775808≤(↑m:Int)- (↑a:Int)∧(↑m:Int)- (↑a:Int)≤9223372036854775807)∧some (AVal.bool ((↑m:Int)- (↑a:Int) == 1))=some (AVal.bool false)∧bif Nat.ble (AHeap.next H) (AHeap.next H+4) && true then(-9223372036854775808≤(↑z:Int)- (↑m:Int)∧(↑z:Int)- (↑m:Int)≤9223372036854775807)∧some (AVal.bool ((↑z:Int)- (↑m:Int) == 1))=some (AVal.bool false)∧bif Nat.ble (AHeap.next H) (AHeap.next H+8) && true then(-9223372036854775808≤(↑a:Int)+(↑z:Int)∧(↑a:Int)+(↑z:Int)≤9223372036854775807)∧(0≤(↑a:Int)+(↑z:Int)∧(↑a:Int)+(↑z:Int)≤18446744073709551615)∧Int.NonNeg (1-0)∧aop env noCall (AHeap.next H+13) (getF [(133,AVal.int IntKind.u64 (ishr IntKind.u64 ((↑a:Int)+(↑z:Int)) (1))),(132,AVal.int IntKind.u64 ((↑a:Int)+(↑z:Int))),(131,AVal.int IntKind.i64 ((↑a:Int)+(↑z:Int))),(130,AVal.int IntKind.i64 (↑z:Int)),(129,AVal.int IntKind.i64 (↑a:Int)),(80,AVal.bool false),(79,AVal.int IntKind.i64 ((↑z:Int)- (↑m:Int))),(78,AVal.int IntKind.i64 (↑m:Int)),(77,AVal.int IntKind.i64 (↑z:Int)),(28,AVal.bool false),(27,AVal.int IntKind.i64 ((↑m:Int)- (↑a:Int))),(26,AVal.int IntKind.i64 (↑a:Int)),(25,AVal.int IntKind.i64 (↑m:Int)),(0,dv),(1,AVal.int IntKind.i64 (↑a:Int)),(2,AVal.int IntKind.i64 (↑m:Int)),(3,AVal.int IntKind.i64 (↑z:Int)),(4,cv)]) (AHeap.mk (AHeap.next H+15) (H.2)) (Op.convert 108 3 (Operand.tmp 133))=some (AVal.int IntKind.i64 (↑d:Int),(AHeap.mk (AHeap.next H+15) (H.2)))∧bif Nat.ble (AHeap.next H) (AHeap.next H+15) && true then some (AVal.int IntKind.i64 (IntKind.wrap IntKind.i64 ((↑d:Int)+(↑m:Int))))=some (AVal.int IntKind.i64 (↑n:Int))∧bif Nat.ble (AHeap.next H) (AHeap.next H+19) && true then bif Nat.ble (AHeap.next H) (AHeap.next H+21) && true then some (AVal.bool (decide ((↑m:Int)>(↑d:Int))))=some (AVal.bool true)∧bif Nat.ble (AHeap.next H) (AHeap.next H+24) && true then some (AVal.int IntKind.i64 (IntKind.wrap IntKind.i64 ((↑n:Int)- (↑z:Int))))=some (AVal.int IntKind.i64 (↑s:Int))∧bif Nat.ble (AHeap.next H) (AHeap.next H+28) && true then bif Nat.ble (AHeap.next H) (AHeap.next H+30) && true then some (AVal.int IntKind.i64 (IntKind.wrap IntKind.i64 ((↑n:Int)-1)))=some (AVal.int IntKind.i64 (↑w:Int))∧Runs Tryz.prog cnd (AHeap.next H) 220 (Code.loop (loopAt Tryz.prog 161 4)) [(0,dv),(1,AVal.int IntKind.i64 (↑a:Int)),(2,AVal.int IntKind.i64 (↑m:Int)),(3,AVal.int IntKind.i64 (↑z:Int)),(4,cv),(18,AVal.int IntKind.i64 (↑d:Int)),(19,AVal.int IntKind.i64 (↑n:Int)),(20,AVal.int IntKind.i64 (↑s:Int)),(21,AVal.int IntKind.i64 (↑d:Int)),(22,AVal.int IntKind.i64 (↑w:Int))] (AHeap.mk (AHeap.next H+30+3) (AHeap.blks (AHeap.mk (AHeap.next H+28+2) (AHeap.blks (AHeap.mk (AHeap.next H+24+4) (AHeap.blks (AHeap.mk (AHeap.next H+21+3) (AHeap.blks (AHeap.mk (AHeap.next H+19+2) (AHeap.blks (AHeap.mk (AHeap.next H+15+4) (AHeap.blks (AHeap.mk (AHeap.next H+8+7) (AHeap.blks (AHeap.mk (AHeap.next H+4+4) (AHeap.blks (AHeap.mk (AHeap.next H+4) (AHeap.blks H)))))))))))))))))) (AExit.exit 8) [(0,dv),(1,AVal.int IntKind.i64 (↑a:Int)),(2,AVal.int IntKind.i64 (↑m:Int)),(3,AVal.int IntKind.i64 (↑z:Int)),(4,cv),(18,AVal.int IntKind.i64 (↑d:Int)),(19,AVal.int IntKind.i64 (↑n:Int)),(20,AVal.int IntKind.i64 (↑i:Int))] H1∧bif Nat.ble (AHeap.next H) (AHeap.next H1) && true then some (AVal.int IntKind.i64 (IntKind.wrap IntKind.i64 ((↑n:Int)- (↑i:Int))))=some (AVal.int IntKind.i64 (↑k:Int))∧bif Nat.ble (AHeap.next H) (AHeap.next H1+4) && true then some (AVal.bool (decide ((↑i:Int)<(↑m:Int))))=some (AVal.bool true)∧some (AVal.bool (decide ((↑m:Int)<(↑k:Int))))=some (AVal.bool true)∧bif Nat.ble (AHeap.next H) (AHeap.next H1+12) && true then CallT Tryz.prog cnd 195 [dv,AVal.int IntKind.i64 (↑i:Int),AVal.int IntKind.i64 (↑m:Int),AVal.int IntKind.i64 (↑k:Int),cv] (AHeap.mk (AHeap.next H1+18) (H1.2)) (AVal.tuple []) H2∧bif Nat.ble (AHeap.next H) (AHeap.next H2) && true then some (AVal.bool (decide ((↑a:Int)<(↑i:Int))))=some (AVal.bool false)∧bif Nat.ble (AHeap.next H) (AHeap.next H2+8) && true then some (AVal.bool (decide ((↑d:Int)<(↑k:Int))))=some (AVal.bool true)∧some (AVal.bool (decide ((↑k:Int)<(↑z:Int))))=some (AVal.bool false)∧bif Nat.ble (AHeap.next H) (AHeap.next H2+16)then K0 (AVal.tuple []) (AHeap.mk (AHeap.next H2+8+8) (AHeap.blks (AHeap.mk (AHeap.next H2+8) (AHeap.blks H2))))else False else False else False else False else False else False else False else False else False else False else False else False else False else False else False) :
    ∃ v h1,FDoes Tryz.prog cnd 161 [dv,.int .i64 a,.int .i64 m,.int .i64 z,cv] H v h1∧K0 v h1 :=
  tcall_does env_ok mixed noSpecs_ok (hs:= .hint (.go 2) (.hint (.val 3 (AVal.bool false)) (.hint (.go 12002) (.hint (.val 12003 (AVal.bool false)) (.hint (.go 24002) (.hint (.go 24003) (.hint (.go 24004) (.hint (.val 24005 (AVal.int IntKind.i64 (↑d:Int))) (.hint (.val 25002 (AVal.int IntKind.i64 (↑n:Int))) (.hint (.val 27002 (AVal.bool true)) (.hint (.val 28002 (AVal.int IntKind.i64 (↑s:Int))) (.hint (.val 32001 (AVal.int IntKind.i64 (↑w:Int))) (.hint (.keep [0,1,2,3,4,18,19,20,21,22]) (.hint (.loop [(0,dv),(1,AVal.int IntKind.i64 (↑a:Int)),(2,AVal.int IntKind.i64 (↑m:Int)),(3,AVal.int IntKind.i64 (↑z:Int)),(4,cv),(18,AVal.int IntKind.i64 (↑d:Int)),(19,AVal.int IntKind.i64 (↑n:Int)),(20,AVal.int IntKind.i64 (↑i:Int))] H1 (AExit.exit 8)) (.hint (.val 38002 (AVal.int IntKind.i64 (↑k:Int))) (.hint (.val 39002 (AVal.bool true)) (.hint (.val 39006 (AVal.bool true)) (.hint (.act 40005 (AVal.tuple []) fun x=>H2) (.hint (.val 41002 (AVal.bool false)) (.hint (.val 43002 (AVal.bool true)) (.hint (.val 43006 (AVal.bool false)) .nil))))))))))))))))))))) (by kernel_rfl) vc
theorem smF_vc(H H1 H2 H3 H4:AHeap)(a m z d n s w i k:Nat)(dv cv:AVal)(K0:AVal→AHeap→Prop)(vc:bif Nat.ble (AHeap.next H) (AHeap.next H) && true then(-9223372036854775808≤(↑m:Int)- (↑a:Int)∧(↑m:Int)- (↑a:Int)≤9223372036854775807)∧some (AVal.bool ((↑m:Int)- (↑a:Int) == 1))=some (AVal.bool false)∧bif Nat.ble (AHeap.next H) (AHeap.next H+4) && true then(-9223372036854775808≤(↑z:Int)- (↑m:Int)∧(↑z:Int)- (↑m:Int)≤9223372036854775807)∧some (AVal.bool ((↑z:Int)- (↑m:Int) == 1))=some (AVal.bool false)∧bif Nat.ble (AHeap.next H) (AHeap.next H+8) && true then(-9223372036854775808≤(↑a:Int)+(↑z:Int)∧(↑a:Int)+(↑z:Int)≤9223372036854775807)∧(0≤(↑a:Int)+(↑z:Int)∧(↑a:Int)+(↑z:Int)≤18446744073709551615)∧Int.NonNeg (1-0)∧aop env noCall (AHeap.next H+13) (getF [(133,AVal.int IntKind.u64 (ishr IntKind.u64 ((↑a:Int)+(↑z:Int)) (1))),(132,AVal.int IntKind.u64 ((↑a:Int)+(↑z:Int))),(131,AVal.int IntKind.i64 ((↑a:Int)+(↑z:Int))),(130,AVal.int IntKind.i64 (↑z:Int)),(129,AVal.int IntKind.i64 (↑a:Int)),(80,AVal.bool false),(79,AVal.int IntKind.i64 ((↑z:Int)- (↑m:Int))),(78,AVal.int IntKind.i64 (↑m:Int)),(77,AVal.int IntKind.i64 (↑z:Int)),(28,AVal.bool false),(27,AVal.int IntKind.i64 ((↑m:Int)- (↑a:Int))),(26,AVal.int IntKind.i64 (↑a:Int)),(25,AVal.int IntKind.i64 (↑m:Int)),(0,dv),(1,AVal.int IntKind.i64 (↑a:Int)),(2,AVal.int IntKind.i64 (↑m:Int)),(3,AVal.int IntKind.i64 (↑z:Int)),(4,cv)]) (AHeap.mk (AHeap.next H+15) (H.2)) (Op.convert 108 3 (Operand.tmp 133))=some (AVal.int IntKind.i64 (↑d:Int),(AHeap.mk (AHeap.next H+15) (H.2)))∧bif Nat.ble (AHeap.next H) (AHeap.next H+15) && true then some (AVal.int IntKind.i64 (IntKind.wrap IntKind.i64 ((↑d:Int)+(↑m:Int))))=some (AVal.int IntKind.i64 (↑n:Int))∧bif Nat.ble (AHeap.next H) (AHeap.next H+19) && true then bif Nat.ble (AHeap.next H) (AHeap.next H+21) && true then some (AVal.bool (decide ((↑m:Int)>(↑d:Int))))=some (AVal.bool false)∧bif Nat.ble (AHeap.next H) (AHeap.next H+24) && true then bif Nat.ble (AHeap.next H) (AHeap.next H+26) && true then bif Nat.ble (AHeap.next H) (AHeap.next H+28) && true then some (AVal.int IntKind.i64 (IntKind.wrap IntKind.i64 ((↑n:Int)-1)))=some (AVal.int IntKind.i64 (↑w:Int))∧Runs Tryz.prog cnd (AHeap.next H) 220 (Code.loop (loopAt Tryz.prog 161 4)) [(0,dv),(1,AVal.int IntKind.i64 (↑a:Int)),(2,AVal.int IntKind.i64 (↑m:Int)),(3,AVal.int IntKind.i64 (↑z:Int)),(4,cv),(18,AVal.int IntKind.i64 (↑d:Int)),(19,AVal.int IntKind.i64 (↑n:Int)),(20,AVal.int IntKind.i64 (↑a:Int)),(21,AVal.int IntKind.i64 (↑m:Int)),(22,AVal.int IntKind.i64 (↑w:Int))] (AHeap.mk (AHeap.next H+28+3) (AHeap.blks (AHeap.mk (AHeap.next H+26+2) (AHeap.blks (AHeap.mk (AHeap.next H+24+2) (AHeap.blks (AHeap.mk (AHeap.next H+21+3) (AHeap.blks (AHeap.mk (AHeap.next H+19+2) (AHeap.blks (AHeap.mk (AHeap.next H+15+4) (AHeap.blks (AHeap.mk (AHeap.next H+8+7) (AHeap.blks (AHeap.mk (AHeap.next H+4+4) (AHeap.blks (AHeap.mk (AHeap.next H+4) (AHeap.blks H)))))))))))))))))) (AExit.exit 8) [(0,dv),(1,AVal.int IntKind.i64 (↑a:Int)),(2,AVal.int IntKind.i64 (↑m:Int)),(3,AVal.int IntKind.i64 (↑z:Int)),(4,cv),(18,AVal.int IntKind.i64 (↑d:Int)),(19,AVal.int IntKind.i64 (↑n:Int)),(20,AVal.int IntKind.i64 (↑i:Int))] H1∧bif Nat.ble (AHeap.next H) (AHeap.next H1) && true then some (AVal.int IntKind.i64 (IntKind.wrap IntKind.i64 ((↑n:Int)- (↑i:Int))))=some (AVal.int IntKind.i64 (↑k:Int))∧bif Nat.ble (AHeap.next H) (AHeap.next H1+4) && true then some (AVal.bool (decide ((↑i:Int)<(↑m:Int))))=some (AVal.bool true)∧some (AVal.bool (decide ((↑m:Int)<(↑k:Int))))=some (AVal.bool true)∧bif Nat.ble (AHeap.next H) (AHeap.next H1+12) && true then CallT Tryz.prog cnd 195 [dv,AVal.int IntKind.i64 (↑i:Int),AVal.int IntKind.i64 (↑m:Int),AVal.int IntKind.i64 (↑k:Int),cv] (AHeap.mk (AHeap.next H1+18) (H1.2)) (AVal.tuple []) H2∧bif Nat.ble (AHeap.next H) (AHeap.next H2) && true then some (AVal.bool (decide ((↑a:Int)<(↑i:Int))))=some (AVal.bool true)∧some (AVal.bool (decide ((↑i:Int)<(↑d:Int))))=some (AVal.bool true)∧bif Nat.ble (AHeap.next H) (AHeap.next H2+8) && true then CallT Tryz.prog cnd 161 [dv,AVal.int IntKind.i64 (↑a:Int),AVal.int IntKind.i64 (↑i:Int),AVal.int IntKind.i64 (↑d:Int),cv] (AHeap.mk (AHeap.next H2+14) (H2.2)) (AVal.tuple []) H3∧bif Nat.ble (AHeap.next H) (AHeap.next H3) && true then some (AVal.bool (decide ((↑d:Int)<(↑k:Int))))=some (AVal.bool true)∧some (AVal.bool (decide ((↑k:Int)<(↑z:Int))))=some (AVal.bool true)∧bif Nat.ble (AHeap.next H) (AHeap.next H3+8) && true then CallT Tryz.prog cnd 161 [dv,AVal.int IntKind.i64 (↑d:Int),AVal.int IntKind.i64 (↑k:Int),AVal.int IntKind.i64 (↑z:Int),cv] (AHeap.mk (AHeap.next H3+14) (H3.2)) (AVal.tuple []) H4∧bif Nat.ble (AHeap.next H) (AHeap.next H4)then K0 (AVal.tuple []) H4 else False else False else False else False else False else False else False else False else False else False else False else False else False else False else False else False else False) :
    ∃ v h1,FDoes Tryz.prog cnd 161 [dv,.int .i64 a,.int .i64 m,.int .i64 z,cv] H v h1∧K0 v h1 :=
  tcall_does env_ok mixed noSpecs_ok (hs:= .hint (.go 2) (.hint (.val 3 (AVal.bool false)) (.hint (.go 12002) (.hint (.val 12003 (AVal.bool false)) (.hint (.go 24002) (.hint (.go 24003) (.hint (.go 24004) (.hint (.val 24005 (AVal.int IntKind.i64 (↑d:Int))) (.hint (.val 25002 (AVal.int IntKind.i64 (↑n:Int))) (.hint (.val 27002 (AVal.bool false)) (.hint (.val 32001 (AVal.int IntKind.i64 (↑w:Int))) (.hint (.keep [0,1,2,3,4,18,19,20,21,22]) (.hint (.loop [(0,dv),(1,AVal.int IntKind.i64 (↑a:Int)),(2,AVal.int IntKind.i64 (↑m:Int)),(3,AVal.int IntKind.i64 (↑z:Int)),(4,cv),(18,AVal.int IntKind.i64 (↑d:Int)),(19,AVal.int IntKind.i64 (↑n:Int)),(20,AVal.int IntKind.i64 (↑i:Int))] H1 (AExit.exit 8)) (.hint (.val 38002 (AVal.int IntKind.i64 (↑k:Int))) (.hint (.val 39002 (AVal.bool true)) (.hint (.val 39006 (AVal.bool true)) (.hint (.act 40005 (AVal.tuple []) fun x=>H2) (.hint (.val 41002 (AVal.bool true)) (.hint (.val 41006 (AVal.bool true)) (.hint (.act 42005 (AVal.tuple []) fun x=>H3) (.hint (.val 43002 (AVal.bool true)) (.hint (.val 43006 (AVal.bool true)) (.hint (.act 44005 (AVal.tuple []) fun x=>H4) .nil))))))))))))))))))))))) (by kernel_rfl) vc
theorem smG_vc(H H1 H2 H3 H4:AHeap)(a m z d n s w i k:Nat)(dv cv:AVal)(K0:AVal→AHeap→Prop)(vc:bif Nat.ble (AHeap.next H) (AHeap.next H) && true then(-9223372036854775808≤(↑m:Int)- (↑a:Int)∧(↑m:Int)- (↑a:Int)≤9223372036854775807)∧some (AVal.bool ((↑m:Int)- (↑a:Int) == 1))=some (AVal.bool false)∧bif Nat.ble (AHeap.next H) (AHeap.next H+4) && true then(-9223372036854775808≤(↑z:Int)- (↑m:Int)∧(↑z:Int)- (↑m:Int)≤9223372036854775807)∧some (AVal.bool ((↑z:Int)- (↑m:Int) == 1))=some (AVal.bool false)∧bif Nat.ble (AHeap.next H) (AHeap.next H+8) && true then(-9223372036854775808≤(↑a:Int)+(↑z:Int)∧(↑a:Int)+(↑z:Int)≤9223372036854775807)∧(0≤(↑a:Int)+(↑z:Int)∧(↑a:Int)+(↑z:Int)≤18446744073709551615)∧Int.NonNeg (1-0)∧aop env noCall (AHeap.next H+13) (getF [(133,AVal.int IntKind.u64 (ishr IntKind.u64 ((↑a:Int)+(↑z:Int)) (1))),(132,AVal.int IntKind.u64 ((↑a:Int)+(↑z:Int))),(131,AVal.int IntKind.i64 ((↑a:Int)+(↑z:Int))),(130,AVal.int IntKind.i64 (↑z:Int)),(129,AVal.int IntKind.i64 (↑a:Int)),(80,AVal.bool false),(79,AVal.int IntKind.i64 ((↑z:Int)- (↑m:Int))),(78,AVal.int IntKind.i64 (↑m:Int)),(77,AVal.int IntKind.i64 (↑z:Int)),(28,AVal.bool false),(27,AVal.int IntKind.i64 ((↑m:Int)- (↑a:Int))),(26,AVal.int IntKind.i64 (↑a:Int)),(25,AVal.int IntKind.i64 (↑m:Int)),(0,dv),(1,AVal.int IntKind.i64 (↑a:Int)),(2,AVal.int IntKind.i64 (↑m:Int)),(3,AVal.int IntKind.i64 (↑z:Int)),(4,cv)]) (AHeap.mk (AHeap.next H+15) (H.2)) (Op.convert 108 3 (Operand.tmp 133))=some (AVal.int IntKind.i64 (↑d:Int),(AHeap.mk (AHeap.next H+15) (H.2)))∧bif Nat.ble (AHeap.next H) (AHeap.next H+15) && true then some (AVal.int IntKind.i64 (IntKind.wrap IntKind.i64 ((↑d:Int)+(↑m:Int))))=some (AVal.int IntKind.i64 (↑n:Int))∧bif Nat.ble (AHeap.next H) (AHeap.next H+19) && true then bif Nat.ble (AHeap.next H) (AHeap.next H+21) && true then some (AVal.bool (decide ((↑m:Int)>(↑d:Int))))=some (AVal.bool false)∧bif Nat.ble (AHeap.next H) (AHeap.next H+24) && true then bif Nat.ble (AHeap.next H) (AHeap.next H+26) && true then bif Nat.ble (AHeap.next H) (AHeap.next H+28) && true then some (AVal.int IntKind.i64 (IntKind.wrap IntKind.i64 ((↑n:Int)-1)))=some (AVal.int IntKind.i64 (↑w:Int))∧Runs Tryz.prog cnd (AHeap.next H) 220 (Code.loop (loopAt Tryz.prog 161 4)) [(0,dv),(1,AVal.int IntKind.i64 (↑a:Int)),(2,AVal.int IntKind.i64 (↑m:Int)),(3,AVal.int IntKind.i64 (↑z:Int)),(4,cv),(18,AVal.int IntKind.i64 (↑d:Int)),(19,AVal.int IntKind.i64 (↑n:Int)),(20,AVal.int IntKind.i64 (↑a:Int)),(21,AVal.int IntKind.i64 (↑m:Int)),(22,AVal.int IntKind.i64 (↑w:Int))] (AHeap.mk (AHeap.next H+28+3) (AHeap.blks (AHeap.mk (AHeap.next H+26+2) (AHeap.blks (AHeap.mk (AHeap.next H+24+2) (AHeap.blks (AHeap.mk (AHeap.next H+21+3) (AHeap.blks (AHeap.mk (AHeap.next H+19+2) (AHeap.blks (AHeap.mk (AHeap.next H+15+4) (AHeap.blks (AHeap.mk (AHeap.next H+8+7) (AHeap.blks (AHeap.mk (AHeap.next H+4+4) (AHeap.blks (AHeap.mk (AHeap.next H+4) (AHeap.blks H)))))))))))))))))) (AExit.exit 8) [(0,dv),(1,AVal.int IntKind.i64 (↑a:Int)),(2,AVal.int IntKind.i64 (↑m:Int)),(3,AVal.int IntKind.i64 (↑z:Int)),(4,cv),(18,AVal.int IntKind.i64 (↑d:Int)),(19,AVal.int IntKind.i64 (↑n:Int)),(20,AVal.int IntKind.i64 (↑i:Int))] H1∧bif Nat.ble (AHeap.next H) (AHeap.next H1) && true then some (AVal.int IntKind.i64 (IntKind.wrap IntKind.i64 ((↑n:Int)- (↑i:Int))))=some (AVal.int IntKind.i64 (↑k:Int))∧bif Nat.ble (AHeap.next H) (AHeap.next H1+4) && true then some (AVal.bool (decide ((↑i:Int)<(↑m:Int))))=some (AVal.bool true)∧some (AVal.bool (decide ((↑m:Int)<(↑k:Int))))=some (AVal.bool true)∧bif Nat.ble (AHeap.next H) (AHeap.next H1+12) && true then CallT Tryz.prog cnd 195 [dv,AVal.int IntKind.i64 (↑i:Int),AVal.int IntKind.i64 (↑m:Int),AVal.int IntKind.i64 (↑k:Int),cv] (AHeap.mk (AHeap.next H1+18) (H1.2)) (AVal.tuple []) H2∧bif Nat.ble (AHeap.next H) (AHeap.next H2) && true then some (AVal.bool (decide ((↑a:Int)<(↑i:Int))))=some (AVal.bool true)∧some (AVal.bool (decide ((↑i:Int)<(↑d:Int))))=some (AVal.bool true)∧bif Nat.ble (AHeap.next H) (AHeap.next H2+8) && true then CallT Tryz.prog cnd 161 [dv,AVal.int IntKind.i64 (↑a:Int),AVal.int IntKind.i64 (↑i:Int),AVal.int IntKind.i64 (↑d:Int),cv] (AHeap.mk (AHeap.next H2+14) (H2.2)) (AVal.tuple []) H3∧bif Nat.ble (AHeap.next H) (AHeap.next H3) && true then some (AVal.bool (decide ((↑d:Int)<(↑k:Int))))=some (AVal.bool true)∧some (AVal.bool (decide ((↑k:Int)<(↑z:Int))))=some (AVal.bool false)∧bif Nat.ble (AHeap.next H) (AHeap.next H3+8)then K0 (AVal.tuple []) (AHeap.mk (AHeap.next H3+8) (AHeap.blks H3))else False else False else False else False else False else False else False else False else False else False else False else False else False else False else False else False) :
    ∃ v h1,FDoes Tryz.prog cnd 161 [dv,.int .i64 a,.int .i64 m,.int .i64 z,cv] H v h1∧K0 v h1 :=
  tcall_does env_ok mixed noSpecs_ok (hs:= .hint (.go 2) (.hint (.val 3 (AVal.bool false)) (.hint (.go 12002) (.hint (.val 12003 (AVal.bool false)) (.hint (.go 24002) (.hint (.go 24003) (.hint (.go 24004) (.hint (.val 24005 (AVal.int IntKind.i64 (↑d:Int))) (.hint (.val 25002 (AVal.int IntKind.i64 (↑n:Int))) (.hint (.val 27002 (AVal.bool false)) (.hint (.val 32001 (AVal.int IntKind.i64 (↑w:Int))) (.hint (.keep [0,1,2,3,4,18,19,20,21,22]) (.hint (.loop [(0,dv),(1,AVal.int IntKind.i64 (↑a:Int)),(2,AVal.int IntKind.i64 (↑m:Int)),(3,AVal.int IntKind.i64 (↑z:Int)),(4,cv),(18,AVal.int IntKind.i64 (↑d:Int)),(19,AVal.int IntKind.i64 (↑n:Int)),(20,AVal.int IntKind.i64 (↑i:Int))] H1 (AExit.exit 8)) (.hint (.val 38002 (AVal.int IntKind.i64 (↑k:Int))) (.hint (.val 39002 (AVal.bool true)) (.hint (.val 39006 (AVal.bool true)) (.hint (.act 40005 (AVal.tuple []) fun x=>H2) (.hint (.val 41002 (AVal.bool true)) (.hint (.val 41006 (AVal.bool true)) (.hint (.act 42005 (AVal.tuple []) fun x=>H3) (.hint (.val 43002 (AVal.bool true)) (.hint (.val 43006 (AVal.bool false)) .nil)))))))))))))))))))))) (by kernel_rfl) vc
theorem smH_vc(H H1 H2 H3 H4:AHeap)(a m z d n s w i k:Nat)(dv cv:AVal)(K0:AVal→AHeap→Prop)(vc:bif Nat.ble (AHeap.next H) (AHeap.next H) && true then(-9223372036854775808≤(↑m:Int)- (↑a:Int)∧(↑m:Int)- (↑a:Int)≤9223372036854775807)∧some (AVal.bool ((↑m:Int)- (↑a:Int) == 1))=some (AVal.bool false)∧bif Nat.ble (AHeap.next H) (AHeap.next H+4) && true then(-9223372036854775808≤(↑z:Int)- (↑m:Int)∧(↑z:Int)- (↑m:Int)≤9223372036854775807)∧some (AVal.bool ((↑z:Int)- (↑m:Int) == 1))=some (AVal.bool false)∧bif Nat.ble (AHeap.next H) (AHeap.next H+8) && true then(-9223372036854775808≤(↑a:Int)+(↑z:Int)∧(↑a:Int)+(↑z:Int)≤9223372036854775807)∧(0≤(↑a:Int)+(↑z:Int)∧(↑a:Int)+(↑z:Int)≤18446744073709551615)∧Int.NonNeg (1-0)∧aop env noCall (AHeap.next H+13) (getF [(133,AVal.int IntKind.u64 (ishr IntKind.u64 ((↑a:Int)+(↑z:Int)) (1))),(132,AVal.int IntKind.u64 ((↑a:Int)+(↑z:Int))),(131,AVal.int IntKind.i64 ((↑a:Int)+(↑z:Int))),(130,AVal.int IntKind.i64 (↑z:Int)),(129,AVal.int IntKind.i64 (↑a:Int)),(80,AVal.bool false),(79,AVal.int IntKind.i64 ((↑z:Int)- (↑m:Int))),(78,AVal.int IntKind.i64 (↑m:Int)),(77,AVal.int IntKind.i64 (↑z:Int)),(28,AVal.bool false),(27,AVal.int IntKind.i64 ((↑m:Int)- (↑a:Int))),(26,AVal.int IntKind.i64 (↑a:Int)),(25,AVal.int IntKind.i64 (↑m:Int)),(0,dv),(1,AVal.int IntKind.i64 (↑a:Int)),(2,AVal.int IntKind.i64 (↑m:Int)),(3,AVal.int IntKind.i64 (↑z:Int)),(4,cv)]) (AHeap.mk (AHeap.next H+15) (H.2)) (Op.convert 108 3 (Operand.tmp 133))=some (AVal.int IntKind.i64 (↑d:Int),(AHeap.mk (AHeap.next H+15) (H.2)))∧bif Nat.ble (AHeap.next H) (AHeap.next H+15) && true then some (AVal.int IntKind.i64 (IntKind.wrap IntKind.i64 ((↑d:Int)+(↑m:Int))))=some (AVal.int IntKind.i64 (↑n:Int))∧bif Nat.ble (AHeap.next H) (AHeap.next H+19) && true then bif Nat.ble (AHeap.next H) (AHeap.next H+21) && true then some (AVal.bool (decide ((↑m:Int)>(↑d:Int))))=some (AVal.bool false)∧bif Nat.ble (AHeap.next H) (AHeap.next H+24) && true then bif Nat.ble (AHeap.next H) (AHeap.next H+26) && true then bif Nat.ble (AHeap.next H) (AHeap.next H+28) && true then some (AVal.int IntKind.i64 (IntKind.wrap IntKind.i64 ((↑n:Int)-1)))=some (AVal.int IntKind.i64 (↑w:Int))∧Runs Tryz.prog cnd (AHeap.next H) 220 (Code.loop (loopAt Tryz.prog 161 4)) [(0,dv),(1,AVal.int IntKind.i64 (↑a:Int)),(2,AVal.int IntKind.i64 (↑m:Int)),(3,AVal.int IntKind.i64 (↑z:Int)),(4,cv),(18,AVal.int IntKind.i64 (↑d:Int)),(19,AVal.int IntKind.i64 (↑n:Int)),(20,AVal.int IntKind.i64 (↑a:Int)),(21,AVal.int IntKind.i64 (↑m:Int)),(22,AVal.int IntKind.i64 (↑w:Int))] (AHeap.mk (AHeap.next H+28+3) (AHeap.blks (AHeap.mk (AHeap.next H+26+2) (AHeap.blks (AHeap.mk (AHeap.next H+24+2) (AHeap.blks (AHeap.mk (AHeap.next H+21+3) (AHeap.blks (AHeap.mk (AHeap.next H+19+2) (AHeap.blks (AHeap.mk (AHeap.next H+15+4) (AHeap.blks (AHeap.mk (AHeap.next H+8+7) (AHeap.blks (AHeap.mk (AHeap.next H+4+4) (AHeap.blks (AHeap.mk (AHeap.next H+4) (AHeap.blks H)))))))))))))))))) (AExit.exit 8) [(0,dv),(1,AVal.int IntKind.i64 (↑a:Int)),(2,AVal.int IntKind.i64 (↑m:Int)),(3,AVal.int IntKind.i64 (↑z:Int)),(4,cv),(18,AVal.int IntKind.i64 (↑d:Int)),(19,AVal.int IntKind.i64 (↑n:Int)),(20,AVal.int IntKind.i64 (↑i:Int))] H1∧bif Nat.ble (AHeap.next H) (AHeap.next H1) && true then some (AVal.int IntKind.i64 (IntKind.wrap IntKind.i64 ((↑n:Int)- (↑i:Int))))=some (AVal.int IntKind.i64 (↑k:Int))∧bif Nat.ble (AHeap.next H) (AHeap.next H1+4) && true then some (AVal.bool (decide ((↑i:Int)<(↑m:Int))))=some (AVal.bool true)∧some (AVal.bool (decide ((↑m:Int)<(↑k:Int))))=some (AVal.bool true)∧bif Nat.ble (AHeap.next H) (AHeap.next H1+12) && true then CallT Tryz.prog cnd 195 [dv,AVal.int IntKind.i64 (↑i:Int),AVal.int IntKind.i64 (↑m:Int),AVal.int IntKind.i64 (↑k:Int),cv] (AHeap.mk (AHeap.next H1+18) (H1.2)) (AVal.tuple []) H2∧bif Nat.ble (AHeap.next H) (AHeap.next H2) && true then some (AVal.bool (decide ((↑a:Int)<(↑i:Int))))=some (AVal.bool false)∧bif Nat.ble (AHeap.next H) (AHeap.next H2+8) && true then some (AVal.bool (decide ((↑d:Int)<(↑k:Int))))=some (AVal.bool true)∧some (AVal.bool (decide ((↑k:Int)<(↑z:Int))))=some (AVal.bool true)∧bif Nat.ble (AHeap.next H) (AHeap.next H2+16) && true then CallT Tryz.prog cnd 161 [dv,AVal.int IntKind.i64 (↑d:Int),AVal.int IntKind.i64 (↑k:Int),AVal.int IntKind.i64 (↑z:Int),cv] (AHeap.mk (AHeap.next H2+22) (H2.2)) (AVal.tuple []) H4∧bif Nat.ble (AHeap.next H) (AHeap.next H4)then K0 (AVal.tuple []) H4 else False else False else False else False else False else False else False else False else False else False else False else False else False else False else False else False) :
    ∃ v h1,FDoes Tryz.prog cnd 161 [dv,.int .i64 a,.int .i64 m,.int .i64 z,cv] H v h1∧K0 v h1 :=
  tcall_does env_ok mixed noSpecs_ok (hs:= .hint (.go 2) (.hint (.val 3 (AVal.bool false)) (.hint (.go 12002) (.hint (.val 12003 (AVal.bool false)) (.hint (.go 24002) (.hint (.go 24003) (.hint (.go 24004) (.hint (.val 24005 (AVal.int IntKind.i64 (↑d:Int))) (.hint (.val 25002 (AVal.int IntKind.i64 (↑n:Int))) (.hint (.val 27002 (AVal.bool false)) (.hint (.val 32001 (AVal.int IntKind.i64 (↑w:Int))) (.hint (.keep [0,1,2,3,4,18,19,20,21,22]) (.hint (.loop [(0,dv),(1,AVal.int IntKind.i64 (↑a:Int)),(2,AVal.int IntKind.i64 (↑m:Int)),(3,AVal.int IntKind.i64 (↑z:Int)),(4,cv),(18,AVal.int IntKind.i64 (↑d:Int)),(19,AVal.int IntKind.i64 (↑n:Int)),(20,AVal.int IntKind.i64 (↑i:Int))] H1 (AExit.exit 8)) (.hint (.val 38002 (AVal.int IntKind.i64 (↑k:Int))) (.hint (.val 39002 (AVal.bool true)) (.hint (.val 39006 (AVal.bool true)) (.hint (.act 40005 (AVal.tuple []) fun x=>H2) (.hint (.val 41002 (AVal.bool false)) (.hint (.val 43002 (AVal.bool true)) (.hint (.val 43006 (AVal.bool true)) (.hint (.act 44005 (AVal.tuple []) fun x=>H4) .nil))))))))))))))))))))) (by kernel_rfl) vc
theorem smI_vc(H H1 H2 H3 H4:AHeap)(a m z d n s w i k:Nat)(dv cv:AVal)(K0:AVal→AHeap→Prop)(vc:bif Nat.ble (AHeap.next H) (AHeap.next H) && true then(-9223372036854775808≤(↑m:Int)- (↑a:Int)∧(↑m:Int)- (↑a:Int)≤9223372036854775807)∧some (AVal.bool ((↑m:Int)- (↑a:Int) == 1))=some (AVal.bool false)∧bif Nat.ble (AHeap.next H) (AHeap.next H+4) && true then(-9223372036854775808≤(↑z:Int)- (↑m:Int)∧(↑z:Int)- (↑m:Int)≤9223372036854775807)∧some (AVal.bool ((↑z:Int)- (↑m:Int) == 1))=some (AVal.bool false)∧bif Nat.ble (AHeap.next H) (AHeap.next H+8) && true then(-9223372036854775808≤(↑a:Int)+(↑z:Int)∧(↑a:Int)+(↑z:Int)≤9223372036854775807)∧(0≤(↑a:Int)+(↑z:Int)∧(↑a:Int)+(↑z:Int)≤18446744073709551615)∧Int.NonNeg (1-0)∧aop env noCall (AHeap.next H+13) (getF [(133,AVal.int IntKind.u64 (ishr IntKind.u64 ((↑a:Int)+(↑z:Int)) (1))),(132,AVal.int IntKind.u64 ((↑a:Int)+(↑z:Int))),(131,AVal.int IntKind.i64 ((↑a:Int)+(↑z:Int))),(130,AVal.int IntKind.i64 (↑z:Int)),(129,AVal.int IntKind.i64 (↑a:Int)),(80,AVal.bool false),(79,AVal.int IntKind.i64 ((↑z:Int)- (↑m:Int))),(78,AVal.int IntKind.i64 (↑m:Int)),(77,AVal.int IntKind.i64 (↑z:Int)),(28,AVal.bool false),(27,AVal.int IntKind.i64 ((↑m:Int)- (↑a:Int))),(26,AVal.int IntKind.i64 (↑a:Int)),(25,AVal.int IntKind.i64 (↑m:Int)),(0,dv),(1,AVal.int IntKind.i64 (↑a:Int)),(2,AVal.int IntKind.i64 (↑m:Int)),(3,AVal.int IntKind.i64 (↑z:Int)),(4,cv)]) (AHeap.mk (AHeap.next H+15) (H.2)) (Op.convert 108 3 (Operand.tmp 133))=some (AVal.int IntKind.i64 (↑d:Int),(AHeap.mk (AHeap.next H+15) (H.2)))∧bif Nat.ble (AHeap.next H) (AHeap.next H+15) && true then some (AVal.int IntKind.i64 (IntKind.wrap IntKind.i64 ((↑d:Int)+(↑m:Int))))=some (AVal.int IntKind.i64 (↑n:Int))∧bif Nat.ble (AHeap.next H) (AHeap.next H+19) && true then bif Nat.ble (AHeap.next H) (AHeap.next H+21) && true then some (AVal.bool (decide ((↑m:Int)>(↑d:Int))))=some (AVal.bool false)∧bif Nat.ble (AHeap.next H) (AHeap.next H+24) && true then bif Nat.ble (AHeap.next H) (AHeap.next H+26) && true then bif Nat.ble (AHeap.next H) (AHeap.next H+28) && true then some (AVal.int IntKind.i64 (IntKind.wrap IntKind.i64 ((↑n:Int)-1)))=some (AVal.int IntKind.i64 (↑w:Int))∧Runs Tryz.prog cnd (AHeap.next H) 220 (Code.loop (loopAt Tryz.prog 161 4)) [(0,dv),(1,AVal.int IntKind.i64 (↑a:Int)),(2,AVal.int IntKind.i64 (↑m:Int)),(3,AVal.int IntKind.i64 (↑z:Int)),(4,cv),(18,AVal.int IntKind.i64 (↑d:Int)),(19,AVal.int IntKind.i64 (↑n:Int)),(20,AVal.int IntKind.i64 (↑a:Int)),(21,AVal.int IntKind.i64 (↑m:Int)),(22,AVal.int IntKind.i64 (↑w:Int))] (AHeap.mk (AHeap.next H+28+3) (AHeap.blks (AHeap.mk (AHeap.next H+26+2) (AHeap.blks (AHeap.mk (AHeap.next H+24+2) (AHeap.blks (AHeap.mk (AHeap.next H+21+3) (AHeap.blks (AHeap.mk (AHeap.next H+19+2) (AHeap.blks (AHeap.mk (AHeap.next H+15+4) (AHeap.blks (AHeap.mk (AHeap.next H+8+7) (AHeap.blks (AHeap.mk (AHeap.next H+4+4) (AHeap.blks (AHeap.mk (AHeap.next H+4) (AHeap.blks H)))))))))))))))))) (AExit.exit 8) [(0,dv),(1,AVal.int IntKind.i64 (↑a:Int)),(2,AVal.int IntKind.i64 (↑m:Int)),(3,AVal.int IntKind.i64 (↑z:Int)),(4,cv),(18,AVal.int IntKind.i64 (↑d:Int)),(19,AVal.int IntKind.i64 (↑n:Int)),(20,AVal.int IntKind.i64 (↑i:Int))] H1∧bif Nat.ble (AHeap.next H) (AHeap.next H1) && true then some (AVal.int IntKind.i64 (IntKind.wrap IntKind.i64 ((↑n:Int)- (↑i:Int))))=some (AVal.int IntKind.i64 (↑k:Int))∧bif Nat.ble (AHeap.next H) (AHeap.next H1+4) && true then some (AVal.bool (decide ((↑i:Int)<(↑m:Int))))=some (AVal.bool true)∧some (AVal.bool (decide ((↑m:Int)<(↑k:Int))))=some (AVal.bool true)∧bif Nat.ble (AHeap.next H) (AHeap.next H1+12) && true then CallT Tryz.prog cnd 195 [dv,AVal.int IntKind.i64 (↑i:Int),AVal.int IntKind.i64 (↑m:Int),AVal.int IntKind.i64 (↑k:Int),cv] (AHeap.mk (AHeap.next H1+18) (H1.2)) (AVal.tuple []) H2∧bif Nat.ble (AHeap.next H) (AHeap.next H2) && true then some (AVal.bool (decide ((↑a:Int)<(↑i:Int))))=some (AVal.bool false)∧bif Nat.ble (AHeap.next H) (AHeap.next H2+8) && true then some (AVal.bool (decide ((↑d:Int)<(↑k:Int))))=some (AVal.bool true)∧some (AVal.bool (decide ((↑k:Int)<(↑z:Int))))=some (AVal.bool false)∧bif Nat.ble (AHeap.next H) (AHeap.next H2+16)then K0 (AVal.tuple []) (AHeap.mk (AHeap.next H2+8+8) (AHeap.blks (AHeap.mk (AHeap.next H2+8) (AHeap.blks H2))))else False else False else False else False else False else False else False else False else False else False else False else False else False else False else False) :
    ∃ v h1,FDoes Tryz.prog cnd 161 [dv,.int .i64 a,.int .i64 m,.int .i64 z,cv] H v h1∧K0 v h1 :=
  tcall_does env_ok mixed noSpecs_ok (hs:= .hint (.go 2) (.hint (.val 3 (AVal.bool false)) (.hint (.go 12002) (.hint (.val 12003 (AVal.bool false)) (.hint (.go 24002) (.hint (.go 24003) (.hint (.go 24004) (.hint (.val 24005 (AVal.int IntKind.i64 (↑d:Int))) (.hint (.val 25002 (AVal.int IntKind.i64 (↑n:Int))) (.hint (.val 27002 (AVal.bool false)) (.hint (.val 32001 (AVal.int IntKind.i64 (↑w:Int))) (.hint (.keep [0,1,2,3,4,18,19,20,21,22]) (.hint (.loop [(0,dv),(1,AVal.int IntKind.i64 (↑a:Int)),(2,AVal.int IntKind.i64 (↑m:Int)),(3,AVal.int IntKind.i64 (↑z:Int)),(4,cv),(18,AVal.int IntKind.i64 (↑d:Int)),(19,AVal.int IntKind.i64 (↑n:Int)),(20,AVal.int IntKind.i64 (↑i:Int))] H1 (AExit.exit 8)) (.hint (.val 38002 (AVal.int IntKind.i64 (↑k:Int))) (.hint (.val 39002 (AVal.bool true)) (.hint (.val 39006 (AVal.bool true)) (.hint (.act 40005 (AVal.tuple []) fun x=>H2) (.hint (.val 41002 (AVal.bool false)) (.hint (.val 43002 (AVal.bool true)) (.hint (.val 43006 (AVal.bool false)) .nil)))))))))))))))))))) (by kernel_rfl) vc
theorem smJ_vc(H H1 H2 H3 H4:AHeap)(a m z d n s w i k:Nat)(dv cv:AVal)(K0:AVal→AHeap→Prop)(vc:bif Nat.ble (AHeap.next H) (AHeap.next H) && true then(-9223372036854775808≤(↑m:Int)- (↑a:Int)∧(↑m:Int)- (↑a:Int)≤9223372036854775807)∧some (AVal.bool ((↑m:Int)- (↑a:Int) == 1))=some (AVal.bool false)∧bif Nat.ble (AHeap.next H) (AHeap.next H+4) && true then(-9223372036854775808≤(↑z:Int)- (↑m:Int)∧(↑z:Int)- (↑m:Int)≤9223372036854775807)∧some (AVal.bool ((↑z:Int)- (↑m:Int) == 1))=some (AVal.bool false)∧bif Nat.ble (AHeap.next H) (AHeap.next H+8) && true then(-9223372036854775808≤(↑a:Int)+(↑z:Int)∧(↑a:Int)+(↑z:Int)≤9223372036854775807)∧(0≤(↑a:Int)+(↑z:Int)∧(↑a:Int)+(↑z:Int)≤18446744073709551615)∧Int.NonNeg (1-0)∧aop env noCall (AHeap.next H+13) (getF [(133,AVal.int IntKind.u64 (ishr IntKind.u64 ((↑a:Int)+(↑z:Int)) (1))),(132,AVal.int IntKind.u64 ((↑a:Int)+(↑z:Int))),(131,AVal.int IntKind.i64 ((↑a:Int)+(↑z:Int))),(130,AVal.int IntKind.i64 (↑z:Int)),(129,AVal.int IntKind.i64 (↑a:Int)),(80,AVal.bool false),(79,AVal.int IntKind.i64 ((↑z:Int)- (↑m:Int))),(78,AVal.int IntKind.i64 (↑m:Int)),(77,AVal.int IntKind.i64 (↑z:Int)),(28,AVal.bool false),(27,AVal.int IntKind.i64 ((↑m:Int)- (↑a:Int))),(26,AVal.int IntKind.i64 (↑a:Int)),(25,AVal.int IntKind.i64 (↑m:Int)),(0,dv),(1,AVal.int IntKind.i64 (↑a:Int)),(2,AVal.int IntKind.i64 (↑m:Int)),(3,AVal.int IntKind.i64 (↑z:Int)),(4,cv)]) (AHeap.mk (AHeap.next H+15) (H.2)) (Op.convert 108 3 (Operand.tmp 133))=some (AVal.int IntKind.i64 (↑d:Int),(AHeap.mk (AHeap.next H+15) (H.2)))∧bif Nat.ble (AHeap.next H) (AHeap.next H+15) && true then some (AVal.int IntKind.i64 (IntKind.wrap IntKind.i64 ((↑d:Int)+(↑m:Int))))=some (AVal.int IntKind.i64 (↑n:Int))∧bif Nat.ble (AHeap.next H) (AHeap.next H+19) && true then bif Nat.ble (AHeap.next H) (AHeap.next H+21) && true then some (AVal.bool (decide ((↑m:Int)>(↑d:Int))))=some (AVal.bool false)∧bif Nat.ble (AHeap.next H) (AHeap.next H+24) && true then bif Nat.ble (AHeap.next H) (AHeap.next H+26) && true then bif Nat.ble (AHeap.next H) (AHeap.next H+28) && true then some (AVal.int IntKind.i64 (IntKind.wrap IntKind.i64 ((↑n:Int)-1)))=some (AVal.int IntKind.i64 (↑w:Int))∧Runs Tryz.prog cnd (AHeap.next H) 220 (Code.loop (loopAt Tryz.prog 161 4)) [(0,dv),(1,AVal.int IntKind.i64 (↑a:Int)),(2,AVal.int IntKind.i64 (↑m:Int)),(3,AVal.int IntKind.i64 (↑z:Int)),(4,cv),(18,AVal.int IntKind.i64 (↑d:Int)),(19,AVal.int IntKind.i64 (↑n:Int)),(20,AVal.int IntKind.i64 (↑a:Int)),(21,AVal.int IntKind.i64 (↑m:Int)),(22,AVal.int IntKind.i64 (↑w:Int))] (AHeap.mk (AHeap.next H+28+3) (AHeap.blks (AHeap.mk (AHeap.next H+26+2) (AHeap.blks (AHeap.mk (AHeap.next H+24+2) (AHeap.blks (AHeap.mk (AHeap.next H+21+3) (AHeap.blks (AHeap.mk (AHeap.next H+19+2) (AHeap.blks (AHeap.mk (AHeap.next H+15+4) (AHeap.blks (AHeap.mk (AHeap.next H+8+7) (AHeap.blks (AHeap.mk (AHeap.next H+4+4) (AHeap.blks (AHeap.mk (AHeap.next H+4) (AHeap.blks H)))))))))))))))))) (AExit.exit 8) [(0,dv),(1,AVal.int IntKind.i64 (↑a:Int)),(2,AVal.int IntKind.i64 (↑m:Int)),(3,AVal.int IntKind.i64 (↑z:Int)),(4,cv),(18,AVal.int IntKind.i64 (↑d:Int)),(19,AVal.int IntKind.i64 (↑n:Int)),(20,AVal.int IntKind.i64 (↑i:Int))] H1∧bif Nat.ble (AHeap.next H) (AHeap.next H1) && true then some (AVal.int IntKind.i64 (IntKind.wrap IntKind.i64 ((↑n:Int)- (↑i:Int))))=some (AVal.int IntKind.i64 (↑k:Int))∧bif Nat.ble (AHeap.next H) (AHeap.next H1+4) && true then some (AVal.bool (decide ((↑i:Int)<(↑m:Int))))=some (AVal.bool false)∧bif Nat.ble (AHeap.next H) (AHeap.next H1+12) && true then some (AVal.bool (decide ((↑a:Int)<(↑i:Int))))=some (AVal.bool true)∧some (AVal.bool (decide ((↑i:Int)<(↑d:Int))))=some (AVal.bool true)∧bif Nat.ble (AHeap.next H) (AHeap.next H1+20) && true then CallT Tryz.prog cnd 161 [dv,AVal.int IntKind.i64 (↑a:Int),AVal.int IntKind.i64 (↑i:Int),AVal.int IntKind.i64 (↑d:Int),cv] (AHeap.mk (AHeap.next H1+26) (H1.2)) (AVal.tuple []) H3∧bif Nat.ble (AHeap.next H) (AHeap.next H3) && true then some (AVal.bool (decide ((↑d:Int)<(↑k:Int))))=some (AVal.bool false)∧bif Nat.ble (AHeap.next H) (AHeap.next H3+8)then K0 (AVal.tuple []) (AHeap.mk (AHeap.next H3+8) (AHeap.blks H3))else False else False else False else False else False else False else False else False else False else False else False else False else False else False else False) :
    ∃ v h1,FDoes Tryz.prog cnd 161 [dv,.int .i64 a,.int .i64 m,.int .i64 z,cv] H v h1∧K0 v h1 :=
  tcall_does env_ok mixed noSpecs_ok (hs:= .hint (.go 2) (.hint (.val 3 (AVal.bool false)) (.hint (.go 12002) (.hint (.val 12003 (AVal.bool false)) (.hint (.go 24002) (.hint (.go 24003) (.hint (.go 24004) (.hint (.val 24005 (AVal.int IntKind.i64 (↑d:Int))) (.hint (.val 25002 (AVal.int IntKind.i64 (↑n:Int))) (.hint (.val 27002 (AVal.bool false)) (.hint (.val 32001 (AVal.int IntKind.i64 (↑w:Int))) (.hint (.keep [0,1,2,3,4,18,19,20,21,22]) (.hint (.loop [(0,dv),(1,AVal.int IntKind.i64 (↑a:Int)),(2,AVal.int IntKind.i64 (↑m:Int)),(3,AVal.int IntKind.i64 (↑z:Int)),(4,cv),(18,AVal.int IntKind.i64 (↑d:Int)),(19,AVal.int IntKind.i64 (↑n:Int)),(20,AVal.int IntKind.i64 (↑i:Int))] H1 (AExit.exit 8)) (.hint (.val 38002 (AVal.int IntKind.i64 (↑k:Int))) (.hint (.val 39002 (AVal.bool false)) (.hint (.val 41002 (AVal.bool true)) (.hint (.val 41006 (AVal.bool true)) (.hint (.act 42005 (AVal.tuple []) fun x=>H3) (.hint (.val 43002 (AVal.bool false)) .nil))))))))))))))))))) (by kernel_rfl) vc
theorem smK_vc(H H1 H2 H3 H4:AHeap)(a m z d n s w i k:Nat)(dv cv:AVal)(K0:AVal→AHeap→Prop)(vc:bif Nat.ble (AHeap.next H) (AHeap.next H) && true then(-9223372036854775808≤(↑m:Int)- (↑a:Int)∧(↑m:Int)- (↑a:Int)≤9223372036854775807)∧some (AVal.bool ((↑m:Int)- (↑a:Int) == 1))=some (AVal.bool false)∧bif Nat.ble (AHeap.next H) (AHeap.next H+4) && true then(-9223372036854775808≤(↑z:Int)- (↑m:Int)∧(↑z:Int)- (↑m:Int)≤9223372036854775807)∧some (AVal.bool ((↑z:Int)- (↑m:Int) == 1))=some (AVal.bool false)∧bif Nat.ble (AHeap.next H) (AHeap.next H+8) && true then(-9223372036854775808≤(↑a:Int)+(↑z:Int)∧(↑a:Int)+(↑z:Int)≤9223372036854775807)∧(0≤(↑a:Int)+(↑z:Int)∧(↑a:Int)+(↑z:Int)≤18446744073709551615)∧Int.NonNeg (1-0)∧aop env noCall (AHeap.next H+13) (getF [(133,AVal.int IntKind.u64 (ishr IntKind.u64 ((↑a:Int)+(↑z:Int)) (1))),(132,AVal.int IntKind.u64 ((↑a:Int)+(↑z:Int))),(131,AVal.int IntKind.i64 ((↑a:Int)+(↑z:Int))),(130,AVal.int IntKind.i64 (↑z:Int)),(129,AVal.int IntKind.i64 (↑a:Int)),(80,AVal.bool false),(79,AVal.int IntKind.i64 ((↑z:Int)- (↑m:Int))),(78,AVal.int IntKind.i64 (↑m:Int)),(77,AVal.int IntKind.i64 (↑z:Int)),(28,AVal.bool false),(27,AVal.int IntKind.i64 ((↑m:Int)- (↑a:Int))),(26,AVal.int IntKind.i64 (↑a:Int)),(25,AVal.int IntKind.i64 (↑m:Int)),(0,dv),(1,AVal.int IntKind.i64 (↑a:Int)),(2,AVal.int IntKind.i64 (↑m:Int)),(3,AVal.int IntKind.i64 (↑z:Int)),(4,cv)]) (AHeap.mk (AHeap.next H+15) (H.2)) (Op.convert 108 3 (Operand.tmp 133))=some (AVal.int IntKind.i64 (↑d:Int),(AHeap.mk (AHeap.next H+15) (H.2)))∧bif Nat.ble (AHeap.next H) (AHeap.next H+15) && true then some (AVal.int IntKind.i64 (IntKind.wrap IntKind.i64 ((↑d:Int)+(↑m:Int))))=some (AVal.int IntKind.i64 (↑n:Int))∧bif Nat.ble (AHeap.next H) (AHeap.next H+19) && true then bif Nat.ble (AHeap.next H) (AHeap.next H+21) && true then some (AVal.bool (decide ((↑m:Int)>(↑d:Int))))=some (AVal.bool false)∧bif Nat.ble (AHeap.next H) (AHeap.next H+24) && true then bif Nat.ble (AHeap.next H) (AHeap.next H+26) && true then bif Nat.ble (AHeap.next H) (AHeap.next H+28) && true then some (AVal.int IntKind.i64 (IntKind.wrap IntKind.i64 ((↑n:Int)-1)))=some (AVal.int IntKind.i64 (↑w:Int))∧Runs Tryz.prog cnd (AHeap.next H) 220 (Code.loop (loopAt Tryz.prog 161 4)) [(0,dv),(1,AVal.int IntKind.i64 (↑a:Int)),(2,AVal.int IntKind.i64 (↑m:Int)),(3,AVal.int IntKind.i64 (↑z:Int)),(4,cv),(18,AVal.int IntKind.i64 (↑d:Int)),(19,AVal.int IntKind.i64 (↑n:Int)),(20,AVal.int IntKind.i64 (↑a:Int)),(21,AVal.int IntKind.i64 (↑m:Int)),(22,AVal.int IntKind.i64 (↑w:Int))] (AHeap.mk (AHeap.next H+28+3) (AHeap.blks (AHeap.mk (AHeap.next H+26+2) (AHeap.blks (AHeap.mk (AHeap.next H+24+2) (AHeap.blks (AHeap.mk (AHeap.next H+21+3) (AHeap.blks (AHeap.mk (AHeap.next H+19+2) (AHeap.blks (AHeap.mk (AHeap.next H+15+4) (AHeap.blks (AHeap.mk (AHeap.next H+8+7) (AHeap.blks (AHeap.mk (AHeap.next H+4+4) (AHeap.blks (AHeap.mk (AHeap.next H+4) (AHeap.blks H)))))))))))))))))) (AExit.exit 8) [(0,dv),(1,AVal.int IntKind.i64 (↑a:Int)),(2,AVal.int IntKind.i64 (↑m:Int)),(3,AVal.int IntKind.i64 (↑z:Int)),(4,cv),(18,AVal.int IntKind.i64 (↑d:Int)),(19,AVal.int IntKind.i64 (↑n:Int)),(20,AVal.int IntKind.i64 (↑i:Int))] H1∧bif Nat.ble (AHeap.next H) (AHeap.next H1) && true then some (AVal.int IntKind.i64 (IntKind.wrap IntKind.i64 ((↑n:Int)- (↑i:Int))))=some (AVal.int IntKind.i64 (↑k:Int))∧bif Nat.ble (AHeap.next H) (AHeap.next H1+4) && true then some (AVal.bool (decide ((↑i:Int)<(↑m:Int))))=some (AVal.bool false)∧bif Nat.ble (AHeap.next H) (AHeap.next H1+12) && true then some (AVal.bool (decide ((↑a:Int)<(↑i:Int))))=some (AVal.bool true)∧some (AVal.bool (decide ((↑i:Int)<(↑d:Int))))=some (AVal.bool false)∧bif Nat.ble (AHeap.next H) (AHeap.next H1+20) && true then some (AVal.bool (decide ((↑d:Int)<(↑k:Int))))=some (AVal.bool false)∧bif Nat.ble (AHeap.next H) (AHeap.next H1+28)then K0 (AVal.tuple []) (AHeap.mk (AHeap.next H1+20+8) (AHeap.blks (AHeap.mk (AHeap.next H1+12+8) (AHeap.blks (AHeap.mk (AHeap.next H1+4+8) (AHeap.blks (AHeap.mk (AHeap.next H1+4) (AHeap.blks H1))))))))else False else False else False else False else False else False else False else False else False else False else False else False else False else False) :
    ∃ v h1,FDoes Tryz.prog cnd 161 [dv,.int .i64 a,.int .i64 m,.int .i64 z,cv] H v h1∧K0 v h1 :=
  tcall_does env_ok mixed noSpecs_ok (hs:= .hint (.go 2) (.hint (.val 3 (AVal.bool false)) (.hint (.go 12002) (.hint (.val 12003 (AVal.bool false)) (.hint (.go 24002) (.hint (.go 24003) (.hint (.go 24004) (.hint (.val 24005 (AVal.int IntKind.i64 (↑d:Int))) (.hint (.val 25002 (AVal.int IntKind.i64 (↑n:Int))) (.hint (.val 27002 (AVal.bool false)) (.hint (.val 32001 (AVal.int IntKind.i64 (↑w:Int))) (.hint (.keep [0,1,2,3,4,18,19,20,21,22]) (.hint (.loop [(0,dv),(1,AVal.int IntKind.i64 (↑a:Int)),(2,AVal.int IntKind.i64 (↑m:Int)),(3,AVal.int IntKind.i64 (↑z:Int)),(4,cv),(18,AVal.int IntKind.i64 (↑d:Int)),(19,AVal.int IntKind.i64 (↑n:Int)),(20,AVal.int IntKind.i64 (↑i:Int))] H1 (AExit.exit 8)) (.hint (.val 38002 (AVal.int IntKind.i64 (↑k:Int))) (.hint (.val 39002 (AVal.bool false)) (.hint (.val 41002 (AVal.bool true)) (.hint (.val 41006 (AVal.bool false)) (.hint (.val 43002 (AVal.bool false)) .nil)))))))))))))))))) (by kernel_rfl) vc
end Go.Proofs.YtjpfnbihopoeeaaGreatDoor
namespace Go.Proofs.YtjpfnbihopoeeaaGreatDoor
open Go.Lift
set_option maxRecDepth 1000000
theorem t0S_vp(H H1:AHeap)(B n s a i:Nat)(dv cv:AVal)(K0:AExit→Facts→AHeap→Prop)(vc:bif Nat.ble B (AHeap.next H) && true then some (AVal.bool (decide ((↑i:Int)≤(↑n:Int))))=some (AVal.bool true)∧bif Nat.ble B (AHeap.next H+3) && true then CallT Tryz.prog cnd 160 [dv,AVal.int IntKind.i64 (↑a:Int),AVal.int IntKind.i64 (↑i:Int),cv] (AHeap.mk (AHeap.next H+8) (H.2)) (AVal.tuple []) H1∧bif Nat.ble B (AHeap.next H1) && true then bif Nat.ble B (AHeap.next H1+2) && true then(-9223372036854775808≤(↑i:Int)+(↑s:Int)∧(↑i:Int)+(↑s:Int)≤9223372036854775807)∧K0 AExit.normal [(0,dv),(1,AVal.int IntKind.i64 (↑n:Int)),(2,cv),(6,AVal.int IntKind.i64 (↑s:Int)),(7,AVal.int IntKind.i64 (↑i:Int)),(8,AVal.int IntKind.i64 ((↑i:Int)+(↑s:Int)))] (AHeap.mk (AHeap.next H1+2+4) (AHeap.blks (AHeap.mk (AHeap.next H1+2) (AHeap.blks H1))))else False else False else False else False) :
    ∃ e F1 h1,Runs Tryz.prog cnd B 63 (loopAt Tryz.prog 122 0) [(0,dv),(1,.int .i64 n),(2,cv),(6,.int .i64 s),(7,.int .i64 a),(8,.int .i64 i)] H e F1 h1∧K0 e F1 h1 :=
  tpath_runs env_ok mixed noSpecs_ok (hs:= .hint (.val 2002 (AVal.bool true)) (.hint (.act 3004 (AVal.tuple []) fun x=>H1) (.hint (.go 5002) .nil))) (keep:= [0,1,2,6,7,8]) (by kernel_rfl) vc
theorem t0E_vp(H:AHeap)(B n s a i:Nat)(dv cv:AVal)(K0:AExit→Facts→AHeap→Prop)(vc:bif Nat.ble B (AHeap.next H) && true then some (AVal.bool (decide ((↑i:Int)≤(↑n:Int))))=some (AVal.bool false)∧K0 (AExit.exit 0) [(0,dv),(1,AVal.int IntKind.i64 (↑n:Int)),(2,cv),(6,AVal.int IntKind.i64 (↑s:Int)),(7,AVal.int IntKind.i64 (↑a:Int)),(8,AVal.int IntKind.i64 (↑i:Int))] (AHeap.mk (AHeap.next H+3) (AHeap.blks H))else False) :
    ∃ e F1 h1,Runs Tryz.prog cnd B 63 (loopAt Tryz.prog 122 0) [(0,dv),(1,.int .i64 n),(2,cv),(6,.int .i64 s),(7,.int .i64 a),(8,.int .i64 i)] H e F1 h1∧K0 e F1 h1 :=
  tpath_runs env_ok mixed noSpecs_ok (hs:= .hint (.val 2002 (AVal.bool false)) .nil) (keep:= [0,1,2,6,7,8]) (by kernel_rfl) vc
theorem t2S_vp(H H1:AHeap)(B n s a i:Nat)(dv cv:AVal)(K0:AExit→Facts→AHeap→Prop)(vc:bif Nat.ble B (AHeap.next H) && true then some (AVal.bool (decide ((↑i:Int)≤(↑n:Int))))=some (AVal.bool true)∧bif Nat.ble B (AHeap.next H+3) && true then(-9223372036854775808≤(↑a:Int)+(↑s:Int)∧(↑a:Int)+(↑s:Int)≤9223372036854775807)∧CallT Tryz.prog cnd 161 [dv,AVal.int IntKind.i64 (↑a:Int),AVal.int IntKind.i64 ((↑a:Int)+(↑s:Int)),AVal.int IntKind.i64 (↑i:Int),cv] (AHeap.mk (AHeap.next H+11) (H.2)) (AVal.tuple []) H1∧bif Nat.ble B (AHeap.next H1) && true then bif Nat.ble B (AHeap.next H1+2) && true then(-9223372036854775808≤2* (↑s:Int)∧2* (↑s:Int)≤9223372036854775807)∧(-9223372036854775808≤(↑i:Int)+2* (↑s:Int)∧(↑i:Int)+2* (↑s:Int)≤9223372036854775807)∧K0 AExit.normal [(0,dv),(1,AVal.int IntKind.i64 (↑n:Int)),(2,cv),(6,AVal.int IntKind.i64 (↑s:Int)),(7,AVal.int IntKind.i64 (↑i:Int)),(8,AVal.int IntKind.i64 ((↑i:Int)+2* (↑s:Int)))] (AHeap.mk (AHeap.next H1+2+5) (AHeap.blks (AHeap.mk (AHeap.next H1+2) (AHeap.blks H1))))else False else False else False else False) :
    ∃ e F1 h1,Runs Tryz.prog cnd B 63 (loopAt Tryz.prog 122 2) [(0,dv),(1,.int .i64 n),(2,cv),(6,.int .i64 s),(7,.int .i64 a),(8,.int .i64 i)] H e F1 h1∧K0 e F1 h1 :=
  tpath_runs env_ok mixed noSpecs_ok (hs:= .hint (.val 9002 (AVal.bool true)) (.hint (.go 10004) (.hint (.act 10007 (AVal.tuple []) fun x=>H1) (.hint (.go 12002) (.hint (.go 12003) .nil))))) (keep:= [0,1,2,6,7,8]) (by kernel_rfl) vc
theorem t2E_vp(H:AHeap)(B n s a i:Nat)(dv cv:AVal)(K0:AExit→Facts→AHeap→Prop)(vc:bif Nat.ble B (AHeap.next H) && true then some (AVal.bool (decide ((↑i:Int)≤(↑n:Int))))=some (AVal.bool false)∧K0 (AExit.exit 4) [(0,dv),(1,AVal.int IntKind.i64 (↑n:Int)),(2,cv),(6,AVal.int IntKind.i64 (↑s:Int)),(7,AVal.int IntKind.i64 (↑a:Int)),(8,AVal.int IntKind.i64 (↑i:Int))] (AHeap.mk (AHeap.next H+3) (AHeap.blks H))else False) :
    ∃ e F1 h1,Runs Tryz.prog cnd B 63 (loopAt Tryz.prog 122 2) [(0,dv),(1,.int .i64 n),(2,cv),(6,.int .i64 s),(7,.int .i64 a),(8,.int .i64 i)] H e F1 h1∧K0 e F1 h1 :=
  tpath_runs env_ok mixed noSpecs_ok (hs:= .hint (.val 9002 (AVal.bool false)) .nil) (keep:= [0,1,2,6,7,8]) (by kernel_rfl) vc
theorem t1S_vp(H H1 H2:AHeap)(B n s a:Nat)(dv cv:AVal)(K0:AExit→Facts→AHeap→Prop)(vc:bif Nat.ble B (AHeap.next H) && true then some (AVal.bool (decide ((↑s:Int)<(↑n:Int))))=some (AVal.bool true)∧bif Nat.ble B (AHeap.next H+3) && true then(-9223372036854775808≤2* (↑s:Int)∧2* (↑s:Int)≤9223372036854775807)∧Runs Tryz.prog cnd B 63 (Code.loop (loopAt Tryz.prog 122 2)) [(0,dv),(1,AVal.int IntKind.i64 (↑n:Int)),(2,cv),(6,AVal.int IntKind.i64 (↑s:Int)),(7,AVal.int IntKind.i64 (0)),(8,AVal.int IntKind.i64 (2* (↑s:Int)))] (AHeap.mk (AHeap.next H+3+4) (AHeap.blks (AHeap.mk (AHeap.next H+3) (AHeap.blks H)))) (AExit.exit 4) [(0,dv),(1,AVal.int IntKind.i64 (↑n:Int)),(2,cv),(6,AVal.int IntKind.i64 (↑s:Int)),(7,AVal.int IntKind.i64 (↑a:Int))] H1∧bif Nat.ble B (AHeap.next H1) && true then(-9223372036854775808≤(↑a:Int)+(↑s:Int)∧(↑a:Int)+(↑s:Int)≤9223372036854775807)∧bif Nat.ble B (AHeap.next H1+4) && true then some (AVal.bool (decide ((↑a:Int)+(↑s:Int)<(↑n:Int))))=some (AVal.bool true)∧bif Nat.ble B (AHeap.next H1+7) && true then CallT Tryz.prog cnd 161 [dv,AVal.int IntKind.i64 (↑a:Int),AVal.int IntKind.i64 ((↑a:Int)+(↑s:Int)),AVal.int IntKind.i64 (↑n:Int),cv] (AHeap.mk (AHeap.next H1+13) (H1.2)) (AVal.tuple []) H2∧bif Nat.ble B (AHeap.next H2) && true then(-9223372036854775808≤(↑s:Int)*2∧(↑s:Int)*2≤9223372036854775807)∧K0 AExit.normal [(0,dv),(1,AVal.int IntKind.i64 (↑n:Int)),(2,cv),(6,AVal.int IntKind.i64 ((↑s:Int)*2))] (AHeap.mk (AHeap.next H2+3) (AHeap.blks H2))else False else False else False else False else False else False) :
    ∃ e F1 h1,Runs Tryz.prog cnd B 63 (loopAt Tryz.prog 122 1) [(0,dv),(1,.int .i64 n),(2,cv),(6,.int .i64 s)] H e F1 h1∧K0 e F1 h1 :=
  tpath_runs env_ok mixed noSpecs_ok (hs:= .hint (.val 7002 (AVal.bool true)) (.hint (.go 8001) (.hint (.keep [0,1,2,6,7,8]) (.hint (.loop [(0,dv),(1,AVal.int IntKind.i64 (↑n:Int)),(2,cv),(6,AVal.int IntKind.i64 (↑s:Int)),(7,AVal.int IntKind.i64 (↑a:Int))] H1 (AExit.exit 4)) (.hint (.go 13002) (.hint (.val 14002 (AVal.bool true)) (.hint (.act 15005 (AVal.tuple []) fun x=>H2) (.hint (.go 16001) .nil)))))))) (keep:= [0,1,2,6]) (by kernel_rfl) vc
theorem t1N_vp(H H1:AHeap)(B n s a:Nat)(dv cv:AVal)(K0:AExit→Facts→AHeap→Prop)(vc:bif Nat.ble B (AHeap.next H) && true then some (AVal.bool (decide ((↑s:Int)<(↑n:Int))))=some (AVal.bool true)∧bif Nat.ble B (AHeap.next H+3) && true then(-9223372036854775808≤2* (↑s:Int)∧2* (↑s:Int)≤9223372036854775807)∧Runs Tryz.prog cnd B 63 (Code.loop (loopAt Tryz.prog 122 2)) [(0,dv),(1,AVal.int IntKind.i64 (↑n:Int)),(2,cv),(6,AVal.int IntKind.i64 (↑s:Int)),(7,AVal.int IntKind.i64 (0)),(8,AVal.int IntKind.i64 (2* (↑s:Int)))] (AHeap.mk (AHeap.next H+3+4) (AHeap.blks (AHeap.mk (AHeap.next H+3) (AHeap.blks H)))) (AExit.exit 4) [(0,dv),(1,AVal.int IntKind.i64 (↑n:Int)),(2,cv),(6,AVal.int IntKind.i64 (↑s:Int)),(7,AVal.int IntKind.i64 (↑a:Int))] H1∧bif Nat.ble B (AHeap.next H1) && true then(-9223372036854775808≤(↑a:Int)+(↑s:Int)∧(↑a:Int)+(↑s:Int)≤9223372036854775807)∧bif Nat.ble B (AHeap.next H1+4) && true then some (AVal.bool (decide ((↑a:Int)+(↑s:Int)<(↑n:Int))))=some (AVal.bool false)∧bif Nat.ble B (AHeap.next H1+7) && true then(-9223372036854775808≤(↑s:Int)*2∧(↑s:Int)*2≤9223372036854775807)∧K0 AExit.normal [(0,dv),(1,AVal.int IntKind.i64 (↑n:Int)),(2,cv),(6,AVal.int IntKind.i64 ((↑s:Int)*2))] (AHeap.mk (AHeap.next H1+7+3) (AHeap.blks (AHeap.mk (AHeap.next H1+4+3) (AHeap.blks (AHeap.mk (AHeap.next H1+4) (AHeap.blks H1))))))else False else False else False else False else False) :
    ∃ e F1 h1,Runs Tryz.prog cnd B 63 (loopAt Tryz.prog 122 1) [(0,dv),(1,.int .i64 n),(2,cv),(6,.int .i64 s)] H e F1 h1∧K0 e F1 h1 :=
  tpath_runs env_ok mixed noSpecs_ok (hs:= .hint (.val 7002 (AVal.bool true)) (.hint (.go 8001) (.hint (.keep [0,1,2,6,7,8]) (.hint (.loop [(0,dv),(1,AVal.int IntKind.i64 (↑n:Int)),(2,cv),(6,AVal.int IntKind.i64 (↑s:Int)),(7,AVal.int IntKind.i64 (↑a:Int))] H1 (AExit.exit 4)) (.hint (.go 13002) (.hint (.val 14002 (AVal.bool false)) (.hint (.go 16001) .nil))))))) (keep:= [0,1,2,6]) (by kernel_rfl) vc
theorem t1E_vp(H:AHeap)(B n s:Nat)(dv cv:AVal)(K0:AExit→Facts→AHeap→Prop)(vc:bif Nat.ble B (AHeap.next H) && true then some (AVal.bool (decide ((↑s:Int)<(↑n:Int))))=some (AVal.bool false)∧K0 (AExit.exit 2) [(0,dv),(1,AVal.int IntKind.i64 (↑n:Int)),(2,cv),(6,AVal.int IntKind.i64 (↑s:Int))] (AHeap.mk (AHeap.next H+3) (AHeap.blks H))else False) :
    ∃ e F1 h1,Runs Tryz.prog cnd B 63 (loopAt Tryz.prog 122 1) [(0,dv),(1,.int .i64 n),(2,cv),(6,.int .i64 s)] H e F1 h1∧K0 e F1 h1 :=
  tpath_runs env_ok mixed noSpecs_ok (hs:= .hint (.val 7002 (AVal.bool false)) .nil) (keep:= [0,1,2,6]) (by kernel_rfl) vc
theorem st_vc(H H1 H2 H3:AHeap)(n a:Nat)(dv cv:AVal)(K0:AVal→AHeap→Prop)(vc:bif Nat.ble (AHeap.next H) (AHeap.next H) && true then bif Nat.ble (AHeap.next H) (AHeap.next H+1) && true then Runs Tryz.prog cnd (AHeap.next H) 63 (Code.loop (loopAt Tryz.prog 122 0)) [(0,dv),(1,AVal.int IntKind.i64 (↑n:Int)),(2,cv),(6,AVal.int IntKind.i64 (20)),(7,AVal.int IntKind.i64 (0)),(8,AVal.int IntKind.i64 (20))] (AHeap.mk (AHeap.next H+1+3) (AHeap.blks (AHeap.mk (AHeap.next H+1) (AHeap.blks H)))) (AExit.exit 0) [(0,dv),(1,AVal.int IntKind.i64 (↑n:Int)),(2,cv),(6,AVal.int IntKind.i64 20),(7,AVal.int IntKind.i64 (↑a:Int))] H1∧bif Nat.ble (AHeap.next H) (AHeap.next H1) && true then CallT Tryz.prog cnd 160 [dv,AVal.int IntKind.i64 (↑a:Int),AVal.int IntKind.i64 (↑n:Int),cv] (AHeap.mk (AHeap.next H1+5) (H1.2)) (AVal.tuple []) H2∧Runs Tryz.prog cnd (AHeap.next H) 63 (Code.loop (loopAt Tryz.prog 122 1)) [(0,dv),(1,AVal.int IntKind.i64 (↑n:Int)),(2,cv),(6,AVal.int IntKind.i64 (20))] H2 (AExit.exit 2) [] H3∧bif Nat.ble (AHeap.next H) (AHeap.next H3)then K0 (AVal.tuple []) H3 else False else False else False else False) :
    ∃ v h1,FDoes Tryz.prog cnd 122 [dv,.int .i64 n,cv] H v h1∧K0 v h1 :=
  tcall_does env_ok mixed noSpecs_ok (hs:= .hint (.keep [0,1,2,6,7,8]) (.hint (.loop [(0,dv),(1,AVal.int IntKind.i64 (↑n:Int)),(2,cv),(6,AVal.int IntKind.i64 20),(7,AVal.int IntKind.i64 (↑a:Int))] H1 (AExit.exit 0)) (.hint (.act 6004 (AVal.tuple []) fun x=>H2) (.hint (.keep [0,1,2,6]) (.hint (.loop [] H3 (AExit.exit 2)) .nil))))) (by kernel_rfl) vc
theorem ss_vc(H H1:AHeap)(n c:Nat)(o:Option AAddr)(cv:AVal)(K0:AVal→AHeap→Prop)(vc:bif Nat.ble (AHeap.next H) (AHeap.next H) && true then CallT Tryz.prog cnd 122 [AVal.slice o n c,AVal.int IntKind.i64 (↑n:Int),cv] (AHeap.mk (AHeap.next H+5) (H.2)) (AVal.tuple []) H1∧bif Nat.ble (AHeap.next H) (AHeap.next H1)then K0 (AVal.tuple []) H1 else False else False) :
    ∃ v h1,FDoes Tryz.prog cnd 72 [.slice o n c,cv] H v h1∧K0 v h1 :=
  tcall_does env_ok mixed noSpecs_ok (hs:= .hint (.act 4 (AVal.tuple []) fun x=>H1) .nil) (by kernel_rfl) vc
end Go.Proofs.YtjpfnbihopoeeaaGreatDoor
namespace Go.Lift
def swapR(π:Nat→Nat)(x y n k:Nat):Nat:=if x≤k∧k<x+n then π (k-x+y)else if y≤k∧k<y+n then π (k-y+x)else π k
def rotF(π:Nat→Nat)(a m b k:Nat):Nat:=if a≤k∧k<a+(b-m)then π (k+(m-a))else if a+(b-m)≤k∧k<b then π (k- (b-m))else π k
theorem rot_long(π:Nat→Nat){i j m:Nat}(hi:i≤m)(hj:j<i):rotF (swapR π (m-i) m j) (m- (i-j)) m (m+j)=rotF π (m-i) m (m+j):=by
  funext k
  unfold rotF swapR
  repeat' split
  all_goals first | rfl | (exfalso;omega) | (congr 1;omega)
theorem rot_short(π:Nat→Nat){i j m:Nat}(hi:i≤m)(hj:i<j):rotF (swapR π (m-i) (m+j-i) i) (m-i) m (m+(j-i))=rotF π (m-i) m (m+j):=by
  funext k
  unfold rotF swapR
  repeat' split
  all_goals first | rfl | (exfalso;omega) | (congr 1;omega)
theorem rot_same(π:Nat→Nat){i m:Nat}(hi:i≤m):swapR π (m-i) m i=rotF π (m-i) m (m+i):=by
  funext k
  unfold rotF swapR
  repeat' split
  all_goals first | rfl | (exfalso;omega) | (congr 1;omega)
structure Weak(less:Nat→Nat→Bool):Prop where
  asym: ∀ p q,less p q=true→less q p=false
  trans: ∀ p q r,less q p=false→less r q=false→less r p=false
def Lt(less:Nat→Nat→Bool)(p q:Nat):Prop:=less p q=true∨(less q p=false∧p<q)
structure Same(π ρ:Nat→Nat)(a b:Nat):Prop where
  out: ∀ k,k<a∨b≤k→ρ k=π k
  perm:((List.range' a (b-a)).map ρ).Perm ((List.range' a (b-a)).map π)
theorem Same.refl(π:Nat→Nat)(a b:Nat):Same π π a b:=⟨fun _ _=>rfl,.refl _⟩
theorem Same.trans {π ρ σ:Nat→Nat}{a b:Nat}(h:Same π ρ a b)(k:Same ρ σ a b):Same π σ a b :=
  ⟨fun i hi=>(k.out i hi).trans (h.out i hi),k.perm.trans h.perm⟩
theorem Same.wide {π ρ:Nat→Nat}{a b c d:Nat}(h:Same π ρ a b)(h1:c≤a)(h2:b≤d)(h3:a≤b):Same π ρ c d:=by
  refine⟨fun k hk=>h.out k (by omega),?_⟩
  have e:List.range' c (d-c)=List.range' c (a-c)++(List.range' a (b-a)++List.range' b (d-b)):=by
    rw [show List.range' a (b-a)++List.range' b (d-b)=List.range' a (d-a)by
      have:=List.range'_append_1 (s:=a) (m:=b-a) (n:=d-b)
      rw [show a+(b-a)=b by omega]at this
      rw [this];congr 1;omega]
    have:=List.range'_append_1 (s:=c) (m:=a-c) (n:=d-a)
    rw [show c+(a-c)=a by omega]at this
    rw [this];congr 1;omega
  rw [e]
  simp only [List.map_append]
  have e1:(List.range' c (a-c)).map ρ=(List.range' c (a-c)).map π:=List.map_congr_left fun k hk=>h.out k (by have:=List.mem_range'_1.1 hk;omega)
  have e2:(List.range' b (d-b)).map ρ=(List.range' b (d-b)).map π:=List.map_congr_left fun k hk=>h.out k (by have:=List.mem_range'_1.1 hk;omega)
  rw [e1,e2]
  exact(List.Perm.refl _).append (h.perm.append (.refl _))
theorem Same.from {π ρ:Nat→Nat}{a b k:Nat}(h:Same π ρ a b)(h1:a≤k)(h2:k<b): ∃ j,a≤j∧j<b∧ρ k=π j:=by
  have hm:ρ k∈(List.range' a (b-a)).map ρ:=List.mem_map.2 ⟨k,List.mem_range'_1.2 ⟨h1,by omega⟩,rfl⟩
  obtain⟨j,hj,e⟩:=List.mem_map.1 (h.perm.mem_iff.1 hm)
  have:=List.mem_range'_1.1 hj
  exact⟨j,this.1,by omega,e.symm⟩
def swap1(π:Nat→Nat)(i k:Nat):Nat:=if k=i then π (i+1)else if k=i+1 then π i else π k
theorem rotF_same(π:Nat→Nat){a m b:Nat}(h1:a≤m)(h2:m≤b):Same π (rotF π a m b) a b:=by
  refine⟨fun k hk=>by unfold rotF;rw [if_neg (by omega),if_neg (by omega)],?_⟩
  have e1:List.range' a (b-a)=List.range' a (b-m)++List.range' (a+(b-m)) (m-a):=by
    rw [List.range'_append_1];congr 1;omega
  have e2:List.range' a (b-a)=List.range' a (m-a)++List.range' m (b-m):=by
    have:=List.range'_append_1 (s:=a) (m:=m-a) (n:=b-m)
    rw [show a+(m-a)=m by omega]at this
    rw [this];congr 1;omega
  have f1:(List.range' a (b-m)).map (rotF π a m b)=(List.range' m (b-m)).map π:=by
    apply List.ext_getElem (by simp)
    intro i h3 h4
    simp only [List.length_map,List.length_range']at h3
    simp only [List.getElem_map,List.getElem_range',Nat.one_mul]
    unfold rotF
    rw [if_pos (by omega)];congr 1;omega
  have f2:(List.range' (a+(b-m)) (m-a)).map (rotF π a m b)=(List.range' a (m-a)).map π:=by
    apply List.ext_getElem (by simp)
    intro i h3 h4
    simp only [List.length_map,List.length_range']at h3
    simp only [List.getElem_map,List.getElem_range',Nat.one_mul]
    unfold rotF
    rw [if_neg (by omega),if_pos (by omega)];congr 1;omega
  rw [show(List.range' a (b-a)).map (rotF π a m b)=(List.range' m (b-m)).map π++(List.range' a (m-a)).map π by rw [e1,List.map_append,f1,f2],
    show(List.range' a (b-a)).map π=(List.range' a (m-a)).map π++(List.range' m (b-m)).map π by rw [e2,List.map_append]]
  exact List.perm_append_comm
def Srt(less:Nat→Nat→Bool)(π:Nat→Nat)(a b:Nat):Prop:= ∀ i j,a≤i→i<j→j<b→Lt less (π i) (π j)
structure Parts(less:Nat→Nat→Bool)(π:Nat→Nat)(a m b:Nat):Prop where
  one:Srt less π a m
  two:Srt less π m b
  cross: ∀ i j,a≤i→i<m→m≤j→j<b→π i<π j
section
variable {less:Nat→Nat→Bool}(w:Weak less)
include w
theorem Lt.le {p q:Nat}(h:Lt less p q):less q p=false:=by
  rcases h with h | h
  · exact w.asym _ _ h
  · exact h.1
theorem less_le {p q r:Nat}(h:less p q=true)(k:less r q=false):less p r=true:=by
  cases c:less p r with
  | true=>rfl
  | false =>
    have:=w.trans q r p k c
    rw [h]at this;cases this
theorem le_less {p q r:Nat}(h:less q p=false)(k:less q r=true):less p r=true:=by
  cases c:less p r with
  | true=>rfl
  | false =>
    have:=w.trans r p q c h
    rw [k]at this;cases this
omit w in
def insAt(π:Nat→Nat)(j i k:Nat):Nat:=if k=j then π i else if j<k∧k≤i then π (k-1)else π k
omit w in
theorem insAt_self(π:Nat→Nat)(i:Nat):insAt π i i=π:=by
  funext k;unfold insAt
  repeat' split
  all_goals first | rfl | (exfalso;omega) | (congr 1;omega)
omit w in
theorem insAt_step(π:Nat→Nat){j i:Nat}(h0:0<j)(h:j≤i):swap1 (insAt π j i) (j-1)=insAt π (j-1) i:=by
  funext k;unfold swap1 insAt
  repeat' split
  all_goals first | rfl | (exfalso;omega) | (congr 1;omega)
omit w in
theorem insAt_rot(π:Nat→Nat){j i:Nat}(h:j≤i):insAt π j i=rotF π j i (i+1):=by
  funext k;unfold rotF insAt
  repeat' split
  all_goals first | rfl | (exfalso;omega) | (congr 1;omega)
theorem ins_done {π:Nat→Nat} {a i j:Nat} (h1:Srt less π a i) (he: ∀ k,a≤k→k<i→π k<π i) (hj:a≤j) (hji:j≤i) (hr: ∀ k,j≤k→k<i→less (π i) (π k)=true) (hl:j=a∨less (π i) (π (j-1))=false):Srt less (insAt π j i) a (i+1):=by
  have before: ∀ k,a≤k→k<j→Lt less (π k) (π i):=by
    intro k hk hkj
    rcases hl with rfl | hl
    · omega
    · refine .inr ⟨?_,he k hk (by omega)⟩
      by_cases e:k=j-1
      · subst e;exact hl
      · exact w.trans _ _ _ (Lt.le w (h1 k (j-1) hk (by omega) (by omega))) hl
  intro x y hx hxy hy
  unfold insAt
  by_cases c1:x=j
  · rw [if_pos c1,if_neg (by omega),if_pos ⟨by omega,by omega⟩]
    exact .inl (hr _ (by omega) (by omega))
  · rw [if_neg c1]
    by_cases c2:j<x∧x≤i
    · rw [if_pos c2,if_neg (by omega),if_pos ⟨by omega,by omega⟩]
      exact h1 _ _ (by omega) (by omega) (by omega)
    · rw [if_neg c2]
      by_cases c3:y=j
      · rw [if_pos c3];exact before x hx (by omega)
      · rw [if_neg c3]
        by_cases c4:j<y∧y≤i
        · rw [if_pos c4]
          exact h1 _ _ hx (by omega) (by omega)
        · rw [if_neg c4];exact h1 _ _ hx hxy (by omega)
omit w in
theorem rot1_zero(π:Nat→Nat)(a:Nat):rotF π a (a+1) (a+1)=π:=by
  funext k;unfold rotF
  repeat' split
  all_goals first | rfl | (exfalso;omega) | (congr 1;omega)
omit w in
theorem rot1_step(π:Nat→Nat){a k:Nat}(h:a≤k):swap1 (rotF π a (a+1) (k+1)) k=rotF π a (a+1) (k+2):=by
  funext x;unfold swap1 rotF
  repeat' split
  all_goals first | rfl | (exfalso;omega) | (congr 1;omega)
theorem merge_one {π:Nat→Nat} {a b i:Nat} (h:Parts less π a (a+1) b) (hi:a+1≤i) (hb:i≤b) (hl:i=a+1∨less (π (i-1)) (π a)=true) (hr:i=b∨less (π i) (π a)=false):Srt less (rotF π a (a+1) i) a b:=by
  have before: ∀ k,a+1≤k→k<i→less (π k) (π a)=true:=by
    intro k hk hki
    rcases hl with rfl | hl
    · omega
    · by_cases e:k=i-1
      · subst e;exact hl
      · exact le_less w (Lt.le w (h.two k (i-1) hk (by omega) (by omega))) hl
  have behind: ∀ k,i≤k→k<b→Lt less (π a) (π k):=by
    intro k hk hkb
    rcases hr with rfl | hr
    · omega
    · refine .inr ⟨?_,h.cross a k (by omega) (by omega) (by omega) hkb⟩
      by_cases e:k=i
      · subst e;exact hr
      · exact w.trans _ _ _ hr (Lt.le w (h.two i k (by omega) (by omega) hkb))
  intro x y hx hxy hy
  unfold rotF
  by_cases c1:a≤x∧x<a+(i- (a+1))
  · rw [if_pos c1]
    by_cases c2:a≤y∧y<a+(i- (a+1))
    · rw [if_pos c2];exact h.two _ _ (by omega) (by omega) (by omega)
    · rw [if_neg c2]
      by_cases c3:a+(i- (a+1))≤y∧y<i
      · rw [if_pos c3,show y- (i- (a+1))=a by omega]
        exact .inl (before _ (by omega) (by omega))
      · rw [if_neg c3];exact h.two _ _ (by omega) (by omega) (by omega)
  · rw [if_neg c1]
    by_cases c2:a+(i- (a+1))≤x∧x<i
    · rw [if_pos c2,if_neg (by omega),if_neg (by omega),show x- (i- (a+1))=a by omega]
      exact behind y (by omega) hy
    · rw [if_neg c2,if_neg (by omega),if_neg (by omega)]
      exact h.two _ _ (by omega) hxy hy
omit w in
theorem rotL_zero(π:Nat→Nat)(m:Nat):rotF π m m (m+1)=π:=by
  funext k;unfold rotF
  repeat' split
  all_goals first | rfl | (exfalso;omega) | (congr 1;omega)
omit w in
theorem rotL_step(π:Nat→Nat){k m:Nat}(h:k≤m)(h0:0<k):swap1 (rotF π k m (m+1)) (k-1)=rotF π (k-1) m (m+1):=by
  funext x;unfold swap1 rotF
  repeat' split
  all_goals first | rfl | (exfalso;omega) | (congr 1;omega)
theorem merge_last {π:Nat→Nat}{a m i:Nat}(h:Parts less π a m (m+1))(hi:a≤i)(hm:i≤m)(hl:i=a∨less (π m) (π (i-1))=false)(hr:i=m∨less (π m) (π i)=true):Srt less (rotF π i m (m+1)) a (m+1):=by
  rw [← insAt_rot π hm]
  refine ins_done w h.one (fun k h1 h2=>h.cross k m h1 h2 (Nat.le_refl _) (by omega)) hi hm ?_ hl
  intro k hk hkm
  rcases hr with rfl | hr
  · omega
  · by_cases e:k=i
    · subst e;exact hr
    · exact less_le w hr (Lt.le w (h.one i k hi (by omega) hkm))
theorem merge_split {π:Nat→Nat} {a m b mid start:Nat} (h:Parts less π a m b) (hm1:a<m) (hm2:m<b) (hmid:mid=(a+b) / 2)
    (hs1:(if mid<m then mid+m-b else a)≤start) (hs2:start≤(if mid<m then mid else m))
    (hl:start=(if mid<m then mid+m-b else a)∨less (π (mid+m-1- (start-1))) (π (start-1))=false) (hr:start=(if mid<m then mid else m)∨less (π (mid+m-1-start)) (π start)=true) :
    Parts less (rotF π start m (mid+m-start)) a start mid∧Parts less (rotF π start m (mid+m-start)) mid (mid+m-start) b ∧
    ∀ i j,a≤i→i<mid→mid≤j→j<b→Lt less (rotF π start m (mid+m-start) i) (rotF π start m (mid+m-start) j):=by
  have b1:a≤start∧start≤m∧start≤mid∧m≤mid+m-start∧mid+m-start≤b:=by
    split at hs1<;>split at hs2<;>omega
  have vA: ∀ k,a≤k→k<start→rotF π start m (mid+m-start) k=π k:=fun k h1 h2=>by unfold rotF;rw [if_neg (by omega),if_neg (by omega)]
  have vB: ∀ k,start≤k→k<mid→rotF π start m (mid+m-start) k=π (k+(m-start)):=fun k h1 h2=>by unfold rotF;rw [if_pos (by omega)]
  have vC: ∀ k,mid≤k→k<mid+m-start→rotF π start m (mid+m-start) k=π (k- (mid-start)):=fun k h1 h2=>by unfold rotF;rw [if_neg (by omega),if_pos (by omega)];congr 1;omega
  have vD: ∀ k,mid+m-start≤k→k<b→rotF π start m (mid+m-start) k=π k:=fun k h1 h2=>by unfold rotF;rw [if_neg (by omega),if_neg (by omega)]
  have ad : ∀ i j,a≤i→i<start→mid+m-start≤j→j<b→Lt less (π i) (π j):=by
    intro i j h1 h2 h3 h4
    refine .inr ⟨?_,h.cross i j h1 (by omega) (by omega) h4⟩
    rcases hl with hl | hl
    · split at hl<;>omega
    · have e:mid+m-1- (start-1)=mid+m-start:=by omega
      rw [e]at hl
      have k1:less (π (start-1)) (π i)=false:=by
        by_cases c:i=start-1
        · subst c
          cases hq:less (π (start-1)) (π (start-1))with
          | false=>rfl
          | true=>rw [w.asym _ _ hq]at hq;cases hq
        · exact Lt.le w (h.one i (start-1) h1 (by omega) (by omega))
      have k2:less (π j) (π (mid+m-start))=false:=by
        by_cases c:j=mid+m-start
        · subst c
          cases hq:less (π (mid+m-start)) (π (mid+m-start))with
          | false=>rfl
          | true=>rw [w.asym _ _ hq]at hq;cases hq
        · exact Lt.le w (h.two _ j (by omega) (by omega) h4)
      exact w.trans _ _ _ (w.trans _ _ _ k1 hl) k2
  have bc : ∀ i j,m≤i→i<mid+m-start→start≤j→j<m→Lt less (π i) (π j):=by
    intro i j h1 h2 h3 h4
    rcases hr with hr | hr
    · split at hr<;>omega
    · refine .inl ?_
      have k1:less (π (mid+m-1-start)) (π i)=false:=by
        by_cases c:i=mid+m-1-start
        · subst c
          cases hq:less (π (mid+m-1-start)) (π (mid+m-1-start))with
          | false=>rfl
          | true=>rw [w.asym _ _ hq]at hq;cases hq
        · exact Lt.le w (h.two i _ h1 (by omega) (by omega))
      have k2:less (π j) (π start)=false:=by
        by_cases c:j=start
        · subst c
          cases hq:less (π j) (π j)with
          | false=>rfl
          | true=>rw [w.asym _ _ hq]at hq;cases hq
        · exact Lt.le w (h.one start j (by omega) (by omega) h4)
      exact less_le w (le_less w k1 hr) k2
  refine⟨⟨?_,?_,?_⟩,⟨?_,?_,?_⟩,?_⟩
  · intro i j h1 h2 h3
    rw [vA i h1 (by omega),vA j (by omega) h3];exact h.one i j h1 h2 (by omega)
  · intro i j h1 h2 h3
    rw [vB i h1 (by omega),vB j (by omega) h3];exact h.two _ _ (by omega) (by omega) (by omega)
  · intro i j h1 h2 h3 h4
    rw [vA i h1 h2,vB j h3 h4];exact h.cross _ _ h1 (by omega) (by omega) (by omega)
  · intro i j h1 h2 h3
    rw [vC i h1 (by omega),vC j (by omega) h3];exact h.one _ _ (by omega) (by omega) (by omega)
  · intro i j h1 h2 h3
    rw [vD i h1 (by omega),vD j (by omega) h3];exact h.two _ _ (by omega) h2 h3
  · intro i j h1 h2 h3 h4
    rw [vC i h1 h2,vD j h3 h4];exact h.cross _ _ (by omega) (by omega) (by omega) h4
  · intro i j h1 h2 h3 h4
    by_cases c1:i<start<;>by_cases c2:j<mid+m-start
    · rw [vA i h1 c1,vC j h3 c2];exact h.one _ _ h1 (by omega) (by omega)
    · rw [vA i h1 c1,vD j (by omega) h4];exact ad _ _ h1 c1 (by omega) h4
    · rw [vB i (by omega) h2,vC j h3 c2];exact bc _ _ (by omega) (by omega) (by omega) (by omega)
    · rw [vB i (by omega) h2,vD j (by omega) h4];exact h.two _ _ (by omega) (by omega) h4
omit w in
theorem merge_join {ρ σ:Nat→Nat}{a mid b:Nat}(h1:a≤mid)(h2:mid≤b)(s1:Same ρ σ a mid)(k1:Srt less σ a mid){τ:Nat→Nat}(s2:Same σ τ mid b)(k2:Srt less τ mid b)
    (hc: ∀ i j,a≤i→i<mid→mid≤j→j<b→Lt less (ρ i) (ρ j)):Srt less τ a b:=by
  intro i j hi hij hj
  by_cases c1:j<mid
  · rw [s2.out i (.inl (by omega)),s2.out j (.inl c1)];exact k1 i j hi hij c1
  · by_cases c2:mid≤i
    · exact k2 i j c2 hij hj
    · rw [s2.out i (.inl (by omega))]
      obtain⟨x,x1,x2,ex⟩:=s1.from (k:=i) hi (by omega)
      obtain⟨y,y1,y2,ey⟩:=s2.from (k:=j) (by omega) hj
      rw [ex,ey,s1.out y (.inr y1)]
      exact hc x y x1 x2 y1 y2
end
end Go.Lift
namespace Go.Proofs.YtjpfnbihopoeeaaGreatDoor
open Go.Lift
set_option maxRecDepth 1000000
structure SC where
  Q:Nat
  V:Nat
  O:Nat
  N:Nat
  cap:Nat
  it:Nat→AVal
  pre:List AVal
  post:List AVal
  C:AHeap→Prop
structure SC.Ok(S:SC):Prop where
  n:S.N<2^44
  o:S.pre.length=S.O
  sv: ∀ k,Sv (S.it k)
  keep: ∀ H H',S.C H→Fr H H' [S.Q]→S.C H'
abbrev SC.dv(S:SC):AVal:= .slice (some ⟨S.Q,S.V,S.O,0,1⟩) S.N S.cap
abbrev SC.ad(S:SC)(i:Nat):AAddr:=⟨S.Q,S.V,S.O+i,0,1⟩
def SC.WS(S:SC)(H:AHeap)(π:Nat→Nat):Prop :=
  S.Q<H.next∧(∃ b,H.get S.Q=some b∧b.ver=S.V∧b.ro=false∧b.exact=true∧b.elems=S.pre++(List.range S.N).map (fun k=>S.it (π k))++S.post)∧S.C H
theorem SC.WS.fr {S:SC}(ok:S.Ok){H H':AHeap}{π:Nat→Nat}(h:S.WS H π)(m:Fr H H' []):S.WS H' π:=by
  obtain⟨h1,⟨b,h2,h3⟩,h4⟩:=h
  exact⟨Nat.lt_of_lt_of_le h1 m.next,⟨b,(m.get _ h1 (by simp)).trans h2,h3⟩,ok.keep _ _ h4 (m.sub (by simp))⟩
theorem SC.WS.congr {S:SC}{H:AHeap}{π σ:Nat→Nat}(h:S.WS H π)(e: ∀ k,k<S.N→σ k=π k):S.WS H σ:=by
  obtain⟨h1,⟨b,h2,h3,h4,hx,h5⟩,h6⟩:=h
  refine⟨h1,⟨b,h2,h3,h4,hx,?_⟩,h6⟩
  rw [h5]
  congr 2
  exact List.map_congr_left fun k hk=>by rw [e k (List.mem_range.1 hk)]
theorem SC.ix(S:SC){e:Int}{i:Nat}(he:e=i)(hi:i<S.N):aindexAddr (AEnv.D env) 22 S.dv (.int .i64 e)=some (.ptr (some (S.ad i))):=by
  subst he
  obtain⟨d,x,d1,d2,x1,x2,_⟩:=elR.sl.ty
  have d1:AEnv.D env 22=some d:=d1
  have x1:AEnv.D env 36=some x:=x1
  unfold aindexAddr
  simp only [d1,d2,x1]
  rw [if_pos ⟨by omega,by omega,by rw [x2],by trivial⟩]
  simp
theorem mid_get {pre post:List AVal}{f:Nat→AVal}{N i:Nat}(hi:i<N):(pre++(List.range N).map f++post)[pre.length+i]? =some (f i):=by
  rw [List.getElem?_append_left (by simp;omega),List.getElem?_append_right (by omega),Nat.add_sub_cancel_left,List.getElem?_map,List.getElem?_range hi]
  rfl
theorem mid_set {pre post:List AVal}{f:Nat→AVal}{N i:Nat}{x:AVal}(hi:i<N):(pre++(List.range N).map f++post).set (pre.length+i) x=pre++(List.range N).map (fun k=>if k=i then x else f k)++post:=by
  rw [List.set_append_left _ _ (by simp;omega),List.set_append_right _ _ (by omega),Nat.add_sub_cancel_left]
  congr 2
  apply List.ext_getElem (by simp)
  intro k h1 h2
  simp only [List.length_set,List.length_map,List.length_range]at h1
  rw [List.getElem_set]
  by_cases e:i=k
  · subst e;simp
  · rw [if_neg e];simp [Ne.symm e,fun h=>e (Eq.symm h)]
theorem agF:(AEnv.D env 36).map (fun d=>(d.kind.isAgg,d.size))=some (false,1):=by kernel_rfl
theorem SC.WS.ld {S:SC}(ok:S.Ok){H:AHeap}{π:Nat→Nat}(h:S.WS H π){i:Nat}(hi:i<S.N)(n:Nat):aload (AEnv.D env) 36 (S.ad i) ⟨n,H.blks⟩=some (S.it (π i)):=by
  obtain⟨h1,⟨b,h2,h3,h4,hx,h5⟩,h6⟩:=h
  obtain⟨d,d1,d2⟩:=Option.map_eq_some_iff.1 agF
  simp only [Prod.mk.injEq]at d2
  have hel:b.elem? S.V (S.O+i)=some (S.it (π i)):=by
    unfold ABlk.elem? ABlk.lim
    rw [if_pos h3.symm,h5,← ok.o,if_pos (by simp;omega)]
    exact mid_get hi
  unfold aload
  have hg:AHeap.get ⟨n,H.blks⟩ S.Q=some b:=h2
  simp only [d1,hg,hel,d2.1,d2.2]
  exact load_sv (ok.sv _)
theorem st_row {S:SC}(ok:S.Ok){H:AHeap}{f:Nat→AVal}{b:ABlk}{i:Nat}{x:AVal}(h2:H.get S.Q=some b)(h3:b.ver=S.V)(h4:b.ro=false)(h5:b.elems=S.pre++(List.range S.N).map f++S.post)(hi:i<S.N)(hf:Sv (f i))(hx:Sv x) :
    astore (AEnv.D env) 36 (S.ad i) x H=some (H.set S.Q {b with elems:=S.pre++(List.range S.N).map (fun k=>if k=i then x else f k)++S.post,minVer:=b.ver}):=by
  obtain⟨d,d1,d2⟩:=Option.map_eq_some_iff.1 agF
  simp only [Prod.mk.injEq]at d2
  have hfx:x.fits d.kind.isAgg d.size=true:=by
    rw [d2.1,d2.2]
    cases x<;>first | rfl | cases hx
  have hg:b.elems[S.O+i]? =some (f i):=by rw [h5,← ok.o];exact mid_get hi
  unfold astore
  simp only [d1,h2,hfx,h4,h3,hg,store_sv hf hx]
  rw [h5,← ok.o,mid_set hi]
  simp
theorem SC.WS.swap {S:SC}(ok:S.Ok){H:AHeap}{π:Nat→Nat}(h:S.WS H π){i j:Nat}(hi:i<S.N)(hj:j<S.N)(hij:i≠j)(n:Nat) :
    ∃ H2 H3,astore (AEnv.D env) 36 (S.ad i) (S.it (π j)) (up H n)=some H2∧astore (AEnv.D env) 36 (S.ad j) (S.it (π i)) H2=some H3∧(∀ σ:Nat→Nat,(∀ k,k<S.N→σ k=if k=j then π i else if k=i then π j else π k)→S.WS H3 σ)∧Fr H H3 [S.Q]∧H2.next=H.next+n∧H3.next=H.next+n:=by
  obtain⟨h1,⟨b,h2,h3,h4,hx,h5⟩,h6⟩:=h
  have e1:=st_row (H:=up H n) ok h2 h3 h4 h5 hi (ok.sv _) (ok.sv (π j))
  let b1:ABlk:= {b with elems:=S.pre++(List.range S.N).map (fun k=>if k=i then S.it (π j)else S.it (π k))++S.post,minVer:=b.ver}
  let H2:=(up H n).set S.Q b1
  have e2:=st_row (H:=H2) (b:=b1) (i:=j) (x:=S.it (π i)) ok (AHeap.get_set_self _ _ _) h3 h4 rfl hj (by
    show Sv (if j=i then S.it (π j)else S.it (π j))
    rw [ite_self];exact ok.sv _) (ok.sv (π i))
  have fr:Fr H (H2.set S.Q {b1 with elems:=S.pre++(List.range S.N).map (fun k=>if k=j then S.it (π i)else if k=i then S.it (π j)else S.it (π k))++S.post,minVer:=b1.ver}) [S.Q]:=((Fr.up H n [S.Q]).trans (Fr.set (L:= [S.Q]) (up H n) _ b1 (by simp)) (fun x hx _=>hx)).trans (Fr.set (L:= [S.Q]) H2 _ _ (by simp)) (fun x hx _=>hx)
  refine⟨H2,_,e1,e2,fun σ hσ=>⟨by show S.Q<H.next+n;omega,⟨_,AHeap.get_set_self _ _ _,h3,h4,hx,?_⟩,ok.keep _ _ h6 fr⟩,fr,rfl,rfl⟩
  show S.pre++_++S.post=S.pre++_++S.post
  congr 2
  refine List.map_congr_left fun k hk=> ?_
  rw [hσ k (List.mem_range.1 hk)]
  split
  · rfl
  · split<;>rfl
def SC.Do(S:SC)(f:FuncId)(args:List AVal)(π σ:Nat→Nat):Prop:= ∀ H,S.WS H π→ ∃ H',FDoes Tryz.prog cnd f args H (.tuple []) H'∧S.WS H' σ∧Fr H H' [S.Q]
theorem swr_loop {S:SC} (ok:S.Ok) {B:Nat} (π:Nat→Nat) {a b n:Nat} (hab:a+n≤b) (hb:b+n≤S.N): ∀ (k i:Nat) (H:AHeap),i+k=n→B≤H.next→S.WS H (swapR π a b i) →
    ∃ H',Loops Tryz.prog cnd B 38 (loopAt Tryz.prog 221 0) [(0,S.dv),(1,.int .i64 (a:Nat)),(2,.int .i64 (b:Nat)),(3,.int .i64 (n:Nat)),(10,.int .i64 (i:Nat))] H (.exit 0) [] H'∧S.WS H' (swapR π a b n)∧Fr H H' [S.Q]:=by
  have hN:=ok.n
  intro k
  induction k with
  | zero =>
    intro i H e hB w
    obtain rfl:i=n:=by omega
    obtain⟨e,F1,h1,hr,rfl,rfl,rfl⟩:=swE_vp H B a b i i S.dv (fun e F1 h1=>e= .exit 0∧F1= [(0,S.dv),(1,.int .i64 (a:Nat)),(2,.int .i64 (b:Nat)),(3,.int .i64 (i:Nat)),(10,.int .i64 (i:Nat))]∧h1=up H 3) (bifL hB ⟨boolF (by omega),rfl,rfl,rfl⟩)
    exact⟨_,(Loops.last (by simp) hr).post (Ent.facts (fle [] (by kernel_rfl))),w.fr ok (Fr.up H 3 []),Fr.up H 3 _⟩
  | succ k ih =>
    intro i H e hB w
    have ea:swapR π a b i (a+i)=π (a+i):=by unfold swapR;rw [if_neg (by omega),if_neg (by omega)]
    have eb:swapR π a b i (b+i)=π (b+i):=by unfold swapR;rw [if_neg (by omega),if_neg (by omega)]
    obtain⟨H1,H2,s1,s2,w2,f2,n1,n2⟩:=w.swap ok (i:=a+i) (j:=b+i) (by omega) (by omega) (by omega) 27
    obtain⟨e',F1,h1,hr,rfl,rfl,rfl⟩:=swS_vp H H1 H2 B a b n i S.dv (S.it (swapR π a b i (a+i))) (S.it (swapR π a b i (b+i))) (S.ad (a+i)) (S.ad (b+i)) (fun e F1 h1=>e= .normal∧F1= [(0,S.dv),(1,.int .i64 (a:Nat)),(2,.int .i64 (b:Nat)),(3,.int .i64 (n:Nat)),(10,.int .i64 ((i+1:Nat):Int))]∧h1=up H2 3)
      (bifL hB ⟨boolT (by omega),bifL (by omega) ⟨⟨by omega,by omega⟩,⟨by omega,by omega⟩,⟨by omega,by omega⟩,S.ix (by omega) (by omega),w.ld ok (by omega) _,by have:=w.1;show S.Q<H.next+3;omega,⟨by omega,by omega⟩,S.ix (by omega) (by omega),w.ld ok (by omega) _,by have:=w.1;show S.Q<H.next+3;omega,S.ix (by omega) (by omega),aop_storeG rfl rfl s1,S.ix (by omega) (by omega),aop_storeG rfl rfl s2,bifL (by omega) ⟨⟨by omega,by omega⟩,rfl,by rw [succI],rfl⟩⟩⟩)
    have w3 :=w2 (swapR π a b (i+1)) (fun k hk=>by
      rw [ea,eb]
      unfold swapR
      by_cases h1:k=b+i
      · subst h1
        rw [if_pos rfl,if_neg (by omega),if_pos (by omega),show b+i-b+a=a+i by omega]
      · rw [if_neg h1]
        by_cases h2:k=a+i
        · subst h2
          rw [if_pos rfl,if_pos (by omega),show a+i-a+b=b+i by omega]
        · rw [if_neg h2]
          by_cases h3:a≤k∧k<a+i
          · rw [if_pos h3,if_pos (by omega)]
          · rw [if_neg h3,if_neg (show ¬ (a≤k∧k<a+(i+1))by omega)]
            by_cases h4:b≤k∧k<b+i
            · rw [if_pos h4,if_pos (by omega)]
            · rw [if_neg h4,if_neg (by omega)])
    have f3:=f2.trans (Fr.up H2 3 []) (by simp)
    obtain⟨H',L,w',f'⟩:=ih (i+1) (up H2 3) (by omega) (by show B≤H2.next+3;omega) (w3.fr ok (Fr.up H2 3 []))
    exact⟨H',Loops.round hr (Ent.refl _ _ _ _) L,w',f3.trans f' (fun x hx _=>hx)⟩
theorem swr_does {S:SC}(ok:S.Ok)(π:Nat→Nat){a b n:Nat}(hab:a+n≤b)(hb:b+n≤S.N){ea eb en:Int}(ha:ea=a)(hb':eb=b)(hn:en=n)(cv:AVal):S.Do 221 [S.dv,.int .i64 ea,.int .i64 eb,.int .i64 en,cv] π (swapR π a b n):=by
  subst ha hb' hn
  intro H w
  obtain⟨H1,L,w1,f1⟩:=swr_loop ok (B:=H.next) π hab hb n 0 (up H 1) (by omega) (by show H.next≤H.next+1;omega) ((w.congr (fun k _=>by unfold swapR;rw [if_neg (by omega),if_neg (by omega)])).fr ok (Fr.up H 1 []))
  have n1:H.next+1≤H1.next:=f1.next
  obtain⟨v,h1,hd,rfl,rfl⟩:=swr_vc H H1 a b n S.dv cv (fun v h1=>v= .tuple []∧h1=H1) (bifL (Nat.le_refl _) ⟨Runs.of_loops L,condL (by omega) ⟨rfl,rfl⟩⟩)
  exact⟨_,hd,w1,(Fr.up H 1 [S.Q]).trans f1 (fun x hx _=>hx)⟩
theorem rot_loop {S:SC} (ok:S.Ok) {B m:Nat} (cv:AVal) (hmN:m≤S.N): ∀ (fuel i j:Nat) (π:Nat→Nat) (H:AHeap),i+j≤fuel→0<i→0<j→i≤m→m+j≤S.N→B≤H.next→S.WS H π →
    ∃ (k:Nat) (ρ:Nat→Nat) (H':AHeap),0<k∧k≤m∧m+k≤S.N∧rotF ρ (m-k) m (m+k)=rotF π (m-i) m (m+j) ∧
    Loops Tryz.prog cnd B 58 (loopAt Tryz.prog 195 0) [(0,S.dv),(2,.int .i64 (m:Nat)),(4,cv),(10,.int .i64 (i:Nat)),(11,.int .i64 (j:Nat))] H (.exit 0) [(0,S.dv),(2,.int .i64 (m:Nat)),(4,cv),(10,.int .i64 (k:Nat))] H'∧S.WS H' ρ∧Fr H H' [S.Q]:=by
  have hN:=ok.n
  intro fuel
  induction fuel with
  | zero=>intro i j π H h hi hj;omega
  | succ fuel ih =>
    intro i j π H h hi hj him hjm hB w
    by_cases hij:i=j
    · subst hij
      obtain⟨e,F1,h1,hr,rfl,rfl,rfl⟩:=roE_vp H B m i i S.dv cv (fun e F1 h1=>e= .exit 0∧F1= [(0,S.dv),(2,.int .i64 (m:Nat)),(4,cv),(10,.int .i64 (i:Nat)),(11,.int .i64 (i:Nat))]∧h1=up H 3) (bifL hB ⟨by simp,rfl,rfl,rfl⟩)
      exact⟨i,π,_,hi,him,hjm,rfl,(Loops.last (by simp) hr).post (Ent.facts (fle [0,2,4,10] (by kernel_rfl))),w.fr ok (Fr.up H 3 []),Fr.up H 3 _⟩
    · have hne:some (AVal.bool ((i:Int) != (j:Int)))=some (AVal.bool true):=by
        have:((i:Int) != (j:Int))=true:=by simp;omega
        rw [this]
      by_cases hgt:j<i
      · obtain⟨H1,D,w1,f1⟩:=swr_does ok π (a:=m-i) (b:=m) (n:=j) (ea:=(m:Int)-i) (eb:=m) (en:=j) (by omega) (by omega) (by omega) rfl rfl cv (up H 14) (w.fr ok (Fr.up H 14 []))
        have n1:H.next+14≤H1.next:=f1.next
        have f01:Fr H (up H1 4) [S.Q]:=((Fr.up H 14 [S.Q]).trans f1 (fun x hx _=>hx)).trans (Fr.up H1 4 []) (by simp)
        obtain⟨k,ρ,H',k1,k2,k3,k4,L,w',f'⟩:=ih (i-j) j (swapR π (m-i) m j) (up H1 4) (by omega) (by omega) hj (by omega) hjm (by show B≤H1.next+4;omega) (w1.fr ok (Fr.up H1 4 []))
        obtain⟨e,F1,h1,hr,rfl,rfl,rfl⟩:=roA_vp H H1 B m i j S.dv cv (fun e F1 h1=>e= .normal∧F1= [(0,S.dv),(2,.int .i64 (m:Nat)),(4,cv),(10,.int .i64 ((i-j:Nat):Int)),(11,.int .i64 (j:Nat))]∧h1=up H1 4)
          (bifL hB ⟨hne,bifL (by omega) ⟨boolT (by omega),bifL (by omega) ⟨⟨by omega,by omega⟩,⟨D⟩,bifL (by omega) ⟨⟨by omega,by omega⟩,rfl,by rw [show(i:Int)- (j:Int)=((i-j:Nat):Int)by omega],rfl⟩⟩⟩⟩)
        exact⟨k,ρ,H',k1,k2,k3,k4.trans (rot_long π him hgt),Loops.round hr (Ent.refl _ _ _ _) L,w',f01.trans f' (fun x hx _=>hx)⟩
      · obtain⟨H1,D,w1,f1⟩:=swr_does ok π (a:=m-i) (b:=m+j-i) (n:=i) (ea:=(m:Int)-i) (eb:=(m:Int)+j-i) (en:=i) (by omega) (by omega) (by omega) (by omega) rfl cv (up H 18) (w.fr ok (Fr.up H 18 []))
        have n1:H.next+18≤H1.next:=f1.next
        have f01:Fr H (up H1 4) [S.Q]:=((Fr.up H 18 [S.Q]).trans f1 (fun x hx _=>hx)).trans (Fr.up H1 4 []) (by simp)
        obtain⟨k,ρ,H',k1,k2,k3,k4,L,w',f'⟩:=ih i (j-i) (swapR π (m-i) (m+j-i) i) (up H1 4) (by omega) hi (by omega) him (by omega) (by show B≤H1.next+4;omega) (w1.fr ok (Fr.up H1 4 []))
        obtain⟨e,F1,h1,hr,rfl,rfl,rfl⟩:=roB_vp H H1 B m i j S.dv cv (fun e F1 h1=>e= .normal∧F1= [(0,S.dv),(2,.int .i64 (m:Nat)),(4,cv),(10,.int .i64 (i:Nat)),(11,.int .i64 ((j-i:Nat):Int))]∧h1=up H1 4)
          (bifL hB ⟨hne,bifL (by omega) ⟨boolF (by omega),bifL (by omega) ⟨⟨by omega,by omega⟩,⟨by omega,by omega⟩,⟨by omega,by omega⟩,⟨D⟩,bifL (by omega) ⟨⟨by omega,by omega⟩,rfl,by rw [show(j:Int)- (i:Int)=((j-i:Nat):Int)by omega],rfl⟩⟩⟩⟩)
        exact⟨k,ρ,H',k1,k2,k3,k4.trans (rot_short π him (by omega)),Loops.round hr (Ent.refl _ _ _ _) L,w',f01.trans f' (fun x hx _=>hx)⟩
theorem rot_does {S:SC}(ok:S.Ok)(π:Nat→Nat){a m b:Nat}(ham:a<m)(hmb:m<b)(hb:b≤S.N)(cv:AVal):S.Do 195 [S.dv,.int .i64 (a:Nat),.int .i64 (m:Nat),.int .i64 (b:Nat),cv] π (rotF π a m b):=by
  have hN:=ok.n
  intro H w
  obtain⟨k,ρ,H1,k1,k2,k3,k4,L,w1,f1⟩:=rot_loop ok (B:=H.next) (m:=m) cv (by omega) (m-a+(b-m)) (m-a) (b-m) π (up H 8) (Nat.le_refl _) (by omega) (by omega) (by omega) (by omega) (by show H.next≤H.next+8;omega) (w.fr ok (Fr.up H 8 []))
  rw [show m- (m-a)=a by omega,show m+(b-m)=b by omega]at k4
  have n1:H.next+8≤H1.next:=f1.next
  obtain⟨H2,D,w2,f2⟩:=swr_does ok ρ (a:=m-k) (b:=m) (n:=k) (ea:=(m:Int)-k) (eb:=m) (en:=k) (by omega) (by omega) (by omega) rfl rfl cv (up H1 8) (w1.fr ok (Fr.up H1 8 []))
  have n2:H1.next+8≤H2.next:=f2.next
  rw [rot_same ρ k2,k4]at w2
  rw [show((m-a:Nat):Int)=(m:Int)- (a:Int)by omega,show((b-m:Nat):Int)=(b:Int)- (m:Int)by omega]at L
  obtain⟨v,h1,hd,rfl,rfl⟩:=rot_vc H H1 H2 a m b k S.dv cv (fun v h1=>v= .tuple []∧h1=H2) (bifL (Nat.le_refl _) ⟨⟨by omega,by omega⟩,bifL (by omega) ⟨⟨by omega,by omega⟩,Runs.of_loops L,bifL (by omega) ⟨⟨by omega,by omega⟩,⟨D⟩,condL (by omega) ⟨rfl,rfl⟩⟩⟩⟩)
  exact⟨_,hd,w2,(((Fr.up H 8 [S.Q]).trans f1 (fun x hx _=>hx)).trans (Fr.up H1 8 []) (by simp)).trans f2 (fun x hx _=>hx)⟩
end Go.Proofs.YtjpfnbihopoeeaaGreatDoor
namespace Go.Proofs.YtjpfnbihopoeeaaGreatDoor
open Go.Lift
set_option maxRecDepth 1000000
structure SC.Cmp(S:SC)(g:FuncId)(cs:List AVal)(less:Nat→Nat→Bool):Prop where
  call: ∀ H p q,S.C H→p<S.N→q<S.N→ ∃ n r,H.next≤n∧FDoes Tryz.prog cnd g (S.it p::S.it q::cs) H (.int .i64 r) ⟨n,H.blks⟩∧(r<0↔less p q=true)
def InN(N:Nat)(π:Nat→Nat):Prop:= ∀ k,k<N→π k<N
theorem InN.same {N:Nat}{π ρ:Nat→Nat}{a b:Nat}(h:InN N π)(k:Same π ρ a b)(hb:b≤N):InN N ρ:=by
  intro j hj
  by_cases c:a≤j∧j<b
  · obtain⟨i,h1,h2,h3⟩:=k.from c.1 c.2
    rw [h3];exact h i (by omega)
  · rw [k.out j (by omega)];exact h j hj
theorem wrap64 {n:Int}(h1: -9223372036854775808≤n)(h2:n≤9223372036854775807):IntKind.wrap .i64 n=n:=by
  show(if(true && decide (n % 18446744073709551616≥9223372036854775808))=true then n % 18446744073709551616-18446744073709551616 else n % 18446744073709551616)=n
  split
  · rename_i h;simp at h;omega
  · rename_i h;simp at h;omega
theorem midW {i j c:Nat}(h:(i+j) / 2=c)(hl:i+j<2^60):IntKind.wrap .i64 (ishr .u64 ((i:Int)+(j:Int)) 1)=(c:Int):=by
  have e:ishr .u64 ((i:Int)+(j:Int)) 1=(c:Int):=by
    show Int.fdiv ((i:Int)+(j:Int)) 2=c
    rw [Int.fdiv_eq_ediv_of_nonneg _ (by omega)]
    omega
  rw [e]
  exact wrap64 (by omega) (by omega)
theorem cvM {F:Facts}{k nid:Nat}{κ:IntKind}{n m:Int}{H:AHeap}(hF:getF F (.tmp k)= .int κ n)(hm:IntKind.wrap .i64 n=m):aop env noCall nid (getF F) H (Op.convert 108 3 (Operand.tmp k))=some (.int .i64 m,H):=by
  subst hm
  have:aop env noCall nid (getF F) H (Op.convert 108 3 (Operand.tmp k))=(aconvert (AEnv.D env) 108 3 (.int κ n)).map fun v=>(v,H):=by rw [← hF];rfl
  exact this.trans (by kernel_rfl)
section
variable {S:SC}(ok:S.Ok){g:FuncId}{cs:List AVal}{less:Nat→Nat→Bool}(hw:Weak less)(hc:S.Cmp g cs less)
include ok hw hc
abbrev cvF(g:FuncId)(cs:List AVal):AVal:= .func (.func g) [] cs
theorem SC.WS.cmp {H:AHeap}{π:Nat→Nat}(w:S.WS H π){i j:Nat}(hi:π i<S.N)(hj:π j<S.N)(m:Nat): ∃ n r,H.next+m≤n∧FDoes Tryz.prog cnd g (S.it (π i)::S.it (π j)::cs) (up H m) (.int .i64 r) ⟨n,H.blks⟩∧(r<0↔less (π i) (π j)=true)∧S.WS ⟨n,H.blks⟩ π∧Fr H ⟨n,H.blks⟩ []:=by
  obtain⟨n,r,h1,h2,h3⟩:=hc.call (up H m) (π i) (π j) (w.fr ok (Fr.up H m [])).2.2 hi hj
  have h1:H.next+m≤n:=h1
  have f:Fr H ⟨n,H.blks⟩ []:=⟨by show H.next≤n;omega,fun _ _ _=>rfl⟩
  exact⟨n,r,h1,h2,h3,w.fr ok f,f⟩
theorem ins_in {a b i:Nat} (ρ:Nat→Nat) (hρ:InN S.N ρ) (hai:a≤i) (hi:i<S.N): ∀ (j:Nat),a≤j→j≤i→(∀ k,j≤k→k<i→less (ρ i) (ρ k)=true) →
    ∃ j',a≤j'∧j'≤i∧(∀ k,j'≤k→k<i→less (ρ i) (ρ k)=true)∧(j'=a∨less (ρ i) (ρ (j'-1))=false)∧ ∀ (B:Nat) (H:AHeap),B≤H.next→S.WS H (insAt ρ j i) →
    ∃ H',Loops Tryz.prog cnd B 53 (loopAt Tryz.prog 160 1) [(0,S.dv),(1,.int .i64 (a:Nat)),(2,.int .i64 (b:Nat)),(3,cvF g cs),(8,.int .i64 (i:Nat)),(9,.int .i64 (j:Nat))] H
      (.exit 2) [(0,S.dv),(1,.int .i64 (a:Nat)),(2,.int .i64 (b:Nat)),(3,cvF g cs),(8,.int .i64 (i:Nat))] H'∧S.WS H' (insAt ρ j' i)∧Fr H H' [S.Q]:=by
  have hN:=ok.n
  have stop: ∀ (j B:Nat) (H:AHeap),B≤H.next→S.WS H (insAt ρ j i)→ ¬ a<j→ ∃ H',Loops Tryz.prog cnd B 53 (loopAt Tryz.prog 160 1) [(0,S.dv),(1,.int .i64 (a:Nat)),(2,.int .i64 (b:Nat)),(3,cvF g cs),(8,.int .i64 (i:Nat)),(9,.int .i64 (j:Nat))] H
      (.exit 2) [(0,S.dv),(1,.int .i64 (a:Nat)),(2,.int .i64 (b:Nat)),(3,cvF g cs),(8,.int .i64 (i:Nat))] H'∧S.WS H' (insAt ρ j i)∧Fr H H' [S.Q]:=by
    intro j B H hB w hj
    obtain⟨e,F1,h1,hr,rfl,rfl,rfl⟩:=inE_vp H B a b i j S.dv (cvF g cs) (fun e F1 h1=>e= .exit 2∧F1= [(0,S.dv),(1,.int .i64 (a:Nat)),(2,.int .i64 (b:Nat)),(3,cvF g cs),(8,.int .i64 (i:Nat)),(9,.int .i64 (j:Nat))]∧h1=up H 17) (bifL hB ⟨boolF (by omega),rfl,rfl,rfl⟩)
    exact⟨_,(Loops.last (by simp) hr).post (Ent.facts (fle [0,1,2,3,8] (by kernel_rfl))),w.fr ok (Fr.up H 17 []),Fr.up H 17 _⟩
  intro j
  induction j with
  | zero =>
    intro h1 h2 h3
    exact⟨0,h1,h2,h3,.inl (by omega),fun B H hB w=>stop 0 B H hB w (by omega)⟩
  | succ j ih =>
    intro h1 h2 h3
    by_cases ha:a=j+1
    · exact⟨j+1,h1,h2,h3,.inl ha.symm,fun B H hB w=>stop (j+1) B H hB w (by omega)⟩
    · have ex:insAt ρ (j+1) i (j+1)=ρ i:=by unfold insAt;rw [if_pos rfl]
      have ey:insAt ρ (j+1) i j=ρ j:=by unfold insAt;rw [if_neg (by omega),if_neg (by omega)]
      by_cases hl:less (ρ i) (ρ j)=true
      · obtain⟨j',q1,q2,q3,q4,q5⟩:=ih (by omega) (by omega) (fun k hk hki=>by
          by_cases e:k=j
          · subst e;exact hl
          · exact h3 k (by omega) hki)
        refine⟨j',q1,q2,q3,q4,fun B H hB w=> ?_⟩
        obtain⟨n,r,n1,D,hr',w1,f1⟩:=w.cmp ok hw hc (i:=j+1) (j:=j) (by rw [ex];exact hρ i hi) (by rw [ey];exact hρ j (by omega)) 17
        rw [ex,ey]at hr'
        obtain⟨H2,H3,s1,s2,w3,f3,n2,n3⟩:=w1.swap ok (i:=j+1) (j:=j) (by omega) (by omega) (by omega) 18
        have n2:H2.next=n+18:=n2
        have n3:H3.next=n+18:=n3
        have w4:=w3 (insAt ρ j i) (fun k hk=>by
          have h:=congrFun (insAt_step ρ (j:=j+1) (i:=i) (by omega) (by omega)) k
          rw [show j+1-1=j by omega]at h
          rw [← h]
          unfold swap1
          by_cases e1:k=j
          · rw [if_pos e1]
          · rw [if_neg e1])
        obtain⟨H',L,w',f'⟩:=q5 B (up H3 3) (by show B≤H3.next+3;omega) (w4.fr ok (Fr.up H3 3 []))
        have lt:=w.1
        obtain⟨e,F1,h1',hr,rfl,rfl,rfl⟩:=inS_vp H ⟨n,H.blks⟩ H2 H3 B a b i (j+1) g cs S.dv (S.it (insAt ρ (j+1) i (j+1))) (S.it (insAt ρ (j+1) i j)) (S.ad (j+1)) (S.ad j) r (fun e F1 h1=>e= .normal∧F1= [(0,S.dv),(1,.int .i64 (a:Nat)),(2,.int .i64 (b:Nat)),(3,cvF g cs),(8,.int .i64 (i:Nat)),(9,.int .i64 (j:Nat))]∧h1=up H3 3)
          (bifL hB ⟨boolT (by omega),S.ix rfl (by omega),w.ld ok (by omega) _,lt,⟨by omega,by omega⟩,S.ix (by omega) (by omega),w.ld ok (by omega) _,lt,⟨D⟩,boolT (hr'.2 hl),bifL (by show B≤n;omega) ⟨⟨by omega,by omega⟩,⟨by omega,by omega⟩,S.ix (by omega) (by omega),w1.ld ok (by omega) _,by show S.Q<n;omega,S.ix rfl (by omega),w1.ld ok (by omega) _,by show S.Q<n;omega,S.ix rfl (by omega),aop_storeG rfl rfl s1,S.ix (by omega) (by omega),aop_storeG rfl rfl s2,bifL (by omega) ⟨⟨by omega,by omega⟩,rfl,by rw [show((j+1:Nat):Int)-1=(j:Int)by omega],rfl⟩⟩⟩)
        exact⟨H',Loops.round hr (Ent.refl _ _ _ _) L,w',((((f1.sub (M:= [S.Q]) (by simp)).trans f3 (fun x hx _=>hx)).trans (Fr.up H3 3 []) (by simp)).trans f' (fun x hx _=>hx))⟩
      · have hl:less (ρ i) (ρ j)=false:=by simpa using hl
        refine⟨j+1,by omega,h2,h3,.inr (by rw [show j+1-1=j by omega];exact hl),fun B H hB w=> ?_⟩
        obtain⟨n,r,n1,D,hr',w1,f1⟩:=w.cmp ok hw hc (i:=j+1) (j:=j) (by rw [ex];exact hρ i hi) (by rw [ey];exact hρ j (by omega)) 17
        rw [ex,ey,hl]at hr'
        have lt:=w.1
        obtain⟨e,F1,h1',hr,rfl,rfl,rfl⟩:=inB_vp H ⟨n,H.blks⟩ B a b i (j+1) g cs S.dv (S.it (insAt ρ (j+1) i (j+1))) (S.it (insAt ρ (j+1) i j)) (S.ad (j+1)) (S.ad j) r (fun e F1 h1=>e= .exit 2∧F1= [(0,S.dv),(1,.int .i64 (a:Nat)),(2,.int .i64 (b:Nat)),(3,cvF g cs),(8,.int .i64 (i:Nat)),(9,.int .i64 ((j+1:Nat):Int))]∧h1=⟨n,H.blks⟩)
          (bifL hB ⟨boolT (by omega),S.ix rfl (by omega),w.ld ok (by omega) _,lt,⟨by omega,by omega⟩,S.ix (by omega) (by omega),w.ld ok (by omega) _,lt,⟨D⟩,boolF (fun h=>by have:=hr'.1 h;cases this),rfl,rfl,rfl⟩)
        exact⟨_,(Loops.last (by simp) hr).post (Ent.facts (fle [0,1,2,3,8] (by kernel_rfl))),w1,f1.sub (by simp)⟩
theorem ins_out {a b:Nat}(π:Nat→Nat)(hπ:InN S.N π)(hab:a<b)(hb:b≤S.N)(hinc: ∀ i j,a≤i→i<j→j<b→π i<π j): ∀ (fuel i:Nat) (ρ:Nat→Nat),i+fuel=b→a<i→Same π ρ a i→Srt less ρ a i →
    ∃ σ,Same π σ a b∧Srt less σ a b∧ ∀ (B:Nat) (H:AHeap),B≤H.next→S.WS H ρ→ ∃ H',Loops Tryz.prog cnd B 53 (loopAt Tryz.prog 160 0) [(0,S.dv),(1,.int .i64 (a:Nat)),(2,.int .i64 (b:Nat)),(3,cvF g cs),(8,.int .i64 (i:Nat))] H (.exit 0) [] H'∧S.WS H' σ∧Fr H H' [S.Q]:=by
  have hN:=ok.n
  intro fuel
  induction fuel with
  | zero =>
    intro i ρ e h1 h2 h3
    obtain rfl:i=b:=by omega
    refine⟨ρ,h2,h3,fun B H hB w=> ?_⟩
    obtain⟨e,F1,h1,hr,rfl,rfl,rfl⟩:=ioE_vp H B a i i S.dv (cvF g cs) (fun e F1 h1=>e= .exit 0∧F1= [(0,S.dv),(1,.int .i64 (a:Nat)),(2,.int .i64 (i:Nat)),(3,cvF g cs),(8,.int .i64 (i:Nat))]∧h1=up H 3) (bifL hB ⟨boolF (by omega),rfl,rfl,rfl⟩)
    exact⟨_,(Loops.last (by simp) hr).post (Ent.facts (fle [] (by kernel_rfl))),w.fr ok (Fr.up H 3 []),Fr.up H 3 _⟩
  | succ fuel ih =>
    intro i ρ e h1 h2 h3
    have hρ:InN S.N ρ:=hπ.same h2 (by omega)
    obtain⟨j,q1,q2,q3,q4,q5⟩:=ins_in ok hw hc (a:=a) (b:=b) ρ hρ (by omega) (by omega:i<S.N) i (by omega) (by omega) (fun k _ _=>by omega)
    rw [insAt_self]at q5
    have hi:ρ i=π i:=h2.out i (by omega)
    have hlt: ∀ k,a≤k→k<i→ρ k<ρ i:=by
      intro k hk hki
      obtain⟨m,m1,m2,m3⟩:=h2.from hk hki
      rw [m3,hi];exact hinc m i m1 m2 (by omega)
    have hs:=ins_done hw h3 hlt q1 q2 q3 q4
    have hsame:Same π (insAt ρ j i) a (i+1):=(h2.wide (by omega) (by omega) (by omega)).trans (by
      rw [insAt_rot ρ q2]
      exact(rotF_same ρ q2 (by omega)).wide (by omega) (by omega) (by omega))
    obtain⟨σ,r1,r2,r3⟩:=ih (i+1) (insAt ρ j i) (by omega) (by omega) hsame hs
    refine⟨σ,r1,r2,fun B H hB w=> ?_⟩
    obtain⟨H1,L1,w1,f1⟩:=q5 B (up H 5) (by show B≤H.next+5;omega) (w.fr ok (Fr.up H 5 []))
    have n1:H.next+5≤H1.next:=f1.next
    obtain⟨H',L,w',f'⟩:=r3 B (up H1 3) (by show B≤H1.next+3;omega) (w1.fr ok (Fr.up H1 3 []))
    obtain⟨e,F1,h1,hr,rfl,rfl,rfl⟩:=ioS_vp H H1 B a b i S.dv (cvF g cs) (fun e F1 h1=>e= .normal∧F1= [(0,S.dv),(1,.int .i64 (a:Nat)),(2,.int .i64 (b:Nat)),(3,cvF g cs),(8,.int .i64 ((i+1:Nat):Int))]∧h1=up H1 3)
      (bifL hB ⟨boolT (by omega),bifL (by omega) ⟨Runs.of_loops L1,bifL (by omega) ⟨⟨by omega,by omega⟩,rfl,by rw [succI],rfl⟩⟩⟩)
    exact⟨H',Loops.round hr (Ent.refl _ _ _ _) L,w',(((Fr.up H 5 [S.Q]).trans f1 (fun x hx _=>hx)).trans (Fr.up H1 3 []) (by simp)).trans f' (fun x hx _=>hx)⟩
theorem ins_does {a b:Nat}(π:Nat→Nat)(hπ:InN S.N π)(hab:a≤b)(hb:b≤S.N)(hinc: ∀ i j,a≤i→i<j→j<b→π i<π j) :
    ∃ σ,Same π σ a b∧Srt less σ a b∧S.Do 160 [S.dv,.int .i64 (a:Nat),.int .i64 (b:Nat),cvF g cs] π σ:=by
  have hN:=ok.n
  have fin: ∀ σ,(∀ (B:Nat) (H:AHeap),B≤H.next→S.WS H π→ ∃ H',Loops Tryz.prog cnd B 53 (loopAt Tryz.prog 160 0) [(0,S.dv),(1,.int .i64 (a:Nat)),(2,.int .i64 (b:Nat)),(3,cvF g cs),(8,.int .i64 ((a+1:Nat):Int))] H (.exit 0) [] H'∧S.WS H' σ∧Fr H H' [S.Q]) →
      S.Do 160 [S.dv,.int .i64 (a:Nat),.int .i64 (b:Nat),cvF g cs] π σ:=by
    intro σ l H w
    obtain⟨H1,L,w1,f1⟩:=l H.next (up H 3) (by show H.next≤H.next+3;omega) (w.fr ok (Fr.up H 3 []))
    have n1:H.next+3≤H1.next:=f1.next
    rw [← succI]at L
    obtain⟨v,h1,hd,rfl,rfl⟩:=ins_vc H H1 a b 0 S.dv (cvF g cs) (fun v h1=>v= .tuple []∧h1=H1) (bifL (Nat.le_refl _) ⟨⟨by omega,by omega⟩,Runs.of_loops L,condL (by omega) ⟨rfl,rfl⟩⟩)
    exact⟨_,hd,w1,(Fr.up H 3 [S.Q]).trans f1 (fun x hx _=>hx)⟩
  by_cases h:a<b
  · obtain⟨σ,r1,r2,r3⟩:=ins_out ok hw hc π hπ h hb hinc (b- (a+1)) (a+1) π (by omega) (by omega) (Same.refl _ _ _) (fun i j h1 h2 h3=>by omega)
    exact⟨σ,r1,r2,fin σ r3⟩
  · obtain rfl:a=b:=by omega
    refine⟨π,Same.refl _ _ _,fun i j h1 h2 h3=>by omega,fin π fun B H hB w=> ?_⟩
    obtain⟨e,F1,h1,hr,rfl,rfl,rfl⟩:=ioE_vp H B a a (a+1) S.dv (cvF g cs) (fun e F1 h1=>e= .exit 0∧F1= [(0,S.dv),(1,.int .i64 (a:Nat)),(2,.int .i64 (a:Nat)),(3,cvF g cs),(8,.int .i64 ((a+1:Nat):Int))]∧h1=up H 3) (bifL hB ⟨boolF (by omega),rfl,rfl,rfl⟩)
    exact⟨_,(Loops.last (by simp) hr).post (Ent.facts (fle [] (by kernel_rfl))),w.fr ok (Fr.up H 3 []),Fr.up H 3 _⟩
theorem sm0_loop {a b:Nat} (π:Nat→Nat) (hπ:InN S.N π) (hab:a<b) (hb:b≤S.N): ∀ (fuel i j:Nat),j-i≤fuel→a+1≤i→i≤j→j≤b→(i=a+1∨less (π (i-1)) (π a)=true)→(j=b∨less (π j) (π a)=false) →
    ∃ k,a+1≤k∧k≤b∧(k=a+1∨less (π (k-1)) (π a)=true)∧(k=b∨less (π k) (π a)=false)∧ ∀ (B:Nat) (H:AHeap),B≤H.next→S.WS H π →
    ∃ H',Loops Tryz.prog cnd B 220 (loopAt Tryz.prog 161 0) [(0,S.dv),(1,.int .i64 (a:Nat)),(4,cvF g cs),(10,.int .i64 (i:Nat)),(11,.int .i64 (j:Nat))] H
      (.exit 0) [(0,S.dv),(1,.int .i64 (a:Nat)),(10,.int .i64 (k:Nat))] H'∧S.WS H' π∧Fr H H' [S.Q]:=by
  have hN:=ok.n
  intro fuel
  induction fuel with
  | zero =>
    intro i j hf h1 h2 h3 hl hr
    obtain rfl:i=j:=by omega
    refine⟨i,h1,h3,hl,hr,fun B H hB w=> ?_⟩
    obtain⟨e,F1,h1,hr,rfl,rfl,rfl⟩:=s0E_vp H B a i i S.dv (cvF g cs) (fun e F1 h1=>e= .exit 0∧F1= [(0,S.dv),(1,.int .i64 (a:Nat)),(4,cvF g cs),(10,.int .i64 (i:Nat)),(11,.int .i64 (i:Nat))]∧h1=up H 3) (bifL hB ⟨boolF (by omega),rfl,rfl,rfl⟩)
    exact⟨_,(Loops.last (by simp) hr).post (Ent.facts (fle [0,1,10] (by kernel_rfl))),w.fr ok (Fr.up H 3 []),Fr.up H 3 _⟩
  | succ fuel ih =>
    intro i j hf h1 h2 h3 hl hr
    by_cases hij:i=j
    · exact ih i j (by omega) h1 h2 h3 hl hr
    · have hh:i≤(i+j) / 2∧(i+j) / 2<j:=by omega
      generalize hhd:(i+j) / 2=h at hh
      by_cases hls:less (π h) (π a)=true
      · obtain⟨k,k1,k2,k3,k4,k5⟩:=ih (h+1) j (by omega) (by omega) (by omega) h3 (.inr (by rw [show h+1-1=h by omega];exact hls)) hr
        refine⟨k,k1,k2,k3,k4,fun B H hB w=> ?_⟩
        obtain⟨n,r,n1,D,hr',w1,f1⟩:=w.cmp ok hw hc (i:=h) (j:=a) (hπ h (by omega)) (hπ a (by omega)) 21
        obtain⟨H',L,w',f'⟩:=k5 B ⟨n+3,H.blks⟩ (by show B≤n+3;omega) (w1.fr ok (Fr.up ⟨n,H.blks⟩ 3 []))
        have lt:=w.1
        obtain⟨e,F1,h1',hr,rfl,rfl,rfl⟩:=s0T_vp H ⟨n,H.blks⟩ B a i j h g cs S.dv (S.it (π h)) (S.it (π a)) (S.ad h) (S.ad a) r (fun e F1 h1=>e= .normal∧F1= [(0,S.dv),(1,.int .i64 (a:Nat)),(4,cvF g cs),(10,.int .i64 ((h+1:Nat):Int)),(11,.int .i64 (j:Nat))]∧h1=⟨n+3,H.blks⟩)
          (bifL hB ⟨boolT (by omega),bifL (by omega) ⟨⟨by omega,by omega⟩,⟨by omega,by omega⟩,.mk 1,cvM rfl (midW hhd (by omega)),bifL (by omega) ⟨S.ix rfl (by omega),w.ld ok (by omega) _,by show S.Q<H.next+10;omega,S.ix rfl (by omega),w.ld ok (by omega) _,by show S.Q<H.next+10;omega,⟨D⟩,boolT (hr'.2 hls),bifL (by show B≤n;omega) ⟨⟨by omega,by omega⟩,rfl,by rw [succI],rfl⟩⟩⟩⟩)
        exact⟨H',Loops.round hr (Ent.refl _ _ _ _) L,w',((f1.sub (M:= [S.Q]) (by simp)).trans (Fr.up ⟨n,H.blks⟩ 3 []) (by simp)).trans f' (fun x hx _=>hx)⟩
      · have hls:less (π h) (π a)=false:=by simpa using hls
        obtain⟨k,k1,k2,k3,k4,k5⟩:=ih i h (by omega) h1 (by omega) (by omega) hl (.inr hls)
        refine⟨k,k1,k2,k3,k4,fun B H hB w=> ?_⟩
        obtain⟨n,r,n1,D,hr',w1,f1⟩:=w.cmp ok hw hc (i:=h) (j:=a) (hπ h (by omega)) (hπ a (by omega)) 21
        rw [hls]at hr'
        obtain⟨H',L,w',f'⟩:=k5 B ⟨n+2,H.blks⟩ (by show B≤n+2;omega) (w1.fr ok (Fr.up ⟨n,H.blks⟩ 2 []))
        have lt:=w.1
        obtain⟨e,F1,h1',hr,rfl,rfl,rfl⟩:=s0F_vp H ⟨n,H.blks⟩ B a i j h g cs S.dv (S.it (π h)) (S.it (π a)) (S.ad h) (S.ad a) r (fun e F1 h1=>e= .normal∧F1= [(0,S.dv),(1,.int .i64 (a:Nat)),(4,cvF g cs),(10,.int .i64 (i:Nat)),(11,.int .i64 (h:Nat))]∧h1=⟨n+2,H.blks⟩)
          (bifL hB ⟨boolT (by omega),bifL (by omega) ⟨⟨by omega,by omega⟩,⟨by omega,by omega⟩,.mk 1,cvM rfl (midW hhd (by omega)),bifL (by omega) ⟨S.ix rfl (by omega),w.ld ok (by omega) _,by show S.Q<H.next+10;omega,S.ix rfl (by omega),w.ld ok (by omega) _,by show S.Q<H.next+10;omega,⟨D⟩,boolF (fun h=>by have:=hr'.1 h;cases this),bifL (by show B≤n;omega) ⟨rfl,rfl,rfl⟩⟩⟩⟩)
        exact⟨H',Loops.round hr (Ent.refl _ _ _ _) L,w',((f1.sub (M:= [S.Q]) (by simp)).trans (Fr.up ⟨n,H.blks⟩ 2 []) (by simp)).trans f' (fun x hx _=>hx)⟩
theorem sm1_loop {a i:Nat} (π:Nat→Nat) (hi:i≤S.N): ∀ (f k:Nat),k+1+f=i→a≤k→ ∀ (B:Nat) (H:AHeap),B≤H.next→S.WS H (rotF π a (a+1) (k+1)) →
    ∃ H',Loops Tryz.prog cnd B 220 (loopAt Tryz.prog 161 1) [(0,S.dv),(10,.int .i64 (i:Nat)),(13,.int .i64 (k:Nat))] H (.exit 2) [] H'∧S.WS H' (rotF π a (a+1) i)∧Fr H H' [S.Q]:=by
  have hN:=ok.n
  intro f
  induction f with
  | zero =>
    intro k e h B H hB w
    obtain rfl:i=k+1:=by omega
    obtain⟨e,F1,h1,hr,rfl,rfl,rfl⟩:=s1E_vp H B (k+1) k S.dv (fun e F1 h1=>e= .exit 2∧F1= [(0,S.dv),(10,.int .i64 ((k+1:Nat):Int)),(13,.int .i64 (k:Nat))]∧h1=up H 4) (bifL hB ⟨⟨by omega,by omega⟩,boolF (by omega),rfl,rfl,rfl⟩)
    exact⟨_,(Loops.last (by simp) hr).post (Ent.facts (fle [] (by kernel_rfl))),w.fr ok (Fr.up H 4 []),Fr.up H 4 _⟩
  | succ f ih =>
    intro k e h B H hB w
    obtain⟨H1,H2,s1,s2,w2,f2,n1,n2⟩:=w.swap ok (i:=k) (j:=k+1) (by omega) (by omega) (by omega) 22
    have w3:=w2 (rotF π a (a+1) (k+2)) (fun q hq=>by
      rw [← rot1_step π h]
      unfold swap1
      by_cases e1:q=k
      · subst e1;rw [if_pos rfl,if_neg (by omega),if_pos rfl]
      · rw [if_neg e1]
        by_cases e2:q=k+1
        · rw [if_pos e2,if_pos e2]
        · rw [if_neg e2,if_neg e2,if_neg e1])
    obtain⟨H',L,w',f'⟩:=ih (k+1) (by omega) (by omega) B (up H2 3) (by show B≤H2.next+3;omega) (w3.fr ok (Fr.up H2 3 []))
    have lt:=w.1
    obtain⟨e,F1,h1',hr,rfl,rfl,rfl⟩:=s1S_vp H H1 H2 B i k S.dv (S.it (rotF π a (a+1) (k+1) k)) (S.it (rotF π a (a+1) (k+1) (k+1))) (S.ad k) (S.ad (k+1)) (fun e F1 h1=>e= .normal∧F1= [(0,S.dv),(10,.int .i64 (i:Nat)),(13,.int .i64 ((k+1:Nat):Int))]∧h1=up H2 3)
      (bifL hB ⟨⟨by omega,by omega⟩,boolT (by omega),bifL (by omega) ⟨⟨by omega,by omega⟩,⟨by omega,by omega⟩,S.ix (by omega) (by omega),w.ld ok (by omega) _,by show S.Q<H.next+4;omega,S.ix rfl (by omega),w.ld ok (by omega) _,by show S.Q<H.next+4;omega,S.ix rfl (by omega),aop_storeG rfl rfl s1,S.ix (by omega) (by omega),aop_storeG rfl rfl s2,bifL (by omega) ⟨⟨by omega,by omega⟩,rfl,by rw [succI],rfl⟩⟩⟩)
    exact⟨H',Loops.round hr (Ent.refl _ _ _ _) L,w',(f2.trans (Fr.up H2 3 []) (by simp)).trans f' (fun x hx _=>hx)⟩
theorem sm2_loop {a m:Nat} (π:Nat→Nat) (hπ:InN S.N π) (ham:a<m) (hm:m<S.N): ∀ (fuel i j:Nat),j-i≤fuel→a≤i→i≤j→j≤m→(i=a∨less (π m) (π (i-1))=false)→(j=m∨less (π m) (π j)=true) →
    ∃ k,a≤k∧k≤m∧(k=a∨less (π m) (π (k-1))=false)∧(k=m∨less (π m) (π k)=true)∧ ∀ (B:Nat) (H:AHeap),B≤H.next→S.WS H π →
    ∃ H',Loops Tryz.prog cnd B 220 (loopAt Tryz.prog 161 2) [(0,S.dv),(2,.int .i64 (m:Nat)),(4,cvF g cs),(14,.int .i64 (i:Nat)),(15,.int .i64 (j:Nat))] H
      (.exit 4) [(0,S.dv),(2,.int .i64 (m:Nat)),(14,.int .i64 (k:Nat))] H'∧S.WS H' π∧Fr H H' [S.Q]:=by
  have hN:=ok.n
  intro fuel
  induction fuel with
  | zero =>
    intro i j hf h1 h2 h3 hl hr
    obtain rfl:i=j:=by omega
    refine⟨i,h1,h3,hl,hr,fun B H hB w=> ?_⟩
    obtain⟨e,F1,h1,hr,rfl,rfl,rfl⟩:=s2E_vp H B m i i S.dv (cvF g cs) (fun e F1 h1=>e= .exit 4∧F1= [(0,S.dv),(2,.int .i64 (m:Nat)),(4,cvF g cs),(14,.int .i64 (i:Nat)),(15,.int .i64 (i:Nat))]∧h1=up H 3) (bifL hB ⟨boolF (by omega),rfl,rfl,rfl⟩)
    exact⟨_,(Loops.last (by simp) hr).post (Ent.facts (fle [0,2,14] (by kernel_rfl))),w.fr ok (Fr.up H 3 []),Fr.up H 3 _⟩
  | succ fuel ih =>
    intro i j hf h1 h2 h3 hl hr
    by_cases hij:i=j
    · exact ih i j (by omega) h1 h2 h3 hl hr
    · have hh:i≤(i+j) / 2∧(i+j) / 2<j:=by omega
      generalize hhd:(i+j) / 2=h at hh
      by_cases hls:less (π m) (π h)=true
      · obtain⟨k,k1,k2,k3,k4,k5⟩:=ih i h (by omega) h1 (by omega) (by omega) hl (.inr hls)
        refine⟨k,k1,k2,k3,k4,fun B H hB w=> ?_⟩
        obtain⟨n,r,n1,D,hr',w1,f1⟩:=w.cmp ok hw hc (i:=m) (j:=h) (hπ m (by omega)) (hπ h (by omega)) 22
        obtain⟨H',L,w',f'⟩:=k5 B ⟨n+2,H.blks⟩ (by show B≤n+2;omega) (w1.fr ok (Fr.up ⟨n,H.blks⟩ 2 []))
        have lt:=w.1
        obtain⟨e,F1,h1',hr,rfl,rfl,rfl⟩:=s2T_vp H ⟨n,H.blks⟩ B m i j h g cs S.dv (S.it (π m)) (S.it (π h)) (S.ad m) (S.ad h) r (fun e F1 h1=>e= .normal∧F1= [(0,S.dv),(2,.int .i64 (m:Nat)),(4,cvF g cs),(14,.int .i64 (i:Nat)),(15,.int .i64 (h:Nat))]∧h1=⟨n+2,H.blks⟩)
          (bifL hB ⟨boolT (by omega),bifL (by omega) ⟨⟨by omega,by omega⟩,⟨by omega,by omega⟩,.mk 1,cvM rfl (midW hhd (by omega)),bifL (by omega) ⟨S.ix rfl (by omega),w.ld ok (by omega) _,by show S.Q<H.next+10;omega,S.ix rfl (by omega),w.ld ok (by omega) _,by show S.Q<H.next+10;omega,⟨D⟩,boolT (hr'.2 hls),bifL (by show B≤n;omega) ⟨rfl,rfl,rfl⟩⟩⟩⟩)
        exact⟨H',Loops.round hr (Ent.refl _ _ _ _) L,w',((f1.sub (M:= [S.Q]) (by simp)).trans (Fr.up ⟨n,H.blks⟩ 2 []) (by simp)).trans f' (fun x hx _=>hx)⟩
      · have hls:less (π m) (π h)=false:=by simpa using hls
        obtain⟨k,k1,k2,k3,k4,k5⟩:=ih (h+1) j (by omega) (by omega) (by omega) h3 (.inr (by rw [show h+1-1=h by omega];exact hls)) hr
        refine⟨k,k1,k2,k3,k4,fun B H hB w=> ?_⟩
        obtain⟨n,r,n1,D,hr',w1,f1⟩:=w.cmp ok hw hc (i:=m) (j:=h) (hπ m (by omega)) (hπ h (by omega)) 22
        rw [hls]at hr'
        obtain⟨H',L,w',f'⟩:=k5 B ⟨n+3,H.blks⟩ (by show B≤n+3;omega) (w1.fr ok (Fr.up ⟨n,H.blks⟩ 3 []))
        have lt:=w.1
        obtain⟨e,F1,h1',hr,rfl,rfl,rfl⟩:=s2F_vp H ⟨n,H.blks⟩ B m i j h g cs S.dv (S.it (π m)) (S.it (π h)) (S.ad m) (S.ad h) r (fun e F1 h1=>e= .normal∧F1= [(0,S.dv),(2,.int .i64 (m:Nat)),(4,cvF g cs),(14,.int .i64 ((h+1:Nat):Int)),(15,.int .i64 (j:Nat))]∧h1=⟨n+3,H.blks⟩)
          (bifL hB ⟨boolT (by omega),bifL (by omega) ⟨⟨by omega,by omega⟩,⟨by omega,by omega⟩,.mk 1,cvM rfl (midW hhd (by omega)),bifL (by omega) ⟨S.ix rfl (by omega),w.ld ok (by omega) _,by show S.Q<H.next+10;omega,S.ix rfl (by omega),w.ld ok (by omega) _,by show S.Q<H.next+10;omega,⟨D⟩,boolF (fun h=>by have:=hr'.1 h;cases this),bifL (by show B≤n;omega) ⟨⟨by omega,by omega⟩,rfl,by rw [succI],rfl⟩⟩⟩⟩)
        exact⟨H',Loops.round hr (Ent.refl _ _ _ _) L,w',((f1.sub (M:= [S.Q]) (by simp)).trans (Fr.up ⟨n,H.blks⟩ 3 []) (by simp)).trans f' (fun x hx _=>hx)⟩
theorem sm3_loop {m i:Nat}(π:Nat→Nat)(hm:m<S.N): ∀ (f k:Nat),i+f=k→k≤m→ ∀ (B:Nat) (H:AHeap),B≤H.next→S.WS H (rotF π k m (m+1)) →
    ∃ H',Loops Tryz.prog cnd B 220 (loopAt Tryz.prog 161 3) [(0,S.dv),(14,.int .i64 (i:Nat)),(17,.int .i64 (k:Nat))] H (.exit 6) [] H'∧S.WS H' (rotF π i m (m+1))∧Fr H H' [S.Q]:=by
  have hN:=ok.n
  intro f
  induction f with
  | zero =>
    intro k e h B H hB w
    obtain rfl:i=k:=by omega
    obtain⟨e,F1,h1,hr,rfl,rfl,rfl⟩:=s3E_vp H B i i S.dv (fun e F1 h1=>e= .exit 6∧F1= [(0,S.dv),(14,.int .i64 (i:Nat)),(17,.int .i64 (i:Nat))]∧h1=up H 3) (bifL hB ⟨boolF (by omega),rfl,rfl,rfl⟩)
    exact⟨_,(Loops.last (by simp) hr).post (Ent.facts (fle [] (by kernel_rfl))),w.fr ok (Fr.up H 3 []),Fr.up H 3 _⟩
  | succ f ih =>
    intro k e h B H hB w
    obtain⟨q,rfl⟩: ∃ q,k=q+1:=⟨k-1,by omega⟩
    obtain⟨H1,H2,s1,s2,w2,f2,n1,n2⟩:=w.swap ok (i:=q+1) (j:=q) (by omega) (by omega) (by omega) 21
    have w3:=w2 (rotF π q m (m+1)) (fun x hx=>by
      have r:=rotL_step π h (by omega)
      rw [show q+1-1=q by omega]at r
      rw [← r]
      unfold swap1
      by_cases e1:x=q
      · rw [if_pos e1]
      · rw [if_neg e1])
    obtain⟨H',L,w',f'⟩:=ih q (by omega) (by omega) B (up H2 3) (by show B≤H2.next+3;omega) (w3.fr ok (Fr.up H2 3 []))
    have lt:=w.1
    obtain⟨e,F1,h1',hr,rfl,rfl,rfl⟩:=s3S_vp H H1 H2 B i (q+1) S.dv (S.it (rotF π (q+1) m (m+1) (q+1))) (S.it (rotF π (q+1) m (m+1) q)) (S.ad (q+1)) (S.ad q) (fun e F1 h1=>e= .normal∧F1= [(0,S.dv),(14,.int .i64 (i:Nat)),(17,.int .i64 (q:Nat))]∧h1=up H2 3)
      (bifL hB ⟨boolT (by omega),bifL (by omega) ⟨⟨by omega,by omega⟩,⟨by omega,by omega⟩,S.ix (by omega) (by omega),w.ld ok (by omega) _,by show S.Q<H.next+3;omega,S.ix rfl (by omega),w.ld ok (by omega) _,by show S.Q<H.next+3;omega,S.ix rfl (by omega),aop_storeG rfl rfl s1,S.ix (by omega) (by omega),aop_storeG rfl rfl s2,bifL (by omega) ⟨⟨by omega,by omega⟩,rfl,by rw [show((q+1:Nat):Int)-1=(q:Int)by omega],rfl⟩⟩⟩)
    exact⟨H',Loops.round hr (Ent.refl _ _ _ _) L,w',(f2.trans (Fr.up H2 3 []) (by simp)).trans f' (fun x hx _=>hx)⟩
theorem sm4_loop {a m b d n p s0 r0:Nat} (π:Nat→Nat) (hπ:InN S.N π) (hp: ∀ h,s0≤h→h<r0→h≤p∧p-h<S.N∧h<S.N) (hpN:p<2^50) (hr0:r0≤S.N): ∀ (fuel i j:Nat),j-i≤fuel→s0≤i→i≤j→j≤r0→(i=s0∨less (π (p- (i-1))) (π (i-1))=false)→(j=r0∨less (π (p-j)) (π j)=true) →
    ∃ k,s0≤k∧k≤r0∧(k=s0∨less (π (p- (k-1))) (π (k-1))=false)∧(k=r0∨less (π (p-k)) (π k)=true)∧ ∀ (B:Nat) (H:AHeap),B≤H.next→S.WS H π →
    ∃ H',Loops Tryz.prog cnd B 220 (loopAt Tryz.prog 161 4) [(0,S.dv),(1,.int .i64 (a:Nat)),(2,.int .i64 (m:Nat)),(3,.int .i64 (b:Nat)),(4,cvF g cs),(18,.int .i64 (d:Nat)),(19,.int .i64 (n:Nat)),(20,.int .i64 (i:Nat)),(21,.int .i64 (j:Nat)),(22,.int .i64 (p:Nat))] H
      (.exit 8) [(0,S.dv),(1,.int .i64 (a:Nat)),(2,.int .i64 (m:Nat)),(3,.int .i64 (b:Nat)),(4,cvF g cs),(18,.int .i64 (d:Nat)),(19,.int .i64 (n:Nat)),(20,.int .i64 (k:Nat))] H'∧S.WS H' π∧Fr H H' [S.Q]:=by
  have hN:=ok.n
  intro fuel
  induction fuel with
  | zero =>
    intro i j hf h1 h2 h3 hl hr
    obtain rfl:i=j:=by omega
    refine⟨i,h1,h3,hl,hr,fun B H hB w=> ?_⟩
    obtain⟨e,F1,h1,hr,rfl,rfl,rfl⟩:=s4E_vp H B a m b d n i i p S.dv (cvF g cs) (fun e F1 h1=>e= .exit 8∧F1= [(0,S.dv),(1,.int .i64 (a:Nat)),(2,.int .i64 (m:Nat)),(3,.int .i64 (b:Nat)),(4,cvF g cs),(18,.int .i64 (d:Nat)),(19,.int .i64 (n:Nat)),(20,.int .i64 (i:Nat)),(21,.int .i64 (i:Nat)),(22,.int .i64 (p:Nat))]∧h1=up H 3) (bifL hB ⟨boolF (by omega),rfl,rfl,rfl⟩)
    exact⟨_,(Loops.last (by simp) hr).post (Ent.facts (fle [0,1,2,3,4,18,19,20] (by kernel_rfl))),w.fr ok (Fr.up H 3 []),Fr.up H 3 _⟩
  | succ fuel ih =>
    intro i j hf h1 h2 h3 hl hr
    by_cases hij:i=j
    · exact ih i j (by omega) h1 h2 h3 hl hr
    · have hh:i≤(i+j) / 2∧(i+j) / 2<j:=by omega
      generalize hhd:(i+j) / 2=h at hh
      obtain⟨p1,p2,p3⟩:=hp h (by omega) (by omega)
      by_cases hls:less (π (p-h)) (π h)=true
      · obtain⟨k,k1,k2,k3,k4,k5⟩:=ih i h (by omega) h1 (by omega) (by omega) hl (.inr hls)
        refine⟨k,k1,k2,k3,k4,fun B H hB w=> ?_⟩
        obtain⟨n',r,n1,D,hr',w1,f1⟩:=w.cmp ok hw hc (i:=p-h) (j:=h) (hπ (p-h) p2) (hπ h p3) 24
        obtain⟨H',L,w',f'⟩:=k5 B ⟨n'+2,H.blks⟩ (by show B≤n'+2;omega) (w1.fr ok (Fr.up ⟨n',H.blks⟩ 2 []))
        have lt:=w.1
        obtain⟨e,F1,h1',hr,rfl,rfl,rfl⟩:=s4T_vp H ⟨n',H.blks⟩ B a m b d n i j p h g cs S.dv (S.it (π (p-h))) (S.it (π h)) (S.ad (p-h)) (S.ad h) r (fun e F1 h1=>e= .normal∧F1= [(0,S.dv),(1,.int .i64 (a:Nat)),(2,.int .i64 (m:Nat)),(3,.int .i64 (b:Nat)),(4,cvF g cs),(18,.int .i64 (d:Nat)),(19,.int .i64 (n:Nat)),(20,.int .i64 (i:Nat)),(21,.int .i64 (h:Nat)),(22,.int .i64 (p:Nat))]∧h1=⟨n'+2,H.blks⟩)
          (bifL hB ⟨boolT (by omega),bifL (by omega) ⟨⟨by omega,by omega⟩,⟨by omega,by omega⟩,.mk 1,cvM rfl (midW hhd (by omega)),bifL (by omega) ⟨⟨by omega,by omega⟩,S.ix (by omega) p2,w.ld ok p2 _,by show S.Q<H.next+10;omega,S.ix rfl p3,w.ld ok p3 _,by show S.Q<H.next+10;omega,⟨D⟩,boolT (hr'.2 hls),bifL (by show B≤n';omega) ⟨rfl,rfl,rfl⟩⟩⟩⟩)
        exact⟨H',Loops.round hr (Ent.refl _ _ _ _) L,w',((f1.sub (M:= [S.Q]) (by simp)).trans (Fr.up ⟨n',H.blks⟩ 2 []) (by simp)).trans f' (fun x hx _=>hx)⟩
      · have hls:less (π (p-h)) (π h)=false:=by simpa using hls
        obtain⟨k,k1,k2,k3,k4,k5⟩:=ih (h+1) j (by omega) (by omega) (by omega) h3 (.inr (by rw [show h+1-1=h by omega];exact hls)) hr
        refine⟨k,k1,k2,k3,k4,fun B H hB w=> ?_⟩
        obtain⟨n',r,n1,D,hr',w1,f1⟩:=w.cmp ok hw hc (i:=p-h) (j:=h) (hπ (p-h) p2) (hπ h p3) 24
        rw [hls]at hr'
        obtain⟨H',L,w',f'⟩:=k5 B ⟨n'+3,H.blks⟩ (by show B≤n'+3;omega) (w1.fr ok (Fr.up ⟨n',H.blks⟩ 3 []))
        have lt:=w.1
        obtain⟨e,F1,h1',hr,rfl,rfl,rfl⟩:=s4F_vp H ⟨n',H.blks⟩ B a m b d n i j p h g cs S.dv (S.it (π (p-h))) (S.it (π h)) (S.ad (p-h)) (S.ad h) r (fun e F1 h1=>e= .normal∧F1= [(0,S.dv),(1,.int .i64 (a:Nat)),(2,.int .i64 (m:Nat)),(3,.int .i64 (b:Nat)),(4,cvF g cs),(18,.int .i64 (d:Nat)),(19,.int .i64 (n:Nat)),(20,.int .i64 ((h+1:Nat):Int)),(21,.int .i64 (j:Nat)),(22,.int .i64 (p:Nat))]∧h1=⟨n'+3,H.blks⟩)
          (bifL hB ⟨boolT (by omega),bifL (by omega) ⟨⟨by omega,by omega⟩,⟨by omega,by omega⟩,.mk 1,cvM rfl (midW hhd (by omega)),bifL (by omega) ⟨⟨by omega,by omega⟩,S.ix (by omega) p2,w.ld ok p2 _,by show S.Q<H.next+10;omega,S.ix rfl p3,w.ld ok p3 _,by show S.Q<H.next+10;omega,⟨D⟩,boolF (fun h=>by have:=hr'.1 h;cases this),bifL (by show B≤n';omega) ⟨⟨by omega,by omega⟩,rfl,by rw [succI],rfl⟩⟩⟩⟩)
        exact⟨H',Loops.round hr (Ent.refl _ _ _ _) L,w',((f1.sub (M:= [S.Q]) (by simp)).trans (Fr.up ⟨n',H.blks⟩ 3 []) (by simp)).trans f' (fun x hx _=>hx)⟩
end
end Go.Proofs.YtjpfnbihopoeeaaGreatDoor
