/-
  Parts of the proof, one behind the other:
  The library's sort in a variable memory: symMerge, blocks, the whole.
  The library's sort in a variable memory: slices.SortStableFunc sorts, and keeps what is alike in its order.
  Clone, By, the function that Sort hands on, Sort: as trees.
  The order of rows, plainly.
  Clone, By, and the function that Sort hands on, in every memory.
  table.Sort in every memory.
  table.Sort in every memory, the whole.
  times and TableSorted, as trees.
  times and By in every memory.
  TableSorted: its loops, and what a sorted table is.
  TableSorted answers true.
  THE LIFT: arguments that came in, as rows that must not be written.
  THE LIFT: a slice of slices of integers, as it came in.
  THE LIFT: arguments of flat types (numbers, bools, strings, structs and arrays of these; slices of such), as they came in.
  Flat slices whose elements hold texts: these are not too long.
  A slice of slices of texts, as it came in; TableSorted at it.
  What the table's statements lean on of the library's variables, where the row's variables hold what the card ties them to; and a world in which all of it lies.
-/
import Derived.ProofKit
import Derived.OpenShut
import Derived.ChangeOld
import Derived.HandedShaped
import Derived.Deep.Matrix
import Derived.Deep.Slices
import Derived.Test.YtjpfnbihopoeeaaGreatDoorRows
import Derived.LaidMore
import Derived.Stop.Joined
import Derived.Stop.LaidErr
import Derived.MakeChecks
import Derived.Lib.LaidTab
import Derived.LaidOnce
import Derived.Test.YtjpfnbihopoeeaaGreatDoorKTableSortedD
set_option linter.unusedVariables false
set_option linter.unusedSimpArgs false
set_option linter.unusedSectionVars false
namespace Go.Proofs.YtjpfnbihopoeeaaGreatDoor
open Go.Lift
set_option maxRecDepth 1000000
theorem eqI {n:Int}{c:Nat}(h:n=c)(hc:c<2^62):some (AVal.int .i64 (IntKind.wrap .i64 n))=some (AVal.int .i64 (c:Int)):=by
  rw [h,wrap64 (by omega) (by omega)]
theorem eqF1 {n:Int}(h: ¬ n=1):some (AVal.bool (n == 1))=some (AVal.bool false):=by
  rw [beq_eq_false_iff_ne.2 h]
theorem eqT1 {n:Int}(h:n=1):some (AVal.bool (n == 1))=some (AVal.bool true):=by
  rw [h];rfl
theorem rotF_id1(π:Nat→Nat){m b:Nat}(h:m≤b):rotF π m m b=π:=by
  funext k
  unfold rotF
  by_cases c:m≤k∧k<m+(b-m)
  · rw [if_pos c];congr 1;omega
  · rw [if_neg c,if_neg (by omega)]
theorem rotF_id2(π:Nat→Nat){a m:Nat}(h:a≤m):rotF π a m m=π:=by
  funext k
  unfold rotF
  rw [if_neg (by omega)]
  by_cases c:a+(m-m)≤k∧k<m
  · rw [if_pos c];congr 1;omega
  · rw [if_neg c]
theorem Parts.congr {less:Nat→Nat→Bool}{π σ:Nat→Nat}{a m b:Nat}(h:Parts less π a m b)(ham:a≤m)(hmb:m≤b)(e: ∀ k,a≤k→k<b→σ k=π k):Parts less σ a m b :=
  ⟨fun i j h1 h2 h3=>by rw [e i (by omega) (by omega),e j (by omega) (by omega)];exact h.one i j h1 h2 h3,
   fun i j h1 h2 h3=>by rw [e i (by omega) (by omega),e j (by omega) (by omega)];exact h.two i j h1 h2 h3,
   fun i j h1 h2 h3 h4=>by rw [e i (by omega) (by omega),e j (by omega) (by omega)];exact h.cross i j h1 h2 h3 h4⟩
section
variable {S:SC}(ok:S.Ok){g:FuncId}{cs:List AVal}{less:Nat→Nat→Bool}(hw:Weak less)(hc:S.Cmp g cs less)
include ok
theorem smc_big {a m b k mid e:Nat} (π ρ σ τ:Nat→Nat) (hmid:mid=(a+b) / 2) (he:e=mid+m-k) (hk1:k≤m) (hk2:k≤mid) (hak:a≤k) (heb:e≤b) (ham:a<m) (ha1:m≠a+1) (hmb:m<b) (hb1:b≠m+1) (hb:b≤S.N) (ht:mid<m)
    (hloop: ∀ (B:Nat) (H:AHeap),B≤H.next→S.WS H π→ ∃ H',Loops Tryz.prog cnd B 220 (loopAt Tryz.prog 161 4) [(0,S.dv),(1,.int .i64 (a:Nat)),(2,.int .i64 (m:Nat)),(3,.int .i64 (b:Nat)),(4,cvF g cs),(18,.int .i64 (mid:Nat)),(19,.int .i64 ((mid+m:Nat):Int)),(20,.int .i64 ((mid+m-b:Nat):Int)),(21,.int .i64 ((mid:Nat):Int)),(22,.int .i64 ((mid+m-1:Nat):Int))] H
      (.exit 8) [(0,S.dv),(1,.int .i64 (a:Nat)),(2,.int .i64 (m:Nat)),(3,.int .i64 (b:Nat)),(4,cvF g cs),(18,.int .i64 (mid:Nat)),(19,.int .i64 ((mid+m:Nat):Int)),(20,.int .i64 (k:Nat))] H'∧S.WS H' π∧Fr H H' [S.Q])
    (hr:(k<m∧m<e∧S.Do 195 [S.dv,.int .i64 (k:Nat),.int .i64 (m:Nat),.int .i64 (e:Nat),cvF g cs] π ρ)∨(k<m∧ ¬ m<e∧π=ρ)∨(¬ k<m∧π=ρ))
    (hl:(a<k∧k<mid∧S.Do 161 [S.dv,.int .i64 (a:Nat),.int .i64 (k:Nat),.int .i64 (mid:Nat),cvF g cs] ρ σ)∨(a<k∧ ¬ k<mid∧ρ=σ)∨(¬ a<k∧ρ=σ))
    (hd:(mid<e∧e<b∧S.Do 161 [S.dv,.int .i64 (mid:Nat),.int .i64 (e:Nat),.int .i64 (b:Nat),cvF g cs] σ τ)∨(mid<e∧ ¬ e<b∧σ=τ)∨(¬ mid<e∧σ=τ)) :
    S.Do 161 [S.dv,.int .i64 (a:Nat),.int .i64 (m:Nat),.int .i64 (b:Nat),cvF g cs] π τ:=by
  have hN:=ok.n
  intro H w
  obtain⟨H1,L,w1,g1⟩:=hloop H.next (up H 33) (by show H.next≤H.next+33;omega) (w.fr ok (Fr.up H 33 []))
  have n1:H.next+33≤H1.next:=g1.next
  have f01:Fr H H1 [S.Q]:=(Fr.up H 33 [S.Q]).trans g1 (fun x hx _=>hx)
  rcases hr with ⟨r1,r2,dr⟩ | ⟨r1,r2,rfl⟩ | ⟨r1,rfl⟩
  · rcases hl with ⟨l1,l2,dl⟩ | ⟨l1,l2,rfl⟩ | ⟨l1,rfl⟩
    · rcases hd with ⟨d1,d2,dd⟩ | ⟨d1,d2,rfl⟩ | ⟨d1,rfl⟩
      · obtain⟨H2,DH2,wH2,gH2⟩:=dr (up H1 18) (w1.fr ok (Fr.up H1 18 []))
        have nH2:H1.next+18≤H2.next:=gH2.next
        have fH2:Fr H H2 [S.Q]:=(f01.trans (Fr.up H1 18 []) (by simp)).trans gH2 (fun x hx _=>hx)
        obtain⟨H3,DH3,wH3,gH3⟩:=dl (up H2 14) (wH2.fr ok (Fr.up H2 14 []))
        have nH3:H2.next+14≤H3.next:=gH3.next
        have fH3:Fr H H3 [S.Q]:=(fH2.trans (Fr.up H2 14 []) (by simp)).trans gH3 (fun x hx _=>hx)
        obtain⟨H4,DH4,wH4,gH4⟩:=dd (up H3 14) (wH3.fr ok (Fr.up H3 14 []))
        have nH4:H3.next+14≤H4.next:=gH4.next
        have fH4:Fr H H4 [S.Q]:=(fH3.trans (Fr.up H3 14 []) (by simp)).trans gH4 (fun x hx _=>hx)
        obtain⟨v,h1,hd,rfl,rfl⟩:=smB_vc H H1 H2 H3 H4 a m b mid (mid+m) (mid+m-b) (mid+m-1) k e S.dv (cvF g cs) (fun v h1=>v= .tuple []∧h1=H4)
          (bifL (Nat.le_refl _) ⟨⟨by omega,by omega⟩,eqF1 (by omega),bifL (by omega) ⟨⟨by omega,by omega⟩,eqF1 (by omega),bifL (by omega) ⟨⟨by omega,by omega⟩,⟨by omega,by omega⟩,.mk 1,cvM rfl (midW hmid.symm (by omega)),bifL (by omega) ⟨eqI (by omega) (by omega),bifL (by omega) (bifL (by omega) ⟨boolT (by omega),bifL (by omega) ⟨eqI (by omega) (by omega),bifL (by omega) (bifL (by omega) ⟨eqI (by omega) (by omega),⟨Runs.of_loops L,bifL (by omega) ⟨eqI (by omega) (by omega),bifL (by omega) ⟨boolT (by omega),⟨boolT (by omega),bifL (by omega) ⟨⟨DH2⟩,bifL (by omega) ⟨boolT (by omega),⟨boolT (by omega),bifL (by omega) ⟨⟨DH3⟩,bifL (by omega) ⟨boolT (by omega),⟨boolT (by omega),bifL (by omega) ⟨⟨DH4⟩,condL (by omega) ⟨rfl,rfl⟩⟩⟩⟩⟩⟩⟩⟩⟩⟩⟩⟩⟩)⟩⟩)⟩⟩⟩⟩)
        exact⟨_,hd,wH4,fH4⟩
      · obtain⟨H2,DH2,wH2,gH2⟩:=dr (up H1 18) (w1.fr ok (Fr.up H1 18 []))
        have nH2:H1.next+18≤H2.next:=gH2.next
        have fH2:Fr H H2 [S.Q]:=(f01.trans (Fr.up H1 18 []) (by simp)).trans gH2 (fun x hx _=>hx)
        obtain⟨H3,DH3,wH3,gH3⟩:=dl (up H2 14) (wH2.fr ok (Fr.up H2 14 []))
        have nH3:H2.next+14≤H3.next:=gH3.next
        have fH3:Fr H H3 [S.Q]:=(fH2.trans (Fr.up H2 14 []) (by simp)).trans gH3 (fun x hx _=>hx)
        obtain⟨v,h1,hd,rfl,rfl⟩:=smC_vc H H1 H2 H3 H a m b mid (mid+m) (mid+m-b) (mid+m-1) k e S.dv (cvF g cs) (fun v h1=>v= .tuple []∧h1=up H3 8)
          (bifL (Nat.le_refl _) ⟨⟨by omega,by omega⟩,eqF1 (by omega),bifL (by omega) ⟨⟨by omega,by omega⟩,eqF1 (by omega),bifL (by omega) ⟨⟨by omega,by omega⟩,⟨by omega,by omega⟩,.mk 1,cvM rfl (midW hmid.symm (by omega)),bifL (by omega) ⟨eqI (by omega) (by omega),bifL (by omega) (bifL (by omega) ⟨boolT (by omega),bifL (by omega) ⟨eqI (by omega) (by omega),bifL (by omega) (bifL (by omega) ⟨eqI (by omega) (by omega),⟨Runs.of_loops L,bifL (by omega) ⟨eqI (by omega) (by omega),bifL (by omega) ⟨boolT (by omega),⟨boolT (by omega),bifL (by omega) ⟨⟨DH2⟩,bifL (by omega) ⟨boolT (by omega),⟨boolT (by omega),bifL (by omega) ⟨⟨DH3⟩,bifL (by omega) ⟨boolT (by omega),⟨boolF (by omega),condL (by show H.next≤H3.next+8;omega) ⟨rfl,rfl⟩⟩⟩⟩⟩⟩⟩⟩⟩⟩⟩⟩)⟩⟩)⟩⟩⟩⟩)
        exact⟨_,hd,wH3.fr ok (Fr.up H3 8 []),fH3.trans (Fr.up H3 8 []) (by simp)⟩
      · omega
    · omega
    · rcases hd with ⟨d1,d2,dd⟩ | ⟨d1,d2,rfl⟩ | ⟨d1,rfl⟩
      · obtain⟨H2,DH2,wH2,gH2⟩:=dr (up H1 18) (w1.fr ok (Fr.up H1 18 []))
        have nH2:H1.next+18≤H2.next:=gH2.next
        have fH2:Fr H H2 [S.Q]:=(f01.trans (Fr.up H1 18 []) (by simp)).trans gH2 (fun x hx _=>hx)
        obtain⟨H4,DH4,wH4,gH4⟩:=dd (up H2 22) (wH2.fr ok (Fr.up H2 22 []))
        have nH4:H2.next+22≤H4.next:=gH4.next
        have fH4:Fr H H4 [S.Q]:=(fH2.trans (Fr.up H2 22 []) (by simp)).trans gH4 (fun x hx _=>hx)
        obtain⟨v,h1,hd,rfl,rfl⟩:=smD_vc H H1 H2 H H4 a m b mid (mid+m) (mid+m-b) (mid+m-1) k e S.dv (cvF g cs) (fun v h1=>v= .tuple []∧h1=H4)
          (bifL (Nat.le_refl _) ⟨⟨by omega,by omega⟩,eqF1 (by omega),bifL (by omega) ⟨⟨by omega,by omega⟩,eqF1 (by omega),bifL (by omega) ⟨⟨by omega,by omega⟩,⟨by omega,by omega⟩,.mk 1,cvM rfl (midW hmid.symm (by omega)),bifL (by omega) ⟨eqI (by omega) (by omega),bifL (by omega) (bifL (by omega) ⟨boolT (by omega),bifL (by omega) ⟨eqI (by omega) (by omega),bifL (by omega) (bifL (by omega) ⟨eqI (by omega) (by omega),⟨Runs.of_loops L,bifL (by omega) ⟨eqI (by omega) (by omega),bifL (by omega) ⟨boolT (by omega),⟨boolT (by omega),bifL (by omega) ⟨⟨DH2⟩,bifL (by omega) ⟨boolF (by omega),bifL (by omega) ⟨boolT (by omega),⟨boolT (by omega),bifL (by omega) ⟨⟨DH4⟩,condL (by omega) ⟨rfl,rfl⟩⟩⟩⟩⟩⟩⟩⟩⟩⟩⟩)⟩⟩)⟩⟩⟩⟩)
        exact⟨_,hd,wH4,fH4⟩
      · obtain⟨H2,DH2,wH2,gH2⟩:=dr (up H1 18) (w1.fr ok (Fr.up H1 18 []))
        have nH2:H1.next+18≤H2.next:=gH2.next
        have fH2:Fr H H2 [S.Q]:=(f01.trans (Fr.up H1 18 []) (by simp)).trans gH2 (fun x hx _=>hx)
        obtain⟨v,h1,hd,rfl,rfl⟩:=smE_vc H H1 H2 H H a m b mid (mid+m) (mid+m-b) (mid+m-1) k e S.dv (cvF g cs) (fun v h1=>v= .tuple []∧h1=up H2 16)
          (bifL (Nat.le_refl _) ⟨⟨by omega,by omega⟩,eqF1 (by omega),bifL (by omega) ⟨⟨by omega,by omega⟩,eqF1 (by omega),bifL (by omega) ⟨⟨by omega,by omega⟩,⟨by omega,by omega⟩,.mk 1,cvM rfl (midW hmid.symm (by omega)),bifL (by omega) ⟨eqI (by omega) (by omega),bifL (by omega) (bifL (by omega) ⟨boolT (by omega),bifL (by omega) ⟨eqI (by omega) (by omega),bifL (by omega) (bifL (by omega) ⟨eqI (by omega) (by omega),⟨Runs.of_loops L,bifL (by omega) ⟨eqI (by omega) (by omega),bifL (by omega) ⟨boolT (by omega),⟨boolT (by omega),bifL (by omega) ⟨⟨DH2⟩,bifL (by omega) ⟨boolF (by omega),bifL (by omega) ⟨boolT (by omega),⟨boolF (by omega),condL (by show H.next≤H2.next+16;omega) ⟨rfl,rfl⟩⟩⟩⟩⟩⟩⟩⟩⟩⟩)⟩⟩)⟩⟩⟩⟩)
        exact⟨_,hd,wH2.fr ok (Fr.up H2 16 []),fH2.trans (Fr.up H2 16 []) (by simp)⟩
      · omega
  · rcases hl with ⟨l1,l2,dl⟩ | ⟨l1,l2,rfl⟩ | ⟨l1,rfl⟩
    · omega
    · rcases hd with ⟨d1,d2,dd⟩ | ⟨d1,d2,rfl⟩ | ⟨d1,rfl⟩
      · obtain⟨H4,DH4,wH4,gH4⟩:=dd (up H1 34) (w1.fr ok (Fr.up H1 34 []))
        have nH4:H1.next+34≤H4.next:=gH4.next
        have fH4:Fr H H4 [S.Q]:=(f01.trans (Fr.up H1 34 []) (by simp)).trans gH4 (fun x hx _=>hx)
        obtain⟨v,h1,hd,rfl,rfl⟩:=smA_vc H H1 H H H4 a m b mid (mid+m) (mid+m-b) (mid+m-1) k e S.dv (cvF g cs) (fun v h1=>v= .tuple []∧h1=H4)
          (bifL (Nat.le_refl _) ⟨⟨by omega,by omega⟩,eqF1 (by omega),bifL (by omega) ⟨⟨by omega,by omega⟩,eqF1 (by omega),bifL (by omega) ⟨⟨by omega,by omega⟩,⟨by omega,by omega⟩,.mk 1,cvM rfl (midW hmid.symm (by omega)),bifL (by omega) ⟨eqI (by omega) (by omega),bifL (by omega) (bifL (by omega) ⟨boolT (by omega),bifL (by omega) ⟨eqI (by omega) (by omega),bifL (by omega) (bifL (by omega) ⟨eqI (by omega) (by omega),⟨Runs.of_loops L,bifL (by omega) ⟨eqI (by omega) (by omega),bifL (by omega) ⟨boolT (by omega),⟨boolF (by omega),bifL (by omega) ⟨boolT (by omega),⟨boolF (by omega),bifL (by omega) ⟨boolT (by omega),⟨boolT (by omega),bifL (by omega) ⟨⟨DH4⟩,condL (by omega) ⟨rfl,rfl⟩⟩⟩⟩⟩⟩⟩⟩⟩⟩⟩)⟩⟩)⟩⟩⟩⟩)
        exact⟨_,hd,wH4,fH4⟩
      · omega
      · omega
    · omega
  · omega
theorem smc_small {a m b k mid e:Nat} (π ρ σ τ:Nat→Nat) (hmid:mid=(a+b) / 2) (he:e=mid+m-k) (hk1:k≤m) (hk2:k≤mid) (hak:a≤k) (heb:e≤b) (ham:a<m) (ha1:m≠a+1) (hmb:m<b) (hb1:b≠m+1) (hb:b≤S.N) (ht: ¬ mid<m)
    (hloop: ∀ (B:Nat) (H:AHeap),B≤H.next→S.WS H π→ ∃ H',Loops Tryz.prog cnd B 220 (loopAt Tryz.prog 161 4) [(0,S.dv),(1,.int .i64 (a:Nat)),(2,.int .i64 (m:Nat)),(3,.int .i64 (b:Nat)),(4,cvF g cs),(18,.int .i64 (mid:Nat)),(19,.int .i64 ((mid+m:Nat):Int)),(20,.int .i64 ((a:Nat):Int)),(21,.int .i64 ((m:Nat):Int)),(22,.int .i64 ((mid+m-1:Nat):Int))] H
      (.exit 8) [(0,S.dv),(1,.int .i64 (a:Nat)),(2,.int .i64 (m:Nat)),(3,.int .i64 (b:Nat)),(4,cvF g cs),(18,.int .i64 (mid:Nat)),(19,.int .i64 ((mid+m:Nat):Int)),(20,.int .i64 (k:Nat))] H'∧S.WS H' π∧Fr H H' [S.Q])
    (hr:(k<m∧m<e∧S.Do 195 [S.dv,.int .i64 (k:Nat),.int .i64 (m:Nat),.int .i64 (e:Nat),cvF g cs] π ρ)∨(k<m∧ ¬ m<e∧π=ρ)∨(¬ k<m∧π=ρ))
    (hl:(a<k∧k<mid∧S.Do 161 [S.dv,.int .i64 (a:Nat),.int .i64 (k:Nat),.int .i64 (mid:Nat),cvF g cs] ρ σ)∨(a<k∧ ¬ k<mid∧ρ=σ)∨(¬ a<k∧ρ=σ))
    (hd:(mid<e∧e<b∧S.Do 161 [S.dv,.int .i64 (mid:Nat),.int .i64 (e:Nat),.int .i64 (b:Nat),cvF g cs] σ τ)∨(mid<e∧ ¬ e<b∧σ=τ)∨(¬ mid<e∧σ=τ)) :
    S.Do 161 [S.dv,.int .i64 (a:Nat),.int .i64 (m:Nat),.int .i64 (b:Nat),cvF g cs] π τ:=by
  have hN:=ok.n
  intro H w
  obtain⟨H1,L,w1,g1⟩:=hloop H.next (up H 31) (by show H.next≤H.next+31;omega) (w.fr ok (Fr.up H 31 []))
  have n1:H.next+31≤H1.next:=g1.next
  have f01:Fr H H1 [S.Q]:=(Fr.up H 31 [S.Q]).trans g1 (fun x hx _=>hx)
  rcases hr with ⟨r1,r2,dr⟩ | ⟨r1,r2,rfl⟩ | ⟨r1,rfl⟩
  · rcases hl with ⟨l1,l2,dl⟩ | ⟨l1,l2,rfl⟩ | ⟨l1,rfl⟩
    · rcases hd with ⟨d1,d2,dd⟩ | ⟨d1,d2,rfl⟩ | ⟨d1,rfl⟩
      · obtain⟨H2,DH2,wH2,gH2⟩:=dr (up H1 18) (w1.fr ok (Fr.up H1 18 []))
        have nH2:H1.next+18≤H2.next:=gH2.next
        have fH2:Fr H H2 [S.Q]:=(f01.trans (Fr.up H1 18 []) (by simp)).trans gH2 (fun x hx _=>hx)
        obtain⟨H3,DH3,wH3,gH3⟩:=dl (up H2 14) (wH2.fr ok (Fr.up H2 14 []))
        have nH3:H2.next+14≤H3.next:=gH3.next
        have fH3:Fr H H3 [S.Q]:=(fH2.trans (Fr.up H2 14 []) (by simp)).trans gH3 (fun x hx _=>hx)
        obtain⟨H4,DH4,wH4,gH4⟩:=dd (up H3 14) (wH3.fr ok (Fr.up H3 14 []))
        have nH4:H3.next+14≤H4.next:=gH4.next
        have fH4:Fr H H4 [S.Q]:=(fH3.trans (Fr.up H3 14 []) (by simp)).trans gH4 (fun x hx _=>hx)
        obtain⟨v,h1,hd,rfl,rfl⟩:=smF_vc H H1 H2 H3 H4 a m b mid (mid+m) (mid+m-b) (mid+m-1) k e S.dv (cvF g cs) (fun v h1=>v= .tuple []∧h1=H4)
          (bifL (Nat.le_refl _) ⟨⟨by omega,by omega⟩,eqF1 (by omega),bifL (by omega) ⟨⟨by omega,by omega⟩,eqF1 (by omega),bifL (by omega) ⟨⟨by omega,by omega⟩,⟨by omega,by omega⟩,.mk 1,cvM rfl (midW hmid.symm (by omega)),bifL (by omega) ⟨eqI (by omega) (by omega),bifL (by omega) (bifL (by omega) ⟨boolF (by omega),bifL (by omega) (bifL (by omega) (bifL (by omega) ⟨eqI (by omega) (by omega),⟨Runs.of_loops L,bifL (by omega) ⟨eqI (by omega) (by omega),bifL (by omega) ⟨boolT (by omega),⟨boolT (by omega),bifL (by omega) ⟨⟨DH2⟩,bifL (by omega) ⟨boolT (by omega),⟨boolT (by omega),bifL (by omega) ⟨⟨DH3⟩,bifL (by omega) ⟨boolT (by omega),⟨boolT (by omega),bifL (by omega) ⟨⟨DH4⟩,condL (by omega) ⟨rfl,rfl⟩⟩⟩⟩⟩⟩⟩⟩⟩⟩⟩⟩⟩))⟩)⟩⟩⟩⟩)
        exact⟨_,hd,wH4,fH4⟩
      · obtain⟨H2,DH2,wH2,gH2⟩:=dr (up H1 18) (w1.fr ok (Fr.up H1 18 []))
        have nH2:H1.next+18≤H2.next:=gH2.next
        have fH2:Fr H H2 [S.Q]:=(f01.trans (Fr.up H1 18 []) (by simp)).trans gH2 (fun x hx _=>hx)
        obtain⟨H3,DH3,wH3,gH3⟩:=dl (up H2 14) (wH2.fr ok (Fr.up H2 14 []))
        have nH3:H2.next+14≤H3.next:=gH3.next
        have fH3:Fr H H3 [S.Q]:=(fH2.trans (Fr.up H2 14 []) (by simp)).trans gH3 (fun x hx _=>hx)
        obtain⟨v,h1,hd,rfl,rfl⟩:=smG_vc H H1 H2 H3 H a m b mid (mid+m) (mid+m-b) (mid+m-1) k e S.dv (cvF g cs) (fun v h1=>v= .tuple []∧h1=up H3 8)
          (bifL (Nat.le_refl _) ⟨⟨by omega,by omega⟩,eqF1 (by omega),bifL (by omega) ⟨⟨by omega,by omega⟩,eqF1 (by omega),bifL (by omega) ⟨⟨by omega,by omega⟩,⟨by omega,by omega⟩,.mk 1,cvM rfl (midW hmid.symm (by omega)),bifL (by omega) ⟨eqI (by omega) (by omega),bifL (by omega) (bifL (by omega) ⟨boolF (by omega),bifL (by omega) (bifL (by omega) (bifL (by omega) ⟨eqI (by omega) (by omega),⟨Runs.of_loops L,bifL (by omega) ⟨eqI (by omega) (by omega),bifL (by omega) ⟨boolT (by omega),⟨boolT (by omega),bifL (by omega) ⟨⟨DH2⟩,bifL (by omega) ⟨boolT (by omega),⟨boolT (by omega),bifL (by omega) ⟨⟨DH3⟩,bifL (by omega) ⟨boolT (by omega),⟨boolF (by omega),condL (by show H.next≤H3.next+8;omega) ⟨rfl,rfl⟩⟩⟩⟩⟩⟩⟩⟩⟩⟩⟩⟩))⟩)⟩⟩⟩⟩)
        exact⟨_,hd,wH3.fr ok (Fr.up H3 8 []),fH3.trans (Fr.up H3 8 []) (by simp)⟩
      · omega
    · omega
    · rcases hd with ⟨d1,d2,dd⟩ | ⟨d1,d2,rfl⟩ | ⟨d1,rfl⟩
      · obtain⟨H2,DH2,wH2,gH2⟩:=dr (up H1 18) (w1.fr ok (Fr.up H1 18 []))
        have nH2:H1.next+18≤H2.next:=gH2.next
        have fH2:Fr H H2 [S.Q]:=(f01.trans (Fr.up H1 18 []) (by simp)).trans gH2 (fun x hx _=>hx)
        obtain⟨H4,DH4,wH4,gH4⟩:=dd (up H2 22) (wH2.fr ok (Fr.up H2 22 []))
        have nH4:H2.next+22≤H4.next:=gH4.next
        have fH4:Fr H H4 [S.Q]:=(fH2.trans (Fr.up H2 22 []) (by simp)).trans gH4 (fun x hx _=>hx)
        obtain⟨v,h1,hd,rfl,rfl⟩:=smH_vc H H1 H2 H H4 a m b mid (mid+m) (mid+m-b) (mid+m-1) k e S.dv (cvF g cs) (fun v h1=>v= .tuple []∧h1=H4)
          (bifL (Nat.le_refl _) ⟨⟨by omega,by omega⟩,eqF1 (by omega),bifL (by omega) ⟨⟨by omega,by omega⟩,eqF1 (by omega),bifL (by omega) ⟨⟨by omega,by omega⟩,⟨by omega,by omega⟩,.mk 1,cvM rfl (midW hmid.symm (by omega)),bifL (by omega) ⟨eqI (by omega) (by omega),bifL (by omega) (bifL (by omega) ⟨boolF (by omega),bifL (by omega) (bifL (by omega) (bifL (by omega) ⟨eqI (by omega) (by omega),⟨Runs.of_loops L,bifL (by omega) ⟨eqI (by omega) (by omega),bifL (by omega) ⟨boolT (by omega),⟨boolT (by omega),bifL (by omega) ⟨⟨DH2⟩,bifL (by omega) ⟨boolF (by omega),bifL (by omega) ⟨boolT (by omega),⟨boolT (by omega),bifL (by omega) ⟨⟨DH4⟩,condL (by omega) ⟨rfl,rfl⟩⟩⟩⟩⟩⟩⟩⟩⟩⟩⟩))⟩)⟩⟩⟩⟩)
        exact⟨_,hd,wH4,fH4⟩
      · obtain⟨H2,DH2,wH2,gH2⟩:=dr (up H1 18) (w1.fr ok (Fr.up H1 18 []))
        have nH2:H1.next+18≤H2.next:=gH2.next
        have fH2:Fr H H2 [S.Q]:=(f01.trans (Fr.up H1 18 []) (by simp)).trans gH2 (fun x hx _=>hx)
        obtain⟨v,h1,hd,rfl,rfl⟩:=smI_vc H H1 H2 H H a m b mid (mid+m) (mid+m-b) (mid+m-1) k e S.dv (cvF g cs) (fun v h1=>v= .tuple []∧h1=up H2 16)
          (bifL (Nat.le_refl _) ⟨⟨by omega,by omega⟩,eqF1 (by omega),bifL (by omega) ⟨⟨by omega,by omega⟩,eqF1 (by omega),bifL (by omega) ⟨⟨by omega,by omega⟩,⟨by omega,by omega⟩,.mk 1,cvM rfl (midW hmid.symm (by omega)),bifL (by omega) ⟨eqI (by omega) (by omega),bifL (by omega) (bifL (by omega) ⟨boolF (by omega),bifL (by omega) (bifL (by omega) (bifL (by omega) ⟨eqI (by omega) (by omega),⟨Runs.of_loops L,bifL (by omega) ⟨eqI (by omega) (by omega),bifL (by omega) ⟨boolT (by omega),⟨boolT (by omega),bifL (by omega) ⟨⟨DH2⟩,bifL (by omega) ⟨boolF (by omega),bifL (by omega) ⟨boolT (by omega),⟨boolF (by omega),condL (by show H.next≤H2.next+16;omega) ⟨rfl,rfl⟩⟩⟩⟩⟩⟩⟩⟩⟩⟩))⟩)⟩⟩⟩⟩)
        exact⟨_,hd,wH2.fr ok (Fr.up H2 16 []),fH2.trans (Fr.up H2 16 []) (by simp)⟩
      · omega
  · omega
  · rcases hl with ⟨l1,l2,dl⟩ | ⟨l1,l2,rfl⟩ | ⟨l1,rfl⟩
    · rcases hd with ⟨d1,d2,dd⟩ | ⟨d1,d2,rfl⟩ | ⟨d1,rfl⟩
      · omega
      · omega
      · obtain⟨H3,DH3,wH3,gH3⟩:=dl (up H1 26) (w1.fr ok (Fr.up H1 26 []))
        have nH3:H1.next+26≤H3.next:=gH3.next
        have fH3:Fr H H3 [S.Q]:=(f01.trans (Fr.up H1 26 []) (by simp)).trans gH3 (fun x hx _=>hx)
        obtain⟨v,h1,hd,rfl,rfl⟩:=smJ_vc H H1 H H3 H a m b mid (mid+m) (mid+m-b) (mid+m-1) k e S.dv (cvF g cs) (fun v h1=>v= .tuple []∧h1=up H3 8)
          (bifL (Nat.le_refl _) ⟨⟨by omega,by omega⟩,eqF1 (by omega),bifL (by omega) ⟨⟨by omega,by omega⟩,eqF1 (by omega),bifL (by omega) ⟨⟨by omega,by omega⟩,⟨by omega,by omega⟩,.mk 1,cvM rfl (midW hmid.symm (by omega)),bifL (by omega) ⟨eqI (by omega) (by omega),bifL (by omega) (bifL (by omega) ⟨boolF (by omega),bifL (by omega) (bifL (by omega) (bifL (by omega) ⟨eqI (by omega) (by omega),⟨Runs.of_loops L,bifL (by omega) ⟨eqI (by omega) (by omega),bifL (by omega) ⟨boolF (by omega),bifL (by omega) ⟨boolT (by omega),⟨boolT (by omega),bifL (by omega) ⟨⟨DH3⟩,bifL (by omega) ⟨boolF (by omega),condL (by show H.next≤H3.next+8;omega) ⟨rfl,rfl⟩⟩⟩⟩⟩⟩⟩⟩⟩))⟩)⟩⟩⟩⟩)
        exact⟨_,hd,wH3.fr ok (Fr.up H3 8 []),fH3.trans (Fr.up H3 8 []) (by simp)⟩
    · rcases hd with ⟨d1,d2,dd⟩ | ⟨d1,d2,rfl⟩ | ⟨d1,rfl⟩
      · omega
      · omega
      · obtain⟨v,h1,hd,rfl,rfl⟩:=smK_vc H H1 H H H a m b mid (mid+m) (mid+m-b) (mid+m-1) k e S.dv (cvF g cs) (fun v h1=>v= .tuple []∧h1=up H1 28)
          (bifL (Nat.le_refl _) ⟨⟨by omega,by omega⟩,eqF1 (by omega),bifL (by omega) ⟨⟨by omega,by omega⟩,eqF1 (by omega),bifL (by omega) ⟨⟨by omega,by omega⟩,⟨by omega,by omega⟩,.mk 1,cvM rfl (midW hmid.symm (by omega)),bifL (by omega) ⟨eqI (by omega) (by omega),bifL (by omega) (bifL (by omega) ⟨boolF (by omega),bifL (by omega) (bifL (by omega) (bifL (by omega) ⟨eqI (by omega) (by omega),⟨Runs.of_loops L,bifL (by omega) ⟨eqI (by omega) (by omega),bifL (by omega) ⟨boolF (by omega),bifL (by omega) ⟨boolT (by omega),⟨boolF (by omega),bifL (by omega) ⟨boolF (by omega),condL (by show H.next≤H1.next+28;omega) ⟨rfl,rfl⟩⟩⟩⟩⟩⟩⟩⟩))⟩)⟩⟩⟩⟩)
        exact⟨_,hd,w1.fr ok (Fr.up H1 28 []),f01.trans (Fr.up H1 28 []) (by simp)⟩
    · omega
include hw hc
theorem sm_one {a m b:Nat}(π:Nat→Nat)(hπ:InN S.N π)(hm:m=a+1)(hmb:m<b)(hb:b≤S.N)(hp:Parts less π a m b) :
    ∃ σ,Same π σ a b∧Srt less σ a b∧S.Do 161 [S.dv,.int .i64 (a:Nat),.int .i64 (m:Nat),.int .i64 (b:Nat),cvF g cs] π σ:=by
  have hN:=ok.n
  subst hm
  obtain⟨k,k1,k2,k3,k4,k5⟩:=sm0_loop ok hw hc π hπ (by omega:a<b) hb (b- (a+1)) (a+1) b (by omega) (by omega) (by omega) (by omega) (.inl rfl) (.inl rfl)
  refine⟨_,(rotF_same π (by omega) (by omega)).wide (Nat.le_refl a) k2 (by omega),merge_one hw hp k1 k2 k3 k4,fun H w=> ?_⟩
  obtain⟨H1,L1,w1,f1⟩:=k5 H.next (up H 8) (by show H.next≤H.next+8;omega) (w.fr ok (Fr.up H 8 []))
  have n1:H.next+8≤H1.next:=f1.next
  obtain⟨H2,L2,w2,f2⟩:=sm1_loop ok hw hc (a:=a) (i:=k) π (by omega) (k- (a+1)) a (by omega) (by omega) H.next (up H1 2) (by show H.next≤H1.next+2;omega) (by rw [rot1_zero];exact w1.fr ok (Fr.up H1 2 []))
  have n2:H1.next+2≤H2.next:=f2.next
  obtain⟨v,h1,hd,rfl,rfl⟩:=smO_vc H H1 H2 a (a+1) b k S.dv (cvF g cs) (fun v h1=>v= .tuple []∧h1=H2) (bifL (Nat.le_refl _) ⟨⟨by omega,by omega⟩,eqT1 (by omega),bifL (by omega) (bifL (by omega) ⟨Runs.of_loops L1,bifL (by omega) ⟨Runs.of_loops L2,condL (by omega) ⟨rfl,rfl⟩⟩⟩)⟩)
  exact⟨_,hd,w2,(((Fr.up H 8 [S.Q]).trans f1 (fun x hx _=>hx)).trans (Fr.up H1 2 []) (by simp)).trans f2 (fun x hx _=>hx)⟩
theorem sm_last {a m b:Nat}(π:Nat→Nat)(hπ:InN S.N π)(ham:a<m)(ham2:m≠a+1)(hbm:b=m+1)(hb:b≤S.N)(hp:Parts less π a m b) :
    ∃ σ,Same π σ a b∧Srt less σ a b∧S.Do 161 [S.dv,.int .i64 (a:Nat),.int .i64 (m:Nat),.int .i64 (b:Nat),cvF g cs] π σ:=by
  have hN:=ok.n
  subst hbm
  obtain⟨k,k1,k2,k3,k4,k5⟩:=sm2_loop ok hw hc π hπ ham (by omega) (m-a) a m (by omega) (by omega) (by omega) (by omega) (.inl rfl) (.inl rfl)
  refine⟨_,(rotF_same π k2 (by omega)).wide k1 (Nat.le_refl _) (by omega),merge_last hw hp k1 k2 k3 k4,fun H w=> ?_⟩
  obtain⟨H1,L1,w1,f1⟩:=k5 H.next (up H 12) (by show H.next≤H.next+12;omega) (w.fr ok (Fr.up H 12 []))
  have n1:H.next+12≤H1.next:=f1.next
  obtain⟨H2,L2,w2,f2⟩:=sm3_loop ok hw hc (i:=k) π (by omega:m<S.N) (m-k) m (by omega) (by omega) H.next (up H1 2) (by show H.next≤H1.next+2;omega) (by rw [rotL_zero];exact w1.fr ok (Fr.up H1 2 []))
  have n2:H1.next+2≤H2.next:=f2.next
  obtain⟨v,h1,hd,rfl,rfl⟩:=smL_vc H H1 H2 a m (m+1) k S.dv (cvF g cs) (fun v h1=>v= .tuple []∧h1=H2) (bifL (Nat.le_refl _) ⟨⟨by omega,by omega⟩,eqF1 (by omega),bifL (by omega) ⟨⟨by omega,by omega⟩,eqT1 (by omega),bifL (by omega) (bifL (by omega) ⟨Runs.of_loops L1,bifL (by omega) ⟨Runs.of_loops L2,condL (by omega) ⟨rfl,rfl⟩⟩⟩)⟩⟩)
  exact⟨_,hd,w2,(((Fr.up H 12 [S.Q]).trans f1 (fun x hx _=>hx)).trans (Fr.up H1 2 []) (by simp)).trans f2 (fun x hx _=>hx)⟩
theorem sm_does: ∀ (f a m b:Nat) (π:Nat→Nat),b-a≤f→InN S.N π→a<m→m<b→b≤S.N→Parts less π a m b →
    ∃ σ,Same π σ a b∧Srt less σ a b∧S.Do 161 [S.dv,.int .i64 (a:Nat),.int .i64 (m:Nat),.int .i64 (b:Nat),cvF g cs] π σ:=by
  have hN:=ok.n
  intro f
  induction f with
  | zero=>intro a m b π hf;omega
  | succ f ih =>
    intro a m b π hf hπ ham hmb hb hp
    by_cases e1:m=a+1
    · exact sm_one ok hw hc π hπ e1 hmb hb hp
    by_cases e2:b=m+1
    · exact sm_last ok hw hc π hπ ham e1 e2 hb hp
    obtain⟨mid,hmid⟩: ∃ mid,mid=(a+b) / 2:=⟨_,rfl⟩
    obtain⟨k,k1,k2,k3,k4,k5⟩:=sm4_loop ok hw hc (a:=a) (m:=m) (b:=b) (d:=mid) (n:=mid+m) (p:=mid+m-1) (s0:=if mid<m then mid+m-b else a) (r0:=if mid<m then mid else m) π hπ
      (fun h h1 h2=>by split at h1<;>split at h2<;>omega) (by omega) (by split<;>omega) b (if mid<m then mid+m-b else a) (if mid<m then mid else m) (by split<;>omega) (by omega) (by split<;>omega) (by omega) (.inl rfl) (.inl rfl)
    obtain⟨P1,P2,hX⟩:=merge_split hw hp ham hmb hmid k1 k2 k3 k4
    have bd:a≤k∧k≤m∧k≤mid∧m≤mid+m-k∧mid+m-k≤b:=by split at k1<;>split at k2<;>omega
    obtain⟨e,he⟩: ∃ e,e=mid+m-k:=⟨_,rfl⟩
    rw [← he]at P1 P2 hX bd
    obtain⟨ρ,hρ⟩: ∃ ρ,ρ=rotF π k m e:=⟨_,rfl⟩
    rw [← hρ]at P1 P2 hX
    have hs1:Same π ρ k e:=by rw [hρ];exact rotF_same π (by omega) (by omega)
    have hρN:InN S.N ρ:=hπ.same hs1 (by omega)
    have hr:(k<m∧m<e∧S.Do 195 [S.dv,.int .i64 (k:Nat),.int .i64 (m:Nat),.int .i64 (e:Nat),cvF g cs] π ρ)∨(k<m∧ ¬ m<e∧π=ρ)∨(¬ k<m∧π=ρ):=by
      by_cases q1:k<m
      · by_cases q2:m<e
        · exact .inl ⟨q1,q2,by rw [hρ];exact rot_does ok π q1 q2 (by omega) _⟩
        · exact .inr (.inl ⟨q1,q2,by rw [hρ,show e=m by omega,rotF_id2 π (by omega)]⟩)
      · exact .inr (.inr ⟨q1,by rw [hρ,show k=m by omega,rotF_id1 π (by omega)]⟩)
    have hl: ∃ σ,Same ρ σ a mid∧Srt less σ a mid∧((a<k∧k<mid∧S.Do 161 [S.dv,.int .i64 (a:Nat),.int .i64 (k:Nat),.int .i64 (mid:Nat),cvF g cs] ρ σ)∨(a<k∧ ¬ k<mid∧ρ=σ)∨(¬ a<k∧ρ=σ)):=by
      by_cases q1:a<k
      · by_cases q2:k<mid
        · obtain⟨σ,r1,r2,r3⟩:=ih a k mid ρ (by omega) hρN q1 q2 (by omega) P1
          exact⟨σ,r1,r2,.inl ⟨q1,q2,r3⟩⟩
        · refine⟨ρ,Same.refl _ _ _,?_,.inr (.inl ⟨q1,q2,rfl⟩)⟩
          have:=P1.one
          rwa [show k=mid by omega]at this
      · refine⟨ρ,Same.refl _ _ _,?_,.inr (.inr ⟨q1,rfl⟩)⟩
        have:=P1.two
        rwa [show k=a by omega]at this
    obtain⟨σ,l1,l2,l3⟩:=hl
    have hσN:InN S.N σ:=hρN.same l1 (by omega)
    have P3:Parts less σ mid e b:=Parts.congr P2 (by omega) (by omega) fun k h1 h2=>l1.out k (.inr h1)
    have hd: ∃ τ,Same σ τ mid b∧Srt less τ mid b∧((mid<e∧e<b∧S.Do 161 [S.dv,.int .i64 (mid:Nat),.int .i64 (e:Nat),.int .i64 (b:Nat),cvF g cs] σ τ)∨(mid<e∧ ¬ e<b∧σ=τ)∨(¬ mid<e∧σ=τ)):=by
      by_cases q1:mid<e
      · by_cases q2:e<b
        · obtain⟨τ,r1,r2,r3⟩:=ih mid e b σ (by omega) hσN q1 q2 hb P3
          exact⟨τ,r1,r2,.inl ⟨q1,q2,r3⟩⟩
        · refine⟨σ,Same.refl _ _ _,?_,.inr (.inl ⟨q1,q2,rfl⟩)⟩
          have:=P3.one
          rwa [show e=b by omega]at this
      · refine⟨σ,Same.refl _ _ _,?_,.inr (.inr ⟨q1,rfl⟩)⟩
        have:=P3.two
        rwa [show e=mid by omega]at this
    obtain⟨τ,d1,d2,d3⟩:=hd
    refine⟨τ,(hs1.wide (by omega) (by omega) (by omega)).trans ((l1.wide (Nat.le_refl _) (by omega) (by omega)).trans (d1.wide (by omega) (Nat.le_refl _) (by omega))),merge_join (by omega) (by omega) l1 l2 d1 d2 hX,?_⟩
    by_cases ht:mid<m
    · simp only [if_pos ht]at k5
      exact smc_big ok π ρ σ τ hmid he bd.2.1 bd.2.2.1 bd.1 bd.2.2.2.2 ham e1 hmb e2 hb ht k5 hr l3 d3
    · simp only [if_neg ht]at k5
      exact smc_small ok π ρ σ τ hmid he bd.2.1 bd.2.2.1 bd.1 bd.2.2.2.2 ham e1 hmb e2 hb ht k5 hr l3 d3
end
end Go.Proofs.YtjpfnbihopoeeaaGreatDoor
namespace Go.Proofs.YtjpfnbihopoeeaaGreatDoor
open Go.Lift
set_option maxRecDepth 1000000
def Cell(less:Nat→Nat→Bool)(π ρ:Nat→Nat)(lo hi:Nat):Prop:=Srt less ρ lo hi∧ ∀ j,lo≤j→j<hi→ ∃ i,lo≤i∧i<hi∧ρ j=π i
theorem Cell.congr {less:Nat→Nat→Bool}{π ρ σ:Nat→Nat}{lo hi:Nat}(h:Cell less π ρ lo hi)(e: ∀ k,lo≤k→k<hi→σ k=ρ k):Cell less π σ lo hi :=
  ⟨fun i j h1 h2 h3=>by rw [e i h1 (by omega),e j (by omega) h3];exact h.1 i j h1 h2 h3,fun j h1 h2=>by rw [e j h1 h2];exact h.2 j h1 h2⟩
theorem Cell.parts {less:Nat→Nat→Bool}{π ρ:Nat→Nat}{a m b N:Nat}(h:Cell less π ρ a m)(k:Cell less π ρ m b)(hb:b≤N)(hinc: ∀ i j,i<j→j<N→π i<π j):Parts less ρ a m b :=
  ⟨h.1,k.1,fun i j h1 h2 h3 h4=>by
    obtain⟨x,x1,x2,x3⟩:=h.2 i h1 h2
    obtain⟨y,y1,y2,y3⟩:=k.2 j h3 h4
    rw [x3,y3];exact hinc x y (by omega) (by omega)⟩
theorem Cell.merge {less:Nat→Nat→Bool}{π ρ σ:Nat→Nat}{a m b:Nat}(h:Cell less π ρ a m)(k:Cell less π ρ m b)(ham:a≤m)(hmb:m≤b)(s:Same ρ σ a b)(t:Srt less σ a b):Cell less π σ a b :=
  ⟨t, fun j h1 h2=>by
    obtain⟨x,x1,x2,x3⟩:=s.from h1 h2
    by_cases c:x<m
    · obtain⟨y,y1,y2,y3⟩:=h.2 x x1 c
      exact⟨y,y1,by omega,by rw [x3,y3]⟩
    · obtain⟨y,y1,y2,y3⟩:=k.2 x (by omega) x2
      exact⟨y,by omega,y2,by rw [x3,y3]⟩⟩
section
variable {S:SC}(ok:S.Ok){g:FuncId}{cs:List AVal}{less:Nat→Nat→Bool}(hw:Weak less)(hc:S.Cmp g cs less){π:Nat→Nat}(hπ:InN S.N π)(hinc: ∀ i j,i<j→j<S.N→π i<π j)
include ok hw hc hπ hinc
theorem st0_loop: ∀ (f a:Nat) (ρ:Nat→Nat),S.N-a≤f→a≤S.N→20∣a→Same π ρ 0 a→(∀ lo,20∣lo→lo<a→Cell less π ρ lo (lo+20)) →
    ∃ k σ,k≤S.N∧S.N<k+20∧20∣k∧Same π σ 0 k∧(∀ lo,20∣lo→lo<k→Cell less π σ lo (lo+20))∧ ∀ (B:Nat) (H:AHeap),B≤H.next→S.WS H ρ→ ∃ H',
    Loops Tryz.prog cnd B 63 (loopAt Tryz.prog 122 0) [(0,S.dv),(1,.int .i64 (S.N:Nat)),(2,cvF g cs),(6,.int .i64 (20:Nat)),(7,.int .i64 (a:Nat)),(8,.int .i64 ((a+20:Nat):Int))] H
      (.exit 0) [(0,S.dv),(1,.int .i64 (S.N:Nat)),(2,cvF g cs),(6,.int .i64 (20:Nat)),(7,.int .i64 (k:Nat))] H'∧S.WS H' σ∧Fr H H' [S.Q]:=by
  have hN:=ok.n
  intro f
  induction f with
  | zero =>
    intro a ρ hf ha h20 hs hcl
    refine⟨a,ρ,ha,by omega,h20,hs,hcl,fun B H hB w=> ?_⟩
    obtain⟨e,F1,h1,hr,rfl,rfl,rfl⟩:=t0E_vp H B S.N 20 a (a+20) S.dv (cvF g cs) (fun e F1 h1=>e= .exit 0∧F1= [(0,S.dv),(1,.int .i64 (S.N:Nat)),(2,cvF g cs),(6,.int .i64 (20:Nat)),(7,.int .i64 (a:Nat)),(8,.int .i64 ((a+20:Nat):Int))]∧h1=up H 3) (bifL hB ⟨boolF (by omega),rfl,rfl,rfl⟩)
    exact⟨_,(Loops.last (by simp) hr).post (Ent.facts (fle [0,1,2,6,7] (by kernel_rfl))),w.fr ok (Fr.up H 3 []),Fr.up H 3 _⟩
  | succ f ih =>
    intro a ρ hf ha h20 hs hcl
    by_cases hb:a+20≤S.N
    · have hρ:InN S.N ρ:=hπ.same hs ha
      have hout: ∀ k,a≤k→ρ k=π k:=fun k hk=>hs.out k (.inr hk)
      obtain⟨σ,s1,s2,s3⟩:=ins_does ok hw hc (a:=a) (b:=a+20) ρ hρ (by omega) hb (fun i j h1 h2 h3=>by rw [hout i h1,hout j (by omega)];exact hinc i j h2 (by omega))
      have hs':Same π σ 0 (a+20):=(hs.wide (Nat.le_refl _) (by omega) (by omega)).trans (s1.wide (by omega) (Nat.le_refl _) (by omega))
      have hc': ∀ lo,20∣lo→lo<a+20→Cell less π σ lo (lo+20):=by
        intro lo hd hlt
        by_cases c:lo<a
        · exact(hcl lo hd c).congr fun k h1 h2=>s1.out k (.inl (by omega))
        · obtain rfl:lo=a:=by omega
          refine⟨s2,fun j h1 h2=> ?_⟩
          obtain⟨x,x1,x2,x3⟩:=s1.from h1 h2
          exact⟨x,x1,x2,by rw [x3,hout x x1]⟩
      obtain⟨k,τ,k1,k2,k3,k4,k5,k6⟩:=ih (a+20) σ (by omega) hb (by omega) hs' hc'
      refine⟨k,τ,k1,k2,k3,k4,k5,fun B H hB w=> ?_⟩
      obtain⟨H1,D,w1,f1⟩:=s3 (up H 8) (w.fr ok (Fr.up H 8 []))
      have n1:H.next+8≤H1.next:=f1.next
      obtain⟨H',L,w',f'⟩:=k6 B (up H1 6) (by show B≤H1.next+6;omega) (w1.fr ok (Fr.up H1 6 []))
      obtain⟨e,F1,h1,hr,rfl,rfl,rfl⟩:=t0S_vp H H1 B S.N 20 a (a+20) S.dv (cvF g cs) (fun e F1 h1=>e= .normal∧F1= [(0,S.dv),(1,.int .i64 (S.N:Nat)),(2,cvF g cs),(6,.int .i64 (20:Nat)),(7,.int .i64 ((a+20:Nat):Int)),(8,.int .i64 ((a+20+20:Nat):Int))]∧h1=up H1 6)
        (bifL hB ⟨boolT (by omega),bifL (by omega) ⟨⟨D⟩,bifL (by omega) (bifL (by omega) ⟨⟨by omega,by omega⟩,rfl,by rw [show((a+20:Nat):Int)+((20:Nat):Int)=((a+20+20:Nat):Int)by omega],rfl⟩)⟩⟩)
      exact⟨H',Loops.round hr (Ent.refl _ _ _ _) L,w',(((Fr.up H 8 [S.Q]).trans f1 (fun x hx _=>hx)).trans (Fr.up H1 6 []) (by simp)).trans f' (fun x hx _=>hx)⟩
    · refine⟨a,ρ,ha,by omega,h20,hs,hcl,fun B H hB w=> ?_⟩
      obtain⟨e,F1,h1,hr,rfl,rfl,rfl⟩:=t0E_vp H B S.N 20 a (a+20) S.dv (cvF g cs) (fun e F1 h1=>e= .exit 0∧F1= [(0,S.dv),(1,.int .i64 (S.N:Nat)),(2,cvF g cs),(6,.int .i64 (20:Nat)),(7,.int .i64 (a:Nat)),(8,.int .i64 ((a+20:Nat):Int))]∧h1=up H 3) (bifL hB ⟨boolF (by omega),rfl,rfl,rfl⟩)
      exact⟨_,(Loops.last (by simp) hr).post (Ent.facts (fle [0,1,2,6,7] (by kernel_rfl))),w.fr ok (Fr.up H 3 []),Fr.up H 3 _⟩
theorem st2_loop {s:Nat} (hs0:0<s) (hsN:s<S.N): ∀ (f a:Nat) (ρ:Nat→Nat),S.N-a≤f→a≤S.N→2*s∣a→Same π ρ 0 S.N→(∀ lo,2*s∣lo→lo<a→Cell less π ρ lo (lo+2*s))→(∀ lo,s∣lo→a≤lo→lo<S.N→Cell less π ρ lo (min (lo+s) S.N)) →
    ∃ k σ,k≤S.N∧S.N<k+2*s∧2*s∣k∧Same π σ 0 S.N∧(∀ lo,2*s∣lo→lo<k→Cell less π σ lo (lo+2*s))∧(∀ lo,s∣lo→k≤lo→lo<S.N→Cell less π σ lo (min (lo+s) S.N))∧ ∀ (B:Nat) (H:AHeap),B≤H.next→S.WS H ρ→ ∃ H',
    Loops Tryz.prog cnd B 63 (loopAt Tryz.prog 122 2) [(0,S.dv),(1,.int .i64 (S.N:Nat)),(2,cvF g cs),(6,.int .i64 (s:Nat)),(7,.int .i64 (a:Nat)),(8,.int .i64 ((a+2*s:Nat):Int))] H
      (.exit 4) [(0,S.dv),(1,.int .i64 (S.N:Nat)),(2,cvF g cs),(6,.int .i64 (s:Nat)),(7,.int .i64 (k:Nat))] H'∧S.WS H' σ∧Fr H H' [S.Q]:=by
  have hN:=ok.n
  intro f
  have stop: ∀ (a:Nat) (ρ:Nat→Nat) (B:Nat) (H:AHeap),B≤H.next→S.WS H ρ→ ¬ a+2*s≤S.N→ ∃ H',Loops Tryz.prog cnd B 63 (loopAt Tryz.prog 122 2) [(0,S.dv),(1,.int .i64 (S.N:Nat)),(2,cvF g cs),(6,.int .i64 (s:Nat)),(7,.int .i64 (a:Nat)),(8,.int .i64 ((a+2*s:Nat):Int))] H
      (.exit 4) [(0,S.dv),(1,.int .i64 (S.N:Nat)),(2,cvF g cs),(6,.int .i64 (s:Nat)),(7,.int .i64 (a:Nat))] H'∧S.WS H' ρ∧Fr H H' [S.Q]:=by
    intro a ρ B H hB w hn
    obtain⟨e,F1,h1,hr,rfl,rfl,rfl⟩:=t2E_vp H B S.N s a (a+2*s) S.dv (cvF g cs) (fun e F1 h1=>e= .exit 4∧F1= [(0,S.dv),(1,.int .i64 (S.N:Nat)),(2,cvF g cs),(6,.int .i64 (s:Nat)),(7,.int .i64 (a:Nat)),(8,.int .i64 ((a+2*s:Nat):Int))]∧h1=up H 3) (bifL hB ⟨boolF (by omega),rfl,rfl,rfl⟩)
    exact⟨_,(Loops.last (by simp) hr).post (Ent.facts (fle [0,1,2,6,7] (by kernel_rfl))),w.fr ok (Fr.up H 3 []),Fr.up H 3 _⟩
  induction f with
  | zero =>
    intro a ρ hf ha hd hs hcl hr
    exact⟨a,ρ,ha,by omega,hd,hs,hcl,hr,fun B H hB w=>stop a ρ B H hB w (by omega)⟩
  | succ f ih =>
    intro a ρ hf ha hd hs hcl hr
    by_cases hb:a+2*s≤S.N
    · have hρ:InN S.N ρ:=hπ.same hs (Nat.le_refl _)
      have hsa:s∣a:=Nat.dvd_trans ⟨2,by omega⟩ hd
      have q1:=hr a hsa (Nat.le_refl _) (by omega)
      have q2:=hr (a+s) (Nat.dvd_add hsa (Nat.dvd_refl s)) (by omega) (by omega)
      rw [show min (a+s) S.N=a+s by omega]at q1
      rw [show min (a+s+s) S.N=a+2*s by omega]at q2
      obtain⟨σ,s1,s2,s3⟩:=sm_does ok hw hc (a+2*s-a) a (a+s) (a+2*s) ρ (Nat.le_refl _) hρ (by omega) (by omega) hb (q1.parts q2 hb hinc)
      have hcell:=q1.merge q2 (by omega) (by omega) s1 s2
      have hs':Same π σ 0 S.N:=hs.trans (s1.wide (by omega) hb (by omega))
      have hc': ∀ lo,2*s∣lo→lo<a+2*s→Cell less π σ lo (lo+2*s):=by
        intro lo hdl hlt
        by_cases c:lo<a
        · have:2*s≤a-lo:=Nat.le_of_dvd (by omega) (Nat.dvd_sub hd hdl)
          exact(hcl lo hdl c).congr fun k h1 h2=>s1.out k (.inl (by omega))
        · by_cases c2:lo=a
          · subst c2;exact hcell
          · have:2*s≤lo-a:=Nat.le_of_dvd (by omega) (Nat.dvd_sub hdl hd)
            omega
      have hr': ∀ lo,s∣lo→a+2*s≤lo→lo<S.N→Cell less π σ lo (min (lo+s) S.N):=fun lo h1 h2 h3=>(hr lo h1 (by omega) h3).congr fun k h4 h5=>s1.out k (.inr (by omega))
      obtain⟨k,τ,k1,k2,k3,k4,k5,k6,k7⟩:=ih (a+2*s) σ (by omega) hb (Nat.dvd_add hd (Nat.dvd_refl _)) hs' hc' hr'
      refine⟨k,τ,k1,k2,k3,k4,k5,k6,fun B H hB w=> ?_⟩
      obtain⟨H1,D,w1,f1⟩:=s3 (up H 11) (w.fr ok (Fr.up H 11 []))
      have n1:H.next+11≤H1.next:=f1.next
      obtain⟨H',L,w',f'⟩:=k7 B (up H1 7) (by show B≤H1.next+7;omega) (w1.fr ok (Fr.up H1 7 []))
      obtain⟨e,F1,h1,hr,rfl,rfl,rfl⟩:=t2S_vp H H1 B S.N s a (a+2*s) S.dv (cvF g cs) (fun e F1 h1=>e= .normal∧F1= [(0,S.dv),(1,.int .i64 (S.N:Nat)),(2,cvF g cs),(6,.int .i64 (s:Nat)),(7,.int .i64 ((a+2*s:Nat):Int)),(8,.int .i64 ((a+2*s+2*s:Nat):Int))]∧h1=up H1 7)
        (bifL hB ⟨boolT (by omega),bifL (by omega) ⟨⟨by omega,by omega⟩,⟨by rw [show(a:Int)+(s:Int)=((a+s:Nat):Int)by omega];exact D⟩,bifL (by omega) (bifL (by omega) ⟨⟨by omega,by omega⟩,⟨by omega,by omega⟩,rfl,by rw [show((a+2*s:Nat):Int)+2* (s:Int)=((a+2*s+2*s:Nat):Int)by omega],rfl⟩)⟩⟩)
      exact⟨H',Loops.round hr (Ent.refl _ _ _ _) L,w',(((Fr.up H 11 [S.Q]).trans f1 (fun x hx _=>hx)).trans (Fr.up H1 7 []) (by simp)).trans f' (fun x hx _=>hx)⟩
    · exact⟨a,ρ,ha,by omega,hd,hs,hcl,hr,fun B H hB w=>stop a ρ B H hB w (by omega)⟩
theorem st1_loop: ∀ (f s:Nat) (ρ:Nat→Nat),S.N-s≤f→0<s→s<2^46→Same π ρ 0 S.N→(∀ lo,s∣lo→lo<S.N→Cell less π ρ lo (min (lo+s) S.N)) →
    ∃ σ,Same π σ 0 S.N∧Srt less σ 0 S.N∧ ∀ (B:Nat) (H:AHeap),B≤H.next→S.WS H ρ→ ∃ H',
    Loops Tryz.prog cnd B 63 (loopAt Tryz.prog 122 1) [(0,S.dv),(1,.int .i64 (S.N:Nat)),(2,cvF g cs),(6,.int .i64 (s:Nat))] H (.exit 2) [] H'∧S.WS H' σ∧Fr H H' [S.Q]:=by
  have hN:=ok.n
  intro f
  induction f with
  | zero =>
    intro s ρ hf hs0 hsb hs hcl
    refine⟨ρ,hs,?_,fun B H hB w=> ?_⟩
    · by_cases h0:S.N=0
      · intro i j h1 h2 h3;omega
      · have:=(hcl 0 ⟨0,rfl⟩ (by omega)).1
        rwa [show min (0+s) S.N=S.N by omega]at this
    · obtain⟨e,F1,h1,hr,rfl,rfl,rfl⟩:=t1E_vp H B S.N s S.dv (cvF g cs) (fun e F1 h1=>e= .exit 2∧F1= [(0,S.dv),(1,.int .i64 (S.N:Nat)),(2,cvF g cs),(6,.int .i64 (s:Nat))]∧h1=up H 3) (bifL hB ⟨boolF (by omega),rfl,rfl,rfl⟩)
      exact⟨_,(Loops.last (by simp) hr).post (Ent.facts (fle [] (by kernel_rfl))),w.fr ok (Fr.up H 3 []),Fr.up H 3 _⟩
  | succ f ih =>
    intro s ρ hf hs0 hsb hs hcl
    by_cases hsN:s<S.N
    · obtain⟨k,σ,k1,k2,k3,k4,k5,k6,k7⟩:=st2_loop ok hw hc hπ hinc hs0 hsN S.N 0 ρ (by omega) (by omega) ⟨0,rfl⟩ hs (fun lo _ h=>by omega) (fun lo h1 _ h2=>hcl lo h1 h2)
      have hsk:s∣k:=Nat.dvd_trans ⟨2,by omega⟩ k3
      have fin: ∀ τ:Nat→Nat,(∀ j,j<k→τ j=σ j)→(k<S.N→Cell less π τ k S.N)→ ∀ lo,s*2∣lo→lo<S.N→Cell less π τ lo (min (lo+s*2) S.N):=by
        intro τ e1 e2 lo hd hlt
        rw [Nat.mul_comm]at hd
        by_cases c:lo<k
        · have:2*s≤k-lo:=Nat.le_of_dvd (by omega) (Nat.dvd_sub k3 hd)
          rw [show min (lo+s*2) S.N=lo+2*s by omega]
          exact(k5 lo hd c).congr fun j h1 h2=>e1 j (by omega)
        · by_cases c2:lo=k
          · subst c2
            rw [show min (lo+s*2) S.N=S.N by omega]
            exact e2 hlt
          · have:2*s≤lo-k:=Nat.le_of_dvd (by omega) (Nat.dvd_sub hd k3)
            omega
      by_cases hk:k+s<S.N
      · have hσ:InN S.N σ:=hπ.same k4 (Nat.le_refl _)
        have q1:=k6 k hsk (Nat.le_refl _) (by omega)
        have q2:=k6 (k+s) (Nat.dvd_add hsk (Nat.dvd_refl s)) (by omega) (by omega)
        rw [show min (k+s) S.N=k+s by omega]at q1
        rw [show min (k+s+s) S.N=S.N by omega]at q2
        obtain⟨τ,t1,t2,t3⟩:=sm_does ok hw hc (S.N-k) k (k+s) S.N σ (Nat.le_refl _) hσ (by omega) (by omega) (Nat.le_refl _) (q1.parts q2 (Nat.le_refl _) hinc)
        obtain⟨υ,u1,u2,u3⟩:=ih (s*2) τ (by omega) (by omega) (by omega) (k4.trans (t1.wide (by omega) (Nat.le_refl _) (by omega))) (fin τ (fun j hj=>t1.out j (.inl hj)) fun _=>q1.merge q2 (by omega) (by omega) t1 t2)
        refine⟨υ,u1,u2,fun B H hB w=> ?_⟩
        obtain⟨H1,L1,w1,f1⟩:=k7 B (up H 7) (by show B≤H.next+7;omega) (w.fr ok (Fr.up H 7 []))
        have n1:H.next+7≤H1.next:=f1.next
        rw [show((0+2*s:Nat):Int)=2* (s:Int)by omega]at L1
        obtain⟨H2,D,w2,f2⟩:=t3 (up H1 13) (w1.fr ok (Fr.up H1 13 []))
        have n2:H1.next+13≤H2.next:=f2.next
        obtain⟨H',L,w',f'⟩:=u3 B (up H2 3) (by show B≤H2.next+3;omega) (w2.fr ok (Fr.up H2 3 []))
        obtain⟨e,F1,h1,hr,rfl,rfl,rfl⟩:=t1S_vp H H1 H2 B S.N s k S.dv (cvF g cs) (fun e F1 h1=>e= .normal∧F1= [(0,S.dv),(1,.int .i64 (S.N:Nat)),(2,cvF g cs),(6,.int .i64 ((s*2:Nat):Int))]∧h1=up H2 3)
          (bifL hB ⟨boolT (by omega),bifL (by omega) ⟨⟨by omega,by omega⟩,Runs.of_loops L1,bifL (by omega) ⟨⟨by omega,by omega⟩,bifL (by omega) ⟨boolT (by omega),bifL (by omega) ⟨⟨by rw [show(k:Int)+(s:Int)=((k+s:Nat):Int)by omega];exact D⟩,bifL (by omega) ⟨⟨by omega,by omega⟩,rfl,by rw [show(s:Int)*2=((s*2:Nat):Int)by omega],rfl⟩⟩⟩⟩⟩⟩)
        exact⟨H',Loops.round hr (Ent.refl _ _ _ _) L,w',(((((Fr.up H 7 [S.Q]).trans f1 (fun x hx _=>hx)).trans (Fr.up H1 13 []) (by simp)).trans f2 (fun x hx _=>hx)).trans (Fr.up H2 3 []) (by simp)).trans f' (fun x hx _=>hx)⟩
      · obtain⟨υ,u1,u2,u3⟩:=ih (s*2) σ (by omega) (by omega) (by omega) k4 (fin σ (fun j hj=>rfl) fun h=>by
          have q1:=k6 k hsk (Nat.le_refl _) h
          rwa [show min (k+s) S.N=S.N by omega]at q1)
        refine⟨υ,u1,u2,fun B H hB w=> ?_⟩
        obtain⟨H1,L1,w1,f1⟩:=k7 B (up H 7) (by show B≤H.next+7;omega) (w.fr ok (Fr.up H 7 []))
        have n1:H.next+7≤H1.next:=f1.next
        rw [show((0+2*s:Nat):Int)=2* (s:Int)by omega]at L1
        obtain⟨H',L,w',f'⟩:=u3 B (up H1 10) (by show B≤H1.next+10;omega) (w1.fr ok (Fr.up H1 10 []))
        obtain⟨e,F1,h1,hr,rfl,rfl,rfl⟩:=t1N_vp H H1 B S.N s k S.dv (cvF g cs) (fun e F1 h1=>e= .normal∧F1= [(0,S.dv),(1,.int .i64 (S.N:Nat)),(2,cvF g cs),(6,.int .i64 ((s*2:Nat):Int))]∧h1=up H1 10)
          (bifL hB ⟨boolT (by omega),bifL (by omega) ⟨⟨by omega,by omega⟩,Runs.of_loops L1,bifL (by omega) ⟨⟨by omega,by omega⟩,bifL (by omega) ⟨boolF (by omega),bifL (by omega) ⟨⟨by omega,by omega⟩,rfl,by rw [show(s:Int)*2=((s*2:Nat):Int)by omega],rfl⟩⟩⟩⟩⟩)
        exact⟨H',Loops.round hr (Ent.refl _ _ _ _) L,w',(((Fr.up H 7 [S.Q]).trans f1 (fun x hx _=>hx)).trans (Fr.up H1 10 []) (by simp)).trans f' (fun x hx _=>hx)⟩
    · refine⟨ρ,hs,?_,fun B H hB w=> ?_⟩
      · by_cases h0:S.N=0
        · intro i j h1 h2 h3;omega
        · have:=(hcl 0 ⟨0,rfl⟩ (by omega)).1
          rwa [show min (0+s) S.N=S.N by omega]at this
      · obtain⟨e,F1,h1,hr,rfl,rfl,rfl⟩:=t1E_vp H B S.N s S.dv (cvF g cs) (fun e F1 h1=>e= .exit 2∧F1= [(0,S.dv),(1,.int .i64 (S.N:Nat)),(2,cvF g cs),(6,.int .i64 (s:Nat))]∧h1=up H 3) (bifL hB ⟨boolF (by omega),rfl,rfl,rfl⟩)
        exact⟨_,(Loops.last (by simp) hr).post (Ent.facts (fle [] (by kernel_rfl))),w.fr ok (Fr.up H 3 []),Fr.up H 3 _⟩
theorem sort_does: ∃ σ,Same π σ 0 S.N∧Srt less σ 0 S.N∧S.Do 72 [S.dv,cvF g cs] π σ:=by
  have hN:=ok.n
  obtain⟨k,ρ,k1,k2,k3,k4,k5,k6⟩:=st0_loop ok hw hc hπ hinc S.N 0 π (by omega) (by omega) ⟨0,rfl⟩ (Same.refl _ _ _) (fun lo _ h=>by omega)
  have hρ:InN S.N ρ:=hπ.same k4 k1
  have hout: ∀ j,k≤j→ρ j=π j:=fun j hj=>k4.out j (.inr hj)
  obtain⟨σ,s1,s2,s3⟩:=ins_does ok hw hc (a:=k) (b:=S.N) ρ hρ k1 (Nat.le_refl _) (fun i j h1 h2 h3=>by rw [hout i h1,hout j (by omega)];exact hinc i j h2 h3)
  have hs':Same π σ 0 S.N:=(k4.wide (Nat.le_refl _) k1 (by omega)).trans (s1.wide (by omega) (Nat.le_refl _) (by omega))
  have hc': ∀ lo,20∣lo→lo<S.N→Cell less π σ lo (min (lo+20) S.N):=by
    intro lo hd hlt
    by_cases c:lo<k
    · rw [show min (lo+20) S.N=lo+20 by omega]
      exact(k5 lo hd c).congr fun j h1 h2=>s1.out j (.inl (by omega))
    · obtain rfl:lo=k:=by omega
      rw [show min (lo+20) S.N=S.N by omega]
      refine⟨s2,fun j h1 h2=> ?_⟩
      obtain⟨x,x1,x2,x3⟩:=s1.from h1 h2
      exact⟨x,x1,x2,by rw [x3,hout x x1]⟩
  obtain⟨τ,t1,t2,t3⟩:=st1_loop ok hw hc hπ hinc S.N 20 σ (by omega) (by omega) (by omega) hs' hc'
  refine⟨τ,t1,t2,fun H w=> ?_⟩
  obtain⟨H1,L1,w1,f1⟩:=k6 (H.next+5) (up H 9) (by show H.next+5≤H.next+9;omega) (w.fr ok (Fr.up H 9 []))
  have n1:H.next+9≤H1.next:=f1.next
  obtain⟨H2,D,w2,f2⟩:=s3 (up H1 5) (w1.fr ok (Fr.up H1 5 []))
  have n2:H1.next+5≤H2.next:=f2.next
  obtain⟨H3,L3,w3,f3⟩:=t3 (H.next+5) H2 (by omega) w2
  have n3:H2.next≤H3.next:=f3.next
  obtain⟨v,h1,hd,rfl,e1⟩:=st_vc (up H 5) H1 H2 H3 S.N k S.dv (cvF g cs) (fun v h1=>v= .tuple []∧h1=H3) (bifL (Nat.le_refl _) (bifL (by show H.next+5≤H.next+5+1;omega) ⟨Runs.of_loops L1,bifL (by show H.next+5≤H1.next;omega) ⟨⟨D⟩,Runs.of_loops L3,condL (by show H.next+5≤H3.next;omega) ⟨rfl,rfl⟩⟩⟩))
  rw [e1]at hd
  obtain⟨v,h1,hd2,rfl,rfl⟩:=ss_vc H H3 S.N S.cap (some ⟨S.Q,S.V,S.O,0,1⟩) (cvF g cs) (fun v h1=>v= .tuple []∧h1=H3) (bifL (Nat.le_refl _) ⟨⟨hd⟩,condL (by omega) ⟨rfl,rfl⟩⟩)
  exact⟨_,hd2,w3,((((Fr.up H 9 [S.Q]).trans f1 (fun x hx _=>hx)).trans (Fr.up H1 5 []) (by simp)).trans f2 (fun x hx _=>hx)).trans f3 (fun x hx _=>hx)⟩
end
end Go.Proofs.YtjpfnbihopoeeaaGreatDoor
namespace Go.Proofs.YtjpfnbihopoeeaaGreatDoor
open Go.Lift
set_option maxRecDepth 1000000
theorem clN_vc(H:AHeap)(c:Nat)(K0:AVal→AHeap→Prop)(vc:bif Nat.ble (AHeap.next H) (AHeap.next H) && true then bif Nat.ble (AHeap.next H) (AHeap.next H+1) && true then bif Nat.ble (AHeap.next H) (AHeap.next H+3) && true then bif Nat.ble (AHeap.next H) (AHeap.next H+4)then K0 (AVal.slice none 0 0) (AHeap.mk (AHeap.next H+3+1) (AHeap.blks (AHeap.mk (AHeap.next H+1+2) (AHeap.blks (AHeap.mk (AHeap.next H+1) (AHeap.blks H))))))else False else False else False else False) :
    ∃ v h1,FDoes Tryz.prog cnd 71 [.slice none 0 c] H v h1∧K0 v h1 :=
  tcall_does env_ok mixed noSpecs_ok (hs:= .nil) (by kernel_rfl) vc
theorem clS_vc(H H1 H2:AHeap)(a:AAddr)(n c q:Nat)(v2:AVal)(K0:AVal→AHeap→Prop)(vc:bif Nat.ble (AHeap.next H) (AHeap.next H) && true then bif Nat.ble (AHeap.next H) (AHeap.next H+1) && true then bif Nat.ble (AHeap.next H) (AHeap.next H+3) && true then aop env noCall (AHeap.next H+3) (getF [(4,AVal.bool false),(3,AVal.slice (some a) n c),(2,AVal.slice none 0 0),(0,AVal.slice (some a) n c)]) (AHeap.mk (AHeap.next H+7) (H.2)) (Op.buildSlice 36 0 {toList:= []})=some (AVal.slice (some ⟨q,0,0,0,1⟩) 0 0,H1)∧abuiltin env Builtin.append {toList:= [36,36]} [AVal.slice (some ⟨q,0,0,0,1⟩) 0 0,AVal.slice (some a) n c] (AHeap.next H+5) H1=some (v2,H2)∧bif Nat.ble (AHeap.next H) (AHeap.next H2)then K0 v2 H2 else False else False else False else False) :
    ∃ v h1,FDoes Tryz.prog cnd 71 [.slice (some a) n c] H v h1∧K0 v h1 :=
  tcall_does env_ok mixed noSpecs_ok (hs:= .hint (.act 3000 (AVal.slice (some ⟨q,0,0,0,1⟩) 0 0) fun x=>H1) (.hint (.act 3002 v2 fun x=>H2) .nil)) (by kernel_rfl) vc
theorem byM_vc(H H1 H2:AHeap)(k:Int)(d:Bool)(p q:Nat)(K0:AVal→AHeap→Prop)(vc:bif Nat.ble (AHeap.next H) (AHeap.next H) && true then aop env noCall (AHeap.next H+0) (getF [(0,AVal.int IntKind.i64 k),(1,AVal.bool d)]) (AHeap.mk (AHeap.next H+3) (H.2)) (Op.box 3 (Operand.tmp 0))=some (AVal.ptr (some ⟨q,0,0,0,1⟩),H1)∧aop env noCall (AHeap.next H+1) (getF [(2,AVal.ptr (some ⟨q,0,0,0,1⟩)),(0,AVal.int IntKind.i64 k),(1,AVal.bool d)]) H1 (Op.box 4 (Operand.tmp 1))=some (AVal.ptr (some ⟨p,0,0,0,1⟩),H2)∧bif Nat.ble (AHeap.next H) (AHeap.next H2) && true then bif Nat.ble (AHeap.next H) (AHeap.next H2+2)then K0 (AVal.func (Fn.func 64) [] [AVal.ptr (some ⟨p,0,0,0,1⟩),AVal.ptr (some ⟨q,0,0,0,1⟩)]) (AHeap.mk (AHeap.next H2+2) (AHeap.blks H2))else False else False else False) :
    ∃ v h1,FDoes Tryz.prog cnd 32 [.int .i64 k,.bool d] H v h1∧K0 v h1 :=
  tcall_does env_ok mixed noSpecs_ok (hs:= .hint (.act 0 (AVal.ptr (some ⟨q,0,0,0,1⟩)) fun x=>H1) (.hint (.act 1 (AVal.ptr (some ⟨p,0,0,0,1⟩)) fun x=>H2) .nil)) (by kernel_rfl) vc
theorem s1S_vpK(H H1:AHeap)(B i n:Nat)(va vb fs:AVal)(a:AAddr)(p q:Nat)(r:Int)(K0:AExit→Facts→AHeap→Prop)(vc:bif Nat.ble B (AHeap.next H) && true then some (AVal.bool (decide ((↑i:Int)<(↑n:Int))))=some (AVal.bool true)∧bif Nat.ble B (AHeap.next H+1) && true then aindexAddr (AEnv.D env) 46 fs (AVal.int IntKind.i64 (↑i:Int))=some (AVal.ptr (some a))∧aload (AEnv.D env) 41 a (AHeap.mk (AHeap.next H+4) (H.2))=some (AVal.func (Fn.func 64) [] [AVal.ptr (some ⟨p,0,0,0,1⟩),AVal.ptr (some ⟨q,0,0,0,1⟩)])∧bif Nat.ble B (AHeap.next H+4) && true then some (AVal.bool false)=some (AVal.bool false)∧bif Nat.ble B (AHeap.next H+6) && true then CallT Tryz.prog cnd 64 [va,vb,AVal.ptr (some ⟨p,0,0,0,1⟩),AVal.ptr (some ⟨q,0,0,0,1⟩)] (AHeap.mk (AHeap.next H+11) (H.2)) (AVal.int IntKind.i64 r) H1∧bif Nat.ble B (AHeap.next H1) && true then some (AVal.bool (r != 0))=some (AVal.bool false)∧bif Nat.ble B (AHeap.next H1+2) && true then(-9223372036854775808≤(↑i:Int)+1∧(↑i:Int)+1≤9223372036854775807)∧K0 AExit.normal [(0,va),(1,vb),(9,fs),(10,AVal.int IntKind.i64 (↑n:Int)),(11,AVal.int IntKind.i64 ((↑i:Int)+1))] (AHeap.mk (AHeap.next H1+2+2) (AHeap.blks (AHeap.mk (AHeap.next H1+2) (AHeap.blks H1))))else False else False else False else False else False else False) :
    ∃ e F1 h1,Runs Tryz.prog cnd B 25 (loopAt Tryz.prog 73 0) [(0,va),(1,vb),(9,fs),(10,.int .i64 n),(11,.int .i64 i)] H e F1 h1∧K0 e F1 h1 :=
  tpath_runs env_ok mixed noSpecs_ok (hs:= .hint (.val 2000 (AVal.bool true)) (.hint (.val 3000 (AVal.ptr (some a))) (.hint (.val 3001 (AVal.func (Fn.func 64) [] [AVal.ptr (some ⟨p,0,0,0,1⟩),AVal.ptr (some ⟨q,0,0,0,1⟩)])) (.hint (.val 4001 (AVal.bool false)) (.hint (.act 5003 (AVal.int IntKind.i64 r) fun x=>H1) (.hint (.val 6001 (AVal.bool false)) (.hint (.go 8000) .nil))))))) (keep:= [0,1,9,10,11]) (by kernel_rfl) vc
theorem s1R_vpK(H H1:AHeap)(B i n:Nat)(va vb fs:AVal)(a:AAddr)(p q:Nat)(r:Int)(K0:AExit→Facts→AHeap→Prop)(vc:bif Nat.ble B (AHeap.next H) && true then some (AVal.bool (decide ((↑i:Int)<(↑n:Int))))=some (AVal.bool true)∧bif Nat.ble B (AHeap.next H+1) && true then aindexAddr (AEnv.D env) 46 fs (AVal.int IntKind.i64 (↑i:Int))=some (AVal.ptr (some a))∧aload (AEnv.D env) 41 a (AHeap.mk (AHeap.next H+4) (H.2))=some (AVal.func (Fn.func 64) [] [AVal.ptr (some ⟨p,0,0,0,1⟩),AVal.ptr (some ⟨q,0,0,0,1⟩)])∧bif Nat.ble B (AHeap.next H+4) && true then some (AVal.bool false)=some (AVal.bool false)∧bif Nat.ble B (AHeap.next H+6) && true then CallT Tryz.prog cnd 64 [va,vb,AVal.ptr (some ⟨p,0,0,0,1⟩),AVal.ptr (some ⟨q,0,0,0,1⟩)] (AHeap.mk (AHeap.next H+11) (H.2)) (AVal.int IntKind.i64 r) H1∧bif Nat.ble B (AHeap.next H1) && true then some (AVal.bool (r != 0))=some (AVal.bool true)∧bif Nat.ble B (AHeap.next H1+2) && true then K0 AExit.ret [(5,AVal.int IntKind.i64 r)] (AHeap.mk (AHeap.next H1+2+2) (AHeap.blks (AHeap.mk (AHeap.next H1+2) (AHeap.blks H1))))else False else False else False else False else False else False) :
    ∃ e F1 h1,Runs Tryz.prog cnd B 25 (loopAt Tryz.prog 73 0) [(0,va),(1,vb),(9,fs),(10,.int .i64 n),(11,.int .i64 i)] H e F1 h1∧K0 e F1 h1 :=
  tpath_runs env_ok mixed noSpecs_ok (hs:= .hint (.val 2000 (AVal.bool true)) (.hint (.val 3000 (AVal.ptr (some a))) (.hint (.val 3001 (AVal.func (Fn.func 64) [] [AVal.ptr (some ⟨p,0,0,0,1⟩),AVal.ptr (some ⟨q,0,0,0,1⟩)])) (.hint (.val 4001 (AVal.bool false)) (.hint (.act 5003 (AVal.int IntKind.i64 r) fun x=>H1) (.hint (.val 6001 (AVal.bool true)) .nil)))))) (keep:= [5]) (by kernel_rfl) vc
theorem s1N_vpK(H:AHeap)(B i n:Nat)(va vb fs:AVal)(a:AAddr)(K0:AExit→Facts→AHeap→Prop)(vc:bif Nat.ble B (AHeap.next H) && true then some (AVal.bool (decide ((↑i:Int)<(↑n:Int))))=some (AVal.bool true)∧bif Nat.ble B (AHeap.next H+1) && true then aindexAddr (AEnv.D env) 46 fs (AVal.int IntKind.i64 (↑i:Int))=some (AVal.ptr (some a))∧aload (AEnv.D env) 41 a (AHeap.mk (AHeap.next H+4) (H.2))=some AVal.nilFunc∧bif Nat.ble B (AHeap.next H+4) && true then bif Nat.ble B (AHeap.next H+6) && true then(-9223372036854775808≤(↑i:Int)+1∧(↑i:Int)+1≤9223372036854775807)∧K0 AExit.normal [(0,va),(1,vb),(9,fs),(10,AVal.int IntKind.i64 (↑n:Int)),(11,AVal.int IntKind.i64 ((↑i:Int)+1))] (AHeap.mk (AHeap.next H+6+2) (AHeap.blks (AHeap.mk (AHeap.next H+4+2) (AHeap.blks (AHeap.mk (AHeap.next H+1+3) (AHeap.blks (AHeap.mk (AHeap.next H+1) (AHeap.blks H))))))))else False else False else False else False) :
    ∃ e F1 h1,Runs Tryz.prog cnd B 25 (loopAt Tryz.prog 73 0) [(0,va),(1,vb),(9,fs),(10,.int .i64 n),(11,.int .i64 i)] H e F1 h1∧K0 e F1 h1 :=
  tpath_runs env_ok mixed noSpecs_ok (hs:= .hint (.val 2000 (AVal.bool true)) (.hint (.val 3000 (AVal.ptr (some a))) (.hint (.val 3001 AVal.nilFunc) (.hint (.go 8000) .nil)))) (keep:= [0,1,9,10,11]) (by kernel_rfl) vc
theorem s1E_vpK(H:AHeap)(B i n:Nat)(va vb fs:AVal)(K0:AExit→Facts→AHeap→Prop)(vc:bif Nat.ble B (AHeap.next H) && true then some (AVal.bool (decide ((↑i:Int)<(↑n:Int))))=some (AVal.bool false)∧K0 (AExit.exit 0) [(0,va),(1,vb),(9,fs),(10,AVal.int IntKind.i64 (↑n:Int)),(11,AVal.int IntKind.i64 (↑i:Int))] (AHeap.mk (AHeap.next H+1) (AHeap.blks H))else False) :
    ∃ e F1 h1,Runs Tryz.prog cnd B 25 (loopAt Tryz.prog 73 0) [(0,va),(1,vb),(9,fs),(10,.int .i64 n),(11,.int .i64 i)] H e F1 h1∧K0 e F1 h1 :=
  tpath_runs env_ok mixed noSpecs_ok (hs:= .hint (.val 2000 (AVal.bool false)) .nil) (keep:= [0,1,9,10,11]) (by kernel_rfl) vc
theorem s1Z_vc(H H1:AHeap)(z n fc:Nat)(fo:Option AAddr)(va vb:AVal)(K0:AVal→AHeap→Prop)(vc:bif Nat.ble (AHeap.next H) (AHeap.next H) && true then bif Nat.ble (AHeap.next H) (AHeap.next H+1) && true then aload (AEnv.D env) 46 ⟨z,0,0,0,1⟩ (AHeap.mk (AHeap.next H+4) (H.2))=some (AVal.slice fo n fc)∧Runs Tryz.prog cnd (AHeap.next H) 25 (Code.loop (loopAt Tryz.prog 73 0)) [(0,va),(1,vb),(9,AVal.slice fo n fc),(10,AVal.int IntKind.i64 (↑n:Int)),(11,AVal.int IntKind.i64 (0))] (AHeap.mk (AHeap.next H+1+3) (AHeap.blks (AHeap.mk (AHeap.next H+1) (AHeap.blks H)))) (AExit.exit 0) [] H1∧bif Nat.ble (AHeap.next H) (AHeap.next H1) && true then bif Nat.ble (AHeap.next H) (AHeap.next H1+1)then K0 (AVal.int IntKind.i64 (0)) (AHeap.mk (AHeap.next H1+1) (AHeap.blks H1))else False else False else False else False) :
    ∃ v h1,FDoes Tryz.prog cnd 73 [va,vb,.ptr (some ⟨z,0,0,0,1⟩)] H v h1∧K0 v h1 :=
  tcall_does env_ok mixed noSpecs_ok (hs:= .hint (.val 1000 (AVal.slice fo n fc)) (.hint (.keep [0,1,9,10,11]) (.hint (.loop [] H1 (AExit.exit 0)) .nil))) (by kernel_rfl) vc
theorem s1V_vc(H H1:AHeap)(z n fc:Nat)(fo:Option AAddr)(va vb:AVal)(r:Int)(K0:AVal→AHeap→Prop)(vc:bif Nat.ble (AHeap.next H) (AHeap.next H) && true then bif Nat.ble (AHeap.next H) (AHeap.next H+1) && true then aload (AEnv.D env) 46 ⟨z,0,0,0,1⟩ (AHeap.mk (AHeap.next H+4) (H.2))=some (AVal.slice fo n fc)∧Runs Tryz.prog cnd (AHeap.next H) 25 (Code.loop (loopAt Tryz.prog 73 0)) [(0,va),(1,vb),(9,AVal.slice fo n fc),(10,AVal.int IntKind.i64 (↑n:Int)),(11,AVal.int IntKind.i64 (0))] (AHeap.mk (AHeap.next H+1+3) (AHeap.blks (AHeap.mk (AHeap.next H+1) (AHeap.blks H)))) AExit.ret [(5,AVal.int IntKind.i64 r)] H1∧bif Nat.ble (AHeap.next H) (AHeap.next H1)then K0 (AVal.int IntKind.i64 r) H1 else False else False else False) :
    ∃ v h1,FDoes Tryz.prog cnd 73 [va,vb,.ptr (some ⟨z,0,0,0,1⟩)] H v h1∧K0 v h1 :=
  tcall_does env_ok mixed noSpecs_ok (hs:= .hint (.val 1000 (AVal.slice fo n fc)) (.hint (.keep [0,1,9,10,11]) (.hint (.loop [(5,AVal.int IntKind.i64 r)] H1 AExit.ret) .nil))) (by kernel_rfl) vc
theorem so0_vp(H H1 H2 H3:AHeap)(B i N q:Nat)(hv:Bool)(z:Nat)(out rv xv cv out2:AVal)(a:AAddr)(K0:AExit→Facts→AHeap→Prop)(vc:bif Nat.ble B (AHeap.next H) && true then some (AVal.bool (decide ((↑i:Int)<(↑N:Int))))=some (AVal.bool true)∧bif Nat.ble B (AHeap.next H+1) && true then aindexAddr (AEnv.D env) 22 rv (AVal.int IntKind.i64 (↑i:Int))=some (AVal.ptr (some a))∧aload (AEnv.D env) 36 a (AHeap.mk (AHeap.next H+4) (H.2))=some xv∧bif Nat.ble B (AHeap.next H+4) && true then CallT Tryz.prog cnd 71 [xv] (AHeap.mk (AHeap.next H+10) (H.2)) cv H1∧aop env noCall (AHeap.next H+7) (getF [(22,cv),(21,xv),(20,out),(9,xv),(19,xv),(18,AVal.ptr (some a)),(17,AVal.bool true),(1,AVal.bool hv),(5,AVal.ptr (some ⟨z,0,0,0,1⟩)),(7,out),(14,rv),(15,AVal.int IntKind.i64 (↑N:Int)),(16,AVal.int IntKind.i64 (↑i:Int))]) H1 (Op.buildSlice 22 1 {toList:= [(0,Operand.tmp 22)]})=some (AVal.slice (some ⟨q,0,0,0,1⟩) 1 1,H2)∧abuiltin env Builtin.append {toList:= [22,22]} [out,AVal.slice (some ⟨q,0,0,0,1⟩) 1 1] (AHeap.next H+8) H2=some (out2,H3)∧bif Nat.ble B (AHeap.next H3) && true then(-9223372036854775808≤(↑i:Int)+1∧(↑i:Int)+1≤9223372036854775807)∧K0 AExit.normal [(1,AVal.bool hv),(5,AVal.ptr (some ⟨z,0,0,0,1⟩)),(7,out2),(14,rv),(15,AVal.int IntKind.i64 (↑N:Int)),(16,AVal.int IntKind.i64 ((↑i:Int)+1))] (AHeap.mk (AHeap.next H3+2) (AHeap.blks H3))else False else False else False else False) :
    ∃ e F1 h1,Runs Tryz.prog cnd B 39 (loopAt Tryz.prog 35 0) [(1,.bool hv),(5,.ptr (some ⟨z,0,0,0,1⟩)),(7,out),(14,rv),(15,.int .i64 N),(16,.int .i64 i)] H e F1 h1∧K0 e F1 h1 :=
  tpath_runs env_ok mixed noSpecs_ok (hs:= .hint (.val 3000 (AVal.bool true)) (.hint (.val 4000 (AVal.ptr (some a))) (.hint (.val 4001 xv) (.hint (.act 5002 cv fun x=>H1) (.hint (.act 5003 (AVal.slice (some ⟨q,0,0,0,1⟩) 1 1) fun x=>H2) (.hint (.act 5004 out2 fun x=>H3) (.hint (.go 6000) .nil))))))) (keep:= [1,5,7,14,15,16]) (by kernel_rfl) vc
theorem so0E_vp(H:AHeap)(B i N:Nat)(hv:Bool)(z:Nat)(out rv:AVal)(K0:AExit→Facts→AHeap→Prop)(vc:bif Nat.ble B (AHeap.next H) && true then some (AVal.bool (decide ((↑i:Int)<(↑N:Int))))=some (AVal.bool false)∧K0 (AExit.exit 0) [(1,AVal.bool hv),(5,AVal.ptr (some ⟨z,0,0,0,1⟩)),(7,out),(14,rv),(15,AVal.int IntKind.i64 (↑N:Int)),(16,AVal.int IntKind.i64 (↑i:Int))] (AHeap.mk (AHeap.next H+1) (AHeap.blks H))else False) :
    ∃ e F1 h1,Runs Tryz.prog cnd B 39 (loopAt Tryz.prog 35 0) [(1,.bool hv),(5,.ptr (some ⟨z,0,0,0,1⟩)),(7,out),(14,rv),(15,.int .i64 N),(16,.int .i64 i)] H e F1 h1∧K0 e F1 h1 :=
  tpath_runs env_ok mixed noSpecs_ok (hs:= .hint (.val 3000 (AVal.bool false)) .nil) (keep:= [1,5,7,14,15,16]) (by kernel_rfl) vc
theorem soA_vc(H H1 H2 H3 H4:AHeap)(N rc z q:Nat)(ro:Option AAddr)(ov bv:AVal)(K0:AVal→AHeap→Prop)(vc:bif Nat.ble (AHeap.next H) (AHeap.next H) && true then aop env noCall (AHeap.next H+0) (getF [(0,AVal.slice ro N rc),(1,AVal.bool true),(2,ov)]) (AHeap.mk (AHeap.next H+2) (H.2)) (Op.box 46 (Operand.tmp 2))=some (AVal.ptr (some ⟨z,0,0,0,1⟩),H1)∧bif Nat.ble (AHeap.next H) (AHeap.next H1) && true then aop env noCall (AHeap.next H1+2) (getF [(12,AVal.int IntKind.i64 (↑N:Int)),(11,AVal.slice ro N rc),(6,AVal.slice none 0 0),(5,AVal.ptr (some ⟨z,0,0,0,1⟩)),(0,AVal.slice ro N rc),(1,AVal.bool true),(2,ov)]) (AHeap.mk (AHeap.next H1+4) (H1.2)) (Op.makeSlice 22 (Operand.const (Value.int IntKind.i64 (0))) (Operand.tmp 12))=some (AVal.slice (some ⟨q,0,0,0,1⟩) 0 N,H2)∧bif Nat.ble (AHeap.next H) (AHeap.next H2) && true then Runs Tryz.prog cnd (AHeap.next H) 39 (Code.loop (loopAt Tryz.prog 35 0)) [(1,AVal.bool true),(5,AVal.ptr (some ⟨z,0,0,0,1⟩)),(7,AVal.slice (some ⟨q,0,0,0,1⟩) 0 N),(14,AVal.slice ro N rc),(15,AVal.int IntKind.i64 (↑N:Int)),(16,AVal.int IntKind.i64 (0))] (AHeap.mk (AHeap.next H2+3) (AHeap.blks H2)) (AExit.exit 0) [(1,AVal.bool true),(5,AVal.ptr (some ⟨z,0,0,0,1⟩)),(7,AVal.slice (some ⟨q,0,0,0,1⟩) N N)] H3∧bif Nat.ble (AHeap.next H) (AHeap.next H3) && true then bif Nat.ble (AHeap.next H) (AHeap.next H3+2) && true then some (AVal.bool (decide ((↑N:Int)>0)))=some (AVal.bool true)∧bif Nat.ble (AHeap.next H) (AHeap.next H3+8) && true then aslice (AEnv.D env) 22 (AVal.slice (some ⟨q,0,0,0,1⟩) N N) (some (AVal.int IntKind.i64 (1))) none none=some bv∧bif Nat.ble (AHeap.next H) (AHeap.next H3+11) && true then CallT Tryz.prog cnd 72 [bv,AVal.func (Fn.func 73) [] [AVal.ptr (some ⟨z,0,0,0,1⟩)]] (AHeap.mk (AHeap.next H3+14) (H3.2)) (AVal.tuple []) H4∧bif Nat.ble (AHeap.next H) (AHeap.next H4) && true then bif Nat.ble (AHeap.next H) (AHeap.next H4+2)then K0 (AVal.slice (some ⟨q,0,0,0,1⟩) N N) (AHeap.mk (AHeap.next H4+2) (AHeap.blks H4))else False else False else False else False else False else False else False else False else False) :
    ∃ v h1,FDoes Tryz.prog cnd 35 [.slice ro N rc,.bool true,ov] H v h1∧K0 v h1 :=
  tcall_does env_ok mixed noSpecs_ok (hs:= .hint (.act 0 (AVal.ptr (some ⟨z,0,0,0,1⟩)) fun x=>H1) (.hint (.act 1002 (AVal.slice (some ⟨q,0,0,0,1⟩) 0 N) fun x=>H2) (.hint (.keep [1,5,7,14,15,16]) (.hint (.loop [(1,AVal.bool true),(5,AVal.ptr (some ⟨z,0,0,0,1⟩)),(7,AVal.slice (some ⟨q,0,0,0,1⟩) N N)] H3 (AExit.exit 0)) (.hint (.val 8004 (AVal.bool true)) (.hint (.val 9001 bv) (.hint (.act 10002 (AVal.tuple []) fun x=>H4) .nil))))))) (by kernel_rfl) vc
theorem soB_vc(H H1 H2 H3 H4:AHeap)(N rc z q:Nat)(ro:Option AAddr)(ov:AVal)(K0:AVal→AHeap→Prop)(vc:bif Nat.ble (AHeap.next H) (AHeap.next H) && true then aop env noCall (AHeap.next H+0) (getF [(0,AVal.slice ro N rc),(1,AVal.bool true),(2,ov)]) (AHeap.mk (AHeap.next H+2) (H.2)) (Op.box 46 (Operand.tmp 2))=some (AVal.ptr (some ⟨z,0,0,0,1⟩),H1)∧bif Nat.ble (AHeap.next H) (AHeap.next H1) && true then aop env noCall (AHeap.next H1+2) (getF [(12,AVal.int IntKind.i64 (↑N:Int)),(11,AVal.slice ro N rc),(6,AVal.slice none 0 0),(5,AVal.ptr (some ⟨z,0,0,0,1⟩)),(0,AVal.slice ro N rc),(1,AVal.bool true),(2,ov)]) (AHeap.mk (AHeap.next H1+4) (H1.2)) (Op.makeSlice 22 (Operand.const (Value.int IntKind.i64 (0))) (Operand.tmp 12))=some (AVal.slice (some ⟨q,0,0,0,1⟩) 0 N,H2)∧bif Nat.ble (AHeap.next H) (AHeap.next H2) && true then Runs Tryz.prog cnd (AHeap.next H) 39 (Code.loop (loopAt Tryz.prog 35 0)) [(1,AVal.bool true),(5,AVal.ptr (some ⟨z,0,0,0,1⟩)),(7,AVal.slice (some ⟨q,0,0,0,1⟩) 0 N),(14,AVal.slice ro N rc),(15,AVal.int IntKind.i64 (↑N:Int)),(16,AVal.int IntKind.i64 (0))] (AHeap.mk (AHeap.next H2+3) (AHeap.blks H2)) (AExit.exit 0) [(1,AVal.bool true),(5,AVal.ptr (some ⟨z,0,0,0,1⟩)),(7,AVal.slice (some ⟨q,0,0,0,1⟩) N N)] H3∧bif Nat.ble (AHeap.next H) (AHeap.next H3) && true then bif Nat.ble (AHeap.next H) (AHeap.next H3+2) && true then some (AVal.bool (decide ((↑N:Int)>0)))=some (AVal.bool false)∧bif Nat.ble (AHeap.next H) (AHeap.next H3+8) && true then CallT Tryz.prog cnd 72 [AVal.slice (some ⟨q,0,0,0,1⟩) N N,AVal.func (Fn.func 73) [] [AVal.ptr (some ⟨z,0,0,0,1⟩)]] (AHeap.mk (AHeap.next H3+11) (H3.2)) (AVal.tuple []) H4∧bif Nat.ble (AHeap.next H) (AHeap.next H4) && true then bif Nat.ble (AHeap.next H) (AHeap.next H4+2)then K0 (AVal.slice (some ⟨q,0,0,0,1⟩) N N) (AHeap.mk (AHeap.next H4+2) (AHeap.blks H4))else False else False else False else False else False else False else False else False) :
    ∃ v h1,FDoes Tryz.prog cnd 35 [.slice ro N rc,.bool true,ov] H v h1∧K0 v h1 :=
  tcall_does env_ok mixed noSpecs_ok (hs:= .hint (.act 0 (AVal.ptr (some ⟨z,0,0,0,1⟩)) fun x=>H1) (.hint (.act 1002 (AVal.slice (some ⟨q,0,0,0,1⟩) 0 N) fun x=>H2) (.hint (.keep [1,5,7,14,15,16]) (.hint (.loop [(1,AVal.bool true),(5,AVal.ptr (some ⟨z,0,0,0,1⟩)),(7,AVal.slice (some ⟨q,0,0,0,1⟩) N N)] H3 (AExit.exit 0)) (.hint (.val 8004 (AVal.bool false)) (.hint (.act 10002 (AVal.tuple []) fun x=>H4) .nil)))))) (by kernel_rfl) vc
theorem soC_vc(H H1 H2 H3 H4:AHeap)(N rc z q:Nat)(ro:Option AAddr)(ov:AVal)(K0:AVal→AHeap→Prop)(vc:bif Nat.ble (AHeap.next H) (AHeap.next H) && true then aop env noCall (AHeap.next H+0) (getF [(0,AVal.slice ro N rc),(1,AVal.bool false),(2,ov)]) (AHeap.mk (AHeap.next H+2) (H.2)) (Op.box 46 (Operand.tmp 2))=some (AVal.ptr (some ⟨z,0,0,0,1⟩),H1)∧bif Nat.ble (AHeap.next H) (AHeap.next H1) && true then aop env noCall (AHeap.next H1+2) (getF [(12,AVal.int IntKind.i64 (↑N:Int)),(11,AVal.slice ro N rc),(6,AVal.slice none 0 0),(5,AVal.ptr (some ⟨z,0,0,0,1⟩)),(0,AVal.slice ro N rc),(1,AVal.bool false),(2,ov)]) (AHeap.mk (AHeap.next H1+4) (H1.2)) (Op.makeSlice 22 (Operand.const (Value.int IntKind.i64 (0))) (Operand.tmp 12))=some (AVal.slice (some ⟨q,0,0,0,1⟩) 0 N,H2)∧bif Nat.ble (AHeap.next H) (AHeap.next H2) && true then Runs Tryz.prog cnd (AHeap.next H) 39 (Code.loop (loopAt Tryz.prog 35 0)) [(1,AVal.bool false),(5,AVal.ptr (some ⟨z,0,0,0,1⟩)),(7,AVal.slice (some ⟨q,0,0,0,1⟩) 0 N),(14,AVal.slice ro N rc),(15,AVal.int IntKind.i64 (↑N:Int)),(16,AVal.int IntKind.i64 (0))] (AHeap.mk (AHeap.next H2+3) (AHeap.blks H2)) (AExit.exit 0) [(1,AVal.bool false),(5,AVal.ptr (some ⟨z,0,0,0,1⟩)),(7,AVal.slice (some ⟨q,0,0,0,1⟩) N N)] H3∧bif Nat.ble (AHeap.next H) (AHeap.next H3) && true then bif Nat.ble (AHeap.next H) (AHeap.next H3+2) && true then bif Nat.ble (AHeap.next H) (AHeap.next H3+8) && true then CallT Tryz.prog cnd 72 [AVal.slice (some ⟨q,0,0,0,1⟩) N N,AVal.func (Fn.func 73) [] [AVal.ptr (some ⟨z,0,0,0,1⟩)]] (AHeap.mk (AHeap.next H3+11) (H3.2)) (AVal.tuple []) H4∧bif Nat.ble (AHeap.next H) (AHeap.next H4) && true then bif Nat.ble (AHeap.next H) (AHeap.next H4+2)then K0 (AVal.slice (some ⟨q,0,0,0,1⟩) N N) (AHeap.mk (AHeap.next H4+2) (AHeap.blks H4))else False else False else False else False else False else False else False else False) :
    ∃ v h1,FDoes Tryz.prog cnd 35 [.slice ro N rc,.bool false,ov] H v h1∧K0 v h1 :=
  tcall_does env_ok mixed noSpecs_ok (hs:= .hint (.act 0 (AVal.ptr (some ⟨z,0,0,0,1⟩)) fun x=>H1) (.hint (.act 1002 (AVal.slice (some ⟨q,0,0,0,1⟩) 0 N) fun x=>H2) (.hint (.keep [1,5,7,14,15,16]) (.hint (.loop [(1,AVal.bool false),(5,AVal.ptr (some ⟨z,0,0,0,1⟩)),(7,AVal.slice (some ⟨q,0,0,0,1⟩) N N)] H3 (AExit.exit 0)) (.hint (.act 10002 (AVal.tuple []) fun x=>H4) .nil))))) (by kernel_rfl) vc
end Go.Proofs.YtjpfnbihopoeeaaGreatDoor
namespace Go.Proofs.YtjpfnbihopoeeaaGreatDoor
open Go.Lift
set_option maxRecDepth 1000000
theorem cb_trans: ∀ x y z:Bytes,Lib.compareBytes x y≤0→Lib.compareBytes y z≤0→Lib.compareBytes x z≤0:=by
  intro x
  induction x with
  | nil=>intro y z _ _;cases z<;>simp [Lib.compareBytes]
  | cons a x ih =>
    intro y z h1 h2
    cases y with
    | nil=>simp [Lib.compareBytes]at h1
    | cons b y =>
      cases z with
      | nil=>simp [Lib.compareBytes]at h2
      | cons c z =>
        simp only [Lib.compareBytes]at h1 h2 ⊢
        by_cases e1:a<b
        · by_cases e2:b<c
          · rw [if_pos (UInt8.lt_trans e1 e2)];decide
          · rw [if_neg e2]at h2
            by_cases e3:c<b
            · rw [if_pos e3]at h2;exact absurd h2 (by decide)
            · have:b=c:=UInt8.le_antisymm (UInt8.not_lt.1 e3) (UInt8.not_lt.1 e2)
              subst this
              rw [if_pos e1];decide
        · rw [if_neg e1]at h1
          by_cases e2:b<a
          · rw [if_pos e2]at h1;exact absurd h1 (by decide)
          · rw [if_neg e2]at h1
            have:a=b:=UInt8.le_antisymm (UInt8.not_lt.1 e2) (UInt8.not_lt.1 e1)
            subst this
            by_cases e3:a<c
            · rw [if_pos e3];decide
            · rw [if_neg e3]at h2 ⊢
              by_cases e4:c<a
              · rw [if_pos e4]at h2;exact absurd h2 (by decide)
              · rw [if_neg e4]at h2 ⊢
                exact ih y z h1 h2
theorem sgn_le {n m:Int} :sgnV (decide (n<m)) (decide (m<n))≤0↔n≤m:=by
  unfold sgnV
  by_cases h1:n<m
  · simp [h1];omega
  · by_cases h2:m<n
    · simp [h1,h2]
    · simp [h1,h2];omega
theorem ordP_trans(x y z:Bytes)(h1:ordP x y≤0)(h2:ordP y z≤0):ordP x z≤0:=by
  unfold ordP at *
  cases hx:numB (numD x)<;>cases hy:numB (numD y)<;>cases hz:numB (numD z)<;>simp only [hx,hy,hz,if_true,if_false,Bool.false_eq_true,reduceIte]at h1 h2 ⊢
  · exact cb_trans _ _ _ h1 h2
  all_goals first
    | exact absurd h1 (by decide)
    | exact absurd h2 (by decide)
    | decide
    | (rw [sgn_le]at h1 h2 ⊢; omega)
def keyI(k:Int)(d:Bool)(a b:List Bytes):Int:=ordP (fieldV (if d=true then b else a) k) (fieldV (if d=true then a else b) k)
theorem keyI_neg(k:Int)(d:Bool)(a b:List Bytes):keyI k d b a= -keyI k d a b:=by
  unfold keyI
  cases d<;>exact ordP_neg _ _
theorem keyI_trans(k:Int)(d:Bool){a b c:List Bytes}(h1:keyI k d a b≤0)(h2:keyI k d b c≤0):keyI k d a c≤0:=by
  unfold keyI at *
  cases d
  · exact ordP_trans _ _ _ h1 h2
  · exact ordP_trans _ _ _ h2 h1
abbrev Key:=Option (Int×Bool)
def cmpL:List Key→List Bytes→List Bytes→Int
  | [],_,_=>0
  | none::ks,a,b=>cmpL ks a b
  | some (k,d)::ks,a,b=>if keyI k d a b=0 then cmpL ks a b else keyI k d a b
theorem cmpL_neg: ∀ (ks:List Key) (a b:List Bytes),cmpL ks b a= -cmpL ks a b
  | [],a,b=>rfl
  | none::ks,a,b=>cmpL_neg ks a b
  | some (k,d)::ks,a,b=>by
    simp only [cmpL]
    have h:=keyI_neg k d a b
    have ih:=cmpL_neg ks a b
    by_cases e:keyI k d a b=0
    · rw [if_pos e,if_pos (by omega)];exact ih
    · rw [if_neg e,if_neg (by omega)];exact h
theorem cmpL_trans: ∀ (ks:List Key) {a b c:List Bytes},cmpL ks a b≤0→cmpL ks b c≤0→cmpL ks a c≤0
  | [],a,b,c,h1,h2=>Int.le_refl 0
  | none::ks,a,b,c,h1,h2=>cmpL_trans ks (b:=b) h1 h2
  | some (k,d)::ks,a,b,c,h1,h2=>by
    simp only [cmpL]at h1 h2 ⊢
    have nab:=keyI_neg k d a b
    have nbc:=keyI_neg k d b c
    have nac:=keyI_neg k d a c
    have g1:keyI k d a b≤0:=by
      by_cases e:keyI k d a b=0
      · omega
      · rw [if_neg e]at h1;exact h1
    have g2:keyI k d b c≤0:=by
      by_cases e:keyI k d b c=0
      · omega
      · rw [if_neg e]at h2;exact h2
    have g3:=keyI_trans k d g1 g2
    by_cases e:keyI k d a c=0
    · rw [if_pos e]
      have b1:keyI k d b a≤0:=keyI_trans k d g2 (by omega)
      have b2:keyI k d c b≤0:=keyI_trans k d (a:=c) (b:=a) (c:=b) (by omega) g1
      rw [if_pos (by omega)]at h1 h2
      exact cmpL_trans ks h1 h2
    · rw [if_neg e];exact g3
def lessK(ks:List Key)(L:Nat→List Bytes)(p q:Nat):Bool:=decide (cmpL ks (L p) (L q)<0)
theorem lessK_weak(ks:List Key)(L:Nat→List Bytes):Weak (lessK ks L):=by
  constructor
  · intro p q h
    have h:=of_decide_eq_true h
    have:=cmpL_neg ks (L p) (L q)
    exact decide_eq_false (by omega)
  · intro p q r h1 h2
    have h1:=of_decide_eq_false h1
    have h2:=of_decide_eq_false h2
    have n1:=cmpL_neg ks (L p) (L q)
    have n2:=cmpL_neg ks (L q) (L r)
    have n3:=cmpL_neg ks (L p) (L r)
    have:=cmpL_trans ks (a:=L p) (b:=L q) (c:=L r) (by omega) (by omega)
    exact decide_eq_false (by omega)
theorem sorted_once {less:Nat→Nat→Bool} (w:Weak less) {N:Nat} {σ:Nat→Nat} (h0:Srt less (fun k=>k) 0 N) (h1:Same (fun k=>k) σ 0 N) (h2:Srt less σ 0 N): ∀ k,k<N→σ k=k:=by
  have inn: ∀ k,k<N→σ k<N:=fun k hk=>by
    obtain⟨j,_,hj,e⟩:=h1.from (Nat.zero_le k) hk
    rw [e];exact hj
  have mono: ∀ i j,i<j→j<N→σ i<σ j:=by
    intro i j hij hj
    have l:=h2 i j (Nat.zero_le _) hij hj
    have hi:=inn i (by omega)
    have hjn:=inn j hj
    rcases l with l | l
    · rcases Nat.lt_trichotomy (σ i) (σ j)with c | c | c
      · exact c
      · rw [c]at l
        have:=w.asym _ _ l
        rw [l]at this;cases this
      · have:=Lt.le w (h0 (σ j) (σ i) (Nat.zero_le _) c hi)
        rw [l]at this;cases this
    · exact l.2
  have ge: ∀ k,k<N→k≤σ k:=by
    intro k
    induction k with
    | zero=>intro _;omega
    | succ k ih=>intro hk;have h1:=ih (by omega);have h2:=mono k (k+1) (by omega) hk;omega
  have le: ∀ m k,k+m+1=N→σ k≤k:=by
    intro m
    induction m with
    | zero=>intro k hk;have:=inn k (by omega);omega
    | succ m ih=>intro k hk;have h1:=ih (k+1) (by omega);have h2:=mono k (k+1) (by omega) (by omega);omega
  intro k hk
  have h1:=ge k hk
  have h2:=le (N-k-1) k (by omega)
  omega
end Go.Proofs.YtjpfnbihopoeeaaGreatDoor
namespace Go.Proofs.YtjpfnbihopoeeaaGreatDoor
open Go.Lift
set_option maxRecDepth 1000000
theorem build0S {F:Facts}{nid:Nat}{H:AHeap} :aop env noCall nid (getF F) H (Op.buildSlice 36 0 {toList:= []})=some (.slice (some ⟨nid,0,0,0,1⟩) 0 0,H.set nid (ABlk.made [] 1 true)):=by
  have:aop env noCall nid (getF F) H (Op.buildSlice 36 0 {toList:= []})=abuildSlice (AEnv.D env) 36 0 [] nid H:=rfl
  exact this.trans (by kernel_rfl)
theorem clone_does {H:AHeap}{q:Nat}{v:AVal}{els:List AVal}(r:Rd H q v els)(hb:(els.length+els.length / 4+512)*16≤2^48) :
    ∃ v' H' q',FDoes Tryz.prog cnd 71 [v] H v' H'∧Rw H' 9 q' v' els∧H.next≤q'∧q'<H'.next∧H'.next=H.next+7∧Fr H H' []:=by
  obtain⟨o,c,rfl,z,k⟩:=r
  cases o with
  | none =>
    have:els= []:=by
      rcases k with k | ⟨_,_,_,k,_⟩
      · exact k
      · cases k
    subst this
    obtain⟨v,h1,hd,rfl,rfl⟩:=clN_vc H c (fun v h1=>v= .slice none 0 0∧h1=up H 4) (bifL (Nat.le_refl _) (bifL (by omega) (bifL (by omega) (condL (by omega) ⟨rfl,rfl⟩))))
    exact⟨_,up H 7,H.next,bump (h':=up H 4) hd (by show H.next+4≤H.next+7;omega),.inl ⟨rfl,rfl⟩,Nat.le_refl _,by show H.next<H.next+7;omega,rfl,Fr.up H 7 []⟩
  | some a =>
    have hr:Rd H q (.slice (some a) els.length c) els:=⟨_,c,rfl,z,k⟩
    let H1:AHeap:=(up H 7).set (H.next+3) (ABlk.made [] 1 true)
    have f1:Fr H H1 []:=(Fr.up H 7 []).trans (Fr.set (L:= [H.next+3]) (up H 7) _ _ (by simp)) (by intro x hx;simp at hx;omega)
    have he:=(hr.fr f1 (by simp)).elems
    have hg:H1.get (H.next+3)=some (ABlk.made [] 1 true):=AHeap.get_set_self _ _ _
    by_cases hz:els= []
    · subst hz
      have ea:=app_none (nid:=H.next+5) (o:=some ⟨H.next+3,0,0,0,1⟩) (len:=0) (cap:=0) (b:=ABlk.made [] 1 true) elS.sl he (by decide) (by decide) (fun a h=>by cases h;exact⟨hg,rfl,rfl⟩) (Nat.le_refl _) (fun h=>by cases h)
      obtain⟨v,h1,hd,rfl,rfl⟩:=clS_vc H H1 H1 a 0 c (H.next+3) (.slice (some ⟨H.next+3,0,0,0,1⟩) 0 0) (fun v h1=>v= .slice (some ⟨H.next+3,0,0,0,1⟩) 0 0∧h1=H1) (bifL (Nat.le_refl _) (bifL (by omega) (bifL (by omega) ⟨build0S,ea,condL (by show H.next≤H.next+7;omega) ⟨rfl,rfl⟩⟩)))
      exact⟨_,_,H.next+3,hd,.inr ⟨ABlk.made [] 1 true,rfl,by show H.next+3<H.next+7;omega,hg,rfl,rfl,.inl rfl⟩,by omega,by show H.next+3<H.next+7;omega,rfl,f1⟩
    · have hp:=List.length_pos_iff.2 hz
      have ea:=app_copy (nid:=H.next+5) (a:=⟨H.next+3,0,0,0,1⟩) (len:=0) (cap:=0) (b:=ABlk.made [] 1 true) (old:= []) elS.sl he (by rw [Nat.zero_add];exact hb) (by omega) hg ⟨rfl,rfl⟩ (by omega) rfl (by simp [elemsOf,hg])
      obtain⟨v,h1,hd,rfl,rfl⟩:=clS_vc H H1 _ a els.length c (H.next+3) _ (fun v h1=>v=newSlice (H.next+5) 1 (0+els.length) (0+els.length)∧h1=H1.set (H.next+5) (.made ([]++els) 1 false (some (9,0)))) (bifL (Nat.le_refl _) (bifL (by omega) (bifL (by omega) ⟨build0S,ea,condL (by show H.next≤H.next+7;omega) ⟨rfl,rfl⟩⟩)))
      exact⟨_,_,H.next+5,hd,.inr ⟨.made ([]++els) 1 false (some (9,0)),by simp [newSlice,ABlk.made],by show H.next+5<H.next+7;omega,AHeap.get_set_self _ _ _,rfl,rfl,.inr ⟨rfl,.inr rfl⟩⟩,by omega,by show H.next+5<H.next+7;omega,rfl,f1.trans (Fr.set (L:= [H.next+5]) H1 _ _ (by simp)) (by intro x hx;simp at hx;omega)⟩
theorem aload_at {H H':AHeap}{t:TypeId}{a:AAddr}{v:AVal}(h: ∀ n,aload (AEnv.D env) t a ⟨n,H.blks⟩=some v)(e:H'.get a.id=H.get a.id): ∀ n,aload (AEnv.D env) t a ⟨n,H'.blks⟩=some v:=by
  intro n
  rw [← h n]
  unfold aload
  have:AHeap.get ⟨n,H'.blks⟩ a.id=AHeap.get ⟨n,H.blks⟩ a.id:=e
  rw [this]
def KeyV(H:AHeap)(x:AVal):Key→Prop
  | none=>x= .nilFunc
  | some (k,d)=> ∃ p q,x= .func (.func 64) [] [.ptr (some ⟨p,0,0,0,1⟩),.ptr (some ⟨q,0,0,0,1⟩)]∧p<H.next∧q<H.next∧(∀ n,aload (AEnv.D env) 4 ⟨p,0,0,0,1⟩ ⟨n,H.blks⟩=some (.bool d))∧(∀ n,aload (AEnv.D env) 3 ⟨q,0,0,0,1⟩ ⟨n,H.blks⟩=some (.int .i64 k))
def Low(E:Nat)(H H':AHeap):Prop:=H.next≤H'.next∧ ∀ x,x<E→H'.get x=H.get x
structure KeyAt(H:AHeap)(E:Nat)(x:AVal)(key:Key):Prop where
  v:KeyV H x key
  lt: ∀ p q,x= .func (.func 64) [] [.ptr (some ⟨p,0,0,0,1⟩),.ptr (some ⟨q,0,0,0,1⟩)]→p<E∧q<E
theorem KeyAt.low {H H':AHeap}{E:Nat}{x:AVal}{key:Key}(h:KeyAt H E x key)(m:Low E H H'):KeyAt H' E x key:=by
  refine⟨?_,h.lt⟩
  have hv:=h.v
  match key,hv with
  | none,hv=>exact hv
  | some (k,d),⟨p,q,e,h1,h2,h3,h4⟩ =>
    obtain⟨l1,l2⟩:=h.lt p q e
    exact⟨p,q,e,Nat.lt_of_lt_of_le h1 m.1,Nat.lt_of_lt_of_le h2 m.1,aload_at h3 (m.2 p l1),aload_at h4 (m.2 q l2)⟩
theorem KeyAt.sv {H:AHeap}{E:Nat}{x:AVal}{key:Key}(h:KeyAt H E x key):Sv x:=by
  have hv:=h.v
  match key,hv with
  | none,hv=>rw [hv];rfl
  | some (k,d),⟨p,q,e,_⟩=>rw [e];rfl
theorem slFn:SlTy env.D 46 41 1 8:=by
  have h1:(env.D 41).map (fun x=>(x.size,x.bytes,x.zeroFits))=some (1,8,true):=by kernel_rfl
  have h2:(env.D 46).map (fun x=>x.kind)=some (.slice 41):=by kernel_rfl
  obtain⟨x,hx,k⟩:=Option.map_eq_some_iff.1 h1
  obtain⟨d,hd,kd⟩:=Option.map_eq_some_iff.1 h2
  simp only [Prod.mk.injEq]at k
  exact⟨d,x,hd,kd,hx,k.1,k.2.1,by decide,k.2.2⟩
theorem elF:El 46 41 8:=⟨slFn,by kernel_rfl⟩
structure OrdAt(H:AHeap)(E z:Nat)(ks:List Key):Prop where
  ex: ∃ fs qf xs,(∀ n,aload (AEnv.D env) 46 ⟨z,0,0,0,1⟩ ⟨n,H.blks⟩=some fs)∧qf<E∧Rd H qf fs xs∧xs.length=ks.length∧ ∀ i (h1:i<xs.length) (h2:i<ks.length),KeyAt H E xs[i] ks[i]
  z:z<E
theorem Rd.low {H H':AHeap}{E q:Nat}{v:AVal}{els:List AVal}(h:Rd H q v els)(m:Low E H H')(hq:q<E):Rd H' q v els:=by
  obtain⟨o,c,e,z,k⟩:=h
  exact⟨o,c,e,z,k.imp_right fun⟨ver,off,b,k1,k2,k3,k4⟩=>⟨ver,off,b,k1,Nat.lt_of_lt_of_le k2 m.1,(m.2 q hq).trans k3,k4⟩⟩
theorem OrdAt.low {H H':AHeap}{E z:Nat}{ks:List Key}(h:OrdAt H E z ks)(m:Low E H H'):OrdAt H' E z ks:=by
  obtain⟨fs,qf,xs,h1,h2,h3,h4,h5⟩:=h.ex
  exact⟨⟨fs,qf,xs,aload_at h1 (m.2 z h.z),h2,h3.low m h2,h4,fun i i1 i2=>(h5 i i1 i2).low m⟩,h.z⟩
theorem rowAt {H:AHeap}{q:Nat}{v:AVal}{l:List Bys}(h:Rd H q v (l.map AVal.str)):RowAt H v l:=by
  obtain⟨o,c,e,z,k⟩:=h
  rw [List.length_map]at e
  refine⟨o,c,e,fun i hi=> ?_⟩
  rcases k with k | ⟨ver,off,b,rfl,k2,k3,k4⟩
  · have:=congrArg List.length k
    simp at this
    rw [this]at hi;simp at hi
  · have:=k4 i (by simpa using hi)
    rw [List.getElem_map]at this
    exact⟨_,b,rfl,rfl,rfl,k3,this⟩
theorem KeyAt.call {H:AHeap}{E:Nat}{x:AVal}{k:Int}{d:Bool}(h:KeyAt H E x (some (k,d))){va vb:AVal}{a b:List Bys}{qa qb:Nat}(ra:Rd H qa va (a.map AVal.str))(rb:Rd H qb vb (b.map AVal.str))(sa:Short a)(sb:Short b) :
    ∃ p q,x= .func (.func 64) [] [.ptr (some ⟨p,0,0,0,1⟩),.ptr (some ⟨q,0,0,0,1⟩)]∧FDoes Tryz.prog cnd 64 [va,vb,.ptr (some ⟨p,0,0,0,1⟩),.ptr (some ⟨q,0,0,0,1⟩)] H (.int .i64 (keyI k d a b)) (up H 200):=by
  obtain⟨p,q,e,h1,h2,h3,h4⟩:=h.v
  exact⟨p,q,e,by_does (rowAt ra) (rowAt rb) sa sb k d h3 h4 h2⟩
theorem s1_loop {B E n qf qa qb fc:Nat} {fo:Option AAddr} {va vb:AVal} {xs:List AVal} {ks:List Key} {a b:List Bys} (hn:n=xs.length) (hk:xs.length=ks.length) (hnl:n<2^60) (sa:Short a) (sb:Short b): ∀ (f i:Nat) (H:AHeap),i+f=n→B≤H.next→E≤H.next→Rd H qf (.slice fo n fc) xs→(∀ i (h1:i<xs.length) (h2:i<ks.length),KeyAt H E xs[i] ks[i])→Rd H qa va (a.map AVal.str)→Rd H qb vb (b.map AVal.str) →
    ∃ m,H.next≤m∧((cmpL (ks.drop i) a b=0∧Loops Tryz.prog cnd B 25 (loopAt Tryz.prog 73 0) [(0,va),(1,vb),(9,.slice fo n fc),(10,.int .i64 (n:Nat)),(11,.int .i64 (i:Nat))] H (.exit 0) [] ⟨m,H.blks⟩) ∨
      (cmpL (ks.drop i) a b≠0∧Loops Tryz.prog cnd B 25 (loopAt Tryz.prog 73 0) [(0,va),(1,vb),(9,.slice fo n fc),(10,.int .i64 (n:Nat)),(11,.int .i64 (i:Nat))] H .ret [(5,.int .i64 (cmpL (ks.drop i) a b))] ⟨m,H.blks⟩)):=by
  intro f
  induction f with
  | zero =>
    intro i H hi hB hE r1 hx ra rb
    obtain rfl:i=n:=by omega
    obtain⟨e,F1,h1,hr,rfl,rfl,rfl⟩:=s1E_vpK H B i i va vb (.slice fo i fc) (fun e F1 h1=>e= .exit 0∧F1= [(0,va),(1,vb),(9,.slice fo i fc),(10,.int .i64 (i:Nat)),(11,.int .i64 (i:Nat))]∧h1=up H 1) (bifL hB ⟨boolF (by omega),rfl,rfl,rfl⟩)
    refine⟨H.next+1,by omega,.inl ⟨?_,(Loops.last (by simp) hr).post (Ent.facts (fle [] (by kernel_rfl)))⟩⟩
    rw [List.drop_of_length_le (by omega)];rfl
  | succ f ih =>
    intro i H hi hB hE r1 hx ra rb
    have h1:i<xs.length:=by omega
    have h2:i<ks.length:=by omega
    have kx:=hx i h1 h2
    obtain⟨x,x1,x2,x3⟩:=r1.at elF h1 kx.sv
    have hd:ks.drop i=ks[i]::ks.drop (i+1):=List.drop_eq_getElem_cons h2
    have next: ∀ m0,H.next≤m0→ ∃ m,m0≤m∧((cmpL (ks.drop (i+1)) a b=0∧Loops Tryz.prog cnd B 25 (loopAt Tryz.prog 73 0) [(0,va),(1,vb),(9,.slice fo n fc),(10,.int .i64 (n:Nat)),(11,.int .i64 ((i+1:Nat):Int))] ⟨m0,H.blks⟩ (.exit 0) [] ⟨m,H.blks⟩) ∨
      (cmpL (ks.drop (i+1)) a b≠0∧Loops Tryz.prog cnd B 25 (loopAt Tryz.prog 73 0) [(0,va),(1,vb),(9,.slice fo n fc),(10,.int .i64 (n:Nat)),(11,.int .i64 ((i+1:Nat):Int))] ⟨m0,H.blks⟩ .ret [(5,.int .i64 (cmpL (ks.drop (i+1)) a b))] ⟨m,H.blks⟩)):=by
      intro m0 hm0
      have f0:Fr H ⟨m0,H.blks⟩ []:=⟨hm0,fun _ _ _=>rfl⟩
      exact ih (i+1) ⟨m0,H.blks⟩ (by omega) (by show B≤m0;omega) (by show E≤m0;omega) (r1.fr f0 (by simp)) (fun j j1 j2=>(hx j j1 j2).low ⟨hm0,fun _ _=>rfl⟩) (ra.fr f0 (by simp)) (rb.fr f0 (by simp))
    match hki:ks[i],kx with
    | none,kx =>
      have e0:xs[i]= .nilFunc:=kx.v
      rw [e0]at x3
      obtain⟨m,hm,L⟩:=next (H.next+8) (by omega)
      obtain⟨e,F1,h1',hr,rfl,rfl,rfl⟩:=s1N_vpK H B i n va vb (.slice fo n fc) x (fun e F1 h1=>e= .normal∧F1= [(0,va),(1,vb),(9,.slice fo n fc),(10,.int .i64 (n:Nat)),(11,.int .i64 ((i+1:Nat):Int))]∧h1=up H 8)
        (bifL hB ⟨boolT (by omega),bifL (by omega) ⟨x1,x3 _,bifL (by omega) (bifL (by omega) ⟨⟨by omega,by omega⟩,rfl,by rw [succI],rfl⟩)⟩⟩)
      rw [hd,hki]
      exact⟨m,by omega,L.imp (fun⟨c,L⟩=>⟨c,Loops.round hr (Ent.refl _ _ _ _) L⟩) (fun⟨c,L⟩=>⟨c,Loops.round hr (Ent.refl _ _ _ _) L⟩)⟩
    | some (k,d),kx =>
      have f11:=Fr.up H 11 []
      obtain⟨p,q,e0,D⟩:=(kx.low (H':=up H 11) ⟨by show H.next≤H.next+11;omega,fun _ _=>rfl⟩).call (ra.fr f11 (by simp)) (rb.fr f11 (by simp)) sa sb
      rw [e0]at x3
      by_cases hz:keyI k d a b=0
      · obtain⟨m,hm,L⟩:=next (H.next+215) (by omega)
        obtain⟨e,F1,h1',hr,rfl,rfl,rfl⟩:=s1S_vpK H (up (up H 11) 200) B i n va vb (.slice fo n fc) x p q (keyI k d a b) (fun e F1 h1=>e= .normal∧F1= [(0,va),(1,vb),(9,.slice fo n fc),(10,.int .i64 (n:Nat)),(11,.int .i64 ((i+1:Nat):Int))]∧h1=up H 215)
          (bifL hB ⟨boolT (by omega),bifL (by omega) ⟨x1,x3 _,bifL (by omega) ⟨rfl,bifL (by omega) ⟨⟨D⟩,bifL (by show B≤H.next+11+200;omega) ⟨by rw [hz];rfl,bifL (by show B≤H.next+11+200+2;omega) ⟨⟨by omega,by omega⟩,rfl,by rw [succI],rfl⟩⟩⟩⟩⟩⟩)
        rw [hd,hki]
        simp only [cmpL,if_pos hz]
        exact⟨m,by omega,L.imp (fun⟨c,L⟩=>⟨c,Loops.round hr (Ent.refl _ _ _ _) L⟩) (fun⟨c,L⟩=>⟨c,Loops.round hr (Ent.refl _ _ _ _) L⟩)⟩
      · obtain⟨e,F1,h1',hr,rfl,rfl,rfl⟩:=s1R_vpK H (up (up H 11) 200) B i n va vb (.slice fo n fc) x p q (keyI k d a b) (fun e F1 h1=>e= .ret∧F1= [(5,.int .i64 (keyI k d a b))]∧h1=up H 215)
          (bifL hB ⟨boolT (by omega),bifL (by omega) ⟨x1,x3 _,bifL (by omega) ⟨rfl,bifL (by omega) ⟨⟨D⟩,bifL (by show B≤H.next+11+200;omega) ⟨by
            have:(keyI k d a b != 0)=true:=by simp [hz]
            rw [this],bifL (by show B≤H.next+11+200+2;omega) ⟨rfl,rfl,rfl⟩⟩⟩⟩⟩⟩)
        rw [hd,hki]
        simp only [cmpL,if_neg hz]
        exact⟨H.next+215,by omega,.inr ⟨hz,Loops.last (by simp) hr⟩⟩
theorem sort1_does {H:AHeap}{E z:Nat}{ks:List Key}(o:OrdAt H E z ks)(hE:E≤H.next)(hks:ks.length<2^59){va vb:AVal}{a b:List Bys}{qa qb:Nat}(ra:Rd H qa va (a.map AVal.str))(rb:Rd H qb vb (b.map AVal.str))(sa:Short a)(sb:Short b) :
    ∃ n,H.next≤n∧FDoes Tryz.prog cnd 73 [va,vb,.ptr (some ⟨z,0,0,0,1⟩)] H (.int .i64 (cmpL ks a b)) ⟨n,H.blks⟩:=by
  obtain⟨fs,qf,xs,h1,h2,h3,h4,h5⟩:=o.ex
  obtain⟨fo,fc,rfl⟩:=h3.sl
  have f4:=Fr.up H 4 []
  obtain⟨m,hm,L⟩:=s1_loop (B:=H.next) (E:=E) (qf:=qf) (va:=va) (vb:=vb) (xs:=xs) (ks:=ks) (a:=a) (b:=b) rfl h4 (by omega) sa sb xs.length 0 (up H 4) (by omega) (by show H.next≤H.next+4;omega) (by show E≤H.next+4;omega) (h3.fr f4 (by simp)) (fun i i1 i2=>(h5 i i1 i2).low ⟨by show H.next≤H.next+4;omega,fun _ _=>rfl⟩) (ra.fr f4 (by simp)) (rb.fr f4 (by simp))
  have hm:H.next+4≤m:=hm
  rw [List.drop_zero]at L
  rcases L with ⟨c,L⟩ | ⟨c,L⟩
  · obtain⟨v,h',hd,rfl,rfl⟩:=s1Z_vc H ⟨m,H.blks⟩ z xs.length fc fo va vb (fun v h1=>v= .int .i64 0∧h1=⟨m+1,H.blks⟩) (bifL (Nat.le_refl _) (bifL (by omega) ⟨h1 _,Runs.of_loops L,bifL (by show H.next≤m;omega) (condL (by show H.next≤m+1;omega) ⟨rfl,rfl⟩)⟩))
    rw [c]
    exact⟨m+1,by omega,hd⟩
  · obtain⟨v,h',hd,rfl,rfl⟩:=s1V_vc H ⟨m,H.blks⟩ z xs.length fc fo va vb (cmpL ks a b) (fun v h1=>v= .int .i64 (cmpL ks a b)∧h1=⟨m,H.blks⟩) (bifL (Nat.le_refl _) (bifL (by omega) ⟨h1 _,Runs.of_loops L,condL (by show H.next≤m;omega) ⟨rfl,rfl⟩⟩))
    exact⟨m,by omega,hd⟩
end Go.Proofs.YtjpfnbihopoeeaaGreatDoor
namespace Go.Proofs.YtjpfnbihopoeeaaGreatDoor
open Go.Lift
set_option maxRecDepth 1000000
theorem boxF {F:Facts}{k nid:Nat}{x:AVal}{H:AHeap}(hF:getF F (.tmp k)=x)(hx:Sv x): ∃ b,aop env noCall nid (getF F) H (Op.box 46 (Operand.tmp k))=some (.ptr (some ⟨nid,0,0,0,1⟩),H.set nid b)∧ ∀ (G:AHeap),G.get nid=some b→ ∀ n,aload (AEnv.D env) 46 ⟨nid,0,0,0,1⟩ ⟨n,G.blks⟩=some x:=by
  obtain⟨d,d1,d2⟩:=Option.map_eq_some_iff.1 (show(AEnv.D env 46).map (fun d=>(d.kind.isAgg,d.size))=some (false,1)by kernel_rfl)
  have he:env.D 46=some d:=d1
  simp only [Prod.mk.injEq]at d2
  have hf:x.fits d.kind.isAgg d.size=true:=by
    rw [d2.1,d2.2]
    cases x<;>first | rfl | cases hx
  refine⟨.made [x] 1 true (some (46,1)),?_,fun G hg n=> ?_⟩
  · simp only [aop,he,hF]
    rw [if_pos (by rw [hf,d2.2];rfl),d2.2]
  · unfold aload
    have hg':AHeap.get ⟨n,G.blks⟩ nid=some (.made [x] 1 true (some (46,1))):=hg
    simp only [d1,hg',d2.1,d2.2]
    exact load_sv hx
theorem mkRows {F:Facts}{k nid N:Nat}{H:AHeap}(hF:getF F (.tmp k)= .int .i64 (N:Nat))(hN:N<2^43):aop env noCall nid (getF F) H (Op.makeSlice 22 (Operand.const (Value.int .i64 0)) (Operand.tmp k))=some (.slice (some ⟨nid,0,0,0,1⟩) 0 N,H.set nid (ABlk.made (List.replicate N (.slice none 0 0)) 1 true)):=by
  obtain⟨d,y,d1,d2,x1,x2,x3,_⟩:=slRw.ty
  have d1:AEnv.D env 22=some d:=d1
  obtain⟨y',y1,y2⟩:=Option.map_eq_some_iff.1 (show(AEnv.D env 36).map (fun d=>(d.zero,d.kind.isAgg))=some (some (.slice none 0 0),false)by kernel_rfl)
  have x1:AEnv.D env 36=some y:=x1
  rw [x1]at y1
  simp only [Option.some.injEq]at y1
  subst y1
  simp only [Prod.mk.injEq]at y2
  have:aop env noCall nid (getF F) H (Op.makeSlice 22 (Operand.const (Value.int .i64 0)) (Operand.tmp k))=amakeSlice (AEnv.D env) 22 (.int .i64 0) (.int .i64 (N:Nat)) nid H:=by rw [← hF];rfl
  rw [this]
  unfold amakeSlice
  simp only [d1,d2,x1,y2.1]
  rw [if_pos ⟨Int.le_refl 0,by omega,by omega,by rw [x3];omega,by omega,by rw [y2.2,x2];rfl⟩]
  simp [newSlice,x2]
theorem slice1 {Q N:Nat}(hN:0<N):aslice (AEnv.D env) 22 (.slice (some ⟨Q,0,0,0,1⟩) N N) (some (.int .i64 1)) none none=some (.slice (some ⟨Q,0,1,0,1⟩) (N-1) (N-1)):=by
  obtain⟨d,y,d1,d2,x1,x2,x3,_⟩:=slRw.ty
  have d1:AEnv.D env 22=some d:=d1
  have x1:AEnv.D env 36=some y:=x1
  unfold aslice
  simp only [d1,d2,x1,abound]
  rw [if_pos ⟨by omega,by omega⟩]
  simp [x2]
def Ob(H:AHeap)(Q N:Nat)(vs:List AVal):Prop:=Q<H.next∧ ∃ b,H.get Q=some b∧b.ver=0∧b.ro=false∧b.exact=true∧b.elems=vs++List.replicate (N-vs.length) (.slice none 0 0)
theorem Ob.fr {H H':AHeap}{Q N:Nat}{vs:List AVal}{L:List Nat}(h:Ob H Q N vs)(m:Fr H H' L)(hq:Q ∉ L):Ob H' Q N vs:=by
  obtain⟨h1,b,h2,h3⟩:=h
  exact⟨Nat.lt_of_lt_of_le h1 m.next,b,(m.get Q h1 hq).trans h2,h3⟩
theorem Ob.put {H:AHeap}{Q N nid:Nat}{vs:List AVal}{w x:AVal}(h:Ob H Q N vs)(hl:vs.length<N)(hN:N<2^42)(hw:elemsOf 1 w H=some [x]): ∃ H2,abuiltin env .append #[22,22] [.slice (some ⟨Q,0,0,0,1⟩) vs.length N,w] nid H=some (.slice (some ⟨Q,0,0,0,1⟩) (vs.length+1) N,H2)∧Ob H2 Q N (vs++ [x])∧Fr H H2 [Q]∧H2.next=H.next:=by
  obtain⟨h1,b,h2,h3,h4,h5,h6⟩:=h
  have ea:=app_put (nid:=nid) slRw hw (by simp) (a:=⟨Q,0,0,0,1⟩) (len:=vs.length) (cap:=N) (b:=b) (by simp;omega) (by simp;omega) h2 ⟨rfl,rfl⟩ (by simp;omega) h4 h3.symm (by rw [h6];simp;omega)
  refine⟨_,ea,⟨h1,b.put (0+vs.length) [x],AHeap.get_set_self _ _ _,h3,h4,h5,?_⟩,Fr.set _ _ _ fun _=>by simp,rfl⟩
  show(b.elems.set (0+vs.length) x)=_
  rw [h6,Nat.zero_add,List.set_append_right _ _ (Nat.le_refl _),Nat.sub_self,show N-vs.length=(N- (vs++ [x]).length)+1 by simp;omega,List.replicate_succ,List.set_cons_zero,List.append_assoc]
  rfl
abbrev soF(hv:Bool)(z:Nat)(out rv:AVal)(N i:Nat):Facts:= [(1,.bool hv),(5,.ptr (some ⟨z,0,0,0,1⟩)),(7,out),(14,rv),(15,.int .i64 (N:Nat)),(16,.int .i64 (i:Nat))]
theorem so_loop {B B0 N Q z orow rc:Nat} {ro:Option AAddr} {hv:Bool} {rsA:List Rr} (hN:N=rsA.length) (hN2:N<2^41) (hBB:B≤B0) (ho:orow<B0) (hlow: ∀ r∈rsA,r.q<B0) (hrow: ∀ r∈rsA,(r.l.length+r.l.length / 4+512)*16≤2^48) (hQ:B0≤Q): ∀ (f i:Nat) (H:AHeap) (rs:List Rr),i+f=N→Rd H orow (.slice ro N rc) (vsOf rsA)→(∀ r∈rsA,Rd H r.q r.v (r.l.map AVal.str)) →
    Ob H Q N (vsOf rs)→(∀ r∈rs,Rw H 9 r.q r.v (r.l.map AVal.str))→(Q::qsOf rs).Nodup→(∀ x∈Q::qsOf rs,B0≤x∧x<H.next)→lsOf rs=(lsOf rsA).take i →
    ∃ H' rs',Loops Tryz.prog cnd B 39 (loopAt Tryz.prog 35 0) (soF hv z (.slice (some ⟨Q,0,0,0,1⟩) i N) (.slice ro N rc) N i) H (.exit 0) [(1,.bool hv),(5,.ptr (some ⟨z,0,0,0,1⟩)),(7,.slice (some ⟨Q,0,0,0,1⟩) N N)] H' ∧
      Ob H' Q N (vsOf rs')∧(∀ r∈rs',Rw H' 9 r.q r.v (r.l.map AVal.str))∧(Q::qsOf rs').Nodup∧(∀ x∈Q::qsOf rs',B0≤x∧x<H'.next)∧lsOf rs'=lsOf rsA∧H.next≤H'.next∧ ∀ x,x<B0→H'.get x=H.get x:=by
  intro f
  induction f with
  | zero =>
    intro i H rs hi ra rin ob rw' nd ge hls
    obtain rfl:i=N:=by omega
    have hB:B≤H.next:=by have:=ge Q (by simp);omega
    obtain⟨e,F1,h1,hr,rfl,rfl,rfl⟩:=so0E_vp H B i i hv z (.slice (some ⟨Q,0,0,0,1⟩) i i) (.slice ro i rc) (fun e F1 h1=>e= .exit 0∧F1=soF hv z (.slice (some ⟨Q,0,0,0,1⟩) i i) (.slice ro i rc) i i∧h1=up H 1) (bifL hB ⟨boolF (by omega),rfl,rfl,rfl⟩)
    have f:=Fr.up H 1 []
    exact⟨up H 1,rs,(Loops.last (by simp) hr).post (Ent.facts (fle [1,5,7] (by kernel_rfl))),ob.fr f (by simp),fun r hr=>(rw' r hr).fr f (by simp),nd,fun x hx=>⟨(ge x hx).1,by have:=(ge x hx).2;show x<H.next+1;omega⟩,by rw [hls,List.take_of_length_le (by simp;omega)],f.next,fun _ _=>rfl⟩
  | succ f ih =>
    intro i H rs hi ra rin ob rw' nd ge hls
    have hlt:i<rsA.length:=by omega
    have gQ:=ge Q (by simp)
    have hli:rs.length=i:=by have:=congrArg List.length hls;simp at this;omega
    obtain⟨a,a1,a2,a3⟩:=ra.at elR (i:=i) (by simpa using hlt) (by rw [List.getElem_map];exact(rin _ (List.getElem_mem hlt)).sv)
    rw [List.getElem_map]at a3
    have f10:=Fr.up H 10 []
    obtain⟨cv,H1,q',D,w1,g1,g2,n1,f1⟩:=clone_does (H:=up H 10) ((rin _ (List.getElem_mem hlt)).fr f10 (by simp)) (by rw [List.length_map];exact hrow _ (List.getElem_mem hlt))
    have g1:H.next+10≤q':=g1
    have n1:H1.next=H.next+17:=n1
    have hsv:=w1.rd.sv
    let H2:AHeap:=H1.set (H.next+7) (ABlk.made [cv] 1 true)
    have f12:Fr H1 H2 [H.next+7]:=Fr.set _ _ _ fun _=>by simp
    have f02:Fr H H2 []:=((f10.trans f1 (by simp)).sub (M:= []) (by simp)).trans f12 (by intro x hx;simp at hx;omega)
    obtain⟨H3,e3,ob3,f3,n3⟩:=(ob.fr f02 (by simp)).put (nid:=H.next+8) (w:= .slice (some ⟨H.next+7,0,0,0,1⟩) 1 1) (by simp;omega) (by omega) (one_elem H1 _ _)
    rw [List.length_map,hli]at e3
    have n3:H3.next=H.next+17:=n3.trans n1
    obtain⟨e,F1,h1,hr,rfl,rfl,rfl⟩:=so0_vp H H1 H2 H3 B i N (H.next+7) hv z (.slice (some ⟨Q,0,0,0,1⟩) i N) (.slice ro N rc) rsA[i].v cv (.slice (some ⟨Q,0,0,0,1⟩) (i+1) N) a (fun e F1 h1=>e= .normal∧F1=soF hv z (.slice (some ⟨Q,0,0,0,1⟩) (i+1) N) (.slice ro N rc) N (i+1)∧h1=up H3 2)
      (bifL (by omega) ⟨boolT (by omega),bifL (by omega) ⟨a1,a3 _,bifL (by omega) ⟨⟨D⟩,build1R rfl hsv,e3,bifL (by omega) ⟨⟨by omega,by omega⟩,rfl,by rw [succI],rfl⟩⟩⟩⟩)
    have f34:=Fr.up H3 2 []
    have f24:Fr H2 (up H3 2) [Q]:=f3.trans f34 (by simp)
    have qn:q' ∉ Q::qsOf rs:=fun k=>by have:=(ge q' k).2;omega
    have nq:q'≠H.next+7:=by omega
    obtain⟨H',rs',L,r1,r2,r3,r4,r5,r6,r7⟩:=ih (i+1) (up H3 2) (rs++ [⟨q',cv,rsA[i].l⟩]) (by omega)
      ((ra.fr f02 (by simp)).fr f24 (by simp;omega)) (fun r hr=>((rin r hr).fr f02 (by simp)).fr f24 (by have:=hlow r hr;simp;omega))
      (by rw [vsOf,List.map_append];exact ob3.fr f34 (by simp))
      (fun r hr=>by
        rcases List.mem_append.1 hr with h | h
        · refine((rw' r h).fr f02 (by simp)).fr f24 ?_
          simp only [List.mem_singleton]
          intro e
          rw [List.nodup_cons]at nd
          exact nd.1 (e▸List.mem_map.2 ⟨r,h,rfl⟩)
        · obtain rfl:=List.mem_singleton.1 h
          refine(w1.fr f12 (by simpa using nq)).fr f24 ?_
          simp only [List.mem_singleton]
          intro e
          exact qn (by simp [← e]))
      (by
        rw [qsOf,List.map_append]
        rw [List.nodup_cons]at nd ⊢
        refine⟨?_,?_⟩
        · simp only [List.map_cons,List.map_nil,List.mem_append,List.mem_singleton,not_or]
          exact⟨nd.1,fun e=>qn (by rw [← e];simp)⟩
        · rw [List.nodup_append]
          refine⟨nd.2,by simp,fun x hx y hy=> ?_⟩
          simp only [List.map_cons,List.map_nil,List.mem_singleton]at hy
          subst hy
          intro e
          subst e
          exact qn (List.mem_cons_of_mem _ hx))
      (fun x hx=>by
        rw [qsOf,List.map_append]at hx
        simp only [List.map_cons,List.map_nil,List.mem_cons,List.mem_append,List.mem_singleton,List.not_mem_nil,or_false]at hx
        rcases hx with hx | hx | hx
        · subst hx;exact⟨hQ,by show x<H3.next+2;omega⟩
        · have:=ge x (List.mem_cons_of_mem _ hx)
          exact⟨this.1,by show x<H3.next+2;omega⟩
        · subst hx;exact⟨by omega,by show x<H3.next+2;omega⟩)
      (by
        rw [lsOf,List.map_append,show List.map (·.l) rs=_ from hls,List.take_add_one,List.getElem?_eq_getElem (by simpa using hlt)]
        simp)
    have r6:H3.next+2≤H'.next:=r6
    refine⟨H',rs',Loops.round hr (Ent.refl _ _ _ _) L,r1,r2,r3,r4,r5,by omega,fun x hx=> ?_⟩
    rw [r7 x hx]
    show H3.get x=H.get x
    rw [f3.get x (by show x<H1.next;omega) (by simp;omega),f02.get x (by omega) (by simp)]
end Go.Proofs.YtjpfnbihopoeeaaGreatDoor
namespace Go.Proofs.YtjpfnbihopoeeaaGreatDoor
open Go.Lift
set_option maxRecDepth 1000000
def rAt(rs:List Rr)(k:Nat):Rr:=rs.getD k ⟨0,.slice none 0 0,[]⟩
theorem rAt_in {rs:List Rr}{k:Nat}(h:k<rs.length):rAt rs k=rs[k]:=by simp [rAt,List.getD,h]
theorem rAt_mem {rs:List Rr}{k:Nat}(h:k<rs.length):rAt rs k∈rs:=by rw [rAt_in h];exact List.getElem_mem h
def srtR(rs:List Rr)(O:Nat)(σ:Nat→Nat):List Rr:=rs.take O++(List.range (rs.length-O)).map (fun k=>rAt (rs.drop O) (σ k))
theorem range_rAt(rs:List Rr):(List.range rs.length).map (rAt rs)=rs:=by
  apply List.ext_getElem (by simp)
  intro i h1 h2
  simp only [List.getElem_map,List.getElem_range]
  exact rAt_in h2
theorem srtR_perm(rs:List Rr){O:Nat}(hO:O≤rs.length){σ:Nat→Nat}(h:Same (fun k=>k) σ 0 (rs.length-O)):(srtR rs O σ).Perm rs:=by
  have p:=h.perm
  rw [Nat.sub_zero,← List.range_eq_range']at p
  have p2:=p.map (rAt (rs.drop O))
  rw [List.map_map,List.map_map]at p2
  have e:(List.range (rs.length-O)).map (rAt (rs.drop O) ∘ fun k=>k)=rs.drop O:=by
    have:=range_rAt (rs.drop O)
    rw [List.length_drop]at this
    exact this
  rw [e]at p2
  unfold srtR
  have:=(List.Perm.refl (rs.take O)).append p2
  rw [List.take_append_drop]at this
  exact this
theorem body_sort {H:AHeap} {E Q N O z:Nat} {ks:List Key} {rs:List Rr} (hO:O≤N) (hN:rs.length=N) (hN2:N<2^41) (ob:Ob H Q N (vsOf rs)) (inn: ∀ r∈rs,Rd H r.q r.v (r.l.map AVal.str)) (hq: ∀ r∈rs,r.q≠Q) (short: ∀ r∈rs,Short r.l) (o:OrdAt H E z ks) (hks:ks.length<2^59) (hE:E≤H.next) (hEQ:E≤Q) :
    ∃ σ,Same (fun k=>k) σ 0 (N-O)∧Srt (lessK ks (fun k=>(rAt (rs.drop O) k).l)) σ 0 (N-O)∧ ∃ H',FDoes Tryz.prog cnd 72 [.slice (some ⟨Q,0,O,0,1⟩) (N-O) (N-O),.func (.func 73) [] [.ptr (some ⟨z,0,0,0,1⟩)]] H (.tuple []) H'∧Ob H' Q N (vsOf (srtR rs O σ))∧Fr H H' [Q]:=by
  let S:SC:=⟨Q,0,O,N-O,N-O,fun k=>(rAt (rs.drop O) k).v,(vsOf rs).take O,[],fun H=>E≤H.next∧OrdAt H E z ks∧ ∀ r∈rs,Rd H r.q r.v (r.l.map AVal.str)⟩
  have hld:(rs.drop O).length=N-O:=by rw [List.length_drop,hN]
  have hmem: ∀ k,k<N-O→rAt (rs.drop O) k∈rs:=fun k hk=>List.mem_of_mem_drop (rAt_mem (by rw [hld];exact hk))
  have ok :S.Ok:=by
    refine⟨by show N-O<2^44;omega,by show((vsOf rs).take O).length=O;simp;omega,fun k=> ?_,fun H1 H2 c m=> ?_⟩
    · show Sv (rAt (rs.drop O) k).v
      by_cases hk:k<N-O
      · exact(inn _ (hmem k hk)).sv
      · have:rAt (rs.drop O) k=⟨0,.slice none 0 0,[]⟩:=by
          unfold rAt
          rw [List.getD,List.getElem?_eq_none (by rw [hld];omega)];rfl
        rw [this];rfl
    · obtain⟨c1,c2,c3⟩:=c
      have low:Low E H1 H2:=⟨m.next,fun x hx=>m.get x (by omega) (by show x ∉ [Q];simp;omega)⟩
      exact⟨Nat.le_trans c1 m.next,c2.low low,fun r hr=>(c3 r hr).fr m (by show r.q ∉ [Q];simpa using hq r hr)⟩
  have hcmp:S.Cmp 73 [.ptr (some ⟨z,0,0,0,1⟩)] (lessK ks (fun k=>(rAt (rs.drop O) k).l)):=by
    refine⟨fun H1 p q c hp hq'=> ?_⟩
    obtain⟨c1,c2,c3⟩:=c
    have mp:=hmem p hp
    have mq:=hmem q hq'
    obtain⟨n,h1,D⟩:=sort1_does c2 c1 hks (c3 _ mp) (c3 _ mq) (short _ mp) (short _ mq)
    exact⟨n,_,h1,D,by unfold lessK;rw [decide_eq_true_iff]⟩
  obtain⟨σ,s1,s2,s3⟩:=sort_does ok (lessK_weak ks _) hcmp (π:=fun k=>k) (fun k hk=>hk) (fun i j h _=>h)
  obtain⟨l1,b,b1,b2,b3,b4,b5⟩:=ob
  have hlen:(vsOf rs).length=N:=by rw [List.length_map,hN]
  have hw:S.WS H (fun k=>k):=by
    refine⟨l1,⟨b,b1,b2,b3,b4,?_⟩,hE,o,inn⟩
    rw [b5,hlen,Nat.sub_self]
    show vsOf rs++ []=(vsOf rs).take O++(List.range (N-O)).map (fun k=>(rAt (rs.drop O) k).v)++ []
    have e:(List.range (N-O)).map (fun k=>(rAt (rs.drop O) k).v)=(vsOf rs).drop O:=by
      have:=congrArg (List.map (·.v)) (range_rAt (rs.drop O))
      rw [List.map_map,hld]at this
      rw [vsOf,← List.map_drop]
      exact this
    rw [e,List.take_append_drop]
  obtain⟨H',D,⟨w1,⟨b',d1,d2,d3,d4,d5⟩,w3⟩,f⟩:=s3 H hw
  refine⟨σ,s1,s2,H',D,⟨w1,b',d1,d2,d3,d4,?_⟩,f⟩
  have hl2:(vsOf (srtR rs O σ)).length=N:=by
    unfold srtR
    simp only [vsOf,List.length_map,List.length_append,List.length_take,List.length_range]
    omega
  rw [hl2,Nat.sub_self,d5]
  show(vsOf rs).take O++(List.range (N-O)).map (fun k=>(rAt (rs.drop O) (σ k)).v)++ []=vsOf (srtR rs O σ)++ []
  unfold srtR
  rw [vsOf,vsOf,List.map_append,List.map_map,hN,List.map_take]
  rfl
theorem tsort_does {H:AHeap} {orow qf:Nat} {rv ov:AVal} {hv:Bool} {rsA:List Rr} {ks:List Key} {xs:List AVal} (hN:rsA.length<2^41) (ra:Rd H orow rv (vsOf rsA)) (rin: ∀ r∈rsA,Rd H r.q r.v (r.l.map AVal.str)) (ho:orow<H.next) (hq: ∀ r∈rsA,r.q<H.next) (hrow: ∀ r∈rsA,(r.l.length+r.l.length / 4+512)*16≤2^48) (short: ∀ r∈rsA,Short r.l)
    (of:Rd H qf ov xs) (hqf:qf<H.next) (hxs:xs.length=ks.length) (hk: ∀ i (h1:i<xs.length) (h2:i<ks.length),KeyAt H H.next xs[i] ks[i]) (hks:ks.length<2^59) :
    ∃ v H' B o rs σ,FDoes Tryz.prog cnd 35 [rv,.bool hv,ov] H v H'∧Tb H' B H'.next v o (srtR rs (if hv=true then min 1 rs.length else 0) σ)∧lsOf rs=lsOf rsA∧H.next≤B∧Fr H H' []∧v= .slice (some ⟨o,0,0,0,1⟩) rsA.length rsA.length ∧
      Same (fun k=>k) σ 0 (rs.length- (if hv=true then min 1 rs.length else 0))∧Srt (lessK ks (fun k=>(rAt (rs.drop (if hv=true then min 1 rs.length else 0)) k).l)) σ 0 (rs.length- (if hv=true then min 1 rs.length else 0)):=by
  obtain⟨ro,rc,rfl⟩:=ra.sl
  rw [List.length_map]at ra ⊢
  obtain⟨bx,ebx,lbx⟩:=boxF (F:= [(0,AVal.slice ro rsA.length rc),(1,.bool hv),(2,ov)]) (k:=2) (nid:=H.next+0) (H:=up H 2) rfl of.sv
  let H1:AHeap:=(up H 2).set H.next bx
  let H2:AHeap:=(up H1 4).set (H1.next+2) (ABlk.made (List.replicate rsA.length (.slice none 0 0)) 1 true)
  have n1:H1.next=H.next+2:=rfl
  have n2:H2.next=H.next+6:=rfl
  have f01:Fr H H1 []:=(Fr.up H 2 []).trans (Fr.set (L:= [H.next]) (up H 2) _ _ (by simp)) (by intro x hx;simp at hx;omega)
  have f12:Fr H1 H2 []:=(Fr.up H1 4 []).trans (Fr.set (L:= [H1.next+2]) (up H1 4) _ _ (by simp)) (by intro x hx;simp at hx;omega)
  have f23:=Fr.up H2 3 []
  have f03:Fr H (up H2 3) []:=(f01.trans f12 (by simp)).trans f23 (by simp)
  have gz: ∀ {G:AHeap},Fr H1 G []→G.get H.next=some bx:=fun m=>(m.get H.next (by omega) (by simp)).trans (AHeap.get_set_self _ _ _)
  obtain⟨H3,rs,L,ob,inn,nd,ge,hls,n3,low⟩:=so_loop (B:=H.next) (B0:=H.next+2) (N:=rsA.length) (Q:=H.next+4) (z:=H.next) (orow:=orow) (rc:=rc) (ro:=ro) (hv:=hv) (rsA:=rsA) rfl hN (by omega) (by omega) (fun r hr=>by have:=hq r hr;omega) hrow (by omega) rsA.length 0 (up H2 3) [] (by omega) (ra.fr f03 (by simp)) (fun r hr=>(rin r hr).fr f03 (by simp))
    ⟨by show H.next+4<H.next+6+3;omega,ABlk.made (List.replicate rsA.length (.slice none 0 0)) 1 true,AHeap.get_set_self _ _ _,rfl,rfl,rfl,by simp [ABlk.made]⟩ (by simp) (by simp) (fun x hx=>by simp at hx;subst hx;exact⟨by omega,by show H.next+4<H.next+6+3;omega⟩) rfl
  have n3:H.next+9≤H3.next:=n3
  have hlen:rs.length=rsA.length:=by have:=congrArg List.length hls;simpa using this
  have low0:Low H.next H H3:=⟨by omega,fun x hx=>by rw [low x (by omega)];exact f03.get x hx (by simp)⟩
  have hz3:H3.get H.next=some bx:=by rw [low H.next (by omega)];exact gz ((f12.trans f23 (by simp)))
  have ord:OrdAt H3 (H.next+2) H.next ks:=by
    refine⟨⟨ov,qf,xs,lbx H3 hz3,by omega,of.low low0 hqf,hxs,fun i i1 i2=> ?_⟩,by omega⟩
    have k:=(hk i i1 i2).low low0
    exact⟨k.v,fun p q e=>by have:=k.lt p q e;omega⟩
  have ndq:=nd
  rw [List.nodup_cons]at ndq
  have hqQ: ∀ r∈rs,r.q≠H.next+4:=fun r hr e=>ndq.1 (e▸List.mem_map.2 ⟨r,hr,rfl⟩)
  have shortR: ∀ r∈rs,Short r.l:=fun r hr=>by
    have:r.l∈lsOf rsA:=by rw [← hls];exact List.mem_map.2 ⟨r,hr,rfl⟩
    obtain⟨r',hr',e⟩:=List.mem_map.1 this
    rw [← e];exact short r' hr'
  have fin: ∀ (O m:Nat),O≤rsA.length→ ∃ σ,Same (fun k=>k) σ 0 (rsA.length-O)∧Srt (lessK ks (fun k=>(rAt (rs.drop O) k).l)) σ 0 (rsA.length-O)∧ ∃ H4,FDoes Tryz.prog cnd 72 [.slice (some ⟨H.next+4,0,O,0,1⟩) (rsA.length-O) (rsA.length-O),.func (.func 73) [] [.ptr (some ⟨H.next,0,0,0,1⟩)]] (up H3 m) (.tuple []) H4 ∧
      H3.next+m≤H4.next∧Tb (up H4 2) (H.next+2) (up H4 2).next (.slice (some ⟨H.next+4,0,0,0,1⟩) rsA.length rsA.length) (H.next+4) (srtR rs O σ)∧Fr H (up H4 2) []:=by
    intro O m hO
    have fm:=Fr.up H3 m []
    have lm:Low (H.next+2) H3 (up H3 m):=⟨by show H3.next≤H3.next+m;omega,fun _ _=>rfl⟩
    obtain⟨σ,s1,s2,H4,D,ob4,f4⟩:=body_sort (O:=O) (z:=H.next) (ks:=ks) hO hlen hN (ob.fr fm (by simp)) (fun r hr=>((inn r hr).rd).fr fm (by simp)) hqQ shortR (ord.low lm) hks (by show H.next+2≤H3.next+m;omega) (by omega)
    have n4:H3.next+m≤H4.next:=f4.next
    refine⟨σ,s1,s2,H4,D,n4,?_,?_⟩
    · have hp:=srtR_perm rs (O:=O) (by omega) (σ:=σ) (by rw [hlen];exact s1)
      have f5:=Fr.up H4 2 []
      have f35:Fr H3 (up H4 2) [H.next+4]:=((fm.sub (M:= [H.next+4]) (by simp)).trans f4 (fun x hx _=>hx)).trans f5 (by simp)
      have hpq:=hp.map (·.q)
      refine⟨?_,fun r hr=>(inn r (hp.mem_iff.1 hr)).fr f35 (by simpa using hqQ r (hp.mem_iff.1 hr)),?_,fun x hx=> ?_⟩
      · obtain⟨w1,b,b1,b2,b3,b4,b5⟩:=ob4
        have hl:(vsOf (srtR rs O σ)).length=rsA.length:=by
          have:=hp.length_eq
          rw [List.length_map];omega
        refine .inr ⟨b,by rw [b2,hl],by show H.next+4<H4.next+2;omega,b1,?_,b3,.inl b4⟩
        rw [b5,hl,Nat.sub_self];simp
      · rw [List.nodup_cons]
        exact⟨fun k=>ndq.1 (hpq.mem_iff.1 k),hpq.symm.nodup ndq.2⟩
      · have:x∈(H.next+4)::qsOf rs:=by
          rcases List.mem_cons.1 hx with h | h
          · rw [h];simp
          · exact List.mem_cons_of_mem _ (hpq.mem_iff.1 h)
        have:=ge x this
        exact⟨this.1,by show x<H4.next+2;omega⟩
    · refine⟨by show H.next≤H4.next+2;omega,fun x hx _=> ?_⟩
      show H4.get x=H.get x
      rw [f4.get x (by show x<H3.next+m;omega) (by simp;omega)]
      exact low0.2 x hx
  cases hv with
  | false =>
    simp only [Bool.false_eq_true,if_false]
    obtain⟨σ,s1,s2,H4,D,n4,tb,fr⟩:=fin 0 11 (Nat.zero_le _)
    rw [Nat.sub_zero]at D
    obtain⟨v,h1,hd,rfl,rfl⟩:=soC_vc H H1 H2 H3 H4 rsA.length rc H.next (H.next+4) ro ov (fun v h1=>v= .slice (some ⟨H.next+4,0,0,0,1⟩) rsA.length rsA.length∧h1=up H4 2)
      (bifL (Nat.le_refl _) ⟨ebx,bifL (by omega) ⟨mkRows rfl (by omega),bifL (by omega) ⟨Runs.of_loops L,bifL (by omega) (bifL (by omega) (bifL (by omega) ⟨⟨D⟩,bifL (by omega) (condL (by omega) ⟨rfl,rfl⟩)⟩))⟩⟩⟩)
    exact⟨_,_,H.next+2,H.next+4,rs,σ,hd,tb,hls,by omega,fr,rfl,by rw [hlen];exact s1,by rw [hlen];exact s2⟩
  | true =>
    simp only [if_true]
    by_cases h0:0<rs.length
    · have hm:min 1 rs.length=1:=by omega
      obtain⟨σ,s1,s2,H4,D,n4,tb,fr⟩:=fin 1 14 (by omega)
      obtain⟨v,h1,hd,rfl,rfl⟩:=soA_vc H H1 H2 H3 H4 rsA.length rc H.next (H.next+4) ro ov (.slice (some ⟨H.next+4,0,1,0,1⟩) (rsA.length-1) (rsA.length-1)) (fun v h1=>v= .slice (some ⟨H.next+4,0,0,0,1⟩) rsA.length rsA.length∧h1=up H4 2)
        (bifL (Nat.le_refl _) ⟨ebx,bifL (by omega) ⟨mkRows rfl (by omega),bifL (by omega) ⟨Runs.of_loops L,bifL (by omega) (bifL (by omega) ⟨boolT (by omega),bifL (by omega) ⟨slice1 (by omega),bifL (by omega) ⟨⟨D⟩,bifL (by omega) (condL (by omega) ⟨rfl,rfl⟩)⟩⟩⟩)⟩⟩⟩)
      exact⟨_,_,H.next+2,H.next+4,rs,σ,hd,by rw [hm];exact tb,hls,by omega,fr,rfl,by rw [hm,hlen];exact s1,by rw [hm,hlen];exact s2⟩
    · have hm:min 1 rs.length=0:=by omega
      obtain⟨σ,s1,s2,H4,D,n4,tb,fr⟩:=fin 0 11 (Nat.zero_le _)
      rw [Nat.sub_zero]at D
      obtain⟨v,h1,hd,rfl,rfl⟩:=soB_vc H H1 H2 H3 H4 rsA.length rc H.next (H.next+4) ro ov (fun v h1=>v= .slice (some ⟨H.next+4,0,0,0,1⟩) rsA.length rsA.length∧h1=up H4 2)
        (bifL (Nat.le_refl _) ⟨ebx,bifL (by omega) ⟨mkRows rfl (by omega),bifL (by omega) ⟨Runs.of_loops L,bifL (by omega) (bifL (by omega) ⟨boolF (by omega),bifL (by omega) ⟨⟨D⟩,bifL (by omega) (condL (by omega) ⟨rfl,rfl⟩)⟩⟩)⟩⟩⟩)
      exact⟨_,_,H.next+2,H.next+4,rs,σ,hd,by rw [hm];exact tb,hls,by omega,fr,rfl,by rw [hm,hlen];exact s1,by rw [hm,hlen];exact s2⟩
end Go.Proofs.YtjpfnbihopoeeaaGreatDoor
namespace Go.Proofs.YtjpfnbihopoeeaaGreatDoor
open Go.Lift
set_option maxRecDepth 1000000
theorem tmST_vp(H:AHeap)(B N c i k m mc:Nat)(mo:Option AAddr)(va rv:AVal)(p q r:AAddr)(x y:Bys)(K0:AExit→Facts→AHeap→Prop)(vc:bif Nat.ble B (AHeap.next H) && true then some (AVal.bool (decide ((↑k:Int)<(↑m:Int))))=some (AVal.bool true)∧bif Nat.ble B (AHeap.next H+7) && true then aindexAddr (AEnv.D env) 22 va (AVal.int IntKind.i64 (↑i:Int))=some (AVal.ptr (some p))∧aload (AEnv.D env) 36 p (AHeap.mk (AHeap.next H+20) (H.2))=some rv∧AAddr.id p<AHeap.next H+7∧aindexAddr (AEnv.D env) 36 rv (AVal.int IntKind.i64 (↑k:Int))=some (AVal.ptr (some q))∧aload (AEnv.D env) 9 q (AHeap.mk (AHeap.next H+20) (H.2))=some (AVal.str x)∧AAddr.id q<AHeap.next H+7∧aindexAddr (AEnv.D env) 36 (AVal.slice mo m mc) (AVal.int IntKind.i64 (↑k:Int))=some (AVal.ptr (some r))∧aload (AEnv.D env) 9 r (AHeap.mk (AHeap.next H+20) (H.2))=some (AVal.str y)∧AAddr.id r<AHeap.next H+7∧some (AVal.bool (x == y))=some (AVal.bool true)∧bif Nat.ble B (AHeap.next H+20) && true then(-9223372036854775808≤(↑k:Int)+1∧(↑k:Int)+1≤9223372036854775807)∧K0 AExit.normal [(0,va),(1,AVal.slice mo m mc),(5,AVal.int IntKind.i64 (↑c:Int)),(6,AVal.int IntKind.i64 (↑i:Int)),(7,AVal.bool true),(8,AVal.int IntKind.i64 ((↑k:Int)+1)),(10,AVal.int IntKind.i64 (↑N:Int)),(11,AVal.int IntKind.i64 (↑i:Int))] (AHeap.mk (AHeap.next H+20+3) (AHeap.blks (AHeap.mk (AHeap.next H+7+13) (AHeap.blks (AHeap.mk (AHeap.next H+7) (AHeap.blks H))))))else False else False else False) :
    ∃ e F1 h1,Runs Tryz.prog cnd B 48 (loopAt Tryz.prog 36 1) [(0,va),(1,.slice mo m mc),(5,.int .i64 c),(6,.int .i64 i),(7,.bool true),(8,.int .i64 k),(10,.int .i64 N),(11,.int .i64 i)] H e F1 h1∧K0 e F1 h1 :=
  tpath_runs env_ok mixed noSpecs_ok (hs:= .hint (.val 7005 (AVal.bool true)) (.hint (.val 9002 (AVal.ptr (some p))) (.hint (.farV 9003 rv) (.hint (.val 9005 (AVal.ptr (some q))) (.hint (.farV 9006 (AVal.str x)) (.hint (.val 9009 (AVal.ptr (some r))) (.hint (.farV 9010 (AVal.str y)) (.hint (.val 9011 (AVal.bool true)) (.hint (.go 8001) .nil))))))))) (keep:= [0,1,5,6,7,8,10,11]) (by kernel_rfl) vc
theorem tmSF_vp(H:AHeap)(B N c i k m mc:Nat)(mo:Option AAddr)(va rv:AVal)(p q r:AAddr)(x y:Bys)(K0:AExit→Facts→AHeap→Prop)(vc:bif Nat.ble B (AHeap.next H) && true then some (AVal.bool (decide ((↑k:Int)<(↑m:Int))))=some (AVal.bool true)∧bif Nat.ble B (AHeap.next H+7) && true then aindexAddr (AEnv.D env) 22 va (AVal.int IntKind.i64 (↑i:Int))=some (AVal.ptr (some p))∧aload (AEnv.D env) 36 p (AHeap.mk (AHeap.next H+20) (H.2))=some rv∧AAddr.id p<AHeap.next H+7∧aindexAddr (AEnv.D env) 36 rv (AVal.int IntKind.i64 (↑k:Int))=some (AVal.ptr (some q))∧aload (AEnv.D env) 9 q (AHeap.mk (AHeap.next H+20) (H.2))=some (AVal.str x)∧AAddr.id q<AHeap.next H+7∧aindexAddr (AEnv.D env) 36 (AVal.slice mo m mc) (AVal.int IntKind.i64 (↑k:Int))=some (AVal.ptr (some r))∧aload (AEnv.D env) 9 r (AHeap.mk (AHeap.next H+20) (H.2))=some (AVal.str y)∧AAddr.id r<AHeap.next H+7∧some (AVal.bool (x == y))=some (AVal.bool false)∧bif Nat.ble B (AHeap.next H+20) && true then(-9223372036854775808≤(↑k:Int)+1∧(↑k:Int)+1≤9223372036854775807)∧K0 AExit.normal [(0,va),(1,AVal.slice mo m mc),(5,AVal.int IntKind.i64 (↑c:Int)),(6,AVal.int IntKind.i64 (↑i:Int)),(7,AVal.bool false),(8,AVal.int IntKind.i64 ((↑k:Int)+1)),(10,AVal.int IntKind.i64 (↑N:Int)),(11,AVal.int IntKind.i64 (↑i:Int))] (AHeap.mk (AHeap.next H+20+3) (AHeap.blks (AHeap.mk (AHeap.next H+7+13) (AHeap.blks (AHeap.mk (AHeap.next H+7) (AHeap.blks H))))))else False else False else False) :
    ∃ e F1 h1,Runs Tryz.prog cnd B 48 (loopAt Tryz.prog 36 1) [(0,va),(1,.slice mo m mc),(5,.int .i64 c),(6,.int .i64 i),(7,.bool true),(8,.int .i64 k),(10,.int .i64 N),(11,.int .i64 i)] H e F1 h1∧K0 e F1 h1 :=
  tpath_runs env_ok mixed noSpecs_ok (hs:= .hint (.val 7005 (AVal.bool true)) (.hint (.val 9002 (AVal.ptr (some p))) (.hint (.farV 9003 rv) (.hint (.val 9005 (AVal.ptr (some q))) (.hint (.farV 9006 (AVal.str x)) (.hint (.val 9009 (AVal.ptr (some r))) (.hint (.farV 9010 (AVal.str y)) (.hint (.val 9011 (AVal.bool false)) (.hint (.go 8001) .nil))))))))) (keep:= [0,1,5,6,7,8,10,11]) (by kernel_rfl) vc
theorem tmE_vp(H:AHeap)(B N c i k m mc:Nat)(mo:Option AAddr)(va:AVal)(K0:AExit→Facts→AHeap→Prop)(vc:bif Nat.ble B (AHeap.next H) && true then some (AVal.bool (decide ((↑k:Int)<(↑m:Int))))=some (AVal.bool false)∧K0 (AExit.exit 2) [(0,va),(1,AVal.slice mo m mc),(5,AVal.int IntKind.i64 (↑c:Int)),(6,AVal.int IntKind.i64 (↑i:Int)),(7,AVal.bool true),(8,AVal.int IntKind.i64 (↑k:Int)),(10,AVal.int IntKind.i64 (↑N:Int)),(11,AVal.int IntKind.i64 (↑i:Int))] (AHeap.mk (AHeap.next H+7) (AHeap.blks H))else False) :
    ∃ e F1 h1,Runs Tryz.prog cnd B 48 (loopAt Tryz.prog 36 1) [(0,va),(1,.slice mo m mc),(5,.int .i64 c),(6,.int .i64 i),(7,.bool true),(8,.int .i64 k),(10,.int .i64 N),(11,.int .i64 i)] H e F1 h1∧K0 e F1 h1 :=
  tpath_runs env_ok mixed noSpecs_ok (hs:= .hint (.val 7005 (AVal.bool false)) .nil) (keep:= [0,1,5,6,7,8,10,11]) (by kernel_rfl) vc
theorem tmF_vp(H:AHeap)(B N c i k m mc:Nat)(mo:Option AAddr)(va:AVal)(K0:AExit→Facts→AHeap→Prop)(vc:bif Nat.ble B (AHeap.next H) && true then K0 (AExit.exit 2) [(0,va),(1,AVal.slice mo m mc),(5,AVal.int IntKind.i64 (↑c:Int)),(6,AVal.int IntKind.i64 (↑i:Int)),(7,AVal.bool false),(8,AVal.int IntKind.i64 (↑k:Int)),(10,AVal.int IntKind.i64 (↑N:Int)),(11,AVal.int IntKind.i64 (↑i:Int))] (AHeap.mk (AHeap.next H+7) (AHeap.blks H))else False) :
    ∃ e F1 h1,Runs Tryz.prog cnd B 48 (loopAt Tryz.prog 36 1) [(0,va),(1,.slice mo m mc),(5,.int .i64 c),(6,.int .i64 i),(7,.bool false),(8,.int .i64 k),(10,.int .i64 N),(11,.int .i64 i)] H e F1 h1∧K0 e F1 h1 :=
  tpath_runs env_ok mixed noSpecs_ok (hs:= .nil) (keep:= [0,1,5,6,7,8,10,11]) (by kernel_rfl) vc
theorem tm0TT_vp(H H1:AHeap)(B N c i m mc n nc:Nat)(mo no:Option AAddr)(va:AVal)(p:AAddr)(K0:AExit→Facts→AHeap→Prop)(vc:bif Nat.ble B (AHeap.next H) && true then some (AVal.bool (decide ((↑i:Int)<(↑N:Int))))=some (AVal.bool true)∧bif Nat.ble B (AHeap.next H+1) && true then bif Nat.ble B (AHeap.next H+3) && true then aindexAddr (AEnv.D env) 22 va (AVal.int IntKind.i64 (↑i:Int))=some (AVal.ptr (some p))∧aload (AEnv.D env) 36 p (AHeap.mk (AHeap.next H+12) (H.2))=some (AVal.slice no n nc)∧some (AVal.bool ((↑n:Int) == (↑m:Int)))=some (AVal.bool true)∧bif Nat.ble B (AHeap.next H+12) && true then Runs Tryz.prog cnd B 48 (Code.loop (loopAt Tryz.prog 36 1)) [(0,va),(1,AVal.slice mo m mc),(5,AVal.int IntKind.i64 (↑c:Int)),(6,AVal.int IntKind.i64 (↑i:Int)),(7,AVal.bool true),(8,AVal.int IntKind.i64 (0)),(10,AVal.int IntKind.i64 (↑N:Int)),(11,AVal.int IntKind.i64 (↑i:Int))] (AHeap.mk (AHeap.next H+12+1) (AHeap.blks (AHeap.mk (AHeap.next H+3+9) (AHeap.blks (AHeap.mk (AHeap.next H+1+2) (AHeap.blks (AHeap.mk (AHeap.next H+1) (AHeap.blks H)))))))) (AExit.exit 2) [(0,va),(1,AVal.slice mo m mc),(5,AVal.int IntKind.i64 (↑c:Int)),(7,AVal.bool true),(10,AVal.int IntKind.i64 (↑N:Int)),(11,AVal.int IntKind.i64 (↑i:Int))] H1∧bif Nat.ble B (AHeap.next H1) && true then bif Nat.ble B (AHeap.next H1+1) && true then(-9223372036854775808≤(↑c:Int)+1∧(↑c:Int)+1≤9223372036854775807)∧bif Nat.ble B (AHeap.next H1+4) && true then(-9223372036854775808≤(↑i:Int)+1∧(↑i:Int)+1≤9223372036854775807)∧K0 AExit.normal [(0,va),(1,AVal.slice mo m mc),(5,AVal.int IntKind.i64 ((↑c:Int)+1)),(10,AVal.int IntKind.i64 (↑N:Int)),(11,AVal.int IntKind.i64 ((↑i:Int)+1))] (AHeap.mk (AHeap.next H1+4+2) (AHeap.blks (AHeap.mk (AHeap.next H1+1+3) (AHeap.blks (AHeap.mk (AHeap.next H1+1) (AHeap.blks H1))))))else False else False else False else False else False else False else False) :
    ∃ e F1 h1,Runs Tryz.prog cnd B 48 (loopAt Tryz.prog 36 0) [(0,va),(1,.slice mo m mc),(5,.int .i64 c),(10,.int .i64 N),(11,.int .i64 i)] H e F1 h1∧K0 e F1 h1 :=
  tpath_runs env_ok mixed noSpecs_ok (hs:= .hint (.val 3000 (AVal.bool true)) (.hint (.val 5002 (AVal.ptr (some p))) (.hint (.val 5003 (AVal.slice no n nc)) (.hint (.val 5007 (AVal.bool true)) (.hint (.keep [0,1,5,6,7,8,10,11]) (.hint (.loop [(0,va),(1,AVal.slice mo m mc),(5,AVal.int IntKind.i64 (↑c:Int)),(7,AVal.bool true),(10,AVal.int IntKind.i64 (↑N:Int)),(11,AVal.int IntKind.i64 (↑i:Int))] H1 (AExit.exit 2)) (.hint (.go 11001) (.hint (.go 12000) .nil)))))))) (keep:= [0,1,5,10,11]) (by kernel_rfl) vc
theorem tm0TF_vp(H H1:AHeap)(B N c i m mc n nc:Nat)(mo no:Option AAddr)(va:AVal)(p:AAddr)(K0:AExit→Facts→AHeap→Prop)(vc:bif Nat.ble B (AHeap.next H) && true then some (AVal.bool (decide ((↑i:Int)<(↑N:Int))))=some (AVal.bool true)∧bif Nat.ble B (AHeap.next H+1) && true then bif Nat.ble B (AHeap.next H+3) && true then aindexAddr (AEnv.D env) 22 va (AVal.int IntKind.i64 (↑i:Int))=some (AVal.ptr (some p))∧aload (AEnv.D env) 36 p (AHeap.mk (AHeap.next H+12) (H.2))=some (AVal.slice no n nc)∧some (AVal.bool ((↑n:Int) == (↑m:Int)))=some (AVal.bool true)∧bif Nat.ble B (AHeap.next H+12) && true then Runs Tryz.prog cnd B 48 (Code.loop (loopAt Tryz.prog 36 1)) [(0,va),(1,AVal.slice mo m mc),(5,AVal.int IntKind.i64 (↑c:Int)),(6,AVal.int IntKind.i64 (↑i:Int)),(7,AVal.bool true),(8,AVal.int IntKind.i64 (0)),(10,AVal.int IntKind.i64 (↑N:Int)),(11,AVal.int IntKind.i64 (↑i:Int))] (AHeap.mk (AHeap.next H+12+1) (AHeap.blks (AHeap.mk (AHeap.next H+3+9) (AHeap.blks (AHeap.mk (AHeap.next H+1+2) (AHeap.blks (AHeap.mk (AHeap.next H+1) (AHeap.blks H)))))))) (AExit.exit 2) [(0,va),(1,AVal.slice mo m mc),(5,AVal.int IntKind.i64 (↑c:Int)),(7,AVal.bool false),(10,AVal.int IntKind.i64 (↑N:Int)),(11,AVal.int IntKind.i64 (↑i:Int))] H1∧bif Nat.ble B (AHeap.next H1) && true then bif Nat.ble B (AHeap.next H1+1) && true then(-9223372036854775808≤(↑i:Int)+1∧(↑i:Int)+1≤9223372036854775807)∧K0 AExit.normal [(0,va),(1,AVal.slice mo m mc),(5,AVal.int IntKind.i64 (↑c:Int)),(10,AVal.int IntKind.i64 (↑N:Int)),(11,AVal.int IntKind.i64 ((↑i:Int)+1))] (AHeap.mk (AHeap.next H1+1+2) (AHeap.blks (AHeap.mk (AHeap.next H1+1) (AHeap.blks H1))))else False else False else False else False else False else False) :
    ∃ e F1 h1,Runs Tryz.prog cnd B 48 (loopAt Tryz.prog 36 0) [(0,va),(1,.slice mo m mc),(5,.int .i64 c),(10,.int .i64 N),(11,.int .i64 i)] H e F1 h1∧K0 e F1 h1 :=
  tpath_runs env_ok mixed noSpecs_ok (hs:= .hint (.val 3000 (AVal.bool true)) (.hint (.val 5002 (AVal.ptr (some p))) (.hint (.val 5003 (AVal.slice no n nc)) (.hint (.val 5007 (AVal.bool true)) (.hint (.keep [0,1,5,6,7,8,10,11]) (.hint (.loop [(0,va),(1,AVal.slice mo m mc),(5,AVal.int IntKind.i64 (↑c:Int)),(7,AVal.bool false),(10,AVal.int IntKind.i64 (↑N:Int)),(11,AVal.int IntKind.i64 (↑i:Int))] H1 (AExit.exit 2)) (.hint (.go 12000) .nil))))))) (keep:= [0,1,5,10,11]) (by kernel_rfl) vc
theorem tm0FF_vp(H H1:AHeap)(B N c i m mc n nc:Nat)(mo no:Option AAddr)(va:AVal)(p:AAddr)(K0:AExit→Facts→AHeap→Prop)(vc:bif Nat.ble B (AHeap.next H) && true then some (AVal.bool (decide ((↑i:Int)<(↑N:Int))))=some (AVal.bool true)∧bif Nat.ble B (AHeap.next H+1) && true then bif Nat.ble B (AHeap.next H+3) && true then aindexAddr (AEnv.D env) 22 va (AVal.int IntKind.i64 (↑i:Int))=some (AVal.ptr (some p))∧aload (AEnv.D env) 36 p (AHeap.mk (AHeap.next H+12) (H.2))=some (AVal.slice no n nc)∧some (AVal.bool ((↑n:Int) == (↑m:Int)))=some (AVal.bool false)∧bif Nat.ble B (AHeap.next H+12) && true then Runs Tryz.prog cnd B 48 (Code.loop (loopAt Tryz.prog 36 1)) [(0,va),(1,AVal.slice mo m mc),(5,AVal.int IntKind.i64 (↑c:Int)),(6,AVal.int IntKind.i64 (↑i:Int)),(7,AVal.bool false),(8,AVal.int IntKind.i64 (0)),(10,AVal.int IntKind.i64 (↑N:Int)),(11,AVal.int IntKind.i64 (↑i:Int))] (AHeap.mk (AHeap.next H+12+1) (AHeap.blks (AHeap.mk (AHeap.next H+3+9) (AHeap.blks (AHeap.mk (AHeap.next H+1+2) (AHeap.blks (AHeap.mk (AHeap.next H+1) (AHeap.blks H)))))))) (AExit.exit 2) [(0,va),(1,AVal.slice mo m mc),(5,AVal.int IntKind.i64 (↑c:Int)),(7,AVal.bool false),(10,AVal.int IntKind.i64 (↑N:Int)),(11,AVal.int IntKind.i64 (↑i:Int))] H1∧bif Nat.ble B (AHeap.next H1) && true then bif Nat.ble B (AHeap.next H1+1) && true then(-9223372036854775808≤(↑i:Int)+1∧(↑i:Int)+1≤9223372036854775807)∧K0 AExit.normal [(0,va),(1,AVal.slice mo m mc),(5,AVal.int IntKind.i64 (↑c:Int)),(10,AVal.int IntKind.i64 (↑N:Int)),(11,AVal.int IntKind.i64 ((↑i:Int)+1))] (AHeap.mk (AHeap.next H1+1+2) (AHeap.blks (AHeap.mk (AHeap.next H1+1) (AHeap.blks H1))))else False else False else False else False else False else False) :
    ∃ e F1 h1,Runs Tryz.prog cnd B 48 (loopAt Tryz.prog 36 0) [(0,va),(1,.slice mo m mc),(5,.int .i64 c),(10,.int .i64 N),(11,.int .i64 i)] H e F1 h1∧K0 e F1 h1 :=
  tpath_runs env_ok mixed noSpecs_ok (hs:= .hint (.val 3000 (AVal.bool true)) (.hint (.val 5002 (AVal.ptr (some p))) (.hint (.val 5003 (AVal.slice no n nc)) (.hint (.val 5007 (AVal.bool false)) (.hint (.keep [0,1,5,6,7,8,10,11]) (.hint (.loop [(0,va),(1,AVal.slice mo m mc),(5,AVal.int IntKind.i64 (↑c:Int)),(7,AVal.bool false),(10,AVal.int IntKind.i64 (↑N:Int)),(11,AVal.int IntKind.i64 (↑i:Int))] H1 (AExit.exit 2)) (.hint (.go 12000) .nil))))))) (keep:= [0,1,5,10,11]) (by kernel_rfl) vc
theorem tm0E_vp(H:AHeap)(B N c i m mc:Nat)(mo:Option AAddr)(va:AVal)(K0:AExit→Facts→AHeap→Prop)(vc:bif Nat.ble B (AHeap.next H) && true then some (AVal.bool (decide ((↑i:Int)<(↑N:Int))))=some (AVal.bool false)∧K0 (AExit.exit 0) [(0,va),(1,AVal.slice mo m mc),(5,AVal.int IntKind.i64 (↑c:Int)),(10,AVal.int IntKind.i64 (↑N:Int)),(11,AVal.int IntKind.i64 (↑i:Int))] (AHeap.mk (AHeap.next H+1) (AHeap.blks H))else False) :
    ∃ e F1 h1,Runs Tryz.prog cnd B 48 (loopAt Tryz.prog 36 0) [(0,va),(1,.slice mo m mc),(5,.int .i64 c),(10,.int .i64 N),(11,.int .i64 i)] H e F1 h1∧K0 e F1 h1 :=
  tpath_runs env_ok mixed noSpecs_ok (hs:= .hint (.val 3000 (AVal.bool false)) .nil) (keep:= [0,1,5,10,11]) (by kernel_rfl) vc
theorem tm_vc(H H1:AHeap)(N ac m mc c:Nat)(ao mo:Option AAddr)(K0:AVal→AHeap→Prop)(vc:bif Nat.ble (AHeap.next H) (AHeap.next H) && true then bif Nat.ble (AHeap.next H) (AHeap.next H+1) && true then bif Nat.ble (AHeap.next H) (AHeap.next H+2) && true then Runs Tryz.prog cnd (AHeap.next H) 48 (Code.loop (loopAt Tryz.prog 36 0)) [(0,AVal.slice ao N ac),(1,AVal.slice mo m mc),(5,AVal.int IntKind.i64 (0)),(10,AVal.int IntKind.i64 (↑N:Int)),(11,AVal.int IntKind.i64 (0))] (AHeap.mk (AHeap.next H+2+3) (AHeap.blks (AHeap.mk (AHeap.next H+1+1) (AHeap.blks (AHeap.mk (AHeap.next H+1) (AHeap.blks H)))))) (AExit.exit 0) [(5,AVal.int IntKind.i64 (↑c:Int))] H1∧bif Nat.ble (AHeap.next H) (AHeap.next H1) && true then bif Nat.ble (AHeap.next H) (AHeap.next H1+2)then K0 (AVal.int IntKind.i64 (↑c:Int)) (AHeap.mk (AHeap.next H1+2) (AHeap.blks H1))else False else False else False else False else False) :
    ∃ v h1,FDoes Tryz.prog cnd 36 [.slice ao N ac,.slice mo m mc] H v h1∧K0 v h1 :=
  tcall_does env_ok mixed noSpecs_ok (hs:= .hint (.keep [0,1,5,10,11]) (.hint (.loop [(5,AVal.int IntKind.i64 (↑c:Int))] H1 (AExit.exit 0)) .nil)) (by kernel_rfl) vc
theorem sdA_vc(H:AHeap)(N rc:Nat)(ro:Option AAddr)(k:Int)(hv dv:AVal)(K0:AVal→AHeap→Prop)(vc:bif Nat.ble (AHeap.next H) (AHeap.next H) && true then bif Nat.ble (AHeap.next H) (AHeap.next H+1) && true then some (AVal.bool (decide ((↑N:Int)>300)))=some (AVal.bool true)∧bif Nat.ble (AHeap.next H) (AHeap.next H+8) && true then bif Nat.ble (AHeap.next H) (AHeap.next H+10)then K0 (AVal.bool true) (AHeap.mk (AHeap.next H+8+2) (AHeap.blks (AHeap.mk (AHeap.next H+1+7) (AHeap.blks (AHeap.mk (AHeap.next H+1) (AHeap.blks H))))))else False else False else False else False) :
    ∃ v h1,FDoes Tryz.prog cnd 9 [.slice ro N rc,hv,.int .i64 k,dv] H v h1∧K0 v h1 :=
  tcall_does env_ok mixed specsW_ok (hs:= .hint (.val 1005 (AVal.bool true)) .nil) (by kernel_rfl) vc
theorem sd0_vp(H H1 H2 H3:AHeap)(B N rc i c:Nat)(ro:Option AAddr)(hv:Bool)(fv sv av xv yv tv:AVal)(p q:AAddr)(K0:AExit→Facts→AHeap→Prop)(vc:bif Nat.ble B (AHeap.next H) && true then some (AVal.bool (decide ((↑i:Int)<(↑N:Int))))=some (AVal.bool true)∧bif Nat.ble B (AHeap.next H+1) && true then bif Nat.ble B (AHeap.next H+3) && true then aindexAddr (AEnv.D env) 22 (AVal.slice ro N rc) (AVal.int IntKind.i64 (↑i:Int))=some (AVal.ptr (some p))∧aload (AEnv.D env) 36 p (AHeap.mk (AHeap.next H+29) (H.2))=some xv∧AAddr.id p<AHeap.next H+3∧CallT Tryz.prog cnd 36 [sv,xv] (AHeap.mk (AHeap.next H+29) (H.2)) (AVal.int IntKind.i64 (↑c:Int)) H1∧sameOld (AHeap.next H+29) (AHeap.mk (AHeap.next H+29) (H.2)) H1=true∧aindexAddr (AEnv.D env) 22 (AVal.slice ro N rc) (AVal.int IntKind.i64 (↑i:Int))=some (AVal.ptr (some p))∧aload (AEnv.D env) 36 p H1=some xv∧AAddr.id p<AHeap.next H+3∧CallT Tryz.prog cnd 36 [AVal.slice ro N rc,xv] H1 (AVal.int IntKind.i64 (↑c:Int)) H2∧some (AVal.bool ((↑c:Int) != (↑c:Int)))=some (AVal.bool false)∧(-9223372036854775808≤(↑i:Int)+1∧(↑i:Int)+1≤9223372036854775807)∧aslice (AEnv.D env) 22 sv (some (AVal.int IntKind.i64 (↑i:Int))) (some (AVal.int IntKind.i64 ((↑i:Int)+1))) none=some tv∧aindexAddr (AEnv.D env) 22 av (AVal.int IntKind.i64 (↑i:Int))=some (AVal.ptr (some q))∧aload (AEnv.D env) 36 q H2=some yv∧AAddr.id q<AHeap.next H+3∧CallT Tryz.prog cnd 36 [tv,yv] H2 (AVal.int IntKind.i64 (1)) H3∧Agree [sv,xv] [AVal.slice ro N rc,xv] (AHeap.mk (AHeap.next H+29) (H.2)) H1 (AVal.int IntKind.i64 (↑c:Int)) (AVal.int IntKind.i64 (↑c:Int)) H1 H2∧Agree [sv,xv] [tv,yv] (AHeap.mk (AHeap.next H+29) (H.2)) H2 (AVal.int IntKind.i64 (↑c:Int)) (AVal.int IntKind.i64 (1)) H1 H3∧Agree [AVal.slice ro N rc,xv] [tv,yv] H1 H2 (AVal.int IntKind.i64 (↑c:Int)) (AVal.int IntKind.i64 (1)) H2 H3∧bif Nat.ble B (AHeap.next H3) && true then(-9223372036854775808≤(↑i:Int)+1∧(↑i:Int)+1≤9223372036854775807)∧K0 AExit.normal [(0,AVal.slice ro N rc),(1,AVal.bool hv),(9,fv),(10,sv),(11,av),(49,AVal.int IntKind.i64 (↑N:Int)),(50,AVal.int IntKind.i64 ((↑i:Int)+1))] (AHeap.mk (AHeap.next H3+2) (AHeap.blks H3))else False else False else False else False) :
    ∃ e F1 h1,Runs Tryz.prog cnd B 127 (loopAt Tryz.prog 9 0) [(0,.slice ro N rc),(1,.bool hv),(9,fv),(10,sv),(11,av),(49,.int .i64 N),(50,.int .i64 i)] H e F1 h1∧K0 e F1 h1 :=
  tpath_runs env_ok mixed noSpecs_ok (hs:= .hint (.val 9000 (AVal.bool true)) (.hint (.val 11003 (AVal.ptr (some p))) (.hint (.farV 11004 xv) (.hint (.act 11005 (AVal.int IntKind.i64 (↑c:Int)) fun x=>H1) (.hint (.val 11009 (AVal.ptr (some p))) (.hint (.farV 11010 xv) (.hint (.act 11011 (AVal.int IntKind.i64 (↑c:Int)) fun x=>H2) (.hint (.val 11012 (AVal.bool false)) (.hint (.go 11017) (.hint (.val 11018 tv) (.hint (.val 11021 (AVal.ptr (some q))) (.hint (.farV 11022 yv) (.hint (.act 11023 (AVal.int IntKind.i64 1) fun x=>H3) (.hint (.go 13000) .nil)))))))))))))) (keep:= [0,1,9,10,11,49,50]) (by kernel_rfl) vc
theorem sd0E_vp(H:AHeap)(B N rc i:Nat)(ro:Option AAddr)(hv:Bool)(fv sv av:AVal)(K0:AExit→Facts→AHeap→Prop)(vc:bif Nat.ble B (AHeap.next H) && true then some (AVal.bool (decide ((↑i:Int)<(↑N:Int))))=some (AVal.bool false)∧K0 (AExit.exit 0) [(0,AVal.slice ro N rc),(1,AVal.bool hv),(9,fv),(10,sv),(11,av),(49,AVal.int IntKind.i64 (↑N:Int)),(50,AVal.int IntKind.i64 (↑i:Int))] (AHeap.mk (AHeap.next H+1) (AHeap.blks H))else False) :
    ∃ e F1 h1,Runs Tryz.prog cnd B 127 (loopAt Tryz.prog 9 0) [(0,.slice ro N rc),(1,.bool hv),(9,fv),(10,sv),(11,av),(49,.int .i64 N),(50,.int .i64 i)] H e F1 h1∧K0 e F1 h1 :=
  tpath_runs env_ok mixed noSpecs_ok (hs:= .hint (.val 9000 (AVal.bool false)) .nil) (keep:= [0,1,9,10,11,49,50]) (by kernel_rfl) vc
theorem sd1_vp(H H1 H2:AHeap)(B N sc i p q:Nat)(so:Option AAddr)(xv yv:AVal)(u w:AAddr)(r1 r2:Int)(K0:AExit→Facts→AHeap→Prop)(vc:bif Nat.ble B (AHeap.next H) && true then some (AVal.bool (decide ((↑i:Int)<(↑N:Int))))=some (AVal.bool true)∧bif Nat.ble B (AHeap.next H+4) && true then aindexAddr (AEnv.D env) 22 (AVal.slice so N sc) (AVal.int IntKind.i64 (↑i:Int))=some (AVal.ptr (some u))∧aload (AEnv.D env) 36 u (AHeap.mk (AHeap.next H+30) (H.2))=some xv∧AAddr.id u<AHeap.next H+4∧(-9223372036854775808≤(↑i:Int)-1∧(↑i:Int)-1≤9223372036854775807)∧aindexAddr (AEnv.D env) 22 (AVal.slice so N sc) (AVal.int IntKind.i64 ((↑i:Int)-1))=some (AVal.ptr (some w))∧aload (AEnv.D env) 36 w (AHeap.mk (AHeap.next H+30) (H.2))=some yv∧AAddr.id w<AHeap.next H+4∧CallT Tryz.prog cnd 64 [xv,yv,AVal.ptr (some ⟨p,0,0,0,1⟩),AVal.ptr (some ⟨q,0,0,0,1⟩)] (AHeap.mk (AHeap.next H+30) (H.2)) (AVal.int IntKind.i64 r1) H1∧some (AVal.bool (decide (r1<0)))=some (AVal.bool false)∧(-9223372036854775808≤(↑i:Int)-1∧(↑i:Int)-1≤9223372036854775807)∧aindexAddr (AEnv.D env) 22 (AVal.slice so N sc) (AVal.int IntKind.i64 ((↑i:Int)-1))=some (AVal.ptr (some w))∧aload (AEnv.D env) 36 w H1=some yv∧AAddr.id w<AHeap.next H+4∧aindexAddr (AEnv.D env) 22 (AVal.slice so N sc) (AVal.int IntKind.i64 (↑i:Int))=some (AVal.ptr (some u))∧aload (AEnv.D env) 36 u H1=some xv∧AAddr.id u<AHeap.next H+4∧CallT Tryz.prog cnd 64 [yv,xv,AVal.ptr (some ⟨p,0,0,0,1⟩),AVal.ptr (some ⟨q,0,0,0,1⟩)] H1 (AVal.int IntKind.i64 r2) H2∧some (AVal.bool (decide (r2>0)))=some (AVal.bool false)∧Agree [xv,yv,AVal.ptr (some ⟨p,0,0,0,1⟩),AVal.ptr (some ⟨q,0,0,0,1⟩)] [yv,xv,AVal.ptr (some ⟨p,0,0,0,1⟩),AVal.ptr (some ⟨q,0,0,0,1⟩)] (AHeap.mk (AHeap.next H+30) (H.2)) H1 (AVal.int IntKind.i64 r1) (AVal.int IntKind.i64 r2) H1 H2∧bif Nat.ble B (AHeap.next H2) && true then(-9223372036854775808≤(↑i:Int)+1∧(↑i:Int)+1≤9223372036854775807)∧K0 AExit.normal [(9,AVal.func (Fn.func 64) [] [AVal.ptr (some ⟨p,0,0,0,1⟩),AVal.ptr (some ⟨q,0,0,0,1⟩)]),(10,AVal.slice so N sc),(14,AVal.int IntKind.i64 ((↑i:Int)+1))] (AHeap.mk (AHeap.next H2+3) (AHeap.blks H2))else False else False else False) :
    ∃ e F1 h1,Runs Tryz.prog cnd B 127 (loopAt Tryz.prog 9 1) [(9,.func (.func 64) [] [.ptr (some ⟨p,0,0,0,1⟩),.ptr (some ⟨q,0,0,0,1⟩)]),(10,.slice so N sc),(14,.int .i64 i)] H e F1 h1∧K0 e F1 h1 :=
  tpath_runs env_ok mixed noSpecs_ok (hs:= .hint (.val 20003 (AVal.bool true)) (.hint (.val 22003 (AVal.ptr (some u))) (.hint (.farV 22004 xv) (.hint (.go 22007) (.hint (.val 22008 (AVal.ptr (some w))) (.hint (.farV 22009 yv) (.hint (.act 22010 (AVal.int IntKind.i64 r1) fun x=>H1) (.hint (.val 22011 (AVal.bool false)) (.hint (.go 22016) (.hint (.val 22017 (AVal.ptr (some w))) (.hint (.farV 22018 yv) (.hint (.val 22021 (AVal.ptr (some u))) (.hint (.farV 22022 xv) (.hint (.act 22023 (AVal.int IntKind.i64 r2) fun x=>H2) (.hint (.val 22024 (AVal.bool false)) (.hint (.go 21001) .nil)))))))))))))))) (keep:= [9,10,14]) (by kernel_rfl) vc
theorem sd1E_vp(H:AHeap)(B N sc i:Nat)(so:Option AAddr)(fv:AVal)(K0:AExit→Facts→AHeap→Prop)(vc:bif Nat.ble B (AHeap.next H) && true then some (AVal.bool (decide ((↑i:Int)<(↑N:Int))))=some (AVal.bool false)∧K0 (AExit.exit 2) [(9,fv),(10,AVal.slice so N sc),(14,AVal.int IntKind.i64 (↑i:Int))] (AHeap.mk (AHeap.next H+4) (AHeap.blks H))else False) :
    ∃ e F1 h1,Runs Tryz.prog cnd B 127 (loopAt Tryz.prog 9 1) [(9,fv),(10,.slice so N sc),(14,.int .i64 i)] H e F1 h1∧K0 e F1 h1 :=
  tpath_runs env_ok mixed noSpecs_ok (hs:= .hint (.val 20003 (AVal.bool false)) .nil) (keep:= [9,10,14]) (by kernel_rfl) vc
theorem sdB_vc(H H1 H2 H3 H4 H5 H6 H7 H8:AHeap)(N rc sc ac p q z1 z2:Nat)(ro so ao:Option AAddr)(k:Int)(dv:AVal)(tv xv:AVal)(u:AAddr)(K0:AVal→AHeap→Prop)(vc:bif Nat.ble (AHeap.next H) (AHeap.next H) && true then bif Nat.ble (AHeap.next H) (AHeap.next H+1) && true then some (AVal.bool (decide ((↑N:Int)>300)))=some (AVal.bool false)∧bif Nat.ble (AHeap.next H) (AHeap.next H+8) && true then CallT Tryz.prog cnd 32 [AVal.int IntKind.i64 k,dv] (AHeap.mk (AHeap.next H+12) (H.2)) (AVal.func (Fn.func 64) [] [AVal.ptr (some ⟨p,0,0,0,1⟩),AVal.ptr (some ⟨q,0,0,0,1⟩)]) H1∧bif Nat.ble (AHeap.next H) (AHeap.next H1) && true then aop env noCall (AHeap.next H1+3) (getF [(28,AVal.func (Fn.func 64) [] [AVal.ptr (some ⟨p,0,0,0,1⟩),AVal.ptr (some ⟨q,0,0,0,1⟩)]),(27,AVal.bool true),(26,AVal.slice ro N rc),(9,AVal.func (Fn.func 64) [] [AVal.ptr (some ⟨p,0,0,0,1⟩),AVal.ptr (some ⟨q,0,0,0,1⟩)]),(25,AVal.func (Fn.func 64) [] [AVal.ptr (some ⟨p,0,0,0,1⟩),AVal.ptr (some ⟨q,0,0,0,1⟩)]),(24,dv),(23,AVal.int IntKind.i64 k),(21,AVal.bool false),(20,AVal.bool false),(19,AVal.int IntKind.i64 (↑N:Int)),(18,AVal.slice ro N rc),(17,AVal.bool false),(16,AVal.bool false),(15,AVal.bool true),(8,AVal.bool false),(0,AVal.slice ro N rc),(1,AVal.bool true),(2,AVal.int IntKind.i64 k),(3,dv)]) (AHeap.mk (AHeap.next H1+6) (H1.2)) (Op.buildSlice 46 1 {toList:= [(0,Operand.tmp 28)]})=some (AVal.slice (some ⟨z1,0,0,0,1⟩) 1 1,H2)∧CallT Tryz.prog cnd 35 [AVal.slice ro N rc,AVal.bool true,AVal.slice (some ⟨z1,0,0,0,1⟩) 1 1] H2 (AVal.slice so N sc) H3∧bif Nat.ble (AHeap.next H) (AHeap.next H3) && true then aop env noCall (AHeap.next H3+3) (getF [(33,AVal.func (Fn.func 64) [] [AVal.ptr (some ⟨p,0,0,0,1⟩),AVal.ptr (some ⟨q,0,0,0,1⟩)]),(32,AVal.bool true),(31,AVal.slice so N sc),(10,AVal.slice so N sc),(30,AVal.slice so N sc),(29,AVal.slice (some ⟨z1,0,0,0,1⟩) 1 1),(28,AVal.func (Fn.func 64) [] [AVal.ptr (some ⟨p,0,0,0,1⟩),AVal.ptr (some ⟨q,0,0,0,1⟩)]),(27,AVal.bool true),(26,AVal.slice ro N rc),(9,AVal.func (Fn.func 64) [] [AVal.ptr (some ⟨p,0,0,0,1⟩),AVal.ptr (some ⟨q,0,0,0,1⟩)]),(25,AVal.func (Fn.func 64) [] [AVal.ptr (some ⟨p,0,0,0,1⟩),AVal.ptr (some ⟨q,0,0,0,1⟩)]),(24,dv),(23,AVal.int IntKind.i64 k),(21,AVal.bool false),(20,AVal.bool false),(19,AVal.int IntKind.i64 (↑N:Int)),(18,AVal.slice ro N rc),(17,AVal.bool false),(16,AVal.bool false),(15,AVal.bool true),(8,AVal.bool false),(0,AVal.slice ro N rc),(1,AVal.bool true),(2,AVal.int IntKind.i64 k),(3,dv)]) (AHeap.mk (AHeap.next H3+6) (H3.2)) (Op.buildSlice 46 1 {toList:= [(0,Operand.tmp 33)]})=some (AVal.slice (some ⟨z2,0,0,0,1⟩) 1 1,H4)∧CallT Tryz.prog cnd 35 [AVal.slice so N sc,AVal.bool true,AVal.slice (some ⟨z2,0,0,0,1⟩) 1 1] H4 (AVal.slice ao N ac) H5∧bif Nat.ble (AHeap.next H) (AHeap.next H5) && true then some (AVal.bool ((↑N:Int) != (↑N:Int)))=some (AVal.bool false)∧some (AVal.bool ((↑N:Int) != (↑N:Int)))=some (AVal.bool false)∧bif Nat.ble (AHeap.next H) (AHeap.next H5+12) && true then Runs Tryz.prog cnd (AHeap.next H) 127 (Code.loop (loopAt Tryz.prog 9 0)) [(0,AVal.slice ro N rc),(1,AVal.bool true),(9,AVal.func (Fn.func 64) [] [AVal.ptr (some ⟨p,0,0,0,1⟩),AVal.ptr (some ⟨q,0,0,0,1⟩)]),(10,AVal.slice so N sc),(11,AVal.slice ao N ac),(49,AVal.int IntKind.i64 (↑N:Int)),(50,AVal.int IntKind.i64 (0))] (AHeap.mk (AHeap.next H5+12+3) (AHeap.blks (AHeap.mk (AHeap.next H5+12) (AHeap.blks H5)))) (AExit.exit 0) [(0,AVal.slice ro N rc),(1,AVal.bool true),(9,AVal.func (Fn.func 64) [] [AVal.ptr (some ⟨p,0,0,0,1⟩),AVal.ptr (some ⟨q,0,0,0,1⟩)]),(10,AVal.slice so N sc)] H6∧bif Nat.ble (AHeap.next H) (AHeap.next H6) && true then bif Nat.ble (AHeap.next H) (AHeap.next H6+1) && true then some (AVal.bool (decide ((↑N:Int)>0)))=some (AVal.bool true)∧bif Nat.ble (AHeap.next H) (AHeap.next H6+7) && true then bif Nat.ble (AHeap.next H) (AHeap.next H6+8) && true then aslice (AEnv.D env) 22 (AVal.slice so N sc) none (some (AVal.int IntKind.i64 (1))) none=some tv∧aindexAddr (AEnv.D env) 22 (AVal.slice ro N rc) (AVal.int IntKind.i64 (0))=some (AVal.ptr (some u))∧aload (AEnv.D env) 36 u (AHeap.mk (AHeap.next H6+15) (H6.2))=some xv∧AAddr.id u<AHeap.next H6+8∧CallT Tryz.prog cnd 36 [tv,xv] (AHeap.mk (AHeap.next H6+15) (H6.2)) (AVal.int IntKind.i64 (1)) H7∧bif Nat.ble (AHeap.next H) (AHeap.next H7) && true then Runs Tryz.prog cnd (AHeap.next H) 127 (Code.loop (loopAt Tryz.prog 9 1)) [(9,AVal.func (Fn.func 64) [] [AVal.ptr (some ⟨p,0,0,0,1⟩),AVal.ptr (some ⟨q,0,0,0,1⟩)]),(10,AVal.slice so N sc),(14,AVal.int IntKind.i64 (2))] (AHeap.mk (AHeap.next H7+3) (AHeap.blks H7)) (AExit.exit 2) [] H8∧bif Nat.ble (AHeap.next H) (AHeap.next H8) && true then bif Nat.ble (AHeap.next H) (AHeap.next H8+1)then K0 (AVal.bool true) (AHeap.mk (AHeap.next H8+1) (AHeap.blks H8))else False else False else False else False else False else False else False else False else False else False else False else False else False else False) :
    ∃ v h1,FDoes Tryz.prog cnd 9 [.slice ro N rc,.bool true,.int .i64 k,dv] H v h1∧K0 v h1 :=
  tcall_does env_ok mixed specsW_ok (hs:= .hint (.val 1005 (AVal.bool false)) (.hint (.act 3002 (AVal.func (Fn.func 64) [] [AVal.ptr (some ⟨p,0,0,0,1⟩),AVal.ptr (some ⟨q,0,0,0,1⟩)]) fun x=>H1) (.hint (.act 4003 (AVal.slice (some ⟨z1,0,0,0,1⟩) 1 1) fun x=>H2) (.hint (.act 4004 (AVal.slice so N sc) fun x=>H3) (.hint (.act 5003 (AVal.slice (some ⟨z2,0,0,0,1⟩) 1 1) fun x=>H4) (.hint (.act 5004 (AVal.slice ao N ac) fun x=>H5) (.hint (.val 6004 (AVal.bool false)) (.hint (.val 6010 (AVal.bool false)) (.hint (.keep [0,1,9,10,11,49,50]) (.hint (.loop [(0,AVal.slice ro N rc),(1,AVal.bool true),(9,AVal.func (Fn.func 64) [] [AVal.ptr (some ⟨p,0,0,0,1⟩),AVal.ptr (some ⟨q,0,0,0,1⟩)]),(10,AVal.slice so N sc)] H6 (AExit.exit 0)) (.hint (.val 15004 (AVal.bool true)) (.hint (.val 17001 tv) (.hint (.val 17003 (AVal.ptr (some u))) (.hint (.farV 17004 xv) (.hint (.act 17005 (AVal.int IntKind.i64 1) fun x=>H7) (.hint (.keep [9,10,14]) (.hint (.loop [] H8 (AExit.exit 2)) .nil))))))))))))))))) (by kernel_rfl) vc
theorem sdC_vc(H H1 H2 H3 H4 H5 H6 H8:AHeap)(N rc sc ac p q z1 z2:Nat)(ro so ao:Option AAddr)(k:Int)(dv:AVal)(K0:AVal→AHeap→Prop)(vc:bif Nat.ble (AHeap.next H) (AHeap.next H) && true then bif Nat.ble (AHeap.next H) (AHeap.next H+1) && true then some (AVal.bool (decide ((↑N:Int)>300)))=some (AVal.bool false)∧bif Nat.ble (AHeap.next H) (AHeap.next H+8) && true then CallT Tryz.prog cnd 32 [AVal.int IntKind.i64 k,dv] (AHeap.mk (AHeap.next H+12) (H.2)) (AVal.func (Fn.func 64) [] [AVal.ptr (some ⟨p,0,0,0,1⟩),AVal.ptr (some ⟨q,0,0,0,1⟩)]) H1∧bif Nat.ble (AHeap.next H) (AHeap.next H1) && true then aop env noCall (AHeap.next H1+3) (getF [(28,AVal.func (Fn.func 64) [] [AVal.ptr (some ⟨p,0,0,0,1⟩),AVal.ptr (some ⟨q,0,0,0,1⟩)]),(27,AVal.bool true),(26,AVal.slice ro N rc),(9,AVal.func (Fn.func 64) [] [AVal.ptr (some ⟨p,0,0,0,1⟩),AVal.ptr (some ⟨q,0,0,0,1⟩)]),(25,AVal.func (Fn.func 64) [] [AVal.ptr (some ⟨p,0,0,0,1⟩),AVal.ptr (some ⟨q,0,0,0,1⟩)]),(24,dv),(23,AVal.int IntKind.i64 k),(21,AVal.bool false),(20,AVal.bool false),(19,AVal.int IntKind.i64 (↑N:Int)),(18,AVal.slice ro N rc),(17,AVal.bool false),(16,AVal.bool false),(15,AVal.bool true),(8,AVal.bool false),(0,AVal.slice ro N rc),(1,AVal.bool true),(2,AVal.int IntKind.i64 k),(3,dv)]) (AHeap.mk (AHeap.next H1+6) (H1.2)) (Op.buildSlice 46 1 {toList:= [(0,Operand.tmp 28)]})=some (AVal.slice (some ⟨z1,0,0,0,1⟩) 1 1,H2)∧CallT Tryz.prog cnd 35 [AVal.slice ro N rc,AVal.bool true,AVal.slice (some ⟨z1,0,0,0,1⟩) 1 1] H2 (AVal.slice so N sc) H3∧bif Nat.ble (AHeap.next H) (AHeap.next H3) && true then aop env noCall (AHeap.next H3+3) (getF [(33,AVal.func (Fn.func 64) [] [AVal.ptr (some ⟨p,0,0,0,1⟩),AVal.ptr (some ⟨q,0,0,0,1⟩)]),(32,AVal.bool true),(31,AVal.slice so N sc),(10,AVal.slice so N sc),(30,AVal.slice so N sc),(29,AVal.slice (some ⟨z1,0,0,0,1⟩) 1 1),(28,AVal.func (Fn.func 64) [] [AVal.ptr (some ⟨p,0,0,0,1⟩),AVal.ptr (some ⟨q,0,0,0,1⟩)]),(27,AVal.bool true),(26,AVal.slice ro N rc),(9,AVal.func (Fn.func 64) [] [AVal.ptr (some ⟨p,0,0,0,1⟩),AVal.ptr (some ⟨q,0,0,0,1⟩)]),(25,AVal.func (Fn.func 64) [] [AVal.ptr (some ⟨p,0,0,0,1⟩),AVal.ptr (some ⟨q,0,0,0,1⟩)]),(24,dv),(23,AVal.int IntKind.i64 k),(21,AVal.bool false),(20,AVal.bool false),(19,AVal.int IntKind.i64 (↑N:Int)),(18,AVal.slice ro N rc),(17,AVal.bool false),(16,AVal.bool false),(15,AVal.bool true),(8,AVal.bool false),(0,AVal.slice ro N rc),(1,AVal.bool true),(2,AVal.int IntKind.i64 k),(3,dv)]) (AHeap.mk (AHeap.next H3+6) (H3.2)) (Op.buildSlice 46 1 {toList:= [(0,Operand.tmp 33)]})=some (AVal.slice (some ⟨z2,0,0,0,1⟩) 1 1,H4)∧CallT Tryz.prog cnd 35 [AVal.slice so N sc,AVal.bool true,AVal.slice (some ⟨z2,0,0,0,1⟩) 1 1] H4 (AVal.slice ao N ac) H5∧bif Nat.ble (AHeap.next H) (AHeap.next H5) && true then some (AVal.bool ((↑N:Int) != (↑N:Int)))=some (AVal.bool false)∧some (AVal.bool ((↑N:Int) != (↑N:Int)))=some (AVal.bool false)∧bif Nat.ble (AHeap.next H) (AHeap.next H5+12) && true then Runs Tryz.prog cnd (AHeap.next H) 127 (Code.loop (loopAt Tryz.prog 9 0)) [(0,AVal.slice ro N rc),(1,AVal.bool true),(9,AVal.func (Fn.func 64) [] [AVal.ptr (some ⟨p,0,0,0,1⟩),AVal.ptr (some ⟨q,0,0,0,1⟩)]),(10,AVal.slice so N sc),(11,AVal.slice ao N ac),(49,AVal.int IntKind.i64 (↑N:Int)),(50,AVal.int IntKind.i64 (0))] (AHeap.mk (AHeap.next H5+12+3) (AHeap.blks (AHeap.mk (AHeap.next H5+12) (AHeap.blks H5)))) (AExit.exit 0) [(0,AVal.slice ro N rc),(1,AVal.bool true),(9,AVal.func (Fn.func 64) [] [AVal.ptr (some ⟨p,0,0,0,1⟩),AVal.ptr (some ⟨q,0,0,0,1⟩)]),(10,AVal.slice so N sc)] H6∧bif Nat.ble (AHeap.next H) (AHeap.next H6) && true then bif Nat.ble (AHeap.next H) (AHeap.next H6+1) && true then some (AVal.bool (decide ((↑N:Int)>0)))=some (AVal.bool false)∧bif Nat.ble (AHeap.next H) (AHeap.next H6+7) && true then Runs Tryz.prog cnd (AHeap.next H) 127 (Code.loop (loopAt Tryz.prog 9 1)) [(9,AVal.func (Fn.func 64) [] [AVal.ptr (some ⟨p,0,0,0,1⟩),AVal.ptr (some ⟨q,0,0,0,1⟩)]),(10,AVal.slice so N sc),(14,AVal.int IntKind.i64 (1))] (AHeap.mk (AHeap.next H6+7+3) (AHeap.blks (AHeap.mk (AHeap.next H6+1+6) (AHeap.blks (AHeap.mk (AHeap.next H6+1) (AHeap.blks H6)))))) (AExit.exit 2) [] H8∧bif Nat.ble (AHeap.next H) (AHeap.next H8) && true then bif Nat.ble (AHeap.next H) (AHeap.next H8+1)then K0 (AVal.bool true) (AHeap.mk (AHeap.next H8+1) (AHeap.blks H8))else False else False else False else False else False else False else False else False else False else False else False else False) :
    ∃ v h1,FDoes Tryz.prog cnd 9 [.slice ro N rc,.bool true,.int .i64 k,dv] H v h1∧K0 v h1 :=
  tcall_does env_ok mixed specsW_ok (hs:= .hint (.val 1005 (AVal.bool false)) (.hint (.act 3002 (AVal.func (Fn.func 64) [] [AVal.ptr (some ⟨p,0,0,0,1⟩),AVal.ptr (some ⟨q,0,0,0,1⟩)]) fun x=>H1) (.hint (.act 4003 (AVal.slice (some ⟨z1,0,0,0,1⟩) 1 1) fun x=>H2) (.hint (.act 4004 (AVal.slice so N sc) fun x=>H3) (.hint (.act 5003 (AVal.slice (some ⟨z2,0,0,0,1⟩) 1 1) fun x=>H4) (.hint (.act 5004 (AVal.slice ao N ac) fun x=>H5) (.hint (.val 6004 (AVal.bool false)) (.hint (.val 6010 (AVal.bool false)) (.hint (.keep [0,1,9,10,11,49,50]) (.hint (.loop [(0,AVal.slice ro N rc),(1,AVal.bool true),(9,AVal.func (Fn.func 64) [] [AVal.ptr (some ⟨p,0,0,0,1⟩),AVal.ptr (some ⟨q,0,0,0,1⟩)]),(10,AVal.slice so N sc)] H6 (AExit.exit 0)) (.hint (.val 15004 (AVal.bool false)) (.hint (.keep [9,10,14]) (.hint (.loop [] H8 (AExit.exit 2)) .nil))))))))))))) (by kernel_rfl) vc
theorem sdD_vc(H H1 H2 H3 H4 H5 H6 H8:AHeap)(N rc sc ac p q z1 z2:Nat)(ro so ao:Option AAddr)(k:Int)(dv:AVal)(K0:AVal→AHeap→Prop)(vc:bif Nat.ble (AHeap.next H) (AHeap.next H) && true then bif Nat.ble (AHeap.next H) (AHeap.next H+1) && true then some (AVal.bool (decide ((↑N:Int)>300)))=some (AVal.bool false)∧bif Nat.ble (AHeap.next H) (AHeap.next H+8) && true then CallT Tryz.prog cnd 32 [AVal.int IntKind.i64 k,dv] (AHeap.mk (AHeap.next H+12) (H.2)) (AVal.func (Fn.func 64) [] [AVal.ptr (some ⟨p,0,0,0,1⟩),AVal.ptr (some ⟨q,0,0,0,1⟩)]) H1∧bif Nat.ble (AHeap.next H) (AHeap.next H1) && true then aop env noCall (AHeap.next H1+3) (getF [(28,AVal.func (Fn.func 64) [] [AVal.ptr (some ⟨p,0,0,0,1⟩),AVal.ptr (some ⟨q,0,0,0,1⟩)]),(27,AVal.bool false),(26,AVal.slice ro N rc),(9,AVal.func (Fn.func 64) [] [AVal.ptr (some ⟨p,0,0,0,1⟩),AVal.ptr (some ⟨q,0,0,0,1⟩)]),(25,AVal.func (Fn.func 64) [] [AVal.ptr (some ⟨p,0,0,0,1⟩),AVal.ptr (some ⟨q,0,0,0,1⟩)]),(24,dv),(23,AVal.int IntKind.i64 k),(21,AVal.bool false),(20,AVal.bool false),(19,AVal.int IntKind.i64 (↑N:Int)),(18,AVal.slice ro N rc),(17,AVal.bool false),(16,AVal.bool false),(15,AVal.bool true),(8,AVal.bool false),(0,AVal.slice ro N rc),(1,AVal.bool false),(2,AVal.int IntKind.i64 k),(3,dv)]) (AHeap.mk (AHeap.next H1+6) (H1.2)) (Op.buildSlice 46 1 {toList:= [(0,Operand.tmp 28)]})=some (AVal.slice (some ⟨z1,0,0,0,1⟩) 1 1,H2)∧CallT Tryz.prog cnd 35 [AVal.slice ro N rc,AVal.bool false,AVal.slice (some ⟨z1,0,0,0,1⟩) 1 1] H2 (AVal.slice so N sc) H3∧bif Nat.ble (AHeap.next H) (AHeap.next H3) && true then aop env noCall (AHeap.next H3+3) (getF [(33,AVal.func (Fn.func 64) [] [AVal.ptr (some ⟨p,0,0,0,1⟩),AVal.ptr (some ⟨q,0,0,0,1⟩)]),(32,AVal.bool false),(31,AVal.slice so N sc),(10,AVal.slice so N sc),(30,AVal.slice so N sc),(29,AVal.slice (some ⟨z1,0,0,0,1⟩) 1 1),(28,AVal.func (Fn.func 64) [] [AVal.ptr (some ⟨p,0,0,0,1⟩),AVal.ptr (some ⟨q,0,0,0,1⟩)]),(27,AVal.bool false),(26,AVal.slice ro N rc),(9,AVal.func (Fn.func 64) [] [AVal.ptr (some ⟨p,0,0,0,1⟩),AVal.ptr (some ⟨q,0,0,0,1⟩)]),(25,AVal.func (Fn.func 64) [] [AVal.ptr (some ⟨p,0,0,0,1⟩),AVal.ptr (some ⟨q,0,0,0,1⟩)]),(24,dv),(23,AVal.int IntKind.i64 k),(21,AVal.bool false),(20,AVal.bool false),(19,AVal.int IntKind.i64 (↑N:Int)),(18,AVal.slice ro N rc),(17,AVal.bool false),(16,AVal.bool false),(15,AVal.bool true),(8,AVal.bool false),(0,AVal.slice ro N rc),(1,AVal.bool false),(2,AVal.int IntKind.i64 k),(3,dv)]) (AHeap.mk (AHeap.next H3+6) (H3.2)) (Op.buildSlice 46 1 {toList:= [(0,Operand.tmp 33)]})=some (AVal.slice (some ⟨z2,0,0,0,1⟩) 1 1,H4)∧CallT Tryz.prog cnd 35 [AVal.slice so N sc,AVal.bool false,AVal.slice (some ⟨z2,0,0,0,1⟩) 1 1] H4 (AVal.slice ao N ac) H5∧bif Nat.ble (AHeap.next H) (AHeap.next H5) && true then some (AVal.bool ((↑N:Int) != (↑N:Int)))=some (AVal.bool false)∧some (AVal.bool ((↑N:Int) != (↑N:Int)))=some (AVal.bool false)∧bif Nat.ble (AHeap.next H) (AHeap.next H5+12) && true then Runs Tryz.prog cnd (AHeap.next H) 127 (Code.loop (loopAt Tryz.prog 9 0)) [(0,AVal.slice ro N rc),(1,AVal.bool false),(9,AVal.func (Fn.func 64) [] [AVal.ptr (some ⟨p,0,0,0,1⟩),AVal.ptr (some ⟨q,0,0,0,1⟩)]),(10,AVal.slice so N sc),(11,AVal.slice ao N ac),(49,AVal.int IntKind.i64 (↑N:Int)),(50,AVal.int IntKind.i64 (0))] (AHeap.mk (AHeap.next H5+12+3) (AHeap.blks (AHeap.mk (AHeap.next H5+12) (AHeap.blks H5)))) (AExit.exit 0) [(0,AVal.slice ro N rc),(1,AVal.bool false),(9,AVal.func (Fn.func 64) [] [AVal.ptr (some ⟨p,0,0,0,1⟩),AVal.ptr (some ⟨q,0,0,0,1⟩)]),(10,AVal.slice so N sc)] H6∧bif Nat.ble (AHeap.next H) (AHeap.next H6) && true then bif Nat.ble (AHeap.next H) (AHeap.next H6+1) && true then bif Nat.ble (AHeap.next H) (AHeap.next H6+7) && true then Runs Tryz.prog cnd (AHeap.next H) 127 (Code.loop (loopAt Tryz.prog 9 1)) [(9,AVal.func (Fn.func 64) [] [AVal.ptr (some ⟨p,0,0,0,1⟩),AVal.ptr (some ⟨q,0,0,0,1⟩)]),(10,AVal.slice so N sc),(14,AVal.int IntKind.i64 (1))] (AHeap.mk (AHeap.next H6+7+3) (AHeap.blks (AHeap.mk (AHeap.next H6+1+6) (AHeap.blks (AHeap.mk (AHeap.next H6+1) (AHeap.blks H6)))))) (AExit.exit 2) [] H8∧bif Nat.ble (AHeap.next H) (AHeap.next H8) && true then bif Nat.ble (AHeap.next H) (AHeap.next H8+1)then K0 (AVal.bool true) (AHeap.mk (AHeap.next H8+1) (AHeap.blks H8))else False else False else False else False else False else False else False else False else False else False else False else False) :
    ∃ v h1,FDoes Tryz.prog cnd 9 [.slice ro N rc,.bool false,.int .i64 k,dv] H v h1∧K0 v h1 :=
  tcall_does env_ok mixed specsW_ok (hs:= .hint (.val 1005 (AVal.bool false)) (.hint (.act 3002 (AVal.func (Fn.func 64) [] [AVal.ptr (some ⟨p,0,0,0,1⟩),AVal.ptr (some ⟨q,0,0,0,1⟩)]) fun x=>H1) (.hint (.act 4003 (AVal.slice (some ⟨z1,0,0,0,1⟩) 1 1) fun x=>H2) (.hint (.act 4004 (AVal.slice so N sc) fun x=>H3) (.hint (.act 5003 (AVal.slice (some ⟨z2,0,0,0,1⟩) 1 1) fun x=>H4) (.hint (.act 5004 (AVal.slice ao N ac) fun x=>H5) (.hint (.val 6004 (AVal.bool false)) (.hint (.val 6010 (AVal.bool false)) (.hint (.keep [0,1,9,10,11,49,50]) (.hint (.loop [(0,AVal.slice ro N rc),(1,AVal.bool false),(9,AVal.func (Fn.func 64) [] [AVal.ptr (some ⟨p,0,0,0,1⟩),AVal.ptr (some ⟨q,0,0,0,1⟩)]),(10,AVal.slice so N sc)] H6 (AExit.exit 0)) (.hint (.keep [9,10,14]) (.hint (.loop [] H8 (AExit.exit 2)) .nil)))))))))))) (by kernel_rfl) vc
end Go.Proofs.YtjpfnbihopoeeaaGreatDoor
namespace Go.Proofs.YtjpfnbihopoeeaaGreatDoor
open Go.Lift
set_option maxRecDepth 1000000
def cnt(ls:List (List Bys))(l:List Bys):Nat:=ls.countP fun x=>decide (x=l)
theorem cnt_perm {a b:List (List Bys)}(h:a.Perm b)(l:List Bys):cnt a l=cnt b l:=h.countP_eq _
theorem take_last_eq {a b:List Bys}{k:Nat}(ha:k<a.length)(hb:k<b.length)(h:a.take k=b.take k)(e:a[k]=b[k]):a.take (k+1)=b.take (k+1):=by
  rw [List.take_add_one,List.take_add_one,h,List.getElem?_eq_getElem ha,List.getElem?_eq_getElem hb,e]
theorem tm1_loop {B N c i mc orow q q2:Nat} {mo:Option AAddr} {va rv:AVal} {vs:List AVal} {l1 l:List Bys} (hl:l1.length=l.length) (hn:l.length<2^60) (hi:i<vs.length) (ev:vs[i]=rv): ∀ (f k:Nat) (H:AHeap),k+f=l.length→l1.take k=l.take k→B≤H.next→Rd H orow va vs→Rd H q rv (l1.map AVal.str)→Rd H q2 (.slice mo l.length mc) (l.map AVal.str) →
    ∃ n,H.next≤n∧Loops Tryz.prog cnd B 48 (loopAt Tryz.prog 36 1) [(0,va),(1,.slice mo l.length mc),(5,.int .i64 (c:Nat)),(6,.int .i64 (i:Nat)),(7,.bool true),(8,.int .i64 (k:Nat)),(10,.int .i64 (N:Nat)),(11,.int .i64 (i:Nat))] H
      (.exit 2) [(0,va),(1,.slice mo l.length mc),(5,.int .i64 (c:Nat)),(7,.bool (decide (l1=l))),(10,.int .i64 (N:Nat)),(11,.int .i64 (i:Nat))] ⟨n,H.blks⟩:=by
  intro f
  induction f with
  | zero =>
    intro k H hk ht hB r0 r1 r2
    obtain rfl:k=l.length:=by omega
    have he:l1=l:=by
      rw [List.take_of_length_le (by omega),List.take_of_length_le (Nat.le_refl _)]at ht
      exact ht
    obtain⟨e,F1,h1,hr,rfl,rfl,rfl⟩:=tmE_vp H B N c i l.length l.length mc mo va (fun e F1 h1=>e= .exit 2∧F1= [(0,va),(1,.slice mo l.length mc),(5,.int .i64 (c:Nat)),(6,.int .i64 (i:Nat)),(7,.bool true),(8,.int .i64 (l.length:Nat)),(10,.int .i64 (N:Nat)),(11,.int .i64 (i:Nat))]∧h1=up H 7) (bifL hB ⟨boolF (by omega),rfl,rfl,rfl⟩)
    rw [decide_eq_true he]
    exact⟨H.next+7,by omega,(Loops.last (by simp) hr).post (Ent.facts (fle [0,1,5,7,10,11] (by kernel_rfl)))⟩
  | succ f ih =>
    intro k H hk ht hB r0 r1 r2
    have k1:k<l1.length:=by omega
    have k2:k<l.length:=by omega
    obtain⟨p,p1,p2,p3⟩:=r0.at elR hi (by rw [ev];exact r1.sv)
    rw [ev]at p3
    obtain⟨a,a1,a2,a3⟩:=r1.txt k1
    obtain⟨b,b1,b2,b3⟩:=r2.txt k2
    have f0:=Fr.up H 23 []
    by_cases hx:l1[k]=l[k]
    · obtain⟨n,hn',L⟩:=ih (k+1) (up H 23) (by omega) (take_last_eq k1 k2 ht hx) (by show B≤H.next+23;omega) (r0.fr f0 (by simp)) (r1.fr f0 (by simp)) (r2.fr f0 (by simp))
      have hn':H.next+23≤n:=hn'
      obtain⟨e,F1,h1,hr,rfl,rfl,rfl⟩:=tmST_vp H B N c i k l.length mc mo va rv p a b l1[k] l[k] (fun e F1 h1=>e= .normal∧F1= [(0,va),(1,.slice mo l.length mc),(5,.int .i64 (c:Nat)),(6,.int .i64 (i:Nat)),(7,.bool true),(8,.int .i64 ((k+1:Nat):Int)),(10,.int .i64 (N:Nat)),(11,.int .i64 (i:Nat))]∧h1=up H 23)
        (bifL hB ⟨boolT (by omega),bifL (by omega) ⟨p1,p3 _,by omega,a1,a3 _,by omega,b1,b3 _,by omega,by rw [hx];simp,bifL (by omega) ⟨⟨by omega,by omega⟩,rfl,by rw [succI],rfl⟩⟩⟩)
      exact⟨n,by omega,Loops.round hr (Ent.refl _ _ _ _) L⟩
    · have hne: ¬ l1=l:=fun e=>hx (by subst e;rfl)
      have hb:(l1[k] == l[k])=false:=by simpa using hx
      obtain⟨e,F1,h1,hr,rfl,rfl,rfl⟩:=tmSF_vp H B N c i k l.length mc mo va rv p a b l1[k] l[k] (fun e F1 h1=>e= .normal∧F1= [(0,va),(1,.slice mo l.length mc),(5,.int .i64 (c:Nat)),(6,.int .i64 (i:Nat)),(7,.bool false),(8,.int .i64 ((k+1:Nat):Int)),(10,.int .i64 (N:Nat)),(11,.int .i64 (i:Nat))]∧h1=up H 23)
        (bifL hB ⟨boolT (by omega),bifL (by omega) ⟨p1,p3 _,by omega,a1,a3 _,by omega,b1,b3 _,by omega,by rw [hb],bifL (by omega) ⟨⟨by omega,by omega⟩,rfl,by rw [succI],rfl⟩⟩⟩)
      obtain⟨e,F1,h1,hr2,rfl,rfl,rfl⟩:=tmF_vp (up H 23) B N c i (k+1) l.length mc mo va (fun e F1 h1=>e= .exit 2∧F1= [(0,va),(1,.slice mo l.length mc),(5,.int .i64 (c:Nat)),(6,.int .i64 (i:Nat)),(7,.bool false),(8,.int .i64 ((k+1:Nat):Int)),(10,.int .i64 (N:Nat)),(11,.int .i64 (i:Nat))]∧h1=up (up H 23) 7) (bifL (by show B≤H.next+23;omega) ⟨rfl,rfl,rfl⟩)
      rw [decide_eq_false hne]
      exact⟨H.next+30,by omega,Loops.round hr (Ent.refl _ _ _ _) ((Loops.last (by simp) hr2).post (Ent.facts (fle [0,1,5,7,10,11] (by kernel_rfl))))⟩
def Tq(H:AHeap)(o:Nat)(v:AVal)(rs:List Rr):Prop:=Rd H o v (vsOf rs)∧ ∀ r∈rs,Rd H r.q r.v (r.l.map AVal.str)
theorem Tq.up {H:AHeap}{o n:Nat}{v:AVal}{rs:List Rr}(h:Tq H o v rs)(hn:H.next≤n):Tq ⟨n,H.blks⟩ o v rs:=by
  have f:Fr H ⟨n,H.blks⟩ []:=⟨hn,fun _ _ _=>rfl⟩
  exact⟨h.1.fr f (by simp),fun r hr=>(h.2 r hr).fr f (by simp)⟩
theorem Tq.row {H:AHeap}{o:Nat}{v:AVal}{rs:List Rr}(h:Tq H o v rs){i:Nat}(hi:i<rs.length) :
    ∃ a,aindexAddr (AEnv.D env) 22 v (.int .i64 (i:Nat))=some (.ptr (some a))∧a.id<H.next∧ ∀ n,aload (AEnv.D env) 36 a ⟨n,H.blks⟩=some rs[i].v:=by
  have:=h.1.at elR (i:=i) (by simpa using hi) (by rw [List.getElem_map];exact(h.2 _ (List.getElem_mem hi)).sv)
  rw [List.getElem_map]at this
  exact this
theorem tm0_loop {B N orow q2 mc:Nat} {mo:Option AAddr} {va:AVal} {rs:List Rr} {l:List Bys} (hN:N=rs.length) (hN2:N<2^60) (hn:l.length<2^60): ∀ (f i c:Nat) (H:AHeap),i+f=N→c≤i→c=cnt ((lsOf rs).take i) l→B≤H.next→Tq H orow va rs→Rd H q2 (.slice mo l.length mc) (l.map AVal.str) →
    ∃ n,H.next≤n∧Loops Tryz.prog cnd B 48 (loopAt Tryz.prog 36 0) [(0,va),(1,.slice mo l.length mc),(5,.int .i64 (c:Nat)),(10,.int .i64 (N:Nat)),(11,.int .i64 (i:Nat))] H (.exit 0) [(5,.int .i64 (cnt (lsOf rs) l:Nat))] ⟨n,H.blks⟩:=by
  intro f
  induction f with
  | zero =>
    intro i c H hi hci hc hB t r2
    obtain rfl:i=N:=by omega
    obtain⟨e,F1,h1,hr,rfl,rfl,rfl⟩:=tm0E_vp H B i c i l.length mc mo va (fun e F1 h1=>e= .exit 0∧F1= [(0,va),(1,.slice mo l.length mc),(5,.int .i64 (c:Nat)),(10,.int .i64 (i:Nat)),(11,.int .i64 (i:Nat))]∧h1=up H 1) (bifL hB ⟨boolF (by omega),rfl,rfl,rfl⟩)
    rw [List.take_of_length_le (by simp;omega)]at hc
    rw [← hc]
    exact⟨H.next+1,by omega,(Loops.last (by simp) hr).post (Ent.facts (fle [5] (by kernel_rfl)))⟩
  | succ f ih =>
    intro i c H hi hci hc hB t r2
    have hlt:i<rs.length:=by omega
    obtain⟨p,p1,p2,p3⟩:=t.row hlt
    have r1:=t.2 _ (List.getElem_mem hlt)
    obtain⟨no,nc,e0⟩:=r1.sl
    rw [List.length_map]at e0
    have hcs:cnt ((lsOf rs).take (i+1)) l=c+if rs[i].l=l then 1 else 0:=by
      rw [List.take_add_one,List.getElem?_eq_getElem (by simpa using hlt),hc]
      unfold cnt
      rw [List.countP_append,List.getElem_map]
      by_cases e:rs[i].l=l<;>simp [e]
    have u13:H.next≤H.next+13:=by omega
    by_cases hlen:rs[i].l.length=l.length
    · have hz:some (AVal.bool (((rs[i].l.length:Nat):Int) == ((l.length:Nat):Int)))=some (AVal.bool true):=by rw [hlen];simp
      obtain⟨m,hm,L1⟩:=tm1_loop (B:=B) (N:=N) (c:=c) (i:=i) (va:=va) (vs:=vsOf rs) (rv:=rs[i].v) (l1:=rs[i].l) hlen hn (by simpa using hlt) (by rw [List.getElem_map]) l.length 0 (up H 13) (by omega) (by simp) (by show B≤H.next+13;omega) (t.up u13).1 ((t.up u13).2 _ (List.getElem_mem hlt)) (r2.fr (Fr.up H 13 []) (by simp))
      have hm:H.next+13≤m:=hm
      by_cases he:rs[i].l=l
      · rw [decide_eq_true he]at L1
        rw [if_pos he]at hcs
        obtain⟨n,hn',L⟩:=ih (i+1) (c+1) ⟨m+6,H.blks⟩ (by omega) (by omega) hcs.symm (by show B≤m+6;omega) (t.up (by omega)) (r2.fr ⟨by show H.next≤m+6;omega,fun _ _ _=>rfl⟩ (L:= []) (by simp))
        have hn':m+6≤n:=hn'
        obtain⟨e,F1,h1,hr,rfl,rfl,rfl⟩:=tm0TT_vp H ⟨m,H.blks⟩ B N c i l.length mc rs[i].l.length nc mo no va p (fun e F1 h1=>e= .normal∧F1= [(0,va),(1,.slice mo l.length mc),(5,.int .i64 ((c+1:Nat):Int)),(10,.int .i64 (N:Nat)),(11,.int .i64 ((i+1:Nat):Int))]∧h1=⟨m+6,H.blks⟩)
          (bifL hB ⟨boolT (by omega),bifL (by omega) (bifL (by omega) ⟨p1,by rw [← e0];exact p3 _,hz,bifL (by omega) ⟨Runs.of_loops L1,bifL (by show B≤m;omega) (bifL (by show B≤m+1;omega) ⟨⟨by omega,by omega⟩,bifL (by show B≤m+4;omega) ⟨⟨by omega,by omega⟩,rfl,by rw [succI,succI],rfl⟩⟩)⟩⟩)⟩)
        exact⟨n,by omega,Loops.round hr (Ent.refl _ _ _ _) L⟩
      · rw [decide_eq_false he]at L1
        rw [if_neg he,Nat.add_zero]at hcs
        obtain⟨n,hn',L⟩:=ih (i+1) c ⟨m+3,H.blks⟩ (by omega) (by omega) hcs.symm (by show B≤m+3;omega) (t.up (by omega)) (r2.fr ⟨by show H.next≤m+3;omega,fun _ _ _=>rfl⟩ (L:= []) (by simp))
        have hn':m+3≤n:=hn'
        obtain⟨e,F1,h1,hr,rfl,rfl,rfl⟩:=tm0TF_vp H ⟨m,H.blks⟩ B N c i l.length mc rs[i].l.length nc mo no va p (fun e F1 h1=>e= .normal∧F1= [(0,va),(1,.slice mo l.length mc),(5,.int .i64 (c:Nat)),(10,.int .i64 (N:Nat)),(11,.int .i64 ((i+1:Nat):Int))]∧h1=⟨m+3,H.blks⟩)
          (bifL hB ⟨boolT (by omega),bifL (by omega) (bifL (by omega) ⟨p1,by rw [← e0];exact p3 _,hz,bifL (by omega) ⟨Runs.of_loops L1,bifL (by show B≤m;omega) (bifL (by show B≤m+1;omega) ⟨⟨by omega,by omega⟩,rfl,by rw [succI],rfl⟩)⟩⟩)⟩)
        exact⟨n,by omega,Loops.round hr (Ent.refl _ _ _ _) L⟩
    · have he: ¬ rs[i].l=l:=fun e=>hlen (by rw [e])
      rw [if_neg he,Nat.add_zero]at hcs
      have hz:some (AVal.bool (((rs[i].l.length:Nat):Int) == ((l.length:Nat):Int)))=some (AVal.bool false):=by
        have:(((rs[i].l.length:Nat):Int) == ((l.length:Nat):Int))=false:=by rw [beq_eq_false_iff_ne];omega
        rw [this]
      obtain⟨e,F1,h1,hr2,rfl,rfl,rfl⟩:=tmF_vp (up H 13) B N c i 0 l.length mc mo va (fun e F1 h1=>e= .exit 2∧F1= [(0,va),(1,.slice mo l.length mc),(5,.int .i64 (c:Nat)),(6,.int .i64 (i:Nat)),(7,.bool false),(8,.int .i64 ((0:Nat):Int)),(10,.int .i64 (N:Nat)),(11,.int .i64 (i:Nat))]∧h1=up (up H 13) 7) (bifL (by show B≤H.next+13;omega) ⟨rfl,rfl,rfl⟩)
      have L1:=(Loops.last (by simp) hr2).post (Ent.facts (G:= [(0,va),(1,.slice mo l.length mc),(5,.int .i64 (c:Nat)),(7,.bool false),(10,.int .i64 (N:Nat)),(11,.int .i64 (i:Nat))]) (fle [0,1,5,7,10,11] (by kernel_rfl)))
      obtain⟨n,hn',L⟩:=ih (i+1) c (up H 23) (by omega) (by omega) hcs.symm (by show B≤H.next+23;omega) (t.up (by omega)) (r2.fr (Fr.up H 23 []) (by simp))
      have hn':H.next+23≤n:=hn'
      obtain⟨e,F1,h1,hr,rfl,rfl,rfl⟩:=tm0FF_vp H (up (up H 13) 7) B N c i l.length mc rs[i].l.length nc mo no va p (fun e F1 h1=>e= .normal∧F1= [(0,va),(1,.slice mo l.length mc),(5,.int .i64 (c:Nat)),(10,.int .i64 (N:Nat)),(11,.int .i64 ((i+1:Nat):Int))]∧h1=up H 23)
        (bifL hB ⟨boolT (by omega),bifL (by omega) (bifL (by omega) ⟨p1,by rw [← e0];exact p3 _,hz,bifL (by omega) ⟨Runs.of_loops L1,bifL (by show B≤H.next+13+7;omega) (bifL (by show B≤H.next+13+7+1;omega) ⟨⟨by omega,by omega⟩,rfl,by rw [succI],rfl⟩)⟩⟩)⟩)
      exact⟨n,by omega,Loops.round hr (Ent.refl _ _ _ _) L⟩
theorem times_does {H:AHeap}{orow q:Nat}{av v:AVal}{rs:List Rr}{l:List Bys}(hN:rs.length<2^60)(hn:l.length<2^60)(t:Tq H orow av rs)(r:Rd H q v (l.map AVal.str)): ∃ n,H.next<n∧FDoes Tryz.prog cnd 36 [av,v] H (.int .i64 (cnt (lsOf rs) l:Nat)) ⟨n,H.blks⟩:=by
  obtain⟨ao,ac,rfl⟩:=t.1.sl
  obtain⟨mo,mc,rfl⟩:=r.sl
  rw [List.length_map]at t r ⊢
  rw [List.length_map]
  obtain⟨n,hn',L⟩:=tm0_loop (B:=H.next) (N:=rs.length) rfl hN hn rs.length 0 0 (up H 5) (by omega) (Nat.le_refl _) (by simp [cnt]) (by show H.next≤H.next+5;omega) (t.up (by omega)) (r.fr (Fr.up H 5 []) (by simp))
  have hn':H.next+5≤n:=hn'
  obtain⟨v,h1,hd,rfl,rfl⟩:=tm_vc H ⟨n,H.blks⟩ rs.length ac l.length mc (cnt (lsOf rs) l) ao mo (fun v h1=>v= .int .i64 (cnt (lsOf rs) l:Nat)∧h1=⟨n+2,H.blks⟩)
    (bifL (Nat.le_refl _) (bifL (by omega) (bifL (by omega) ⟨Runs.of_loops L,bifL (by show H.next≤n;omega) (condL (by show H.next≤n+2;omega) ⟨rfl,rfl⟩)⟩)))
  exact⟨n+2,by omega,hd⟩
theorem boxI {F:Facts}{k nid:Nat}{x:Int}{H:AHeap}(hF:getF F (.tmp k)= .int .i64 x): ∃ b,aop env noCall nid (getF F) H (Op.box 3 (Operand.tmp k))=some (.ptr (some ⟨nid,0,0,0,1⟩),H.set nid b)∧ ∀ (G:AHeap),G.get nid=some b→ ∀ n,aload (AEnv.D env) 3 ⟨nid,0,0,0,1⟩ ⟨n,G.blks⟩=some (.int .i64 x):=by
  obtain⟨d,d1,d2⟩:=Option.map_eq_some_iff.1 (show(AEnv.D env 3).map (fun d=>(d.kind.isAgg,d.size))=some (false,1)by kernel_rfl)
  have he:env.D 3=some d:=d1
  simp only [Prod.mk.injEq]at d2
  refine⟨.made [.int .i64 x] 1 true (some (3,1)),?_,fun G hg n=> ?_⟩
  · simp only [aop,he,hF]
    rw [if_pos (by rw [d2.1,d2.2];rfl),d2.2]
  · unfold aload
    have hg':AHeap.get ⟨n,G.blks⟩ nid=some (.made [.int .i64 x] 1 true (some (3,1))):=hg
    simp only [d1,hg',d2.1,d2.2]
    rfl
theorem boxB {F:Facts}{k nid:Nat}{x:Bool}{H:AHeap}(hF:getF F (.tmp k)= .bool x): ∃ b,aop env noCall nid (getF F) H (Op.box 4 (Operand.tmp k))=some (.ptr (some ⟨nid,0,0,0,1⟩),H.set nid b)∧ ∀ (G:AHeap),G.get nid=some b→ ∀ n,aload (AEnv.D env) 4 ⟨nid,0,0,0,1⟩ ⟨n,G.blks⟩=some (.bool x):=by
  obtain⟨d,d1,d2⟩:=Option.map_eq_some_iff.1 (show(AEnv.D env 4).map (fun d=>(d.kind.isAgg,d.size))=some (false,1)by kernel_rfl)
  have he:env.D 4=some d:=d1
  simp only [Prod.mk.injEq]at d2
  refine⟨.made [.bool x] 1 true (some (4,1)),?_,fun G hg n=> ?_⟩
  · simp only [aop,he,hF]
    rw [if_pos (by rw [d2.1,d2.2];rfl),d2.2]
  · unfold aload
    have hg':AHeap.get ⟨n,G.blks⟩ nid=some (.made [.bool x] 1 true (some (4,1))):=hg
    simp only [d1,hg',d2.1,d2.2]
    rfl
abbrev byV(p q:Nat):AVal:= .func (.func 64) [] [.ptr (some ⟨p,0,0,0,1⟩),.ptr (some ⟨q,0,0,0,1⟩)]
theorem byM_does(k:Int)(d:Bool)(H:AHeap): ∃ p q H',FDoes Tryz.prog cnd 32 [.int .i64 k,.bool d] H (byV p q) H'∧KeyAt H' H'.next (byV p q) (some (k,d))∧Fr H H' []∧H'.next=H.next+5∧H.next≤p∧H.next≤q:=by
  obtain⟨bi,e1,l1⟩:=boxI (F:= [(0,AVal.int .i64 k),(1,.bool d)]) (k:=0) (nid:=H.next+0) (H:=up H 3) rfl
  let H1:AHeap:=(up H 3).set (H.next+0) bi
  obtain⟨bb,e2,l2⟩:=boxB (F:= [(2,AVal.ptr (some ⟨H.next,0,0,0,1⟩)),(0,AVal.int .i64 k),(1,.bool d)]) (k:=1) (nid:=H.next+1) (H:=H1) rfl
  let H2:AHeap:=H1.set (H.next+1) bb
  obtain⟨v,h1,hd,rfl,rfl⟩:=byM_vc H H1 H2 k d (H.next+1) H.next (fun v h1=>v=byV (H.next+1) H.next∧h1=up H2 2)
    (bifL (Nat.le_refl _) ⟨e1,e2,bifL (by show H.next≤H.next+3;omega) (condL (by show H.next≤H.next+3+2;omega) ⟨rfl,rfl⟩)⟩)
  have g2:(up H2 2).get (H.next+1)=some bb:=AHeap.get_set_self _ _ _
  have g1:(up H2 2).get H.next=some bi:=(AHeap.get_set_ne _ _ (by omega)).trans (AHeap.get_set_self _ _ _)
  refine⟨_,_,_,hd,⟨⟨_,_,rfl,by show H.next+1<H.next+3+2;omega,by show H.next<H.next+3+2;omega,l2 _ g2,l1 _ g1⟩,fun p q e=> ?_⟩,?_,rfl,by omega,Nat.le_refl _⟩
  · simp only [AVal.func.injEq,List.cons.injEq,AVal.ptr.injEq,Option.some.injEq,AAddr.mk.injEq]at e
    show p<H.next+3+2∧q<H.next+3+2
    omega
  · refine⟨by show H.next≤H.next+3+2;omega,fun x hx _=> ?_⟩
    show(AHeap.set _ _ _).get x=_
    rw [AHeap.get_set_ne _ _ (by omega)]
    show(AHeap.set _ _ _).get x=_
    rw [AHeap.get_set_ne _ _ (by omega)]
    rfl
theorem build1F {F:Facts}{k nid:Nat}{x:AVal}{H:AHeap}(hF:getF F (.tmp k)=x)(hx:Sv x):aop env noCall nid (getF F) H (Op.buildSlice 46 1 {toList:= [(0,Operand.tmp k)]})=some (.slice (some ⟨nid,0,0,0,1⟩) 1 1,H.set nid (ABlk.made [x] 1 true)):=by
  have:aop env noCall nid (getF F) H (Op.buildSlice 46 1 {toList:= [(0,Operand.tmp k)]})=abuildSlice (AEnv.D env) 46 1 [(0,x)] nid H:=by rw [← hF];rfl
  refine this.trans ?_
  cases x with
  | agg=>cases hx
  | tuple=>cases hx
  | undef=>cases hx
  | _=>exact(by kernel_rfl)
end Go.Proofs.YtjpfnbihopoeeaaGreatDoor
namespace Go.Proofs.YtjpfnbihopoeeaaGreatDoor
open Go.Lift
set_option maxRecDepth 1000000
theorem rAt_l(rs:List Rr)(k:Nat):(rAt rs k).l=(lsOf rs).getD k []:=by
  unfold rAt
  simp only [List.getD,List.getElem?_map]
  cases rs[k]? <;>rfl
theorem srtR_len(rs:List Rr){O:Nat}(hO:O≤rs.length)(σ:Nat→Nat):(srtR rs O σ).length=rs.length:=by
  unfold srtR
  simp only [List.length_append,List.length_take,List.length_map,List.length_range]
  omega
theorem srtR_tail {rs:List Rr}{O:Nat}(hO:O≤rs.length)(σ:Nat→Nat){k:Nat}(hk:O+k<rs.length):rAt ((srtR rs O σ).drop O) k=rAt (rs.drop O) (σ k):=by
  have e:(srtR rs O σ).drop O=(List.range (rs.length-O)).map (fun k=>rAt (rs.drop O) (σ k)):=by
    unfold srtR
    rw [List.drop_append_of_le_length (by simp;omega),List.drop_of_length_le (by simp;omega),List.nil_append]
  rw [e,rAt_in (by simp;omega)]
  simp
theorem srtR_take {rs:List Rr}{O:Nat}(hO:O≤rs.length)(σ:Nat→Nat):(srtR rs O σ).take O=rs.take O:=by
  unfold srtR
  rw [List.take_append_of_le_length (by simp;omega),List.take_of_length_le (by simp;omega)]
theorem rAt_drop {rs:List Rr}{O k:Nat} :rAt (rs.drop O) k=rAt rs (O+k):=by
  unfold rAt
  simp only [List.getD,List.getElem?_drop]
theorem srtR_order {ks:List Key}{rs:List Rr}{O:Nat}(hO:O≤rs.length){σ:Nat→Nat}(h2:Srt (lessK ks (fun k=>(rAt (rs.drop O) k).l)) σ 0 (rs.length-O)){i j:Nat}(hi:O≤i)(hij:i<j)(hj:j<rs.length):0≤cmpL ks (rAt (srtR rs O σ) j).l (rAt (srtR rs O σ) i).l:=by
  have l:=Lt.le (lessK_weak ks _) (h2 (i-O) (j-O) (Nat.zero_le _) (by omega) (by omega))
  have l:=of_decide_eq_false l
  have e: ∀ k,O≤k→k<rs.length→rAt (srtR rs O σ) k=rAt (rs.drop O) (σ (k-O)):=fun k h1 h2=>by
    rw [← srtR_tail hO σ (k:=k-O) (by omega),rAt_drop,show O+(k-O)=k by omega]
  rw [e i hi (by omega),e j (by omega) hj]
  have l: ¬ cmpL ks (rAt (List.drop O rs) (σ (j-O))).l (rAt (List.drop O rs) (σ (i-O))).l<0:=l
  omega
theorem srtR_again {ks:List Key}{rs1 rs2:List Rr}{O:Nat}{σ1 σ2:Nat→Nat}(hO:O≤rs1.length)(hl:lsOf rs2=lsOf (srtR rs1 O σ1))(h1:Srt (lessK ks (fun k=>(rAt (rs1.drop O) k).l)) σ1 0 (rs1.length-O))
    (s2:Same (fun k=>k) σ2 0 (rs2.length-O)) (h2:Srt (lessK ks (fun k=>(rAt (rs2.drop O) k).l)) σ2 0 (rs2.length-O)):lsOf (srtR rs2 O σ2)=lsOf (srtR rs1 O σ1):=by
  have hlen:rs2.length=rs1.length:=by
    have:=congrArg List.length hl
    simp only [List.length_map]at this
    rw [this,srtR_len rs1 hO]
  have el: ∀ k,(rAt (rs2.drop O) k).l=(rAt (srtR rs1 O σ1) (O+k)).l:=fun k=>by rw [rAt_drop,rAt_l,rAt_l,hl]
  have h0:Srt (lessK ks (fun k=>(rAt (rs2.drop O) k).l)) (fun k=>k) 0 (rs2.length-O):=by
    intro i j _ hij hj
    refine .inr ⟨?_,hij⟩
    have:=srtR_order (ks:=ks) hO h1 (i:=O+i) (j:=O+j) (by omega) (by omega) (by omega)
    show decide (cmpL ks (rAt (rs2.drop O) j).l (rAt (rs2.drop O) i).l<0)=false
    rw [el,el]
    exact decide_eq_false (by omega)
  have id':=sorted_once (lessK_weak ks _) h0 s2 h2
  have:srtR rs2 O σ2=rs2:=by
    unfold srtR
    have e:(List.range (rs2.length-O)).map (fun k=>rAt (rs2.drop O) (σ2 k))=rs2.drop O:=by
      have h:=range_rAt (rs2.drop O)
      rw [List.length_drop]at h
      rw [← h]
      refine List.map_congr_left fun k hk=> ?_
      rw [id' k (List.mem_range.1 hk),h]
    rw [e,List.take_append_drop]
  rw [this,hl]
theorem Rd.part {H:AHeap}{q V O c c' i:Nat}{els:List AVal}(h:Rd H q (.slice (some ⟨q,V,O,0,1⟩) els.length c) els)(hi:i<els.length):Rd H q (.slice (some ⟨q,V,O+i,0,1⟩) 1 c') [els[i]]:=by
  obtain⟨o,c0,e,z,k⟩:=h
  simp only [AVal.slice.injEq]at e
  obtain⟨rfl,_,rfl⟩:=e
  rcases k with k | ⟨ver,off,b,k1,k2,k3,k4⟩
  · rw [k]at hi;simp at hi
  simp only [Option.some.injEq,AAddr.mk.injEq,true_and,and_true]at k1
  obtain⟨rfl,rfl⟩:=k1
  refine⟨_,c',rfl,(fun a h=>by cases h;exact⟨rfl,rfl⟩),.inr ⟨V,O+i,b,rfl,k2,k3,fun j hj=> ?_⟩⟩
  have:j=0:=by simp at hj;omega
  subst this
  exact k4 i hi
theorem sliceIJ {Q V N i:Nat}(hi:i<N):aslice (AEnv.D env) 22 (.slice (some ⟨Q,V,0,0,1⟩) N N) (some (.int .i64 (i:Nat))) (some (.int .i64 ((i:Int)+1))) none=some (.slice (some ⟨Q,V,0+i,0,1⟩) 1 (N-i)):=by
  obtain⟨d,y,d1,d2,x1,x2,x3,_⟩:=slRw.ty
  have d1:AEnv.D env 22=some d:=d1
  have x1:AEnv.D env 36=some y:=x1
  unfold aslice
  simp only [d1,d2,x1,abound]
  rw [if_pos ⟨by omega,by omega⟩]
  simp only []
  rw [if_pos ⟨by omega,by omega⟩]
  simp [x2]
theorem slice01 {Q V N:Nat}(hN:0<N):aslice (AEnv.D env) 22 (.slice (some ⟨Q,V,0,0,1⟩) N N) none (some (.int .i64 1)) none=some (.slice (some ⟨Q,V,0+0,0,1⟩) 1 N):=by
  obtain⟨d,y,d1,d2,x1,x2,x3,_⟩:=slRw.ty
  have d1:AEnv.D env 22=some d:=d1
  have x1:AEnv.D env 36=some y:=x1
  unfold aslice
  simp only [d1,d2,x1,abound]
  rw [if_pos ⟨by omega,by omega⟩]
  simp [x2]
theorem Tq.part {H:AHeap}{q V N c i:Nat}{rs:List Rr}(h:Tq H q (.slice (some ⟨q,V,0,0,1⟩) N c) rs)(hN:rs.length=N)(hi:i<rs.length)(c':Nat):Tq H q (.slice (some ⟨q,V,0+i,0,1⟩) 1 c') [rs[i]]:=by
  refine⟨?_,fun r hr=>by rw [List.mem_singleton.1 hr];exact h.2 _ (List.getElem_mem hi)⟩
  have h1:=h.1
  rw [← hN,show rs.length=(vsOf rs).length by simp]at h1
  have:=h1.part (c':=c') (i:=i) (by simpa using hi)
  rw [List.getElem_map]at this
  exact this
theorem cnt_one(l:List Bys):cnt [l] l=1:=by simp [cnt]
abbrev d0F(rv:AVal)(hv:Bool)(fv sv av:AVal)(N i:Nat):Facts:= [(0,rv),(1,.bool hv),(9,fv),(10,sv),(11,av),(49,.int .i64 (N:Nat)),(50,.int .i64 (i:Nat))]
theorem sd0_loop {B N rc orow oS oA:Nat}{ro:Option AAddr}{hv:Bool}{fv av:AVal}{rsA S1 S2:List Rr}(hA:rsA.length=N)(h1:S1.length=N)(h2:S2.length=N)(hN:N<2^40)(hs: ∀ r∈rsA,r.l.length<2^60)(hs2: ∀ r∈S2,r.l.length<2^60)(hp:(lsOf S1).Perm (lsOf rsA))(he:lsOf S2=lsOf S1): ∀ (f i:Nat) (H:AHeap),i+f=N→B≤H.next→Tq H orow (.slice ro N rc) rsA→Tq H oS (.slice (some ⟨oS,0,0,0,1⟩) N N) S1→Tq H oA av S2 →
    ∃ n,H.next≤n∧Loops Tryz.prog cnd B 127 (loopAt Tryz.prog 9 0) (d0F (.slice ro N rc) hv fv (.slice (some ⟨oS,0,0,0,1⟩) N N) av N i) H (.exit 0) [(0,.slice ro N rc),(1,.bool hv),(9,fv),(10,.slice (some ⟨oS,0,0,0,1⟩) N N)] ⟨n,H.blks⟩:=by
  intro f
  induction f with
  | zero =>
    intro i H hi hB tA tS tB
    obtain rfl:i=N:=by omega
    obtain⟨e,F1,h1,hr,rfl,rfl,rfl⟩:=sd0E_vp H B i rc i ro hv fv (.slice (some ⟨oS,0,0,0,1⟩) i i) av (fun e F1 h1=>e= .exit 0∧F1=d0F (.slice ro i rc) hv fv (.slice (some ⟨oS,0,0,0,1⟩) i i) av i i∧h1=up H 1) (bifL hB ⟨boolF (by omega),rfl,rfl,rfl⟩)
    exact⟨H.next+1,by omega,(Loops.last (by simp) hr).post (Ent.facts (fle [0,1,9,10] (by kernel_rfl)))⟩
  | succ f ih =>
    intro i H hi hB tA tS tB
    have iA:i<rsA.length:=by omega
    have i1:i<S1.length:=by omega
    have i2:i<S2.length:=by omega
    obtain⟨p,p1,p2,p3⟩:=tA.row iA
    obtain⟨q,q1,q2,q3⟩:=tB.row i2
    have hlA:=hs _ (List.getElem_mem iA)
    obtain⟨n1,m1,D1⟩:=times_does (H:=up H 29) (by omega) hlA (tS.up (by omega)) ((tA.2 _ (List.getElem_mem iA)).fr (Fr.up H 29 []) (by simp))
    have m1:H.next+29<n1:=m1
    have f1:Fr H ⟨n1,H.blks⟩ []:=⟨by show H.next≤n1;omega,fun _ _ _=>rfl⟩
    obtain⟨n2,m2,D2⟩:=times_does (H:=⟨n1,H.blks⟩) (by omega) hlA (tA.up (by omega)) ((tA.2 _ (List.getElem_mem iA)).fr f1 (by simp))
    have m2:n1<n2:=m2
    rw [cnt_perm hp]at D1
    have f2:Fr H ⟨n2,H.blks⟩ []:=⟨by show H.next≤n2;omega,fun _ _ _=>rfl⟩
    obtain⟨n3,m3,D3⟩:=times_does (H:=⟨n2,H.blks⟩) (rs:= [S1[i]]) (by simp) (hs2 _ (List.getElem_mem i2)) ((tS.part h1 i1 (N-i)).up (by show H.next≤n2;omega)) ((tB.2 _ (List.getElem_mem i2)).fr f2 (by simp))
    have m3:n2<n3:=m3
    have el:S2[i].l=S1[i].l:=by
      have:=congrArg (fun l=>l[i]?) he
      simpa [i1,i2]using this
    have D3:FDoes Tryz.prog cnd 36 [.slice (some ⟨oS,0,0+i,0,1⟩) 1 (N-i),S2[i].v] ⟨n2,H.blks⟩ (.int .i64 1) ⟨n3,H.blks⟩:=by
      have:cnt (lsOf [S1[i]]) S2[i].l=1:=by rw [el];exact cnt_one _
      rw [this]at D3
      exact D3
    obtain⟨n,hn,L⟩:=ih (i+1) ⟨n3+2,H.blks⟩ (by omega) (by show B≤n3+2;omega) (tA.up (by omega)) (tS.up (by omega)) (tB.up (by omega))
    have hn:n3+2≤n:=hn
    obtain⟨e,F1,h1',hr,rfl,rfl,rfl⟩:=sd0_vp H ⟨n1,H.blks⟩ ⟨n2,H.blks⟩ ⟨n3,H.blks⟩ B N rc i (cnt (lsOf rsA) rsA[i].l) ro hv fv (.slice (some ⟨oS,0,0,0,1⟩) N N) av rsA[i].v S2[i].v (.slice (some ⟨oS,0,0+i,0,1⟩) 1 (N-i)) p q (fun e F1 h1=>e= .normal∧F1=d0F (.slice ro N rc) hv fv (.slice (some ⟨oS,0,0,0,1⟩) N N) av N (i+1)∧h1=⟨n3+2,H.blks⟩)
      (bifL hB ⟨boolT (by omega),bifL (by omega) (bifL (by omega) ⟨p1,p3 _,by omega,⟨D1⟩,sameOld_refl _ (up H 29),p1,p3 _,by omega,⟨D2⟩,by simp,⟨by omega,by omega⟩,sliceIJ (by omega),q1,q3 _,by omega,⟨D3⟩,agNe (by show ¬ H.next+29=n1;omega),agNe (by show ¬ H.next+29=n2;omega),agNe (by show ¬ n1=n2;omega),bifL (by show B≤n3;omega) ⟨⟨by omega,by omega⟩,rfl,by rw [succI],rfl⟩⟩)⟩)
    exact⟨n,by omega,Loops.round hr (Ent.refl _ _ _ _) L⟩
theorem by_call {H:AHeap}{E p q:Nat}{k:Int}{d:Bool}(h:KeyAt H E (byV p q) (some (k,d))){va vb:AVal}{a b:List Bys}{qa qb:Nat}(ra:Rd H qa va (a.map AVal.str))(rb:Rd H qb vb (b.map AVal.str))(sa:Short a)(sb:Short b):FDoes Tryz.prog cnd 64 [va,vb,.ptr (some ⟨p,0,0,0,1⟩),.ptr (some ⟨q,0,0,0,1⟩)] H (.int .i64 (keyI k d a b)) (up H 200):=by
  obtain⟨p',q',e,D⟩:=h.call ra rb sa sb
  simp only [AVal.func.injEq,List.cons.injEq,AVal.ptr.injEq,Option.some.injEq,AAddr.mk.injEq]at e
  obtain⟨_,_,⟨rfl,_⟩,⟨rfl,_⟩,_⟩:=e
  exact D
theorem sd1_loop {B E N oS p q:Nat}{k:Int}{d:Bool}{S1:List Rr}(h1:S1.length=N)(hN:N<2^40)(short: ∀ r∈S1,Short r.l): ∀ (f i:Nat) (H:AHeap),(i+f=N∨(f=0∧N≤i))→i<2^41→1≤i→(∀ j,i≤j→j<N→0≤keyI k d (rAt S1 j).l (rAt S1 (j-1)).l)→B≤H.next→Tq H oS (.slice (some ⟨oS,0,0,0,1⟩) N N) S1→KeyAt H E (byV p q) (some (k,d)) →
    ∃ n,H.next≤n∧Loops Tryz.prog cnd B 127 (loopAt Tryz.prog 9 1) [(9,byV p q),(10,.slice (some ⟨oS,0,0,0,1⟩) N N),(14,.int .i64 (i:Nat))] H (.exit 2) [] ⟨n,H.blks⟩:=by
  intro f
  induction f with
  | zero =>
    intro i H hi hi2 hi1 ord hB tS kx
    obtain⟨e,F1,h1,hr,rfl,rfl,rfl⟩:=sd1E_vp H B N N i (some ⟨oS,0,0,0,1⟩) (byV p q) (fun e F1 h1=>e= .exit 2∧F1= [(9,byV p q),(10,.slice (some ⟨oS,0,0,0,1⟩) N N),(14,.int .i64 (i:Nat))]∧h1=up H 4) (bifL hB ⟨boolF (by omega),rfl,rfl,rfl⟩)
    exact⟨H.next+4,by omega,(Loops.last (by simp) hr).post (Ent.facts (fle [] (by kernel_rfl)))⟩
  | succ f ih =>
    intro i H hi hi2 hi1 ord hB tS kx
    have i1:i<S1.length:=by omega
    have i0:i-1<S1.length:=by omega
    obtain⟨u,u1,u2,u3⟩:=tS.row i1
    obtain⟨w,w1,w2,w3⟩:=tS.row i0
    have mi:=List.getElem_mem i1
    have m0:=List.getElem_mem i0
    have f30:=Fr.up H 30 []
    have D1:=by_call (kx.low (H':=up H 30) ⟨by show H.next≤H.next+30;omega,fun _ _=>rfl⟩) ((tS.2 _ mi).fr f30 (by simp)) ((tS.2 _ m0).fr f30 (by simp)) (short _ mi) (short _ m0)
    have f230:Fr H (up (up H 30) 200) []:=⟨by show H.next≤H.next+30+200;omega,fun _ _ _=>rfl⟩
    have D2:=by_call (kx.low (H':=up (up H 30) 200) ⟨by show H.next≤H.next+30+200;omega,fun _ _=>rfl⟩) ((tS.2 _ m0).fr f230 (by simp)) ((tS.2 _ mi).fr f230 (by simp)) (short _ m0) (short _ mi)
    have o1:=ord i (Nat.le_refl _) (by omega)
    rw [rAt_in i1,rAt_in i0]at o1
    have o2:=keyI_neg k d S1[i].l S1[i-1].l
    obtain⟨n,hn,L⟩:=ih (i+1) (up (up (up (up H 30) 200) 200) 3) (by omega) (by omega) (by omega) (fun j hj hjN=>ord j (by omega) hjN) (by show B≤H.next+30+200+200+3;omega) (tS.up (by show H.next≤H.next+30+200+200+3;omega)) (kx.low ⟨by show H.next≤H.next+30+200+200+3;omega,fun _ _=>rfl⟩)
    have hn:H.next+30+200+200+3≤n:=hn
    have ei:(i:Int)-1=((i-1:Nat):Int):=by omega
    obtain⟨e,F1,h1',hr,rfl,rfl,rfl⟩:=sd1_vp H (up (up H 30) 200) (up (up (up H 30) 200) 200) B N N i p q (some ⟨oS,0,0,0,1⟩) S1[i].v S1[i-1].v u w (keyI k d S1[i].l S1[i-1].l) (keyI k d S1[i-1].l S1[i].l) (fun e F1 h1=>e= .normal∧F1= [(9,byV p q),(10,.slice (some ⟨oS,0,0,0,1⟩) N N),(14,.int .i64 ((i+1:Nat):Int))]∧h1=up (up (up (up H 30) 200) 200) 3)
      (bifL hB ⟨boolT (by omega),bifL (by omega) ⟨u1,u3 _,by omega,⟨by omega,by omega⟩,by rw [ei];exact w1,w3 _,by omega,⟨D1⟩,boolF (by omega),⟨by omega,by omega⟩,by rw [ei];exact w1,w3 _,by omega,u1,u3 _,by omega,⟨D2⟩,boolF (by omega),agNe (by show ¬ H.next+30=H.next+30+200;omega),bifL (by show B≤H.next+30+200+200;omega) ⟨⟨by omega,by omega⟩,rfl,by rw [succI],rfl⟩⟩⟩)
    exact⟨n,by omega,Loops.round hr (Ent.refl _ _ _ _) L⟩
end Go.Proofs.YtjpfnbihopoeeaaGreatDoor
namespace Go.Proofs.YtjpfnbihopoeeaaGreatDoor
open Go.Lift
set_option maxRecDepth 1000000
theorem Tb.tq {H:AHeap}{B E:Nat}{v:AVal}{o:Nat}{rs:List Rr}(h:Tb H B E v o rs):Tq H o v rs:=⟨h.out.rd,fun r hr=>(h.inn r hr).rd⟩
theorem Tq.fr {H H':AHeap}{o:Nat}{v:AVal}{rs:List Rr}(h:Tq H o v rs)(m:Fr H H' []):Tq H' o v rs:=⟨h.1.fr m (by simp),fun r hr=>(h.2 r hr).fr m (by simp)⟩
theorem KeyAt.wide {H:AHeap}{E E':Nat}{x:AVal}{key:Key}(h:KeyAt H E x key)(e:E≤E'):KeyAt H E' x key:=⟨h.v,fun p q e'=>by have:=h.lt p q e';omega⟩
theorem Fr.low {H H':AHeap}(m:Fr H H' []):Low H.next H H':=⟨m.next,fun x hx=>m.get x hx (by simp)⟩
theorem one_sort {H:AHeap}{E orow p q:Nat}{rv:AVal}{hv:Bool}{rsA:List Rr}{k:Int}{d:Bool}(hN:rsA.length<2^41)(t:Tq H orow rv rsA)(ho:orow<H.next)(hq: ∀ r∈rsA,r.q<H.next)(hrow: ∀ r∈rsA,(r.l.length+r.l.length / 4+512)*16≤2^48)(short: ∀ r∈rsA,Short r.l)(kx:KeyAt H E (byV p q) (some (k,d)))(hE:E≤H.next) :
    let H2:AHeap:=(up H 6).set (H.next+3) (ABlk.made [byV p q] 1 true)
    ∃ v H' B o rs σ,FDoes Tryz.prog cnd 35 [rv,.bool hv,.slice (some ⟨H.next+3,0,0,0,1⟩) 1 1] H2 v H'∧Tb H' B H'.next v o (srtR rs (if hv=true then min 1 rs.length else 0) σ)∧lsOf rs=lsOf rsA∧Fr H H' []∧v= .slice (some ⟨o,0,0,0,1⟩) rsA.length rsA.length∧H.next+6≤H'.next ∧
      Same (fun k=>k) σ 0 (rs.length- (if hv=true then min 1 rs.length else 0))∧Srt (lessK [some (k,d)] (fun k=>(rAt (rs.drop (if hv=true then min 1 rs.length else 0)) k).l)) σ 0 (rs.length- (if hv=true then min 1 rs.length else 0)):=by
  intro H2
  have f2:Fr H H2 []:=(Fr.up H 6 []).trans (Fr.set (L:= [H.next+3]) (up H 6) _ _ (by simp)) (by intro x hx;simp at hx;omega)
  have n2:H2.next=H.next+6:=rfl
  have kx2:KeyAt H2 H2.next (byV p q) (some (k,d)):=(kx.low ⟨f2.next,fun x hx=>f2.get x (by omega) (by simp)⟩).wide (by omega)
  obtain⟨v,H',B,o,rs,σ,D,tb,hl,hB,fr,ev,s1,s2⟩:=tsort_does (H:=H2) (hv:=hv) (ks:= [some (k,d)]) (xs:= [byV p q]) (qf:=H.next+3) hN (t.fr f2).1 (t.fr f2).2 (by omega) (fun r hr=>by have:=hq r hr;omega) hrow short (rd_made (up H 6) (H.next+3) _ (by show H.next+3<H.next+6;omega)) (by omega) rfl (fun i i1 i2=>by
    have:i=0:=by simp at i1;omega
    subst this
    exact kx2) (by simp)
  exact⟨v,H',B,o,rs,σ,D,tb,hl,f2.trans fr (by simp),ev,by have:=fr.next;omega,s1,s2⟩
theorem cmpL_one(k:Int)(d:Bool)(a b:List Bytes):cmpL [some (k,d)] a b=keyI k d a b:=by
  simp only [cmpL]
  by_cases e:keyI k d a b=0
  · rw [if_pos e,e]
  · rw [if_neg e]
theorem sorted_core {H:AHeap} {orow rc N:Nat} {ro:Option AAddr} {rsA:List Rr} (hN:rsA.length=N) (hN2:N<2^62) (tA:Tq H orow (.slice ro N rc) rsA) (ho:orow<H.next) (hq: ∀ r∈rsA,r.q<H.next) (hrow: ∀ r∈rsA,(r.l.length+r.l.length / 4+512)*16≤2^48) (short: ∀ r∈rsA,Short r.l) (hv:Bool) (k:Int) (d:Bool) :
    ∃ h',FDoes Tryz.prog cnd 9 [.slice ro N rc,.bool hv,.int .i64 k,.bool d] H (.bool true) h':=by
  by_cases hbig:300<N
  · obtain⟨v,h1,hd,rfl⟩:=sdA_vc H N rc ro k (.bool hv) (.bool d) (fun v _=>v= .bool true) (bifL (Nat.le_refl _) (bifL (by omega) ⟨boolT (by omega),bifL (by omega) (condL (by omega) rfl)⟩))
    exact⟨h1,hd⟩
  obtain⟨p,q,H1,D1,kx1,f1,n1,gp,gq⟩:=byM_does k d (up H 12)
  have n1:H1.next=H.next+17:=n1
  have f01:Fr H H1 []:=(Fr.up H 12 []).trans f1 (by simp)
  let H2:AHeap:=(up H1 6).set (H1.next+3) (ABlk.made [byV p q] 1 true)
  obtain⟨sv,H3,B3,o3,rs1,σ1,D3,tb3,hl3,f13,ev3,n3,s31,s32⟩:=one_sort (hv:=hv) (rsA:=rsA) (by omega) (tA.fr f01) (by omega) (fun r hr=>by have:=hq r hr;omega) hrow short kx1 (Nat.le_refl _)
  let H4:AHeap:=(up H3 6).set (H3.next+3) (ABlk.made [byV p q] 1 true)
  have len1:rs1.length=N:=by have:=congrArg List.length hl3;simp at this;omega
  obtain⟨O,hO⟩: ∃ O,O=if hv=true then min 1 rs1.length else 0:=⟨_,rfl⟩
  have hO1:O≤rs1.length:=by rw [hO];split<;>omega
  rw [← hO]at tb3 s31 s32
  obtain⟨S1,hS1⟩: ∃ S1,S1=srtR rs1 O σ1:=⟨_,rfl⟩
  have hp1:S1.Perm rs1:=by rw [hS1];exact srtR_perm rs1 hO1 s31
  rw [← hS1]at tb3
  have lenS1:S1.length=N:=by rw [hp1.length_eq,len1]
  have inS: ∀ r∈S1,r.l∈lsOf rsA:=fun r hr=>by rw [← hl3];exact List.mem_map.2 ⟨r,hp1.mem_iff.1 hr,rfl⟩
  have hrow1: ∀ r∈S1,(r.l.length+r.l.length / 4+512)*16≤2^48:=fun r hr=>by
    obtain⟨r',hr',e⟩:=List.mem_map.1 (inS r hr)
    rw [← e];exact hrow r' hr'
  have short1: ∀ r∈S1,Short r.l:=fun r hr=>by
    obtain⟨r',hr',e⟩:=List.mem_map.1 (inS r hr)
    rw [← e];exact short r' hr'
  have kx3:KeyAt H3 H1.next (byV p q) (some (k,d)):=kx1.low f13.low
  have ge3:=tb3.ge o3 (by simp)
  obtain⟨av,H5,B5,o5,rs2,σ2,D5,tb5,hl5,f35,ev5,n5,s51,s52⟩:=one_sort (hv:=hv) (rsA:=S1) (by omega) tb3.tq ge3.2 (fun r hr=>(tb3.ge r.q (List.mem_cons_of_mem _ (List.mem_map.2 ⟨r,hr,rfl⟩))).2) hrow1 short1 kx3 (by omega)
  have len2:rs2.length=N:=by have:=congrArg List.length hl5;simp at this;omega
  have hO':(if hv=true then min 1 rs2.length else 0)=O:=by rw [hO,len1,len2]
  rw [hO']at tb5 s51 s52
  have hagain:lsOf (srtR rs2 O σ2)=lsOf S1:=by
    rw [hS1]
    exact srtR_again hO1 (by rw [← hS1];exact hl5) s32 s51 s52
  have lenS2:(srtR rs2 O σ2).length=N:=by rw [srtR_len rs2 (by omega),len2]
  have f15:=f13.trans f35 (by simp)
  have f05:=f01.trans f15 (by simp)
  have tA5:=tA.fr f05
  have tS5:=tb3.tq.fr f35
  have tB5:=tb5.tq
  rw [ev3,hN]at tS5 D3
  rw [ev3,hN,ev5,lenS1]at D5
  rw [ev5,lenS1]at tB5
  have hlen: ∀ r∈rsA,r.l.length<2^60:=fun r hr=>by have:=hrow r hr;omega
  have hlen2: ∀ r∈srtR rs2 O σ2,r.l.length<2^60:=fun r hr=>by
    have h1:r.l∈lsOf S1:=by rw [← hagain];exact List.mem_map.2 ⟨r,hr,rfl⟩
    obtain⟨r',hr',e⟩:=List.mem_map.1 h1
    have:=hrow1 r' hr'
    rw [← e];omega
  have hperm:(lsOf S1).Perm (lsOf rsA):=by
    have:=hp1.map (·.l)
    rw [← hl3];exact this
  obtain⟨m6,h6,L0⟩:=sd0_loop (B:=H.next) (hv:=hv) (fv:=byV p q) hN lenS1 lenS2 (by omega) hlen hlen2 hperm hagain N 0 ⟨H5.next+15,H5.blks⟩ (by omega) (by show H.next≤H5.next+15;omega) (tA5.up (by omega)) (tS5.up (by omega)) (tB5.up (by omega))
  have h6:H5.next+15≤m6:=h6
  have kx5:KeyAt H5 H1.next (byV p q) (some (k,d)):=kx1.low f15.low
  have kxm: ∀ m,H5.next≤m→KeyAt ⟨m,H5.blks⟩ H1.next (byV p q) (some (k,d)):=fun m hm=>kx5.low ⟨hm,fun _ _=>rfl⟩
  have ord: ∀ j,O+1≤j→j<N→0≤keyI k d (rAt S1 j).l (rAt S1 (j-1)).l:=fun j h1 h2=>by
    have:=srtR_order (ks:= [some (k,d)]) hO1 s32 (i:=j-1) (j:=j) (by omega) (by omega) (by omega)
    rw [cmpL_one]at this
    rw [hS1];exact this
  have neN:some (AVal.bool (((N:Nat):Int) != ((N:Nat):Int)))=some (AVal.bool false):=by simp
  have b2:H2.next=H1.next+6:=rfl
  have b4:H4.next=H3.next+6:=rfl
  have hs3:Sv (byV p q):=rfl
  cases hv with
  | false =>
    have hO0:O=0:=by rw [hO];rfl
    obtain⟨m8,h8,L1⟩:=sd1_loop (B:=H.next) (E:=H1.next) lenS1 (by omega) short1 (N-1) 1 ⟨m6+10,H5.blks⟩ (by omega) (by omega) (by omega) (fun j h1 h2=>ord j (by omega) h2) (by show H.next≤m6+10;omega) (tS5.up (by omega)) (kxm _ (by omega))
    have h8:m6+10≤m8:=h8
    obtain⟨v,h1,hd,rfl⟩:=sdD_vc H H1 H2 H3 H4 H5 ⟨m6,H5.blks⟩ ⟨m8,H5.blks⟩ N rc N N p q (H1.next+3) (H3.next+3) ro (some ⟨o3,0,0,0,1⟩) (some ⟨o5,0,0,0,1⟩) k (.bool d) (fun v _=>v= .bool true)
      (bifL (Nat.le_refl _) (bifL (by omega) ⟨boolF (by omega),bifL (by omega) ⟨⟨D1⟩,bifL (by omega) ⟨build1F rfl hs3,⟨D3⟩,bifL (by omega) ⟨build1F rfl hs3,⟨D5⟩,bifL (by omega) ⟨neN,neN,bifL (by omega) ⟨Runs.of_loops L0,bifL (by show H.next≤m6;omega) (bifL (by show H.next≤m6+1;omega) (bifL (by show H.next≤m6+7;omega) ⟨Runs.of_loops L1,bifL (by show H.next≤m8;omega) (condL (by show H.next≤m8+1;omega) rfl)⟩))⟩⟩⟩⟩⟩⟩))
    exact⟨h1,hd⟩
  | true =>
    by_cases h0:0<N
    · have hO1':O=1:=by rw [hO,if_pos rfl];omega
      have iA:0<rsA.length:=by omega
      have iS:0<S1.length:=by omega
      obtain⟨u,u1,u2,u3⟩:=tA5.row iA
      have el:S1[0].l=rsA[0].l:=by
        have hr1:0<rs1.length:=by omega
        have e1:S1[0]=rs1[0]:=by
          have:=congrArg (fun l=>l[0]?) (srtR_take (rs:=rs1) hO1 σ1)
          rw [← hS1,hO1']at this
          simpa [iS,hr1]using this
        have:=congrArg (fun l=>l[0]?) hl3
        rw [e1]
        simpa [hr1,iA]using this
      obtain⟨n7,h7,D7⟩:=times_does (H:=⟨m6+15,H5.blks⟩) (rs:= [S1[0]]) (by simp) (hlen _ (List.getElem_mem iA)) ((tS5.part lenS1 iS N).up (by show H5.next≤m6+15;omega)) ((tA5.up (n:=m6+15) (by omega)).2 _ (List.getElem_mem iA))
      have h7:m6+15<n7:=h7
      have hc:cnt (lsOf [S1[0]]) rsA[0].l=1:=by rw [← el];exact cnt_one _
      rw [hc]at D7
      obtain⟨m8,h8,L1⟩:=sd1_loop (B:=H.next) (E:=H1.next) lenS1 (by omega) short1 (N-2) 2 ⟨n7+3,H5.blks⟩ (by omega) (by omega) (by omega) (fun j h1 h2=>ord j (by omega) h2) (by show H.next≤n7+3;omega) (tS5.up (by omega)) (kxm _ (by omega))
      have h8:n7+3≤m8:=h8
      obtain⟨v,h1,hd,rfl⟩:=sdB_vc H H1 H2 H3 H4 H5 ⟨m6,H5.blks⟩ ⟨n7,H5.blks⟩ ⟨m8,H5.blks⟩ N rc N N p q (H1.next+3) (H3.next+3) ro (some ⟨o3,0,0,0,1⟩) (some ⟨o5,0,0,0,1⟩) k (.bool d) (.slice (some ⟨o3,0,0+0,0,1⟩) 1 N) rsA[0].v u (fun v _=>v= .bool true)
        (bifL (Nat.le_refl _) (bifL (by omega) ⟨boolF (by omega),bifL (by omega) ⟨⟨D1⟩,bifL (by omega) ⟨build1F rfl hs3,⟨D3⟩,bifL (by omega) ⟨build1F rfl hs3,⟨D5⟩,bifL (by omega) ⟨neN,neN,bifL (by omega) ⟨Runs.of_loops L0,bifL (by show H.next≤m6;omega) (bifL (by show H.next≤m6+1;omega) ⟨boolT (by omega),bifL (by show H.next≤m6+7;omega) (bifL (by show H.next≤m6+8;omega) ⟨slice01 h0,u1,u3 _,by show u.id<m6+8;omega,⟨D7⟩,bifL (by show H.next≤n7;omega) ⟨Runs.of_loops L1,bifL (by show H.next≤m8;omega) (condL (by show H.next≤m8+1;omega) rfl)⟩⟩)⟩)⟩⟩⟩⟩⟩⟩))
      exact⟨h1,hd⟩
    · have hO0:O=0:=by rw [hO,if_pos rfl];omega
      obtain⟨m8,h8,L1⟩:=sd1_loop (B:=H.next) (E:=H1.next) lenS1 (by omega) short1 0 1 ⟨m6+10,H5.blks⟩ (by omega) (by omega) (by omega) (fun j h1 h2=>ord j (by omega) h2) (by show H.next≤m6+10;omega) (tS5.up (by omega)) (kxm _ (by omega))
      have h8:m6+10≤m8:=h8
      obtain⟨v,h1,hd,rfl⟩:=sdC_vc H H1 H2 H3 H4 H5 ⟨m6,H5.blks⟩ ⟨m8,H5.blks⟩ N rc N N p q (H1.next+3) (H3.next+3) ro (some ⟨o3,0,0,0,1⟩) (some ⟨o5,0,0,0,1⟩) k (.bool d) (fun v _=>v= .bool true)
        (bifL (Nat.le_refl _) (bifL (by omega) ⟨boolF (by omega),bifL (by omega) ⟨⟨D1⟩,bifL (by omega) ⟨build1F rfl hs3,⟨D3⟩,bifL (by omega) ⟨build1F rfl hs3,⟨D5⟩,bifL (by omega) ⟨neN,neN,bifL (by omega) ⟨Runs.of_loops L0,bifL (by show H.next≤m6;omega) (bifL (by show H.next≤m6+1;omega) ⟨boolF (by omega),bifL (by show H.next≤m6+7;omega) ⟨Runs.of_loops L1,bifL (by show H.next≤m8;omega) (condL (by show H.next≤m8+1;omega) rfl)⟩⟩)⟩⟩⟩⟩⟩⟩))
      exact⟨h1,hd⟩
end Go.Proofs.YtjpfnbihopoeeaaGreatDoor
namespace Go.Lift
noncomputable section
open Go.RowKit Go.ChangeShapes Go.WideShapes Go.ChangeAt
structure ArgRow(w:World)(b:ABlk)(p:Place):Prop where
  ro:p.ro=true
  bro:b.ro=true
  ver:b.ver=0
  es:p.es=b.es
  pos:0<p.es
  exact:p.exact=b.exact
  row: ∀ (φ:Map) (S:Nat→Prop),Row φ S b 0 p w
  bare:BareB b
def rowsMap(ps:List Place):Map:=fun i v=>if v=0 then ps[i]? else none
theorem HRel.of_args {w:World} {S:Nat→Prop} (l:List (ABlk×Place)) (h: ∀ x∈l,ArgRow w x.1 x.2):HRel (rowsMap (l.map (·.2))) S (AHeap.of (l.map (·.1))) w where
  dom i v p hp:=by
    unfold rowsMap at hp
    split at hp
    · rename_i hv;subst hv
      rw [List.getElem?_map,Option.map_eq_some_iff]at hp
      obtain⟨x,hx,rfl⟩:=hp
      have k:=h x (List.mem_of_getElem? hx)
      have hi:=(List.getElem?_eq_some_iff.1 hx).1
      refine⟨by rw [AHeap.of_next];simpa using hi,x.1,?_,by omega,k.es,k.exact,(fun h=>by rw [k.bro]at h;cases h),k.pos,k.row _ _⟩
      rw [AHeap.of_get,List.getElem?_map,hx];rfl
    · cases hp
  apart i v p j u q hp hq _ _:=by
    have: ∀ {i v p},rowsMap (l.map (·.2)) i v=some p→p.ro=true:=by
      intro i v p hp
      unfold rowsMap at hp
      split at hp
      · rw [List.getElem?_map,Option.map_eq_some_iff]at hp
        obtain⟨x,hx,rfl⟩:=hp
        exact(h x (List.mem_of_getElem? hx)).ro
      · cases hp
    exact⟨this hp,this hq⟩
  same i v p u q hp hq _:=by
    unfold rowsMap at hp hq
    split at hp
    · split at hq
      · rw [hp]at hq;simp only [Option.some.injEq]at hq;subst hq;exact⟨rfl,rfl⟩
      · cases hq
    · cases hp
def noBlk(es:Nat):ABlk:= {elems:= [],es,exact:=true,ro:=true,ver:=0,minVer:=0,forkLen:=0,ty:=none}
def noPlace(es:Nat):Place:= {blk:=0,off:=0,lo:=0,es,tot:=0,exact:=true,ro:=true}
theorem noRow {w:World}(hw:0<w.heap.size){es:Nat}(he:0<es):ArgRow w (noBlk es) (noPlace es) where
  ro:=rfl
  bro:=rfl
  ver:=rfl
  es:=rfl
  pos:=he
  exact:=rfl
  row φ S:=⟨hw,(fun h=>by cases h),fun o ho=>by simp [noPlace]at ho,(fun h=>by cases h),(fun h=>by cases h),(fun q h=>by cases h),fun i e h1 h2 h3=>by simp [noBlk]at h3⟩
  bare e he:=by simp [noBlk]at he
theorem FDoes.law {P:Program}{C:(Nat→Prop)→World→Prop}{f:FuncId}{args:List AVal}{h h':AHeap}(k:FDoes P C f args h (.bool true) h'){w:World}(hC:C (fun k=>k<w.heap.size) w){φ:Map}(hl:HRel φ (fun k=>k<w.heap.size) h w){args':Array Value}(ha:VRels φ args args'.toList) :
    Calls P f args' w fun e w'=>e= .returned (.bool true)∧Below w.heap.size w w':=by
  have:=(k (fun k=>k<w.heap.size) w (fun _ h=>h) hC _ w args' hl (Safe.refl _ _) ha).2
  exact this.mono fun e w' ⟨v',φ',h1,_,h2,_,h3,_⟩=>by
    simp only [VRel]at h2
    subst h2;exact⟨h1,h3.below⟩
end
end Go.Lift
namespace Go.Lift
noncomputable section
open Go.RowKit Go.ChangeShapes Go.WideShapes Go.ChangeAt
structure ArgRow2(φ:Map)(S:Nat→Prop)(w:World)(b:ABlk)(p:Place):Prop where
  ro:p.ro=true
  bro:b.ro=true
  ver:b.ver=0
  es:p.es=b.es
  pos:0<p.es
  exact:p.exact=b.exact
  row:Row φ S b 0 p w
theorem ArgRow.two {φ:Map}{S:Nat→Prop}{w:World}{b:ABlk}{p:Place}(h:ArgRow w b p):ArgRow2 φ S w b p:=⟨h.ro,h.bro,h.ver,h.es,h.pos,h.exact,h.row φ S⟩
theorem HRel.of_rows {w:World} {S:Nat→Prop} (l:List (ABlk×Place)) (h: ∀ x∈l,ArgRow2 (rowsMap (l.map (·.2))) S w x.1 x.2):HRel (rowsMap (l.map (·.2))) S (AHeap.of (l.map (·.1))) w where
  dom i v p hp:=by
    unfold rowsMap at hp
    split at hp
    · rename_i hv;subst hv
      rw [List.getElem?_map,Option.map_eq_some_iff]at hp
      obtain⟨x,hx,rfl⟩:=hp
      have k:=h x (List.mem_of_getElem? hx)
      have hi:=(List.getElem?_eq_some_iff.1 hx).1
      refine⟨by rw [AHeap.of_next];simpa using hi,x.1,?_,by omega,k.es,k.exact,(fun h=>by rw [k.bro]at h;cases h),k.pos,k.row⟩
      rw [AHeap.of_get,List.getElem?_map,hx];rfl
    · cases hp
  apart i v p j u q hp hq _ _:=by
    have: ∀ {i v p},rowsMap (l.map (·.2)) i v=some p→p.ro=true:=by
      intro i v p hp
      unfold rowsMap at hp
      split at hp
      · rw [List.getElem?_map,Option.map_eq_some_iff]at hp
        obtain⟨x,hx,rfl⟩:=hp
        exact(h x (List.mem_of_getElem? hx)).ro
      · cases hp
    exact⟨this hp,this hq⟩
  same i v p u q hp hq _:=by
    unfold rowsMap at hp hq
    split at hp
    · split at hq
      · rw [hp]at hq;simp only [Option.some.injEq]at hq;subst hq;exact⟨rfl,rfl⟩
      · cases hq
    · cases hp
end
end Go.Lift
namespace Go.Lift
noncomputable section
open Go.RowKit Go.ChangeShapes Go.WideShapes Go.ChangeAt
def cellKind (P:Program):Nat→TypeId→Nat→Option TK
  | 0,_,_=>none
  | d+1,t,c =>
    match P.underlying t with
    | some (.int k)=>if c=0 then some (.int k)else none
    | some .bool=>if c=0 then some .bool else none
    | some .string=>if c=0 then some .string else none
    | some (.struct fs)=>fs.toList.findSome? fun f=>if f.offset≤c∧c<f.offset+P.cellsOf f.type then cellKind P d f.type (c-f.offset)else none
    | some (.array n e)=>if c / P.cellsOf e<n then cellKind P d e (c % P.cellsOf e)else none
    | _=>none
def CellIs:TK→Value→Prop
  | .int k,v=> ∃ n,v= .int k n∧(Lit.int k n).wf=true
  | .bool,v=> ∃ b,v= .bool b
  | .string,v=> ∃ s:ByteArray,v= .string s∧s.size≤maxLen
  | _,_=>False
section
variable {H:Type}{enc:TypeId×Value→H}{P:Program}{w:World}{base:Nat}{spare:Nat→Bool}{held:Bool}
theorem cell_flat: ∀ (d:Nat) {t:TypeId} {c:Nat} {k:TK} {fuel:Nat} {cs:List Value} {x:DataW H×List MemPlace},cellKind P d t c=some k→DataW.trod enc P w base spare held fuel t cs=some x→ ∃ v,cs[c]? =some v∧CellIs k v:=by
  intro d
  induction d with
  | zero=>intro t c k fuel cs x h;cases h
  | succ d ih =>
    intro t c k fuel cs x h hx
    simp only [cellKind]at h
    split at h
    · rename_i kk hu
      split at h
      · rename_i hc;subst hc
        simp only [Option.some.injEq]at h;subst h
        obtain⟨n,rfl,_,hw⟩:=DataW.trod_int hu hx
        exact⟨_,rfl,n,rfl,hw⟩
      · cases h
    · rename_i hu
      split at h
      · rename_i hc;subst hc
        simp only [Option.some.injEq]at h;subst h
        obtain⟨b,rfl,_⟩:=DataW.trod_bool hu hx
        exact⟨_,rfl,b,rfl⟩
      · cases h
    · rename_i hu
      split at h
      · rename_i hc;subst hc
        simp only [Option.some.injEq]at h;subst h
        obtain⟨s,rfl,_,hs⟩:=DataW.trod_string hu hx
        exact⟨_,rfl,s,rfl,hs⟩
      · cases h
    · rename_i fs hu
      obtain⟨f,hf,hk⟩:=List.exists_of_findSome?_eq_some h
      split at hk
      · rename_i hc
        obtain⟨xs,n,_,_,hl,hxl,hfs⟩:=DataW.trod_struct hu hx
        obtain⟨j,hj,hfj⟩:=List.mem_iff_getElem.1 hf
        have hj':fs[j]? =some f:=by rw [← Array.getElem?_toList,List.getElem?_eq_getElem hj,hfj]
        have h1:=hfs j f hj'
        rw [List.getElem?_eq_getElem (by rw [hxl];simpa using hj)]at h1
        obtain⟨v,hv,his⟩:=ih hk h1
        rw [List.getElem?_take]at hv
        split at hv
        · rw [List.getElem?_drop,show f.offset+(c-f.offset)=c by omega]at hv
          exact⟨v,hv,his⟩
        · cases hv
      · cases hk
    · rename_i n e hu
      split at h
      · rename_i hc
        obtain⟨xs,m,_,_,hl,hxl,hes⟩:=DataW.trod_array hu hx
        have h1:=hes _ hc
        rw [List.getElem?_eq_getElem (by omega)]at h1
        obtain⟨v,hv,his⟩:=ih h h1
        rw [List.getElem?_take]at hv
        split at hv
        · rw [List.getElem?_drop,Nat.mul_comm,Nat.div_add_mod]at hv
          exact⟨v,hv,his⟩
        · cases hv
      · cases h
    · cases h
theorem CellIs.bare {k:TK}{v:Value}(h:CellIs k v):Bare (ofScalar v)∧(ofScalar v).simple=true∧v.oneCell'=true:=by
  cases k with
  | int k=>obtain⟨n,rfl,_⟩:=h;exact⟨Bare.int _ _,rfl,by first | trivial | rfl⟩
  | bool=>obtain⟨b,rfl⟩:=h;exact⟨Bare.bool _,rfl,by first | trivial | rfl⟩
  | string=>obtain⟨s,rfl,_⟩:=h;exact⟨Bare.str _,rfl,by first | trivial | rfl⟩
  | _=>exact h.elim
def elemA(isA:Bool)(cs:List AVal):AVal:=if isA then .agg cs else cs.headD .undef
theorem elemA_cells {isA:Bool}{cs:List AVal}(h:isA=false→ ∃ a,cs= [a]∧a.simple=true):(elemA isA cs).cells=cs:=by
  unfold elemA
  cases isA with
  | true=>rfl
  | false =>
    obtain⟨a,rfl,ha⟩:=h rfl
    cases a<;>simp [AVal.cells]<;>cases ha
theorem Bare.agg {l:List AVal}(h: ∀ a∈l,Bare a):Bare (.agg l):=by
  refine⟨fun r=> ?_,?_⟩
  · simp only [AVal.ren,AVal.rens_map]
    have:l.map (AVal.ren r)=l:=by
      conv=>rhs;rw [← List.map_id l]
      exact List.map_congr_left fun e he=>(h e he).1 r
    rw [this]
  · simp only [Clo];exact Clos_iff.2 fun a ha=>(h a ha).2
def cellAt(w:World)(x:Addr)(j:Nat):Value:=(w.cell? (x.add j)).getD undef
def elemAt(w:World)(x:Addr)(isA:Bool)(sz i:Nat):AVal:=elemA isA ((List.range sz).map fun j=>ofScalar (cellAt w x (i*sz+j)))
theorem weight_len {t e:TypeId}(ht:P.underlying t=some (.slice e)){a:Option Addr}{len cap:Nat}{dd:DataW H}{ps:List MemPlace}(h:DataW.Trod enc P w base spare held t (.slice a len cap) dd ps)
    (hw: ∀ y∈dd.weights P t,y≤reachBytes):len*P.bytesOf e≤reachBytes:=by
  obtain⟨fuel,hf⟩:=h
  have hf':DataW.trod enc P w base spare held fuel t [.slice a len cap]=some (dd,ps):=hf
  rcases DataW.trod_slice ht hf' with ⟨hcs,_⟩ | ⟨x,l,c,elems,rest,n,_,hcs,hx,_,hl,hm,hlen,_⟩
  · simp at hcs
    obtain⟨_,rfl,_⟩:=hcs
    simp
  · simp at hcs
    obtain⟨_,rfl,_⟩:=hcs
    simp only [Prod.mk.injEq]at hx
    obtain⟨rfl,_⟩:=hx
    have:=hw ((elems.length+rest.length)*P.bytesOf e) (by simp [DataW.weights,ht])
    rw [hlen]at this
    exact Nat.le_trans (Nat.mul_le_mul_right _ (by omega)) this
theorem weights_cons {t:TypeId}{ts:List TypeId}{d:DataW H}{ds:List (DataW H)}{R:Nat}(h: ∀ y∈DataW.weightsEach P (t::ts) (d::ds),y≤R):(∀ y∈d.weights P t,y≤R)∧ ∀ y∈DataW.weightsEach P ts ds,y≤R :=
  ⟨fun y hy=>h y (by simp [DataW.weightsEach,hy]),fun y hy=>h y (by simp [DataW.weightsEach,hy])⟩
end
end
end Go.Lift
namespace Go.Lift
noncomputable section
open Go.RowKit Go.ChangeShapes Go.WideShapes Go.ChangeAt
theorem weights_each {H:Type}{P:Program} : ∀ {ts:List TypeId} {ds:List (DataW H)} {j:Nat} {t:TypeId} {d:DataW H} {y:Nat},ts[j]? =some t→ds[j]? =some d→y∈d.weights P t→y∈DataW.weightsEach P ts ds
  | [],_,_,_,_,_,h,_,_=>by cases h
  | _::_,[],_,_,_,_,_,h,_=>by cases h
  | t::ts,d::ds,0,_,_,_,h1,h2,h3=>by
    simp at h1 h2;subst h1 h2
    simp only [DataW.weightsEach,List.mem_append];exact .inl h3
  | t::ts,d::ds,j+1,_,_,_,h1,h2,h3=>by
    simp only [DataW.weightsEach,List.mem_append];exact .inr (weights_each (j:=j) (by simpa using h1) (by simpa using h2) h3)
theorem weights_all {H:Type}{P:Program}{e:TypeId}{ds:List (DataW H)}{d:DataW H}{y:Nat}(hd:d∈ds)(h3:y∈d.weights P e):y∈DataW.weightsAll P e ds:=by
  induction ds with
  | nil=>cases hd
  | cons a r ih =>
    simp only [DataW.weightsAll,List.mem_append]
    rcases List.mem_cons.1 hd with rfl | hd
    · exact .inl h3
    · exact .inr (ih hd)
section
variable {H:Type}{enc:TypeId×Value→H}{P:Program}{w:World}{base:Nat}{spare:Nat→Bool}{held:Bool}
theorem cell_weight: ∀ (d:Nat) {t:TypeId} {c:Nat} {fuel:Nat} {cs:List Value} {x:DataW H×List MemPlace},cellKind P d t c=some .string→DataW.trod enc P w base spare held fuel t cs=some x→ ∃ s:ByteArray,cs[c]? =some (.string s)∧s.size∈x.1.weights P t:=by
  intro d
  induction d with
  | zero=>intro t c fuel cs x h;cases h
  | succ d ih =>
    intro t c fuel cs x h hx
    simp only [cellKind]at h
    split at h
    · split at h<;>cases h
    · split at h<;>cases h
    · rename_i hu
      split at h
      · rename_i hc;subst hc
        obtain⟨s,rfl,hx',hs⟩:=DataW.trod_string hu hx
        subst hx'
        exact⟨s,rfl,by rw [DataW.weights];exact List.mem_singleton.2 (show s.data.size=s.data.toList.length from Array.length_toList.symm)⟩
      · cases h
    · rename_i fs hu
      obtain⟨f,hf,hk⟩:=List.exists_of_findSome?_eq_some h
      split at hk
      · rename_i hc
        obtain⟨xs,n,_,he,hl,hxl,hfs⟩:=DataW.trod_struct hu hx
        obtain⟨j,hj,hfj⟩:=List.mem_iff_getElem.1 hf
        have hj':fs[j]? =some f:=by rw [← Array.getElem?_toList,List.getElem?_eq_getElem hj,hfj]
        have h1:=hfs j f hj'
        have hjx:j<xs.length:=by rw [hxl];simpa using hj
        rw [List.getElem?_eq_getElem hjx]at h1
        obtain⟨v,hv,his⟩:=ih hk h1
        rw [List.getElem?_take]at hv
        split at hv
        · rw [List.getElem?_drop,show f.offset+(c-f.offset)=c by omega]at hv
          refine⟨v,hv,?_⟩
          subst he
          simp only [DataW.weights,hu]
          exact weights_each (j:=j) (by simp [hj']) (by simp [hjx]) his
        · cases hv
      · cases hk
    · rename_i n e hu
      split at h
      · rename_i hc
        obtain⟨xs,m,_,he,hl,hxl,hes⟩:=DataW.trod_array hu hx
        have h1:=hes _ hc
        rw [List.getElem?_eq_getElem (by omega)]at h1
        obtain⟨v,hv,his⟩:=ih h h1
        rw [List.getElem?_take]at hv
        split at hv
        · rw [List.getElem?_drop,Nat.mul_comm,Nat.div_add_mod]at hv
          refine⟨v,hv,?_⟩
          subst he
          simp only [DataW.weights,hu]
          exact weights_all (List.mem_map.2 ⟨_,List.getElem_mem _,rfl⟩) his
        · cases hv
      · cases h
    · cases h
theorem open_flat_argX {isA:Bool} {t e:TypeId} {d sz:Nat} {ks:List TK} (hw:0<w.heap.size) (ht:P.underlying t=some (.slice e)) (hc:P.cellsOf e=sz) (hsz:Nat.blt 0 sz=true) (hA:isA=false→sz=1)
    (hks:(List.range sz).map (cellKind P d e)=ks.map some) {a:Option Addr} {len cap:Nat} {dd:DataW H} {ps:List MemPlace} (h:DataW.Trod enc P w 0 (fun _=>true) true t (.slice a len cap) dd ps) (id:Nat) :
    ∃ (o:Option AAddr) (c:Nat) (b:ABlk) (p:Place) (x:Addr),SlArg o len c id 0 0 sz∧ArgRow w b p∧len≤maxLen∧(∀ φ:Map,φ id 0=some p→VRel φ (.slice o len c) (.slice a len cap)) ∧
      (∀ i,i<len→b.elem? 0 (0+i)=some (elemAt w x isA sz i))∧(∀ i j,i<len→j<sz→ ∃ k,ks[j]? =some k∧CellIs k (cellAt w x (i*sz+j))) ∧
      (∀ i j,i<len→j<sz→ks[j]? =some .string→ ∃ s:ByteArray,cellAt w x (i*sz+j)= .string s∧s.size∈dd.weights P t):=by
  have hsz:0<sz:=Nat.blt_eq.mp hsz
  have hkk: ∀ j,j<sz→ ∃ k,ks[j]? =some k∧cellKind P d e j=some k:=by
    intro j hj
    have h1:=congrArg (fun(l:List (Option TK))=>l[j]?) hks
    simp only [List.getElem?_map,List.getElem?_range hj,Option.map_some]at h1
    cases hk:ks[j]? with
    | none=>rw [hk]at h1;cases h1
    | some k=>rw [hk]at h1;simp at h1;exact⟨k,rfl,h1⟩
  obtain⟨fuel,hf⟩:=h
  have hf':DataW.trod enc P w 0 (fun _=>true) true fuel t [.slice a len cap]=some (dd,ps):=hf
  rcases DataW.trod_slice ht hf' with ⟨hcs,_⟩ | ⟨x,l,c,elems,rest,n,_,hcs,hxx,_,hl,hm,hlen,hel,hsp,_⟩
  · simp at hcs
    obtain⟨rfl,rfl,rfl⟩:=hcs
    exact⟨none,0,noBlk sz,noPlace sz,⟨0,0,none⟩,.inr ⟨rfl,rfl,rfl⟩,noRow hw hsz,by simp,fun φ _=>by simp [VRel],fun i hi=>by omega,fun i j hi=>by omega,fun i j hi=>by omega⟩
  · simp at hcs
    obtain⟨rfl,rfl,rfl⟩:=hcs
    obtain⟨hrl,hr⟩:=hsp rfl
    have each: ∀ i,i<cap→ ∃ cs y,w.cells? 0 (x.add (i*sz)) sz=some cs∧DataW.trod enc P w 0 (fun _=>true) true n e cs=some y:=by
      intro i hi
      have hb: ∃ y,(w.cells? 0 (x.add (i*P.cellsOf e)) (P.cellsOf e)).bind (DataW.trod enc P w 0 (fun _=>true) true n e)=some y:=by
        by_cases c1:i<len
        · exact⟨_,(hel i c1).trans (List.getElem?_eq_getElem (by omega))⟩
        · have:=hr (i-len) (by omega)
          rw [show len+(i-len)=i by omega]at this
          exact⟨_,this.trans (List.getElem?_eq_getElem (by omega))⟩
      obtain⟨y,hy⟩:=hb
      rw [hc,Option.bind_eq_some_iff]at hy
      obtain⟨cs,h1,h2⟩:=hy
      exact⟨cs,y,h1,h2⟩
    have cell: ∀ i j,i<cap→j<sz→ ∃ v k,w.cell? (x.add (i*sz+j))=some v∧ks[j]? =some k∧CellIs k v:=by
      intro i j hi hj
      obtain⟨cs,y,h1,h2⟩:=each i hi
      obtain⟨k,hk,hkd⟩:=hkk j hj
      obtain⟨v,hv,his⟩:=cell_flat d hkd h2
      refine⟨v,k,?_,hk,his⟩
      rw [← Go.Deep.add_add,(World.cells?_some h1).2.2 j hj,hv]
    have hcellAt: ∀ i j,i<cap→j<sz→w.cell? (x.add (i*sz+j))=some (cellAt w x (i*sz+j))∧ ∃ k,ks[j]? =some k∧CellIs k (cellAt w x (i*sz+j)):=by
      intro i j hi hj
      obtain⟨v,k,h1,h2,h3⟩:=cell i j hi hj
      have:cellAt w x (i*sz+j)=v:=by simp [cellAt,h1]
      rw [this];exact⟨h1,k,h2,h3⟩
    have txt: ∀ i j,i<len→j<sz→ks[j]? =some .string→ ∃ s:ByteArray,cellAt w x (i*sz+j)= .string s∧s.size∈dd.weights P t:=by
      intro i j hi hj hk
      obtain⟨k',hk',hkd⟩:=hkk j hj
      rw [hk]at hk'
      simp only [Option.some.injEq]at hk'
      subst hk'
      simp only [Prod.mk.injEq]at hxx
      have hie:i<elems.length:=by omega
      have h0:=(hel i hi).trans (List.getElem?_eq_getElem hie)
      rw [hc,Option.bind_eq_some_iff]at h0
      obtain⟨cs,h1,h2⟩:=h0
      obtain⟨s,hv,his⟩:=cell_weight d hkd h2
      refine⟨s,?_,?_⟩
      · unfold cellAt
        rw [← Go.Deep.add_add,(World.cells?_some h1).2.2 j hj,hv];rfl
      · rw [hxx.1]
        simp only [DataW.weights,ht]
        refine List.mem_cons_of_mem _ (List.mem_append.2 (.inl (weights_all (List.mem_map.2 ⟨_,List.getElem_mem hie,rfl⟩) his)))
    by_cases hcap:cap=0
    · subst hcap
      obtain rfl:len=0:=by omega
      refine⟨some ⟨id,0,0,0,sz⟩,0,noBlk sz,noPlace sz,x,.inl rfl,noRow hw hsz,by simp,fun φ hφ=> ?_,fun j hj=>by omega,fun i j hi=>by omega,fun i j hi=>by omega⟩
      simp only [VRel]
      exact⟨x,0,rfl,Nat.le_refl _,Nat.le_refl _,.inl ⟨rfl,_,hφ,rfl,.inl rfl,fun _=>rfl⟩⟩
    have hspot:x.spot=none:=by
      have:=(hcellAt 0 0 (by omega) hsz).1
      simpa [Addr.add]using World.cell?_spot this
    have hadd: ∀ i,x.add i=⟨x.block,x.off+i,none⟩:=by
      intro i
      obtain⟨bl,of,sp⟩:=x
      simp only at hspot
      subst hspot
      unfold Addr.add
      split
      · rename_i h0;subst h0;rfl
      · rfl
    have hcells: ∀ i,i<cap→(elemAt w x isA sz i).cells=(List.range sz).map fun j=>ofScalar (cellAt w x (i*sz+j)):=by
      intro i hi
      refine elemA_cells fun hA'=> ?_
      have h1:=hA hA'
      subst h1
      refine⟨_,rfl,?_⟩
      obtain⟨_,k,_,his⟩:=hcellAt i 0 hi (by omega)
      exact his.bare.2.1
    have hblk:x.block<w.heap.size:=by
      have:=(hcellAt 0 0 (by omega) hsz).1
      rw [hadd]at this
      unfold World.cell? at this
      split at this
      · rename_i hb;exact(Array.getElem?_eq_some_iff.1 hb).1
      · cases this
    refine⟨some ⟨id,0,0,0,sz⟩,cap,{elems:=(List.range cap).map (elemAt w x isA sz),es:=sz,exact:=true,ro:=true,ver:=0,minVer:=0,forkLen:=0,ty:=none},{blk:=x.block,off:=x.off,lo:=0,es:=sz,tot:=cap,exact:=true,ro:=true},x,.inl rfl,?_,by omega,?_,?_,fun i j hi hj=>(hcellAt i j (by omega) hj).2,txt⟩
    · refine⟨rfl,rfl,rfl,rfl,hsz,rfl,fun φ S=>⟨hblk,(fun h=>by cases h),?_,(fun h=>by cases h),(fun h=>by cases h),(fun q h=>by cases h),?_⟩,?_⟩
      · intro o ho
        simp only at ho
        have h1:o / sz<cap:=Nat.div_lt_of_lt_mul (by rw [Nat.mul_comm];exact ho)
        have:=(hcellAt (o / sz) (o % sz) h1 (Nat.mod_lt _ hsz)).1
        rw [show o / sz*sz+o % sz=o by rw [Nat.mul_comm];exact Nat.div_add_mod o sz,hadd]at this
        simp only [this];rfl
      · intro i e0 _ _ he
        simp only [List.getElem?_map,Option.map_eq_some_iff]at he
        obtain⟨i',hi',rfl⟩:=he
        have hi:=(List.getElem?_eq_some_iff.1 hi').1
        simp only [List.length_range]at hi
        rw [List.getElem?_range hi]at hi'
        simp only [Option.some.injEq]at hi';subst hi'
        refine⟨by rw [hcells i hi];simp,by simp only;omega,fun j x' hx=> ?_⟩
        rw [hcells i hi,List.getElem?_map,Option.map_eq_some_iff]at hx
        obtain⟨j',hj',rfl⟩:=hx
        have hj:=(List.getElem?_eq_some_iff.1 hj').1
        simp only [List.length_range]at hj
        rw [List.getElem?_range hj]at hj'
        simp only [Option.some.injEq]at hj';subst hj'
        obtain⟨h1,k,_,his⟩:=hcellAt i j hi hj
        refine⟨_,?_,ofScalar_rel φ _,his.bare.2.2⟩
        rw [hadd]at h1
        simp only [Place.at,Nat.sub_zero,Nat.add_assoc]
        exact h1
      · intro e0 he
        obtain⟨i,hi,rfl⟩:=List.mem_map.1 he
        have hi:=List.mem_range.1 hi
        unfold elemAt elemA
        have hall: ∀ a∈(List.range sz).map (fun j=>ofScalar (cellAt w x (i*sz+j))),Bare a:=by
          intro a ha
          obtain⟨j,hj,rfl⟩:=List.mem_map.1 ha
          obtain⟨_,k,_,his⟩:=hcellAt i j hi (List.mem_range.1 hj)
          exact his.bare.1
        cases isA with
        | true=>exact Bare.agg hall
        | false =>
          have h1:=hA rfl
          subst h1
          exact hall _ (by simp)
    · intro φ hφ
      simp only [VRel]
      refine⟨x,cap,rfl,hl,Nat.le_refl _,.inl ⟨rfl,_,hφ,rfl,?_,fun _=>rfl⟩⟩
      refine .inr ⟨Nat.le_refl _,?_,by simp⟩
      have:=hadd 0
      simp only [Addr.add,if_true]at this
      simpa [Place.at]using this
    · intro i hi
      have hi':i<cap:=by omega
      simp [ABlk.elem?,ABlk.lim,hi']
end
end
end Go.Lift
namespace Go.Proofs.YtjpfnbihopoeeaaGreatDoor
open Go.ChangeShapes Go.WideShapes Go.ChangeAt Go.RowKit
open Go.Lift
set_option maxRecDepth 1000000
structure RowIn(w:World)(a:Addr)(r:Nat)(W:Nat→Prop) where
  A:Option Addr
  L:Nat
  C:Nat
  o:Option AAddr
  c:Nat
  b:ABlk
  p:Lift.Place
  tx:List Bys
  cell:w.cell? (a.add r)=some (.slice A L C)
  sl:SlArg o L c (1+r) 0 0 1
  row:ArgRow w b p
  rel: ∀ φ:Map,φ (1+r) 0=some p→VRel φ (.slice o L c) (.slice A L C)
  len:tx.length=L
  el: ∀ j (h:j<tx.length),b.elem? 0 (0+j)=some (.str tx[j])
  w: ∀ R,(∀ y,W y→y≤R)→ ∀ s∈tx,s.length≤R
section
variable {H:Type}{enc:TypeId×Value→H}{P:Program}{w:World}
theorem row_in {e q:TypeId}(he:P.underlying e=some (.slice q))(hks:(List.range 1).map (cellKind P 5 q)=([TK.string]:List TK).map some)(cq:P.cellsOf q=1)(hw:0<w.heap.size){a:Addr}{r n:Nat}{v:Value}{y:DataW H×List MemPlace}(hv:w.cell? (a.add r)=some v)(hy:DataW.trod enc P w 0 (fun _=>true) true n e [v]=some y)(W:Nat→Prop)(hW: ∀ x∈y.1.weights P e,W x):Nonempty (RowIn w a r W):=by
  have hsl: ∃ A L C,v= .slice A L C:=by
    rcases DataW.trod_slice he hy with ⟨hcs,_⟩ | ⟨x,l,c,_,_,_,_,hcs,_⟩
    · simp at hcs;exact⟨_,_,_,hcs⟩
    · simp at hcs;exact⟨_,_,_,hcs⟩
  obtain⟨A,L,C,rfl⟩:=hsl
  obtain⟨o,c,b,p,x,h1,h2,h3,h4,h5,h6,h7⟩:=open_flat_argX (isA:=false) (d:=5) (sz:=1) (ks:= [.string]) hw he cq (by decide) (fun _=>rfl) hks (dd:=y.1) (ps:=y.2) ⟨n,hy⟩ (1+r)
  have key: ∀ i,i<L→ ∃ s:ByteArray,elemAt w x false 1 i= .str s.data.toList∧s.size∈y.1.weights P e:=by
    intro i hi
    obtain⟨s,g1,g2⟩:=h7 i 0 hi (by decide) rfl
    have e':elemAt w x false 1 i=ofScalar (cellAt w x (i*1+0)):=rfl
    exact⟨s,by rw [e',g1];rfl,g2⟩
  let txt:Nat→Bys:=fun i=>match elemAt w x false 1 i with | .str s=>s | _=> []
  have ht: ∀ i,i<L→elemAt w x false 1 i= .str (txt i)∧ ∃ s∈y.1.weights P e,(txt i).length=s:=by
    intro i hi
    obtain⟨s,g1,g2⟩:=key i hi
    have:txt i=s.data.toList:=by show(match elemAt w x false 1 i with | .str s=>s | _=> [])=_;rw [g1]
    rw [this]
    exact⟨g1,_,g2,(Array.length_toList:s.data.toList.length=s.data.size)⟩
  refine⟨⟨A,L,C,o,c,b,p,(List.range L).map txt,hv,h1,h2,h4,by simp,fun j hj=> ?_,fun R hR s hs=> ?_⟩⟩
  · have hj':j<L:=by simpa using hj
    rw [h5 j hj',(ht j hj').1]
    simp
  · obtain⟨i,hi,rfl⟩:=List.mem_map.1 hs
    obtain⟨_,z,z1,z2⟩:=ht i (List.mem_range.1 hi)
    rw [z2];exact hR _ (hW _ z1)
theorem open_txt_rows {t e q:TypeId} (ht:P.underlying t=some (.slice e)) (he:P.underlying e=some (.slice q)) (ce:P.cellsOf e=1) (cq:P.cellsOf q=1) (bq:P.bytesOf q=16) (hks:(List.range 1).map (cellKind P 5 q)=([TK.string]:List TK).map some) (hw:0<w.heap.size)
    {a:Option Addr} {len cap:Nat} {dd:DataW H} {ps:List MemPlace} (h:DataW.Trod enc P w 0 (fun _=>true) true t (.slice a len cap) dd ps) (hwt: ∀ y∈dd.weights P t,y≤reachBytes) :
    ∃ (l:List (ABlk×Lift.Place)) (o:Option AAddr) (c:Nat) (rs:List Rr),(∀ S,HRel (rowsMap (l.map (·.2))) S (AHeap.of (l.map (·.1))) w)∧VRel (rowsMap (l.map (·.2))) (.slice o len c) (.slice a len cap)∧Tq (AHeap.of (l.map (·.1))) 0 (.slice o len c) rs∧rs.length=len∧0<(AHeap.of (l.map (·.1))).next ∧
      (∀ r∈rs,r.q<(AHeap.of (l.map (·.1))).next)∧(∀ r∈rs,r.l.length*16≤reachBytes∧ ∀ s∈r.l,s.length≤reachBytes)∧len≤maxLen:=by
  obtain⟨fuel,hf⟩:=h
  have hf':DataW.trod enc P w 0 (fun _=>true) true fuel t [.slice a len cap]=some (dd,ps):=hf
  rcases DataW.trod_slice ht hf' with ⟨hcs,_⟩ | ⟨x,l0,c0,elems,rest,n,_,hcs,hxx,_,hl,hm,hlen,hel,hsp,_⟩
  · simp at hcs
    obtain⟨rfl,rfl,rfl⟩:=hcs
    refine⟨[(noBlk 1,noPlace 1)],none,0,[],fun S=>HRel.of_args _ (fun x h=>by rw [List.mem_singleton.1 h];exact noRow hw (by omega)),by simp [VRel],⟨Rd.nil _ _,by simp⟩,rfl,?_,by simp,by simp,by simp⟩
    rw [AHeap.of_next];simp
  · simp at hcs
    obtain⟨rfl,rfl,rfl⟩:=hcs
    obtain⟨hrl,hr⟩:=hsp rfl
    simp only [Prod.mk.injEq]at hxx
    by_cases hcap:cap=0
    · subst hcap
      obtain rfl:len=0:=by omega
      refine⟨[(noBlk 1,noPlace 1)],some ⟨0,0,0,0,1⟩,0,[],fun S=>HRel.of_args _ (fun x h=>by rw [List.mem_singleton.1 h];exact noRow hw (by omega)),?_,⟨⟨_,_,rfl,(fun a h=>by cases h;exact⟨rfl,rfl⟩),.inl rfl⟩,by simp⟩,rfl,?_,by simp,by simp,by simp⟩
      · simp only [VRel]
        exact⟨x,0,rfl,Nat.le_refl _,Nat.le_refl _,.inl ⟨rfl,_,rfl,rfl,.inl rfl,fun _=>rfl⟩⟩
      · rw [AHeap.of_next];simp
    have each0: ∀ r,r<cap→ ∃ v y,w.cell? (x.add r)=some v∧DataW.trod enc P w 0 (fun _=>true) true n e [v]=some y∧(r<len→y∈elems):=by
      intro r hr'
      have hb: ∃ y,(w.cells? 0 (x.add (r*P.cellsOf e)) (P.cellsOf e)).bind (DataW.trod enc P w 0 (fun _=>true) true n e)=some y∧(r<len→y∈elems):=by
        by_cases k1:r<len
        · exact⟨_,(hel r k1).trans (List.getElem?_eq_getElem (by omega)),fun _=>List.getElem_mem _⟩
        · have:=hr (r-len) (by omega)
          rw [show len+(r-len)=r by omega]at this
          exact⟨_,this.trans (List.getElem?_eq_getElem (by omega)),fun h=>absurd h k1⟩
      obtain⟨y,hy,hm'⟩:=hb
      rw [ce,Option.bind_eq_some_iff,Nat.mul_one]at hy
      obtain⟨cs,h1,h2⟩:=hy
      have hc3:=World.cells?_some h1
      have hcl:cs.length=1:=hc3.2.1
      match cs,hcl with
      | [v],_ =>
        have e0:=hc3.2.2 0 (by decide)
        exact⟨v,y,by
          have:(x.add r).add 0=x.add r:=by unfold Addr.add;simp
          rw [← this];exact e0,h2,hm'⟩
    have inW: ∀ r (hr':r<cap),Nonempty (RowIn w x r fun z=>r<len→z≤reachBytes∨False):=by
      intro r hr'
      obtain⟨v,y,h1,h2,h3⟩:=each0 r hr'
      refine row_in he hks cq hw h1 h2 _ fun z hz hlt=> .inl (hwt z ?_)
      rw [hxx.1]
      simp only [DataW.weights,ht]
      exact List.mem_cons_of_mem _ (List.mem_append_left _ (weights_all (List.mem_map.2 ⟨_,h3 hlt,rfl⟩) hz))
    let y:Fin cap→Sigma fun r=>RowIn w x r fun z=>r<len→z≤reachBytes∨False:=fun i=>⟨i.1,Classical.choice (inW i.1 i.2)⟩
    let g:(i:Fin cap)→RowIn w x i.1 fun z=>i.1<len→z≤reachBytes∨False:=fun i=>Classical.choice (inW i.1 i.2)
    have hspot:x.spot=none:=by
      have h0:=(g ⟨0,by omega⟩).cell
      simpa [Addr.add]using World.cell?_spot h0
    have hadd: ∀ i,i<cap→x.add i=⟨x.block,x.off+i,none⟩:=by
      intro i hi
      obtain⟨bl,of,sp⟩:=x
      simp only at hspot
      subst hspot
      unfold Addr.add
      split
      · rename_i h0;subst h0;rfl
      · rfl
    have hb:x.block<w.heap.size:=by
      have:=(g ⟨0,by omega⟩).cell
      unfold World.cell? at this
      split at this
      · rename_i hb
        have hb':=(Array.getElem?_eq_some_iff.1 hb).1
        simpa [Addr.add]using hb'
      · cases this
    let ob:ABlk:= {elems:=List.ofFn fun i=> .slice (g i).o (g i).L (g i).c,es:=1,exact:=true,ro:=true,ver:=0,minVer:=0,forkLen:=0,ty:=none}
    let op:Lift.Place:= {blk:=x.block,off:=x.off,lo:=0,es:=1,tot:=cap,exact:=true,ro:=true}
    let l:List (ABlk×Lift.Place):=(ob,op)::List.ofFn fun i=>((g i).b,(g i).p)
    have hln:l.length=1+cap:=by simp [l];omega
    have hlr: ∀ i:Fin cap,l[1+i.1]? =some ((g i).b,(g i).p):=by
      intro i
      rw [show 1+i.1=i.1+1 by omega]
      simp [l]
    have hmap: ∀ i:Fin cap,rowsMap (l.map (·.2)) (1+i.1) 0=some (g i).p:=by
      intro i
      unfold rowsMap
      rw [if_pos rfl,List.getElem?_map,hlr i];rfl
    have hrow: ∀ S,Row (rowsMap (l.map (·.2))) S ob 0 op w:=by
      intro S
      refine⟨hb,(fun h=>by cases h),?_,(fun h=>by cases h),(fun h=>by cases h),(fun q h=>by cases h),?_⟩
      · intro o ho
        have ho:o<cap:=by simpa [op]using ho
        have:=(g ⟨o,ho⟩).cell
        rw [hadd o ho]at this
        show(w.cell? ⟨x.block,x.off+o,none⟩).isSome=true
        rw [this];rfl
      · intro i e' _ _ he'
        have he':(List.ofFn fun i:Fin cap=>AVal.slice (g i).o (g i).L (g i).c)[i]? =some e':=he'
        have hi:i<cap:=by have:=(List.getElem?_eq_some_iff.1 he').1;simpa using this
        have he2:e'= .slice (g ⟨i,hi⟩).o (g ⟨i,hi⟩).L (g ⟨i,hi⟩).c:=by
          simp [hi]at he'
          exact he'.symm
        subst he2
        refine⟨by simp [AVal.cells,op],by simpa [op]using hi,fun j x' hx'=> ?_⟩
        simp only [AVal.cells]at hx'
        have hj:j=0:=by
          have:=(List.getElem?_eq_some_iff.1 hx').1;simpa using this
        subst hj
        simp only [List.getElem?_cons_zero,Option.some.injEq]at hx'
        subst hx'
        refine⟨.slice (g ⟨i,hi⟩).A (g ⟨i,hi⟩).L (g ⟨i,hi⟩).C,?_,(g ⟨i,hi⟩).rel _ (hmap ⟨i,hi⟩),rfl⟩
        have h1:=(g ⟨i,hi⟩).cell
        rw [hadd i hi]at h1
        simpa [Place.at,op]using h1
    let rs:List Rr:=List.ofFn fun i:Fin len=>⟨1+i.1,.slice (g ⟨i.1,by omega⟩).o (g ⟨i.1,by omega⟩).L (g ⟨i.1,by omega⟩).c,(g ⟨i.1,by omega⟩).tx⟩
    have hnext:(AHeap.of (l.map (·.1))).next=1+cap:=by rw [AHeap.of_next,List.length_map,hln]
    have hvs:(vsOf rs).length=len:=by simp [rs]
    refine⟨l,some ⟨0,0,0,0,1⟩,cap,rs,fun S=>HRel.of_rows l ?_,?_,⟨⟨_,cap,by rw [hvs],(fun a h=>by cases h;exact⟨rfl,rfl⟩),.inr ⟨0,0,ob,rfl,by omega,?_,fun i hi=> ?_⟩⟩,fun r hr'=> ?_⟩,by simp [rs],by omega,fun r hr'=> ?_,fun r hr'=> ?_,Nat.le_trans hl hm⟩
    · intro z hz
      rcases List.mem_cons.1 hz with rfl | hz
      · exact⟨rfl,rfl,rfl,rfl,by simp [op],rfl,hrow S⟩
      · obtain⟨i,rfl⟩:=(List.mem_ofFn.1 hz)
        exact(g i).row.two
    · simp only [VRel]
      refine⟨x,cap,rfl,hl,Nat.le_refl _,.inl ⟨rfl,op,?_,rfl,?_,fun _=>rfl⟩⟩
      · unfold rowsMap;rw [if_pos rfl];rfl
      · refine .inr ⟨Nat.le_refl _,?_,by simp [op]⟩
        have:=hadd 0 (by omega)
        simp only [Addr.add,if_true]at this
        simpa [Place.at,op]using this
    · rw [AHeap.of_get];rfl
    · have hi':i<len:=by omega
      have h1:ob.elem? 0 (0+i)=ob.elems[i]? :=by simp [ABlk.elem?,ABlk.lim,ob]
      rw [h1]
      simp [ob,rs,show i<cap by omega]
    · obtain⟨i,rfl⟩:=(List.mem_ofFn.1 hr')
      have G:=g ⟨i.1,by omega⟩
      have hi:i.1<cap:=by omega
      have hlen':=(g ⟨i.1,hi⟩).len
      have hgb:(AHeap.of (l.map (·.1))).get (1+i.1)=some (g ⟨i.1,hi⟩).b:=by
        rw [AHeap.of_get,List.getElem?_map,hlr ⟨i.1,hi⟩];rfl
      refine⟨(g ⟨i.1,hi⟩).o,(g ⟨i.1,hi⟩).c,by rw [List.length_map,hlen'],?_,?_⟩
      · intro a ha
        rcases (g ⟨i.1,hi⟩).sl with h | ⟨h,_⟩
        · rw [h]at ha;cases ha;exact⟨rfl,rfl⟩
        · rw [h]at ha;cases ha
      · rcases (g ⟨i.1,hi⟩).sl with h | ⟨_,h,_⟩
        · refine .inr ⟨0,0,_,h,by show 1+i.1<_;omega,hgb,fun j hj=> ?_⟩
          have hj':j<(g ⟨i.1,hi⟩).tx.length:=by simpa using hj
          rw [(g ⟨i.1,hi⟩).el j hj']
          simp
        · left
          rw [List.map_eq_nil_iff]
          exact List.length_eq_zero_iff.1 (by rw [hlen',h])
    · obtain⟨i,rfl⟩:=(List.mem_ofFn.1 hr')
      show 1+i.1<_
      omega
    · obtain⟨i,rfl⟩:=(List.mem_ofFn.1 hr')
      have hi:i.1<cap:=by omega
      refine⟨?_,fun s hs=>(g ⟨i.1,hi⟩).w reachBytes (fun z hz=>(hz i.2).resolve_right id) s hs⟩
      show(g ⟨i.1,hi⟩).tx.length*16≤reachBytes
      rw [(g ⟨i.1,hi⟩).len]
      obtain⟨v,y',h1,h2,h3⟩:=each0 i.1 hi
      have hv:v= .slice (g ⟨i.1,hi⟩).A (g ⟨i.1,hi⟩).L (g ⟨i.1,hi⟩).C:=by
        have:=(g ⟨i.1,hi⟩).cell
        rw [h1]at this
        simpa using this
      subst hv
      have:=weight_len he (dd:=y'.1) (ps:=y'.2) ⟨n,h2⟩ (fun z hz=>hwt z (by
        rw [hxx.1]
        simp only [DataW.weights,ht]
        exact List.mem_cons_of_mem _ (List.mem_append_left _ (weights_all (List.mem_map.2 ⟨_,h3 i.2,rfl⟩) hz))))
      rw [bq]at this
      exact this
end
theorem sorted_law_at {H:AHeap}{rc N:Nat}{ro:Option AAddr}{rs:List Rr}(t:Tq H 0 (.slice ro N rc) rs)(hN:rs.length=N)(h0:0<H.next)(hq: ∀ r∈rs,r.q<H.next)(hw: ∀ r∈rs,r.l.length*16≤reachBytes∧ ∀ s∈r.l,s.length≤reachBytes)(hm:N≤maxLen)(hv:Bool)(k:Int)(d:Bool) :
    ∃ h',FDoes Tryz.prog cnd 9 [.slice ro N rc,.bool hv,.int .i64 k,.bool d] H (.bool true) h':=by
  by_cases hbig:300<N
  · obtain⟨v,h1,hd,rfl⟩:=sdA_vc H N rc ro k (.bool hv) (.bool d) (fun v _=>v= .bool true) (bifL (Nat.le_refl _) (bifL (by omega) ⟨boolT (by omega),bifL (by omega) (condL (by omega) rfl)⟩))
    exact⟨h1,hd⟩
  · refine sorted_core hN (by omega) t h0 hq (fun r hr=> ?_) (fun r hr x hx=> ?_) hv k d
    · have:=(hw r hr).1
      have e:reachBytes≤2^47:=by decide
      omega
    · have:=(hw r hr).2 x hx
      have e:reachBytes≤2^47:=by decide
      omega
end Go.Proofs.YtjpfnbihopoeeaaGreatDoor
namespace Go.Proofs.YtjpfnbihopoeeaaGreatDoor
open Go.ChangeShapes Go.WideShapes Go.RowKit Go.Stop
open Go.Lift
set_option maxRecDepth 1000000
noncomputable def laidWorld(os:Os):World :=
  {World.doorLaid Tryz.prog 96 os with heap:=(World.doorLaid Tryz.prog 96 os).heap.modify 3 fun
      | .cells _ t frozen=> .cells (Go.Pinned.utf8FirstZ.map fun(z:Nat)=>Value.int .u8 (z:Int)).toArray t frozen
      | o=>o}
theorem laidMet_of_bits {P:Program}{w:World}{l:List (String×DataW Unit)}(fuel M:Nat)(h:(DataW.laidRun P w fuel (l.map (·.1))).bind (fun x=>if nodupBits M x.2 0 && laidRowsB P w x.2 then some x.1 else none)=some l):laidMet P l w:=by
  simp only [Option.bind_eq_some_iff]at h
  obtain⟨x,hx,d⟩:=h
  split at d
  · rename_i hb
    simp only [Bool.and_eq_true]at hb
    simp only [Option.some.injEq]at d
    exact laidMet_of_run (ps:=x.2) fuel (by rw [hx,← d]) (decide_eq_true (nodupBits_sound hb.1).1) hb.2
  · cases d
theorem laid_met(os:Os)(args:Array Value):laidMetH Tryz.prog Rows.tableKnownRow.laid ((laidWorld os).forCall (fun _ _=>0) ⟨#[],args,[]⟩).memory:=by
  rw [MakeChecks.laidMetH_plain _ _ _ (by kernel_rfl)]
  exact laidMet_of_bits 8 257 (by kernel_rfl)
theorem gSyn:Tryz.prog.globalNamed "strconv.ErrSyntax" =some 1:=by kernel_rfl
theorem gSynT:(Tryz.prog.globals[1]?).map (·.type)=some 100:=by kernel_rfl
theorem starE: "*" ++ "errors.errorString" = "*errors.errorString" :=by decide
theorem rowE(u:TypeId)(h:Tryz.prog.typeName? 3 u=some "*errors.errorString"):u=276 :=
  typeName_ptr_named (nm:= "errors.errorString") (by rw [starE];kernel_rfl) (by kernel_rfl) (by decide) u (by rw [starE];exact h)
theorem eCells:Tryz.prog.cellsOf 278=1:=by kernel_rfl
theorem strCells:Tryz.prog.cellsOf 9=1:=by kernel_rfl
theorem cell_of_var {P:Program}{W:World}{n:String}{g:Nat}{v:Value}(hg:P.globalNamed n=some g)(h:W.var? P n=some #[v]):W.cell? ⟨g,0,none⟩=some v∧g<W.heap.size:=by
  unfold World.var? at h
  rw [hg]at h
  simp only [Option.bind_some]at h
  split at h
  · rename_i cs t f hh
    simp only [Option.some.injEq]at h
    subst h
    refine⟨by simp [World.cell?,hh],(Array.getElem?_eq_some_iff.1 hh).1⟩
  · cases h
theorem cnd_of_laid {W:World}(h:laidMetH Tryz.prog Rows.tableKnownRow.laid W):cnd (fun k=>k<W.heap.size) W:=by
  rw [MakeChecks.laidMetH_plain _ _ _ (by kernel_rfl)]at h
  have h5:=laidMet.tail (laidMet.tail (laidMet.tail (laidMet.tail (laidMet.tail h))))
  obtain⟨a2,s2,hs,_⟩:=laid_sentinel h5 gSyn gSynT Tryz.underlying100 rowE Tryz.underlying276 Tryz.underlying278 rfl rfl Tryz.underlying9 eCells strCells
  obtain⟨s1,s2⟩:=cell_of_var gSyn hs
  exact⟨s2,⟨_,_,s1⟩⟩
end Go.Proofs.YtjpfnbihopoeeaaGreatDoor
