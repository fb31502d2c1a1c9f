/-
  Parts of the proof, one behind the other:
  Numbers of a field, in plain Lean: table's number and the document's Number are one.
  Contracts: strings.CutPrefix, strings.Cut, table.number.
  Fields of a row, and what holds rows against each other.
  Contracts: a row's field, sign, cmp.Compare, strings.Compare.
  The document's parts: its rounds as trees; memory a variable.
  The document's parts, plainly.
  A list of texts that grows, in a variable memory.
  The document's parts: its loop, in a variable memory.
  The document's parts: the whole loop.
  The document's parts, as a tree.
  The document's parts, in every memory.
  Slices of cells in a variable memory: read, written, grown.
  Tables of texts in a variable memory.
  Same, SameRow, mark, and the rounds of both Rows, as trees.
  Same, SameRow and mark in every memory.
  A mark; slices of one thing; a text split in a variable memory.
  apart, as trees.
  Both Rows in every memory.
  apart: its loops.
  apart: the loop that grows all, and the one that looks at all.
  apart: its last loops, and the whole.
  apart in every memory.
  What holds two rows against each other: the program's and the document's, as trees.
  What By's function and the document's Compare answer.
  THE CLOSED RUN of 'frescolaw14.works' on the abstract machine: it answers true.
  TableReads: its walk, as a tree.
  TableReads answers true.
  The library's sort: insertion, ranges that change places, rotation, as trees.
-/
import Derived.Test.YtjpfnbihopoeeaaGreatDoorKTableSortsC
set_option linter.unusedVariables false
set_option linter.unusedSimpArgs false
set_option linter.unusedSectionVars false
namespace Go.Proofs.YtjpfnbihopoeeaaGreatDoor
open Go.Lift
set_option maxRecDepth 1000000
def cutV(s:Bytes):Bytes×Bool:=if s.take 1= [45]then(s.drop 1,true)else(s,false)
def dotV(r:Bytes):Bytes×Bytes×Bool:=if 0≤Lib.indexByte r 46 then(r.take (Lib.indexByte r 46).toNat,r.drop (Lib.indexByte r 46+1).toNat,true)else(r,[],false)
def fillV(a d:Bytes):Bytes:=a++d++Lib.repeatL [48] (6-d.length)
def numW(a d:Bytes)(q m:Bool):Option Int :=
  if a.length<1∨9<a.length∨6<d.length∨(q=true∧d= [])then none
  else if(fillV a d).all dig=true then some (if m=true then 0- (valN 0 (fillV a d):Int)else(valN 0 (fillV a d):Int))else none
def numV(s:Bytes):Option Int:=numW (dotV (cutV s).1).1 (dotV (cutV s).1).2.1 (dotV (cutV s).1).2.2 (cutV s).2
theorem dot_cases (r:Bytes):(Lib.indexByte r 46= -1∧ ∀ c∈r,c.toNat≠46)∨ ∃ a d:Bytes,r=a++46::d∧(∀ c∈a,c.toNat≠46)∧Lib.indexByte r 46=(a.length:Nat):=by
  induction r with
  | nil=>exact Or.inl ⟨rfl,by simp⟩
  | cons c r ih =>
    by_cases hc:c=46
    · subst hc
      exact Or.inr ⟨[],r,rfl,by simp,by simp [Lib.indexByte]⟩
    · have hc':(c == 46)=false:=by simp [hc]
      have hn:c.toNat≠46:=fun h=>hc (UInt8.toNat_inj.1 h)
      rcases ih with ⟨h1,h2⟩ | ⟨a,d,h1,h2,h3⟩
      · exact Or.inl ⟨by simp [Lib.indexByte,hc',h1],fun x hx=>by
          rcases List.mem_cons.1 hx with hx | hx
          · rw [hx];exact hn
          · exact h2 x hx⟩
      · refine Or.inr ⟨c::a,d,by rw [h1];rfl,fun x hx=>by
          rcases List.mem_cons.1 hx with hx | hx
          · rw [hx];exact hn
          · exact h2 x hx,?_⟩
        have:((a.length:Int) == -1)=false:=by simp
        simp only [Lib.indexByte,hc',h3,this,List.length_cons]
        rfl
theorem dotV_none {r:Bytes}(h:Lib.indexByte r 46= -1):dotV r=(r,[],false):=by unfold dotV;rw [h,if_neg (by decide)]
theorem dotV_some {a d:Bytes}(h:Lib.indexByte (a++46::d) 46=(a.length:Nat)):dotV (a++46::d)=(a,d,true):=by
  unfold dotV
  rw [h,if_pos (by omega)]
  rw [show((a.length:Int)+1).toNat=a.length+1 by omega,Int.toNat_natCast]
  simp [List.drop_append]
theorem valN_cons(n:Nat)(c:UInt8)(r:Bytes):valN n (c::r)=valN (n*10+(c.toNat-48)) r:=by kernel_rfl
theorem valN_nil(n:Nat):valN n []=n:=by kernel_rfl
theorem valN_append(a d:Bytes): ∀ (n:Nat),valN n (a++d)=valN (valN n a) d:=by
  induction a with
  | nil=>intro n;rw [List.nil_append,valN_nil]
  | cons c a ih=>intro n;rw [List.cons_append,valN_cons,valN_cons];exact ih _
theorem rep_succ(j:Nat):Lib.repeatL [48] (j+1)=48::Lib.repeatL [48] j:=by rw [Lib.repeatL];rfl
theorem valN_zeros(j:Nat): ∀ (n:Nat),valN n (Lib.repeatL [48] j)=n*10^j:=by
  induction j with
  | zero=>intro n;rw [Lib.repeatL,valN_nil,Nat.pow_zero,Nat.mul_one]
  | succ j ih =>
    intro n
    rw [rep_succ,valN_cons,ih,Nat.pow_succ,show(48:UInt8).toNat-48=0 by decide,Nat.add_zero,Nat.mul_assoc,Nat.mul_comm 10]
theorem zeros_dig(j:Nat):(Lib.repeatL [48] j).all dig=true:=by
  induction j with
  | zero=>rw [Lib.repeatL];rfl
  | succ j ih=>rw [rep_succ,List.all_cons,ih];decide
theorem fill_dig(a d:Bytes):(fillV a d).all dig=(a.all dig && d.all dig):=by simp [fillV,List.all_append,zeros_dig]
theorem fill_val(a d:Bytes):valN 0 (fillV a d)=valN (valN 0 a) d*10^(6-d.length):=by rw [fillV,valN_append,valN_append,valN_zeros]
theorem dGo_cons(n k:Nat)(b:Int)(c:UInt8)(r:Bytes):dGo n k b (c::r)=if c.toNat=46∧b<0 then dGo n k 0 r
    else if dig c=false then none
    else if b<0 then(if 9<k+1 then none else dGo (10*n+(c.toNat-48)) (k+1) b r)
    else if 6<b+1 then none else dGo (10*n+(c.toNat-48)) k (b+1) r:=by kernel_rfl
theorem dGo_nil(n k:Nat)(b:Int):dGo n k b []=some (n,k,b):=by kernel_rfl
theorem dGo_ahead: ∀ (a r:Bytes) (n k:Nat),(∀ c∈a,c.toNat≠46)→dGo n k (-1) (a++r)=if a.all dig=true∧(k+a.length≤9∨a= [])then dGo (valN n a) (k+a.length) (-1) r else none:=by
  intro a
  induction a with
  | nil=>intro r n k h;rw [if_pos ⟨rfl,Or.inr rfl⟩,valN_nil];rfl
  | cons c a ih =>
    intro r n k h
    have hc:c.toNat≠46:=h c List.mem_cons_self
    rw [List.cons_append,dGo_cons]
    rw [if_neg (by rintro ⟨h1, -⟩;exact hc h1)]
    by_cases hd:dig c=false
    · rw [if_pos hd,if_neg (by rintro ⟨h1, -⟩;simp [hd]at h1)]
    · rw [if_neg hd,if_pos (by decide)]
      have hd:dig c=true:=by simpa using hd
      by_cases h9:9<k+1
      · rw [if_pos h9,if_neg (fun h=>h.2.elim (fun h1=>by simp only [List.length_cons]at h1;omega) (fun h1=>by cases h1))]
      · rw [if_neg h9,ih r _ _ (fun x hx=>h x (List.mem_cons_of_mem _ hx))]
        have e:valN n (c::a)=valN (10*n+(c.toNat-48)) a:=by rw [valN_cons,Nat.mul_comm]
        rw [e,List.length_cons,show k+1+a.length=k+(a.length+1)by omega,List.all_cons,hd,Bool.true_and]
        by_cases ha:a.all dig=true∧(k+(a.length+1)≤9∨a= [])
        · rw [if_pos ha,if_pos ⟨ha.1,Or.inl (ha.2.elim id (fun h=>by subst h;simp only [List.length_nil];omega))⟩]
        · rw [if_neg ha,if_neg (fun h=>h.2.elim (fun h2=>ha ⟨h.1,Or.inl h2⟩) (fun h2=>by cases h2))]
theorem dGo_behind: ∀ (d:Bytes) (n k:Nat) (b:Int),0≤b→b≤6→dGo n k b d=if d.all dig=true∧b+d.length≤6 then some (valN n d,k,b+d.length)else none:=by
  intro d
  induction d with
  | nil=>intro n k b h h6;rw [if_pos ⟨rfl,by simp only [List.length_nil];omega⟩];rw [dGo_nil,valN_nil];simp
  | cons c d ih =>
    intro n k b h h6
    rw [dGo_cons,if_neg (by omega)]
    by_cases hd:dig c=false
    · rw [if_pos hd,if_neg (by rintro ⟨h1, -⟩;simp [hd]at h1)]
    · have hd:dig c=true:=by simpa using hd
      rw [if_neg (by simp [hd]),if_neg (by omega)]
      have el:b+1+(d.length:Nat)=b+((d.length+1:Nat):Int):=by omega
      by_cases h7:6<b+1
      · rw [if_pos h7,if_neg (by rintro ⟨-,h1⟩;simp only [List.length_cons]at h1;omega)]
      · rw [if_neg h7,ih _ _ _ (by omega) (by omega)]
        have e:valN n (c::d)=valN (10*n+(c.toNat-48)) d:=by rw [valN_cons,Nat.mul_comm]
        rw [e,List.length_cons,el,List.all_cons,hd,Bool.true_and]
theorem numS_plain (r:Bytes) (m:Bool):numW (dotV r).1 (dotV r).2.1 (dotV r).2.2 m=numS r (if m=true then-1 else 1):=by
  have sg: ∀ x:Nat,(if m=true then(-1:Int)else 1)* (x:Int)=if m=true then 0- (x:Int)else(x:Int):=by intro x;cases m<;>simp
  rcases dot_cases r with ⟨h1,h2⟩ | ⟨a,d,h1,h2,h3⟩
  · rw [dotV_none h1]
    have e:=dGo_ahead r [] 0 0 h2
    rw [List.append_nil,Nat.zero_add]at e
    unfold numS numW
    rw [e,fill_dig,fill_val]
    by_cases h:r.all dig=true∧(r.length≤9∨r= [])
    · rw [if_pos h]
      dsimp only [dGo]
      by_cases h0:r.length=0
      · rw [if_pos (Or.inl (by omega)),if_pos (Or.inl h0)]
      · have h9:r.length≤9:=h.2.resolve_right (fun h=>h0 (by rw [h];rfl))
        have hA: ¬(r.length<1∨9<r.length∨6<([]:Bytes).length∨(false=true∧([]:Bytes)= [])):=by
          rintro (h | h | h | h)
          · omega
          · omega
          · simp at h
          · cases h.1
        have hB: ¬(r.length=0∨(-1:Int)=0):=by omega
        have hC:(r.all dig && ([]:Bytes).all dig)=true:=by rw [h.1];rfl
        rw [if_neg hA,if_neg hB,if_pos hC,sg]
        rfl
    · rw [if_neg h]
      dsimp only
      split
      · rfl
      · rename_i hn
        rw [if_neg]
        intro hd
        exact h ⟨by simpa using hd,Or.inl (by omega)⟩
  · rw [h1] at h3 ⊢
    rw [dotV_some h3]
    have e:=dGo_ahead a (46::d) 0 0 h2
    rw [Nat.zero_add]at e
    have e2: ∀ n k,dGo n k (-1) (46::d)=dGo n k 0 d:=by intro n k;rw [dGo_cons];rw [if_pos ⟨by decide,by decide⟩]
    rw [e2,dGo_behind d _ _ 0 (by decide) (by decide)]at e
    unfold numS numW
    rw [e,fill_dig,fill_val]
    by_cases h:a.all dig=true∧(a.length≤9∨a= [])
    · rw [if_pos h]
      by_cases hd:d.all dig=true∧(0:Int)+d.length≤6
      · rw [if_pos hd]
        dsimp only
        by_cases h0:a.length=0∨d= []
        · rw [if_pos (h0.elim (fun h0=>Or.inl (by omega)) (fun h0=>Or.inr (Or.inr (Or.inr ⟨rfl,h0⟩)))),if_pos (h0.elim (fun h0=>Or.inl h0) (fun h0=>by subst h0;exact Or.inr rfl))]
        · have h0:=not_or.1 h0
          have h9:a.length≤9:=h.2.resolve_right (fun h=>h0.1 (by rw [h];rfl))
          have hdl:d.length≠0:=fun h=>h0.2 (List.length_eq_zero_iff.1 h)
          have hA: ¬(a.length<1∨9<a.length∨6<d.length∨(true=true∧d= [])):=by
            rintro (h | h | h | h)
            · omega
            · omega
            · omega
            · exact h0.2 h.2
          have hB: ¬(a.length=0∨(0:Int)+d.length=0):=by omega
          have hC:(a.all dig && d.all dig)=true:=by rw [h.1,hd.1];rfl
          rw [if_neg hA,if_neg hB,if_pos hC,sg]
          rw [show((0:Int)+(d.length:Nat)).toNat=d.length by omega]
      · rw [if_neg hd]
        dsimp only
        split
        · rfl
        · rename_i hn
          rw [if_neg]
          intro hx
          exact hd ⟨by simp at hx;simpa using hx.2,by omega⟩
    · rw [if_neg h]
      dsimp only
      split
      · rfl
      · rename_i hn
        rw [if_neg]
        intro hx
        exact h ⟨by simp at hx;simpa using hx.1,Or.inl (by omega)⟩
theorem numV_numD(s:Bytes):numV s=numD s:=by
  unfold numV
  rw [numS_plain]
  cases s with
  | nil=>decide
  | cons c r =>
    by_cases hc:c.toNat=45
    · have:c=45:=UInt8.toNat_inj.1 hc
      subst this
      have e1:cutV (45::r)=(r,true):=by unfold cutV;exact if_pos rfl
      have e2:numD (45::r)=numS r (-1):=by unfold numD;exact if_pos hc
      rw [e1,e2];rfl
    · have e1:cutV (c::r)=(c::r,false):=by unfold cutV;exact if_neg (by intro h;simp at h;exact hc (by rw [h];rfl))
      have e2:numD (c::r)=numS (c::r) 1:=by unfold numD;exact if_neg hc
      rw [e1,e2];rfl
end Go.Proofs.YtjpfnbihopoeeaaGreatDoor
namespace Go.Proofs.YtjpfnbihopoeeaaGreatDoor
open Go.Lift
set_option maxRecDepth 1000000
theorem cutp_does(s:Bytes)(H:AHeap):FDoes Tryz.prog cnd 117 [.str s,.str [45]] H (.tuple [.str (cutV s).1,.bool (cutV s).2]) H:=by
  refine FDoes.ofVC (cutp_vc s (fun v _=>v= .tuple [.str (cutV s).1,.bool (cutV s).2]) ⟨fun h=>⟨⟨by decide,h⟩,fun h1=>⟨⟨by decide,h⟩,?_⟩,fun h1=> ?_⟩,fun h=> ?_⟩) rfl rfl H
  · show _=_;rw [show cutV s=(s.drop 1,true)from if_pos h1]
  · show _=_;rw [show cutV s=(s,false)from if_neg h1]
  · have:s= []:=List.length_eq_zero_iff.1 (by omega)
    subst this;rfl
theorem cut_does(s:Bytes)(hs:s.length<2^48)(H:AHeap):FDoes Tryz.prog cnd 118 [.str s,.str [46]] H (.tuple [.str (dotV s).1,.str (dotV s).2.1,.bool (dotV s).2.2]) H:=by
  have hb:0≤Lib.indexByte s 46→Lib.indexByte s 46<(s.length:Int):=by
    intro h
    rcases dot_cases s with ⟨h1, -⟩ | ⟨a,d,h1, -,h3⟩
    · omega
    · rw [h3,h1];simp only [List.length_append,List.length_cons];omega
  refine FDoes.ofVC (cut_vc s (fun v _=>v= .tuple [.str (dotV s).1,.str (dotV s).2.1,.bool (dotV s).2.2]) ⟨rfl,fun h=>⟨⟨h,by have:=hb h;omega⟩,⟨by omega,by have:=hb h;omega⟩,⟨by omega,by have:=hb h;omega⟩,?_⟩,fun h=> ?_⟩) rfl rfl H
  · show _=_;rw [show dotV s=(s.take (Lib.indexByte s 46).toNat,s.drop (Lib.indexByte s 46+1).toNat,true)from if_pos h]
  · show _=_;rw [show dotV s=(s,[],false)from if_neg h]
theorem valN_lt(r:Bytes): ∀ n:Nat,r.all dig=true→valN n r<(n+1)*10^r.length:=by
  induction r with
  | nil=>intro n h;rw [valN_nil,List.length_nil,Nat.pow_zero];omega
  | cons c r ih =>
    intro n h
    rw [List.all_cons,Bool.and_eq_true]at h
    have hc:48≤c.toNat∧c.toNat≤57:=by have:=h.1;simpa [dig]using this
    rw [valN_cons]
    refine Nat.lt_of_lt_of_le (ih _ h.2) ?_
    rw [List.length_cons,Nat.pow_succ,Nat.mul_comm (10^r.length) 10,← Nat.mul_assoc]
    exact Nat.mul_le_mul_right _ (by omega)
theorem fill_len {a d:Bytes}(h6:d.length≤6):(fillV a d).length=a.length+6:=by
  unfold fillV
  rw [List.length_append,List.length_append,Lib.repeatL_length]
  simp only [List.length_cons,List.length_nil]
  omega
theorem num_big {a d:Bytes}(h1: ¬(a.length:Int)<1)(h9: ¬9<(a.length:Int))(h6: ¬6<(d.length:Int)) :
    Nat.le (Nat.succ (a.length+d.length)) (2^62)∧(-9223372036854775808≤6- (d.length:Int)∧6- (d.length:Int)≤9223372036854775807)∧0≤6- (d.length:Int)∧6- (d.length:Int)≤1048576 ∧
    (∀ x:Bytes,x=Lib.repeatL [48] (6- (d.length:Int)).toNat→Nat.le (Nat.succ ((a++d).length+x.length)) (2^62)) ∧
    (∀ t:Bytes,t=a++d++Lib.repeatL [48] (6- (d.length:Int)).toNat→t=fillV a d∧(t= []→False)∧t.length≤15∧t.length≤1048576 ∧
      (t.all dig=true→(valN 0 t:Int)<1000000000000000)):=by
  have e:(6- (d.length:Int)).toNat=6-d.length:=by omega
  rw [e]
  refine⟨?_,⟨by omega,by omega⟩,by omega,by omega,?_,?_⟩
  · show a.length+d.length<2^62
    exact Nat.lt_of_lt_of_le (m:=100) (by omega) (by decide)
  · rintro x rfl
    show(a++d).length+(Lib.repeatL [48] (6-d.length)).length<2^62
    rw [List.length_append,Lib.repeatL_length]
    exact Nat.lt_of_lt_of_le (m:=100) (by simp only [List.length_cons,List.length_nil];omega) (by decide)
  · rintro t rfl
    have hl:=fill_len (a:=a) (d:=d) (by omega)
    refine⟨rfl,?_,?_,?_,?_⟩
    · intro h
      have:(fillV a d).length=0:=by unfold fillV;rw [h];rfl
      omega
    · show(fillV a d).length≤15;omega
    · show(fillV a d).length≤1048576;omega
    · intro h
      have hv:=valN_lt (fillV a d) 0 h
      have:(0+1)*10^(fillV a d).length≤10^15:=by rw [Nat.one_mul];exact Nat.pow_le_pow_right (by decide) (by omega)
      rw [p15]at this
      show(valN 0 (fillV a d):Int)<_
      omega
theorem numW_1 {a d:Bytes}{q m:Bool}(h:(a.length:Int)<1∨9<(a.length:Int)∨6<(d.length:Int)∨(q=true∧d= [])):numW a d q m=none:=by
  unfold numW
  exact if_pos (h.elim (fun h=>Or.inl (by omega)) fun h=>h.elim (fun h=>Or.inr (Or.inl (by omega))) fun h=>h.elim (fun h=>Or.inr (Or.inr (Or.inl (by omega)))) fun h=>Or.inr (Or.inr (Or.inr h)))
theorem numW_2 {a d:Bytes}{q m:Bool}(h1: ¬(a.length:Int)<1)(h9: ¬9<(a.length:Int))(h6: ¬6<(d.length:Int))(hq:q=true→ ¬d= []) :
    numW a d q m=if(fillV a d).all dig=true then some (if m=true then 0- (valN 0 (fillV a d):Int)else(valN 0 (fillV a d):Int))else none:=by
  unfold numW
  refine if_neg ?_
  rintro (h | h | h | h)
  · omega
  · omega
  · omega
  · exact hq h.1 h.2
theorem fitN(x:Nat)(h:(x:Int)<1000000000000000): -9223372036854775808≤(x:Int)∧(x:Int)≤9223372036854775807:=⟨by omega,by omega⟩
theorem fitM(x:Nat)(h:(x:Int)<1000000000000000): -9223372036854775808≤0- (x:Int)∧0- (x:Int)≤9223372036854775807:=⟨by omega,by omega⟩
theorem num_does(s:Bytes)(hs:s.length<2^48)(H:AHeap):FDoes Tryz.prog cnd 65 [.str s] H (numA (numD s)) H:=by
  rw [← numV_numD]
  have hl:(cutV s).1.length<2^48:=by
    unfold cutV
    split
    · simp only [List.length_drop];omega
    · exact hs
  have c1:=fun H=>cutp_does s H
  have c2:=fun H=>cut_does (cutV s).1 hl H
  unfold numV
  generalize (cutV s).1=r at *
  generalize (cutV s).2=m at *
  generalize (dotV r).1=a at *
  generalize (dotV r).2.1=d at *
  generalize (dotV r).2.2=q at *
  have yes: ∀ {t:Bytes},t=fillV a d→(h1: ¬(a.length:Int)<1)→(h9: ¬9<(a.length:Int))→(h6: ¬6<(d.length:Int))→(hq:q=true→ ¬d= [])→t.all dig=true→numA (numW a d q m)= .tuple [.int .i64 (if m=true then 0- (valN 0 t:Int)else(valN 0 t:Int)),.bool true]:=by
    rintro t rfl h1 h9 h6 hq h
    rw [numW_2 h1 h9 h6 hq,if_pos h];rfl
  have no: ∀ {t:Bytes},t=fillV a d→(h1: ¬(a.length:Int)<1)→(h9: ¬9<(a.length:Int))→(h6: ¬6<(d.length:Int))→(hq:q=true→ ¬d= [])→ ¬t.all dig=true→numA (numW a d q m)= .tuple [.int .i64 0,.bool false]:=by
    rintro t rfl h1 h9 h6 hq h
    rw [numW_2 h1 h9 h6 hq,if_neg h];rfl
  have non:((a.length:Int)<1∨9<(a.length:Int)∨6<(d.length:Int)∨(q=true∧d= []))→AVal.tuple [.int .i64 0,.bool false]=numA (numW a d q m):=fun h=>by rw [numW_1 h];rfl
  cases m<;>cases q
  · refine FDoes.ofVC (numFF_vc s r a d (fun v _=>v=numA (numW a d false false)) ⟨⟨c1 _⟩,⟨c2 _⟩,fun h1=>non (Or.inl h1),fun h1=>⟨fun h9=>non (Or.inr (Or.inl h9)),fun h9=>⟨fun h6=>non (Or.inr (Or.inr (Or.inl h6))),fun h6=> ?_⟩⟩⟩) rfl (numA_bare _) H
    obtain⟨b1,b2,b3,b4,b5,b6⟩:=num_big h1 h9 h6
    refine⟨b1,b2,b3,b4,by decide,b5 _ rfl,fun h=> ?_,fun h=> ?_⟩
    · obtain⟨t1,t2,t3,t4,t5⟩:=b6 _ rfl
      have:=t5 h
      exact⟨rfl,rfl,t2,t3,fitN _ this,(yes t1 h1 h9 h6 (fun h=>by cases h) h).symm⟩
    · obtain⟨t1,t2,t3,t4,t5⟩:=b6 _ rfl
      exact⟨rfl,rfl,t2,t3,rfl,rfl,rfl,rfl,rfl,t4,(no t1 h1 h9 h6 (fun h=>by cases h) h).symm⟩
  · refine FDoes.ofVC (numFT_vc s r a d (fun v _=>v=numA (numW a d true false)) ⟨⟨c1 _⟩,⟨c2 _⟩,fun h1=>non (Or.inl h1),fun h1=>⟨fun h9=>non (Or.inr (Or.inl h9)),fun h9=>⟨fun h6=>non (Or.inr (Or.inr (Or.inl h6))),fun h6=>⟨fun hd=>non (Or.inr (Or.inr (Or.inr ⟨rfl,hd⟩))),fun hd=> ?_⟩⟩⟩⟩) rfl (numA_bare _) H
    obtain⟨b1,b2,b3,b4,b5,b6⟩:=num_big h1 h9 h6
    refine⟨b1,b2,b3,b4,by decide,b5 _ rfl,fun h=> ?_,fun h=> ?_⟩
    · obtain⟨t1,t2,t3,t4,t5⟩:=b6 _ rfl
      have:=t5 h
      exact⟨rfl,rfl,t2,t3,fitN _ this,(yes t1 h1 h9 h6 (fun _=>hd) h).symm⟩
    · obtain⟨t1,t2,t3,t4,t5⟩:=b6 _ rfl
      exact⟨rfl,rfl,t2,t3,rfl,rfl,rfl,rfl,rfl,t4,(no t1 h1 h9 h6 (fun _=>hd) h).symm⟩
  · refine FDoes.ofVC (numTF_vc s r a d (fun v _=>v=numA (numW a d false true)) ⟨⟨c1 _⟩,⟨c2 _⟩,fun h1=>non (Or.inl h1),fun h1=>⟨fun h9=>non (Or.inr (Or.inl h9)),fun h9=>⟨fun h6=>non (Or.inr (Or.inr (Or.inl h6))),fun h6=> ?_⟩⟩⟩) rfl (numA_bare _) H
    obtain⟨b1,b2,b3,b4,b5,b6⟩:=num_big h1 h9 h6
    refine⟨b1,b2,b3,b4,by decide,b5 _ rfl,fun h=> ?_,fun h=> ?_⟩
    · obtain⟨t1,t2,t3,t4,t5⟩:=b6 _ rfl
      have:=t5 h
      exact⟨rfl,rfl,t2,t3,fitN _ this,fitM _ this,(yes t1 h1 h9 h6 (fun h=>by cases h) h).symm⟩
    · obtain⟨t1,t2,t3,t4,t5⟩:=b6 _ rfl
      exact⟨rfl,rfl,t2,t3,rfl,rfl,rfl,rfl,rfl,t4,(no t1 h1 h9 h6 (fun h=>by cases h) h).symm⟩
  · refine FDoes.ofVC (numTT_vc s r a d (fun v _=>v=numA (numW a d true true)) ⟨⟨c1 _⟩,⟨c2 _⟩,fun h1=>non (Or.inl h1),fun h1=>⟨fun h9=>non (Or.inr (Or.inl h9)),fun h9=>⟨fun h6=>non (Or.inr (Or.inr (Or.inl h6))),fun h6=>⟨fun hd=>non (Or.inr (Or.inr (Or.inr ⟨rfl,hd⟩))),fun hd=> ?_⟩⟩⟩⟩) rfl (numA_bare _) H
    obtain⟨b1,b2,b3,b4,b5,b6⟩:=num_big h1 h9 h6
    refine⟨b1,b2,b3,b4,by decide,b5 _ rfl,fun h=> ?_,fun h=> ?_⟩
    · obtain⟨t1,t2,t3,t4,t5⟩:=b6 _ rfl
      have:=t5 h
      exact⟨rfl,rfl,t2,t3,fitN _ this,fitM _ this,(yes t1 h1 h9 h6 (fun _=>hd) h).symm⟩
    · obtain⟨t1,t2,t3,t4,t5⟩:=b6 _ rfl
      exact⟨rfl,rfl,t2,t3,rfl,rfl,rfl,rfl,rfl,t4,(no t1 h1 h9 h6 (fun _=>hd) h).symm⟩
end Go.Proofs.YtjpfnbihopoeeaaGreatDoor
namespace Go.Proofs.YtjpfnbihopoeeaaGreatDoor
open Go.Lift
set_option maxRecDepth 1000000
theorem fieldH_vc(H:AHeap)(o:Option AAddr)(n c:Nat)(k:Int)(p:AAddr)(w:List UInt8)(K0:AVal→AHeap→Prop)(vc:bif Nat.ble (AHeap.next H) (AHeap.next H) && true then bif Nat.ble (AHeap.next H) (AHeap.next H+1) && true then(k<0→bif Nat.ble (AHeap.next H) (AHeap.next H+9) && true then bif Nat.ble (AHeap.next H) (AHeap.next H+10)then K0 (AVal.str []) (AHeap.mk (AHeap.next H+9+1) (AHeap.blks (AHeap.mk (AHeap.next H+1+8) (AHeap.blks (AHeap.mk (AHeap.next H+1) (AHeap.blks H))))))else False else False)∧(¬k<0→((↑n:Int)≤k→bif Nat.ble (AHeap.next H) (AHeap.next H+9) && true then bif Nat.ble (AHeap.next H) (AHeap.next H+10)then K0 (AVal.str []) (AHeap.mk (AHeap.next H+9+1) (AHeap.blks (AHeap.mk (AHeap.next H+1+8) (AHeap.blks (AHeap.mk (AHeap.next H+1) (AHeap.blks H))))))else False else False)∧(¬(↑n:Int)≤k→bif Nat.ble (AHeap.next H) (AHeap.next H+9) && true then aindexAddr (AEnv.D env) 36 (AVal.slice o n c) (AVal.int IntKind.i64 k)=some (AVal.ptr (some p))∧aload (AEnv.D env) 9 p (AHeap.mk (AHeap.next H+14) (H.2))=some (AVal.str w)∧bif Nat.ble (AHeap.next H) (AHeap.next H+14)then K0 (AVal.str w) (AHeap.mk (AHeap.next H+9+5) (AHeap.blks (AHeap.mk (AHeap.next H+1+8) (AHeap.blks (AHeap.mk (AHeap.next H+1) (AHeap.blks H))))))else False else False))else False else False) :
    ∃ v h1,FDoes Tryz.prog cnd 49 [.slice o n c,.int .i64 k] H v h1∧K0 v h1 :=
  tcall_does env_ok mixed noSpecs_ok (hs:= .br 1001 .nil (.br 1006 .nil (.hint (.val 3002 (AVal.ptr (some p))) (.hint (.val 3003 (AVal.str w)) .nil)))) (by kernel_rfl) vc
theorem dfieldH_vc(H:AHeap)(o:Option AAddr)(n c:Nat)(k:Int)(p:AAddr)(w:List UInt8)(K0:AVal→AHeap→Prop)(vc:bif Nat.ble (AHeap.next H) (AHeap.next H) && true then bif Nat.ble (AHeap.next H) (AHeap.next H+1) && true then(k<0→bif Nat.ble (AHeap.next H) (AHeap.next H+9) && true then bif Nat.ble (AHeap.next H) (AHeap.next H+10)then K0 (AVal.str []) (AHeap.mk (AHeap.next H+9+1) (AHeap.blks (AHeap.mk (AHeap.next H+1+8) (AHeap.blks (AHeap.mk (AHeap.next H+1) (AHeap.blks H))))))else False else False)∧(¬k<0→((↑n:Int)≤k→bif Nat.ble (AHeap.next H) (AHeap.next H+9) && true then bif Nat.ble (AHeap.next H) (AHeap.next H+10)then K0 (AVal.str []) (AHeap.mk (AHeap.next H+9+1) (AHeap.blks (AHeap.mk (AHeap.next H+1+8) (AHeap.blks (AHeap.mk (AHeap.next H+1) (AHeap.blks H))))))else False else False)∧(¬(↑n:Int)≤k→bif Nat.ble (AHeap.next H) (AHeap.next H+9) && true then aindexAddr (AEnv.D env) 36 (AVal.slice o n c) (AVal.int IntKind.i64 k)=some (AVal.ptr (some p))∧aload (AEnv.D env) 9 p (AHeap.mk (AHeap.next H+14) (H.2))=some (AVal.str w)∧bif Nat.ble (AHeap.next H) (AHeap.next H+14)then K0 (AVal.str w) (AHeap.mk (AHeap.next H+9+5) (AHeap.blks (AHeap.mk (AHeap.next H+1+8) (AHeap.blks (AHeap.mk (AHeap.next H+1) (AHeap.blks H))))))else False else False))else False else False) :
    ∃ v h1,FDoes Tryz.prog cnd 55 [.slice o n c,.int .i64 k] H v h1∧K0 v h1 :=
  tcall_does env_ok mixed noSpecs_ok (hs:= .br 1001 .nil (.br 1006 .nil (.hint (.val 3002 (AVal.ptr (some p))) (.hint (.val 3003 (AVal.str w)) .nil)))) (by kernel_rfl) vc
theorem sign_vc(x y:Bool)(K0:AVal→AHeap→Prop)(vc:(x=true→K0 (AVal.int IntKind.i64 (-1)) (AHeap.rowsT 3 []))∧(x=false→(y=true→K0 (AVal.int IntKind.i64 (1)) (AHeap.rowsT 4 []))∧(y=false→K0 (AVal.int IntKind.i64 (0)) (AHeap.rowsT 4 [])))) :
    ∃ v h1,FDoes Tryz.prog cnd 69 [.bool x,.bool y] (⟨0,.nil⟩) v h1∧K0 v h1 :=
  tcall_does env_ok mixed noSpecs_ok (hs:= .br 1000 .nil (.br 3000 .nil .nil)) (by kernel_rfl) vc
theorem cmpi_vc(x y:Int)(K0:AVal→AHeap→Prop)(vc:CallT Tryz.prog cnd 120 [AVal.int IntKind.i64 x] (AHeap.rowsT 4 []) (AVal.bool false) (AHeap.rowsT 4 [])∧CallT Tryz.prog cnd 120 [AVal.int IntKind.i64 y] (AHeap.rowsT 7 []) (AVal.bool false) (AHeap.rowsT 7 [])∧(x<y→K0 (AVal.int IntKind.i64 (-1)) (AHeap.rowsT 13 []))∧(¬x<y→(y<x→K0 (AVal.int IntKind.i64 (1)) (AHeap.rowsT 16 []))∧(¬y<x→K0 (AVal.int IntKind.i64 (0)) (AHeap.rowsT 16 [])))) :
    ∃ v h1,FDoes Tryz.prog cnd 66 [.int .i64 x,.int .i64 y] (⟨0,.nil⟩) v h1∧K0 v h1 :=
  tcall_does env_ok mixed noSpecs_ok (hs:= .hint (.val 1001 (AVal.bool false)) (.hint (.val 2001 (AVal.bool false)) (.br 9002 .nil (.br 11002 .nil .nil)))) (by kernel_rfl) vc
theorem nan_vc(x:Int)(K0:AVal→AHeap→Prop)(vc:(x=x→K0 (AVal.bool false) (AHeap.rowsT 5 []))∧(¬x=x→K0 (AVal.bool true) (AHeap.rowsT 5 []))) :
    ∃ v h1,FDoes Tryz.prog cnd 120 [.int .i64 x] (⟨0,.nil⟩) v h1∧K0 v h1 :=
  tcall_does env_ok mixed noSpecs_ok (hs:= .br 1002 .nil .nil) (by kernel_rfl) vc
end Go.Proofs.YtjpfnbihopoeeaaGreatDoor
namespace Go.Proofs.YtjpfnbihopoeeaaGreatDoor
open Go.Lift
set_option maxRecDepth 1000000
def sgnV(a b:Bool):Int:=if a=true then-1 else if b=true then 1 else 0
theorem sign_does(a b:Bool)(H:AHeap):FDoes Tryz.prog cnd 69 [.bool a,.bool b] H (.int .i64 (sgnV a b)) H :=
  FDoes.ofVC (sign_vc a b (fun v _=>v= .int .i64 (sgnV a b)) ⟨fun h=>by rw [h];rfl,fun h=>⟨fun h2=>by rw [h,h2];rfl,fun h2=>by rw [h,h2];rfl⟩⟩) rfl rfl H
theorem nan_does(x:Int)(H:AHeap):FDoes Tryz.prog cnd 120 [.int .i64 x] H (.bool false) H :=
  FDoes.ofVC (nan_vc x (fun v _=>v= .bool false) ⟨fun _=>rfl,fun h=>absurd rfl h⟩) rfl rfl H
theorem cmpi_does(x y:Int)(H:AHeap):FDoes Tryz.prog cnd 66 [.int .i64 x,.int .i64 y] H (.int .i64 (sgnV (decide (x<y)) (decide (y<x)))) H :=
  FDoes.ofVC (cmpi_vc x y (fun v _=>v= .int .i64 (sgnV (decide (x<y)) (decide (y<x)))) ⟨⟨nan_does _ _⟩,⟨nan_does _ _⟩,fun h=>by rw [decide_eq_true h];rfl,fun h=>⟨fun h2=>by rw [decide_eq_false h,decide_eq_true h2];rfl,fun h2=>by rw [decide_eq_false h,decide_eq_false h2];rfl⟩⟩) rfl rfl H
abbrev up(H:AHeap)(m:Nat):AHeap:=⟨H.next+m,H.blks⟩
def RowAt(H:AHeap)(v:AVal)(l:List Bytes):Prop :=
  ∃ o c,v= .slice o l.length c∧ ∀ i,(hi:i<l.length)→ ∃ a b,o=some a∧a.es=1∧a.fld=0∧H.get a.id=some b∧b.elem? a.ver (a.idx+i)=some (.str l[i])
def fieldV(l:List Bytes)(k:Int):Bytes:=if k<0 then []else(l[k.toNat]?).getD []
theorem fieldV_in {l:List Bytes}{k:Int}(h0: ¬k<0)(h: ¬(l.length:Int)≤k):fieldV l k=l[k.toNat]'(by omega):=by
  unfold fieldV
  rw [if_neg h0,List.getElem?_eq_getElem (by omega)];rfl
theorem fieldV_lo {l:List Bytes}{k:Int}(h0:k<0):fieldV l k= []:=if_pos h0
theorem fieldV_hi {l:List Bytes}{k:Int}(h:(l.length:Int)≤k):fieldV l k= []:=by
  unfold fieldV
  split
  · rfl
  · rw [List.getElem?_eq_none (by omega)];rfl
theorem condL {a b:Nat}{p:Prop}(h:a≤b)(k:p):_root_.cond (Nat.ble a b) p False:=by rw [Nat.ble_eq.mpr h];exact k
theorem bifL {a b:Nat}{p:Prop}(h:a≤b)(k:p):bif Nat.ble a b && true then p else False:=by rw [Nat.ble_eq.mpr h];exact k
theorem bump {f:FuncId}{args:List AVal}{H h':AHeap}{v:AVal}{n:Nat}(k:FDoes Tryz.prog cnd f args H v h')(hn:h'.next≤n):FDoes Tryz.prog cnd f args H v ⟨n,h'.blks⟩:=by
  intro S w0 hS hC0 φ w args' hH hB hA
  obtain⟨g1,g2⟩:=k S w0 hS hC0 φ w args' hH hB hA
  exact⟨g1,g2.mono fun e w' ⟨v',φ',a1,a2,a3,a4,a5,a6⟩=>⟨v',φ',a1,a2,a3,a4.next hn,a5,Nat.le_trans a6 hn⟩⟩
theorem RowAt.up {H:AHeap}{v:AVal}{l:List Bytes}(h:RowAt H v l)(m:Nat):RowAt (up H m) v l:=h
theorem rowT {k:Int} {l:List Bytes} {o:Option AAddr} {c:Nat} {H:AHeap} (hr: ∀ i,(hi:i<l.length)→ ∃ a b,o=some a∧a.es=1∧a.fld=0∧H.get a.id=some b∧b.elem? a.ver (a.idx+i)=some (.str l[i])) :
    ∃ p:AAddr,¬k<0→ ¬(l.length:Int)≤k→aindexAddr (AEnv.D env) 36 (AVal.slice o l.length c) (AVal.int IntKind.i64 k)=some (AVal.ptr (some p))∧ ∀ n,aload (AEnv.D env) 9 p (⟨n,H.blks⟩)=some (AVal.str (fieldV l k)):=by
  by_cases h0:k<0
  · exact⟨⟨0,0,0,0,0⟩,fun h=>absurd h0 h⟩
  · by_cases h1:(l.length:Int)≤k
    · exact⟨⟨0,0,0,0,0⟩,fun _ h=>absurd h1 h⟩
    · obtain⟨a,b,rfl,e1,e2,e3,e4⟩:=hr k.toNat (by omega)
      have hD:(AEnv.D env 36).map (fun d=>d.kind)=some (.slice 9):=by kernel_rfl
      have hE:(AEnv.D env 9).map (fun d=>(d.size,d.kind.isAgg))=some (1,false):=by kernel_rfl
      obtain⟨d,d1,d2⟩:=Option.map_eq_some_iff.1 hD
      obtain⟨x,x1,x2⟩:=Option.map_eq_some_iff.1 hE
      simp only [Prod.mk.injEq]at x2
      refine⟨{a with idx:=a.idx+k.toNat},fun _ _=>⟨?_,fun n=> ?_⟩⟩
      · unfold aindexAddr
        simp only [d1,d2,x1]
        rw [if_pos ⟨by omega,by omega,by rw [e1,x2.1],e2⟩]
      · unfold aload
        have hg:AHeap.get ⟨n,H.blks⟩ a.id=some b:=e3
        simp only [x1,hg,e4,x2.2,fieldV_in h0 h1,loadElem,e2]
        rfl
theorem field_does {H:AHeap}{v:AVal}{l:List Bytes}(h:RowAt H v l)(k:Int):FDoes Tryz.prog cnd 49 [v,.int .i64 k] H (.str (fieldV l k)) (up H 14):=by
  obtain⟨o,c,rfl,hr⟩:=h
  obtain⟨p,hp⟩:=rowT (k:=k) (c:=c) hr
  obtain⟨v1,h1,hd,rfl,m,hm,rfl⟩:=fieldH_vc H o l.length c k p (fieldV l k) (fun v h1=>v= .str (fieldV l k)∧ ∃ m,m≤14∧h1=up H m)
    (bifL (Nat.le_refl _) (bifL (by omega) ⟨fun h=>bifL (by omega) (condL (by omega) ⟨by rw [fieldV_lo h],10,by omega,rfl⟩),fun h=>⟨fun h2=>bifL (by omega) (condL (by omega) ⟨by rw [fieldV_hi h2],10,by omega,rfl⟩),
      fun h2=>bifL (by omega) ⟨(hp h h2).1,(hp h h2).2 _,condL (by omega) ⟨rfl,14,by omega,rfl⟩⟩⟩⟩))
  exact bump (h':=up H m) hd (by show H.next+m≤H.next+14;omega)
theorem dfield_does {H:AHeap}{v:AVal}{l:List Bytes}(h:RowAt H v l)(k:Int):FDoes Tryz.prog cnd 55 [v,.int .i64 k] H (.str (fieldV l k)) (up H 14):=by
  obtain⟨o,c,rfl,hr⟩:=h
  obtain⟨p,hp⟩:=rowT (k:=k) (c:=c) hr
  obtain⟨v1,h1,hd,rfl,m,hm,rfl⟩:=dfieldH_vc H o l.length c k p (fieldV l k) (fun v h1=>v= .str (fieldV l k)∧ ∃ m,m≤14∧h1=up H m)
    (bifL (Nat.le_refl _) (bifL (by omega) ⟨fun h=>bifL (by omega) (condL (by omega) ⟨by rw [fieldV_lo h],10,by omega,rfl⟩),fun h=>⟨fun h2=>bifL (by omega) (condL (by omega) ⟨by rw [fieldV_hi h2],10,by omega,rfl⟩),
      fun h2=>bifL (by omega) ⟨(hp h h2).1,(hp h h2).2 _,condL (by omega) ⟨rfl,14,by omega,rfl⟩⟩⟩⟩))
  exact bump (h':=up H m) hd (by show H.next+m≤H.next+14;omega)
end Go.Proofs.YtjpfnbihopoeeaaGreatDoor
namespace Go.Proofs.YtjpfnbihopoeeaaGreatDoor
open Go.Lift
set_option maxRecDepth 1000000
end Go.Proofs.YtjpfnbihopoeeaaGreatDoor
namespace Go.Proofs.YtjpfnbihopoeeaaGreatDoor
open Go.Lift
end Go.Proofs.YtjpfnbihopoeeaaGreatDoor
namespace Go.Proofs.YtjpfnbihopoeeaaGreatDoor
open Go.Lift
set_option maxRecDepth 1000000
theorem slTx:SlTy env.D 36 9 1 16:=by
  have h1:(env.D 9).map (fun x=>(x.size,x.bytes,x.zeroFits))=some (1,16,true):=by kernel_rfl
  have h2:(env.D 36).map (fun x=>x.kind)=some (.slice 9):=by kernel_rfl
  obtain⟨x,hx,k⟩:=Option.map_eq_some_iff.1 h1
  obtain⟨d,hd,kd⟩:=Option.map_eq_some_iff.1 h2
  simp only [Prod.mk.injEq]at k
  exact⟨d,x,hd,kd,hx,k.1,k.2.1,by decide,k.2.2⟩
end Go.Proofs.YtjpfnbihopoeeaaGreatDoor
namespace Go.Proofs.YtjpfnbihopoeeaaGreatDoor
open Go.Lift
set_option maxRecDepth 1000000
end Go.Proofs.YtjpfnbihopoeeaaGreatDoor
namespace Go.Proofs.YtjpfnbihopoeeaaGreatDoor
open Go.Lift
set_option maxRecDepth 1000000
end Go.Proofs.YtjpfnbihopoeeaaGreatDoor
namespace Go.Proofs.YtjpfnbihopoeeaaGreatDoor
open Go.Lift
set_option maxRecDepth 1000000
end Go.Proofs.YtjpfnbihopoeeaaGreatDoor
namespace Go.Proofs.YtjpfnbihopoeeaaGreatDoor
open Go.Lift
set_option maxRecDepth 1000000
end Go.Proofs.YtjpfnbihopoeeaaGreatDoor
namespace Go.Proofs.YtjpfnbihopoeeaaGreatDoor
open Go.Lift
set_option maxRecDepth 1000000
structure Fr(H H':AHeap)(L:List Nat):Prop where
  next:H.next≤H'.next
  get: ∀ x,x<H.next→x ∉ L→H'.get x=H.get x
theorem Fr.refl(H:AHeap)(L:List Nat):Fr H H L:=⟨Nat.le_refl _,fun _ _ _=>rfl⟩
theorem Fr.up(H:AHeap)(k:Nat)(L:List Nat):Fr H (up H k) L:=⟨by show H.next≤H.next+k;omega,fun _ _ _=>rfl⟩
theorem Fr.trans {H H1 H2:AHeap}{L M:List Nat}(a:Fr H H1 L)(b:Fr H1 H2 M)(h: ∀ x∈M,x<H.next→x∈L):Fr H H2 L :=
  ⟨Nat.le_trans a.next b.next,fun x hx hL=>by
    have hn:=a.next
    rw [b.get x (by omega) (fun k=>hL (h x k hx)),a.get x hx hL]⟩
theorem Fr.sub {H H1:AHeap}{L M:List Nat}(a:Fr H H1 L)(h: ∀ x∈L,x<H.next→x∈M):Fr H H1 M:=⟨a.next,fun x hx hM=>a.get x hx fun k=>hM (h x k hx)⟩
theorem Fr.set(H:AHeap)(q:Nat)(b:ABlk){L:List Nat}(h:q<H.next→q∈L):Fr H (H.set q b) L:=⟨Nat.le_refl _,fun x hx hL=>AHeap.get_set_ne _ _ fun e=>by subst e;exact hL (h hx)⟩
structure El(t e by':Nat):Prop where
  sl:SlTy env.D t e 1 by'
  ag:(AEnv.D env e).map (fun d=>d.kind.isAgg)=some false
theorem slRw:SlTy env.D 22 36 1 24:=by
  have h1:(env.D 36).map (fun x=>(x.size,x.bytes,x.zeroFits))=some (1,24,true):=by kernel_rfl
  have h2:(env.D 22).map (fun x=>x.kind)=some (.slice 36):=by kernel_rfl
  obtain⟨x,hx,k⟩:=Option.map_eq_some_iff.1 h1
  obtain⟨d,hd,kd⟩:=Option.map_eq_some_iff.1 h2
  simp only [Prod.mk.injEq]at k
  exact⟨d,x,hd,kd,hx,k.1,k.2.1,by decide,k.2.2⟩
theorem elS:El 36 9 16:=⟨slTx,by kernel_rfl⟩
theorem elR:El 22 36 24:=⟨slRw,by kernel_rfl⟩
def Rd(H:AHeap)(q:Nat)(v:AVal)(els:List AVal):Prop :=
  ∃ o c,v= .slice o els.length c∧(∀ a,o=some a→a.es=1∧a.fld=0)∧(els= []∨ ∃ ver off b,o=some ⟨q,ver,off,0,1⟩∧q<H.next∧H.get q=some b∧ ∀ i,(hi:i<els.length)→b.elem? ver (off+i)=some els[i])
theorem Rd.fr {H H':AHeap}{q:Nat}{v:AVal}{els:List AVal}{L:List Nat}(h:Rd H q v els)(m:Fr H H' L)(hq:q ∉ L):Rd H' q v els:=by
  obtain⟨o,c,e,z,k⟩:=h
  refine⟨o,c,e,z,k.imp_right fun⟨ver,off,b,k1,k2,k3,k4⟩=>⟨ver,off,b,k1,Nat.lt_of_lt_of_le k2 m.next,(m.get q k2 hq).trans k3,k4⟩⟩
theorem Rd.nil(H:AHeap)(q:Nat):Rd H q (.slice none 0 0) []:=⟨none,0,rfl,(fun a h=>by cases h),.inl rfl⟩
theorem Rd.elems {H:AHeap}{q:Nat}{v:AVal}{els:List AVal}(h:Rd H q v els):elemsOf 1 v H=some els:=by
  obtain⟨o,c,rfl,z,k⟩:=h
  by_cases hz:els= []
  · subst hz
    cases o with
    | none=>rfl
    | some a =>
      obtain⟨z1,z2⟩:=z a rfl
      simp only [elemsOf,List.length_nil]
      rw [if_pos z2,if_pos z1]
      cases H.get a.id<;>simp
  · rcases k with k | ⟨ver,off,b,rfl,k2,k3,k4⟩
    · exact absurd k hz
    have:=elemsOf_slice (n:=els.length) (c:=c) (h:=H) (sz:=1) (id:=q) (ver:=ver) (off:=off) (o:=some ⟨q,ver,off,0,1⟩) (.inl rfl) k3 (f:=fun i=>els.getD i .undef) (fun j hj=>by rw [k4 j hj];simp [List.getD,hj])
    rw [this]
    congr 1
    apply List.ext_getElem (by simp)
    intro i h1 h2
    simp [List.getD,h2]
theorem Rd.sl {H:AHeap}{q:Nat}{v:AVal}{els:List AVal}(h:Rd H q v els): ∃ o c,v= .slice o els.length c:=by
  obtain⟨o,c,e,_,k⟩:=h
  exact⟨o,c,e⟩
def Sv(v:AVal):Prop:=v.simple=true
theorem load_sv {e:AVal}(h:Sv e):loadElem false 1 0 e=some e:=by
  cases e<;>first | rfl | cases h
theorem store_sv {e x:AVal}(h:Sv e)(hx:Sv x):storeElem 0 x e=some x:=by
  cases e<;>first | (simp only [storeElem];rw [if_pos ⟨trivial,hx⟩];done) | cases h
theorem Rd.at {H:AHeap}{q t e by':Nat}{v:AVal}{els:List AVal}(h:Rd H q v els)(E:El t e by'){i:Nat}(hi:i<els.length)(hs:Sv els[i]) :
    ∃ a,aindexAddr (AEnv.D env) t v (.int .i64 (i:Nat))=some (.ptr (some a))∧a.id<H.next∧ ∀ n,aload (AEnv.D env) e a ⟨n,H.blks⟩=some els[i]:=by
  obtain⟨o,c,rfl,_,k⟩:=h
  rcases k with k | ⟨ver,off,b,rfl,k2,k3,k4⟩
  · rw [k]at hi;exact absurd hi (by simp)
  obtain⟨d,x,d1,d2,x1,x2,_⟩:=E.sl.ty
  obtain⟨x',x1',x3⟩:=Option.map_eq_some_iff.1 E.ag
  have d1:AEnv.D env t=some d:=d1
  have x1:AEnv.D env e=some x:=x1
  rw [x1]at x1'
  simp only [Option.some.injEq]at x1'
  subst x1'
  refine⟨⟨q,ver,off+i,0,1⟩,?_,k2,fun n=> ?_⟩
  · unfold aindexAddr
    simp only [d1,d2,x1]
    rw [if_pos ⟨by omega,by omega,by rw [x2],by trivial⟩]
    simp
  · unfold aload
    have hg:AHeap.get ⟨n,H.blks⟩ q=some b:=k3
    simp only [x1,hg,k4 i hi,x3]
    rw [x2]
    exact load_sv hs
def Rw(H:AHeap)(e q:Nat)(v:AVal)(els:List AVal):Prop :=
  (els= []∧v= .slice none 0 0)∨ ∃ b,v= .slice (some ⟨q,b.ver,0,0,1⟩) els.length els.length∧q<H.next∧H.get q=some b∧b.elems=els∧b.ro=false∧(b.exact=true∨(b.exact=false∧(b.ty=none∨b.ty=some (e,0))))
theorem Rw.fr {H H':AHeap}{e q:Nat}{v:AVal}{els:List AVal}{L:List Nat}(h:Rw H e q v els)(m:Fr H H' L)(hq:q ∉ L):Rw H' e q v els:=by
  rcases h with h | ⟨b,k1,k2,k3,k4⟩
  · exact .inl h
  · exact .inr ⟨b,k1,Nat.lt_of_lt_of_le k2 m.next,(m.get q k2 hq).trans k3,k4⟩
theorem elem_cur {b:ABlk}{i:Nat}(hi:i<b.elems.length):b.elem? b.ver (0+i)=some b.elems[i]:=by
  unfold ABlk.elem? ABlk.lim
  rw [if_pos rfl,if_pos (by omega),Nat.zero_add]
  exact List.getElem?_eq_getElem hi
theorem Rw.rd {H:AHeap}{e q:Nat}{v:AVal}{els:List AVal}(h:Rw H e q v els):Rd H q v els:=by
  rcases h with ⟨rfl,rfl⟩ | ⟨b,rfl,k2,k3,rfl,k5,k6⟩
  · exact Rd.nil H q
  · exact⟨_,_,rfl,(fun a h=>by cases h;exact⟨rfl,rfl⟩),.inr ⟨_,_,b,rfl,k2,k3,fun i hi=>elem_cur hi⟩⟩
def Wr(H:AHeap)(q:Nat)(v:AVal):Prop:=v= .slice none 0 0∨ ∃ b,H.get q=some b∧q<H.next∧(b.exact=true∨b.minVer=b.ver)
theorem Wr.fr {H H':AHeap}{q:Nat}{v:AVal}{L:List Nat}(h:Wr H q v)(m:Fr H H' L)(hq:q ∉ L):Wr H' q v:=by
  rcases h with h | ⟨b,k1,k2,k3⟩
  · exact .inl h
  · exact .inr ⟨b,(m.get q k2 hq).trans k1,Nat.lt_of_lt_of_le k2 m.next,k3⟩
theorem Rw.st {H:AHeap}{e q t by' i:Nat}{v x:AVal}{els:List AVal}(h:Rw H e q v els)(E:El t e by')(hi:i<els.length)(hs:Sv els[i])(hx:Sv x)(n:Nat) :
    ∃ a H1,aindexAddr (AEnv.D env) t v (.int .i64 (i:Nat))=some (.ptr (some a))∧astore (AEnv.D env) e a x (up H n)=some H1∧Rw H1 e q v (els.set i x)∧Wr H1 q v∧Fr H H1 [q]∧H1.next=H.next+n:=by
  rcases h with ⟨rfl,rfl⟩ | ⟨b,rfl,k2,k3,rfl,k5,k6⟩
  · exact absurd hi (by simp)
  obtain⟨d,y,d1,d2,x1,x2,_⟩:=E.sl.ty
  obtain⟨x',x1',x3⟩:=Option.map_eq_some_iff.1 E.ag
  have d1:AEnv.D env t=some d:=d1
  have x1:AEnv.D env e=some y:=x1
  rw [x1]at x1'
  simp only [Option.some.injEq]at x1'
  subst x1'
  have hf:x.fits y.kind.isAgg y.size=true:=by
    rw [x3,x2]
    cases x<;>first | rfl | cases hx
  refine⟨⟨q,b.ver,0+i,0,1⟩,(up H n).set q {b with elems:=b.elems.set i x,minVer:=b.ver},?_,?_,.inr ⟨{b with elems:=b.elems.set i x,minVer:=b.ver},by simp,by show q<H.next+n;omega,AHeap.get_set_self _ _ _,rfl,k5,k6⟩,.inr ⟨_,AHeap.get_set_self _ _ _,by show q<H.next+n;omega,.inr rfl⟩,(Fr.up H n _).trans (Fr.set _ _ _ fun _=>by simp) (fun y hy _=>hy),rfl⟩
  · unfold aindexAddr
    simp only [d1,d2,x1]
    rw [if_pos ⟨by omega,by omega,by rw [x2],by trivial⟩]
    simp
  · unfold astore
    have hg:(up H n).get q=some b:=k3
    simp only [x1,hg,hf,k5]
    rw [Nat.zero_add]
    simp only [List.getElem?_eq_getElem hi,store_sv hs hx]
    simp
def Gw(H:AHeap)(e q:Nat)(v:AVal)(old:List AVal)(x:AVal)(j q2:Nat)(g:AVal):Prop :=
  (j=0∧g=v∧q2=q∧Rw H e q v old∧Wr H q v)∨(0<j∧q2≠q∧q2<H.next∧Rd H q v old∧Rw H e q2 g (old++List.replicate j x)) ∨
  (0<j∧q2=q∧ ∃ b,v= .slice (some ⟨q,b.minVer,0,0,1⟩) old.length old.length∧g= .slice (some ⟨q,b.ver,0,0,1⟩) (old.length+j) (old.length+j)∧q<H.next∧H.get q=some b∧b.elems=old++List.replicate j x∧b.ro=false∧b.exact=false∧(b.ty=none∨b.ty=some (e,0))∧b.minVer<b.ver∧b.forkLen=old.length)
theorem Gw.fr {H H':AHeap}{e q j q2:Nat}{v x g:AVal}{old:List AVal}{L:List Nat}(h:Gw H e q v old x j q2 g)(m:Fr H H' L)(hq:q ∉ L)(hq2:q2 ∉ L):Gw H' e q v old x j q2 g:=by
  rcases h with ⟨a1,a2,a3,a4,a5⟩ | ⟨a1,a2,a3,a4,a5⟩ | ⟨a1,a2,b,a3,a4,a5,a6,a7⟩
  · exact .inl ⟨a1,a2,a3,a4.fr m hq,a5.fr m hq⟩
  · exact .inr (.inl ⟨a1,a2,Nat.lt_of_lt_of_le a3 m.next,a4.fr m hq,a5.fr m hq2⟩)
  · exact .inr (.inr ⟨a1,a2,b,a3,a4,Nat.lt_of_lt_of_le a5 m.next,(m.get q a5 hq).trans a6,a7⟩)
theorem Gw.rd {H:AHeap} {e q j q2:Nat} {v x g:AVal} {old:List AVal} (h:Gw H e q v old x j q2 g):Rd H q v old∧Rd H q2 g (old++List.replicate j x):=by
  rcases h with ⟨rfl,rfl,rfl,a4,a5⟩ | ⟨a1,a2,a3,a4,a5⟩ | ⟨a1,rfl,b,rfl,rfl,a5,a6,a7,a8,a9,a10,a11,a12⟩
  · exact⟨a4.rd,by simpa using a4.rd⟩
  · exact⟨a4,a5.rd⟩
  · refine⟨⟨_,_,rfl,(fun a h=>by cases h;exact⟨rfl,rfl⟩),.inr ⟨_,_,b,rfl,a5,a6,fun i hi=> ?_⟩⟩,⟨_,old.length+j,by rw [List.length_append,List.length_replicate],(fun a h=>by cases h;exact⟨rfl,rfl⟩),.inr ⟨_,0,b,rfl,a5,a6,fun i hi=> ?_⟩⟩⟩
    · have hl:b.lim b.minVer=old.length:=by
        unfold ABlk.lim
        rw [if_neg (by omega),if_pos ⟨Nat.le_refl _,a11⟩,a12]
      unfold ABlk.elem?
      rw [hl,if_pos (by omega),a7,Nat.zero_add,List.getElem?_append_left hi]
      exact List.getElem?_eq_getElem hi
    · have:=elem_cur (b:=b) (i:=i) (by rw [a7];exact hi)
      rw [this]
      congr 1
      simp only [a7]
theorem Rw.app {H:AHeap} {e q t by' nid:Nat} {v w x:AVal} {els:List AVal} (h:Rw H e q v els) (E:El t e by') (hby:by'≤32) (hw:elemsOf 1 w H=some [x]) (hn:nid<H.next) (hl:els.length<2^41) :
    ∃ v2 H2 q2,abuiltin env .append #[t,t] [v,w] nid H=some (v2,H2)∧Rw H2 e q2 v2 (els++ [x])∧(q2=q∨q2=nid)∧(els= []→v= .slice none 0 0→q2=nid)∧Fr H H2 [q2]∧H2.next=H.next∧q2<H2.next:=by
  have hB: ∀ n:Nat,n<2^42→(n+n / 4+512)*by'≤2^48:=fun n hn=>by
    have:(n+n / 4+512)*by'≤(n+n / 4+512)*32:=Nat.mul_le_mul_left _ hby
    omega
  rcases h with ⟨rfl,rfl⟩ | ⟨b,rfl,k2,k3,rfl,k5,k6⟩
  · exact⟨_,_,nid,app_new E.sl hw (by simp) (hB _ (by simp)) (by simp),.inr ⟨.made [x] 1 false (some (e,0)),rfl,hn,AHeap.get_set_self _ _ _,rfl,rfl,.inr ⟨rfl,.inr rfl⟩⟩,.inr rfl,fun _ _=>rfl,Fr.set _ _ _ fun _=>by simp,rfl,hn⟩
  · rcases k6 with k6 | ⟨k6,k7⟩
    · refine⟨_,_,nid,app_copy E.sl hw (a:=⟨q,b.ver,0,0,1⟩) (len:=b.elems.length) (cap:=b.elems.length) (b:=b) (old:=b.elems) (hB _ (by simp;omega)) (by simp;omega) k3 ⟨rfl,rfl⟩ (by simp) k6 ?_,.inr ⟨.made (b.elems++ [x]) 1 false (some (e,0)),by simp [newSlice,ABlk.made],hn,AHeap.get_set_self _ _ _,rfl,rfl,.inr ⟨rfl,.inr rfl⟩⟩,.inr rfl,fun _ _=>rfl,Fr.set _ _ _ fun _=>by simp,rfl,hn⟩
      simp only [elemsOf,if_true,k3]
      by_cases hz:b.elems.length=0
      · rw [if_pos hz,List.length_eq_zero_iff.1 hz]
      · rw [if_neg hz,if_pos ⟨by simp [ABlk.lim],by simp⟩]
        simp
    · refine⟨_,_,q,app_grow (nid:=nid) E.sl hw (by simp) (a:=⟨q,b.ver,0,0,1⟩) (len:=b.elems.length) (cap:=b.elems.length) (b:=b) (hB _ (by simp;omega)) (by simp;omega) k3 ⟨rfl,rfl⟩ (by simp) k6 k5 rfl (by simp) k7,.inr ⟨b.grow [x],by simp [ABlk.grow],k2,AHeap.get_set_self _ _ _,rfl,k5,.inr ⟨k6,k7⟩⟩,.inl rfl,?_,Fr.set _ _ _ fun _=>by simp,rfl,k2⟩
      intro _ h
      cases h
theorem Rw.apps {H:AHeap}{e q t by' nid:Nat}{v w:AVal}{els new:List AVal}(h:Rw H e q v els)(E:El t e by')(hby:by'≤32)(hw:elemsOf 1 w H=some new)(hn:nid<H.next)(hl:els.length+new.length<2^41) :
    ∃ v2 H2 q2,abuiltin env .append #[t,t] [v,w] nid H=some (v2,H2)∧Rw H2 e q2 v2 (els++new)∧(q2=q∨q2=nid)∧(els= []→v= .slice none 0 0→q2=nid)∧Fr H H2 [q2]∧H2.next=H.next:=by
  have hB: ∀ n:Nat,n<2^42→(n+n / 4+512)*by'≤2^48:=fun n hn=>by
    have:(n+n / 4+512)*by'≤(n+n / 4+512)*32:=Nat.mul_le_mul_left _ hby
    omega
  by_cases hnew:new= []
  · subst hnew
    rw [List.append_nil]
    rcases h with ⟨rfl,rfl⟩ | ⟨b,rfl,k2,k3,rfl,k5,k6⟩
    · exact⟨_,H,nid,app_none (b:= .made [] 1 false) E.sl hw (hB 0 (by decide)) (by decide) (fun a h=>by cases h) (Nat.le_refl _) (fun _=>rfl),.inl ⟨rfl,rfl⟩,.inr rfl,fun _ _=>rfl,Fr.refl _ _,rfl⟩
    · exact⟨_,H,q,app_none (b:=b) E.sl hw (hB _ (by simp at hl;omega)) (by simp at hl;omega) (fun a h=>by cases h;exact⟨k3,rfl,rfl⟩) (Nat.le_refl _) (fun h=>by cases h),.inr ⟨b,rfl,k2,k3,rfl,k5,k6⟩,.inl rfl,(fun _ h=>by cases h),Fr.refl _ _,rfl⟩
  rcases h with ⟨rfl,rfl⟩ | ⟨b,rfl,k2,k3,rfl,k5,k6⟩
  · exact⟨_,_,nid,app_new E.sl hw hnew (hB _ (by simp at hl;omega)) (by simp at hl;omega),.inr ⟨.made new 1 false (some (e,0)),rfl,hn,AHeap.get_set_self _ _ _,rfl,rfl,.inr ⟨rfl,.inr rfl⟩⟩,.inr rfl,fun _ _=>rfl,Fr.set _ _ _ fun _=>by simp,rfl⟩
  · have hp:=List.length_pos_iff.2 hnew
    rcases k6 with k6 | ⟨k6,k7⟩
    · refine⟨_,_,nid,app_copy E.sl hw (a:=⟨q,b.ver,0,0,1⟩) (len:=b.elems.length) (cap:=b.elems.length) (b:=b) (old:=b.elems) (hB _ (by omega)) (by omega) k3 ⟨rfl,rfl⟩ (by omega) k6 ?_,.inr ⟨.made (b.elems++new) 1 false (some (e,0)),by simp [newSlice,ABlk.made],hn,AHeap.get_set_self _ _ _,rfl,rfl,.inr ⟨rfl,.inr rfl⟩⟩,.inr rfl,(fun _ h=>by cases h),Fr.set _ _ _ fun _=>by simp,rfl⟩
      exact(Rw.rd (e:=e) (.inr ⟨b,rfl,k2,k3,rfl,k5,.inl k6⟩)).elems
    · exact⟨_,_,q,app_grow (nid:=nid) E.sl hw hnew (a:=⟨q,b.ver,0,0,1⟩) (len:=b.elems.length) (cap:=b.elems.length) (b:=b) (hB _ (by omega)) (by omega) k3 ⟨rfl,rfl⟩ (by omega) k6 k5 rfl (by simp) k7,.inr ⟨b.grow new,by simp [ABlk.grow],k2,AHeap.get_set_self _ _ _,rfl,k5,.inr ⟨k6,k7⟩⟩,.inl rfl,(fun _ h=>by cases h),Fr.set _ _ _ fun _=>by simp,rfl⟩
theorem Gw.app {H:AHeap} {e q t by' nid j q2:Nat} {v w x g:AVal} {old:List AVal} (h:Gw H e q v old x j q2 g) (E:El t e by') (hby:by'≤32) (hw:elemsOf 1 w H=some [x]) (hn:nid<H.next) (hq:q<nid) (hl:old.length+j<2^41) :
    ∃ g2 H2 q3,abuiltin env .append #[t,t] [g,w] nid H=some (g2,H2)∧Gw H2 e q v old x (j+1) q3 g2∧(q3=q2∨q3=nid)∧Fr H H2 [q3]∧H2.next=H.next:=by
  have hB: ∀ n:Nat,n<2^42→(n+n / 4+512)*by'≤2^48:=fun n hn=>by
    have:(n+n / 4+512)*by'≤(n+n / 4+512)*32:=Nat.mul_le_mul_left _ hby
    omega
  have hrep: ∀ j,List.replicate j x++ [x]=List.replicate (j+1) x:=fun j=>by rw [List.replicate_succ']
  rcases h with ⟨rfl,rfl,rfl,a4,a5⟩ | ⟨a1,a2,a3,a4,a5⟩ | ⟨a1,rfl,b,rfl,rfl,a5,a6,a7,a8,a9,a10,a11,a12⟩
  · obtain ⟨v2,H2,q3,e1,r1,c1,c2,f1,n1,l1⟩:=a4.app E hby hw hn (by omega)
    rcases a4 with ⟨rfl,rfl⟩ | ⟨b,rfl,k2,k3,rfl,k5,k6⟩
    · obtain rfl:=c2 rfl rfl
      exact⟨v2,H2,q3,e1,.inr (.inl ⟨by omega,by omega,l1,Rd.nil _ _,by simpa using r1⟩),.inr rfl,f1,n1⟩
    · rcases k6 with k6 | ⟨k6,k7⟩
      · by_cases hqq:q3=q2
        ·
          exfalso
          subst hqq
          have e2:=app_copy (nid:=nid) E.sl hw (a:=⟨q3,b.ver,0,0,1⟩) (len:=b.elems.length) (cap:=b.elems.length) (b:=b) (old:=b.elems) (hB _ (by simp;omega)) (by simp;omega) k3 ⟨rfl,rfl⟩ (by simp) k6 (by
            simp only [elemsOf,if_true,k3]
            by_cases hz:b.elems.length=0
            · rw [if_pos hz,List.length_eq_zero_iff.1 hz]
            · rw [if_neg hz,if_pos ⟨by simp [ABlk.lim],by simp⟩]
              simp)
          rw [e2]at e1
          simp only [Option.some.injEq,Prod.mk.injEq]at e1
          rcases r1 with ⟨r,_⟩ | ⟨b2,r,_⟩
          · simp at r
          · rw [← e1.1]at r
            simp only [newSlice,AVal.slice.injEq,Option.some.injEq,AAddr.mk.injEq]at r
            omega
        · have h3:q3=nid:=c1.resolve_left hqq
          refine⟨v2,H2,q3,e1,.inr (.inl ⟨by omega,hqq,l1,?_,by simpa using r1⟩),.inr h3,f1,n1⟩
          exact(Rw.rd (e:=e) (.inr ⟨b,rfl,k2,k3,rfl,k5,.inl k6⟩)).fr f1 (by simpa using fun h=>hqq h.symm)
      · have e2:=app_grow (nid:=nid) E.sl hw (by simp) (a:=⟨q2,b.ver,0,0,1⟩) (len:=b.elems.length) (cap:=b.elems.length) (b:=b) (hB _ (by simp;omega)) (by simp;omega) k3 ⟨rfl,rfl⟩ (by simp) k6 k5 rfl (by simp) k7
        have hm:b.minVer=b.ver:=by
          rcases a5 with a5 | ⟨b',a5,_,a6⟩
          · cases a5
          · rw [k3]at a5
            simp only [Option.some.injEq]at a5
            subst a5
            rcases a6 with a6 | a6
            · rw [k6]at a6;cases a6
            · exact a6
        refine⟨_,_,q2,e2,.inr (.inr ⟨by omega,rfl,b.grow [x],?_,?_,k2,AHeap.get_set_self _ _ _,?_,k5,k6,k7,?_,?_⟩),.inl rfl,Fr.set _ _ _ fun _=>by simp,rfl⟩
        · simp [ABlk.grow,hm]
        · simp [ABlk.grow]
        · simp [ABlk.grow]
        · show b.minVer<b.ver+1;omega
        · simp [ABlk.grow,hm]
  · obtain⟨v2,H2,q3,e1,r1,c1,c2,f1,n1,l1⟩:=a5.app E hby hw hn (by simp;omega)
    rw [List.append_assoc,hrep]at r1
    refine⟨v2,H2,q3,e1,.inr (.inl ⟨by omega,by omega,l1,a4.fr f1 (by simp;omega),r1⟩),c1,f1,n1⟩
  · have e2:=app_grow (nid:=nid) E.sl hw (by simp) (a:=⟨q2,b.ver,0,0,1⟩) (len:=old.length+j) (cap:=old.length+j) (b:=b) (hB _ (by simp;omega)) (by simp;omega) a6 ⟨rfl,rfl⟩ (by simp) a9 a8 rfl (by simp [a7]) a10
    refine⟨_,_,q2,e2,.inr (.inr ⟨by omega,rfl,b.grow [x],?_,?_,a5,AHeap.get_set_self _ _ _,?_,a8,a9,a10,?_,?_⟩),.inl rfl,Fr.set _ _ _ fun _=>by simp,rfl⟩
    · simp [ABlk.grow]
    · simp [ABlk.grow];omega
    · simp [ABlk.grow,a7,hrep]
    · show b.minVer<b.ver+1;omega
    · show(if b.minVer=b.ver then b.elems.length else min b.forkLen b.elems.length)=old.length
      rw [if_neg (by omega),a12,a7]
      simp
end Go.Proofs.YtjpfnbihopoeeaaGreatDoor
namespace Go.Proofs.YtjpfnbihopoeeaaGreatDoor
open Go.Lift
set_option maxRecDepth 1000000
structure Rr where
  q:Nat
  v:AVal
  l:List Bys
abbrev vsOf(rs:List Rr):List AVal:=rs.map (·.v)
abbrev qsOf(rs:List Rr):List Nat:=rs.map (·.q)
abbrev lsOf(rs:List Rr):List (List Bys):=rs.map (·.l)
structure Tr(H:AHeap)(B E:Nat)(v:AVal)(o:Nat)(rs:List Rr):Prop where
  out:Rd H o v (vsOf rs)
  inn: ∀ r∈rs,Rd H r.q r.v (r.l.map AVal.str)
  ge: ∀ x∈o::qsOf rs,B≤x∧x<E
theorem Tr.fr {H H':AHeap}{B E:Nat}{v:AVal}{o:Nat}{rs:List Rr}{L:List Nat}(h:Tr H B E v o rs)(m:Fr H H' L)(hL: ∀ x∈L,x<B∨E≤x):Tr H' B E v o rs:=by
  have no: ∀ x∈o::qsOf rs,x ∉ L:=fun x hx k=>by
    have h1:=h.ge x hx
    have h2:=hL x k
    omega
  exact⟨h.out.fr m (no o (by simp)),fun r hr=>(h.inn r hr).fr m (no r.q (List.mem_cons_of_mem _ (List.mem_map.2 ⟨r,hr,rfl⟩))),h.ge⟩
structure Tb(H:AHeap)(B E:Nat)(v:AVal)(o:Nat)(rs:List Rr):Prop where
  out:Rw H 36 o v (vsOf rs)
  inn: ∀ r∈rs,Rw H 9 r.q r.v (r.l.map AVal.str)
  nd:(o::qsOf rs).Nodup
  ge: ∀ x∈o::qsOf rs,B≤x∧x<E
theorem Tb.fr {H H':AHeap}{B E:Nat}{v:AVal}{o:Nat}{rs:List Rr}{L:List Nat}(h:Tb H B E v o rs)(m:Fr H H' L)(hL: ∀ x∈L,x<B∨E≤x):Tb H' B E v o rs:=by
  have no: ∀ x∈o::qsOf rs,x ∉ L:=fun x hx k=>by
    have h1:=h.ge x hx
    have h2:=hL x k
    omega
  exact⟨h.out.fr m (no o (by simp)),fun r hr=>(h.inn r hr).fr m (no r.q (List.mem_cons_of_mem _ (List.mem_map.2 ⟨r,hr,rfl⟩))),h.nd,h.ge⟩
theorem Tb.tr {H:AHeap}{B E:Nat}{v:AVal}{o:Nat}{rs:List Rr}(h:Tb H B E v o rs):Tr H B E v o rs:=⟨h.out.rd,fun r hr=>(h.inn r hr).rd,h.ge⟩
theorem Rd.sv {H:AHeap}{q:Nat}{v:AVal}{els:List AVal}(h:Rd H q v els):Sv v:=by
  obtain⟨o,c,e,_,k⟩:=h
  rw [e];rfl
theorem Tr.row {H:AHeap}{B E:Nat}{v:AVal}{o:Nat}{rs:List Rr}(h:Tr H B E v o rs){i:Nat}(hi:i<rs.length) :
    ∃ a,aindexAddr (AEnv.D env) 22 v (.int .i64 (i:Nat))=some (.ptr (some a))∧a.id<H.next∧ ∀ n,aload (AEnv.D env) 36 a ⟨n,H.blks⟩=some rs[i].v:=by
  have:=h.out.at elR (i:=i) (by simpa using hi) (by rw [List.getElem_map];exact(h.inn _ (List.getElem_mem hi)).sv)
  rw [List.getElem_map]at this
  exact this
theorem Rd.txt {H:AHeap}{q:Nat}{v:AVal}{l:List Bys}(h:Rd H q v (l.map AVal.str)){i:Nat}(hi:i<l.length) :
    ∃ a,aindexAddr (AEnv.D env) 36 v (.int .i64 (i:Nat))=some (.ptr (some a))∧a.id<H.next∧ ∀ n,aload (AEnv.D env) 9 a ⟨n,H.blks⟩=some (.str l[i]):=by
  have:=h.at elS (i:=i) (by simpa using hi) (by rw [List.getElem_map];exact rfl)
  rw [List.getElem_map]at this
  exact this
end Go.Proofs.YtjpfnbihopoeeaaGreatDoor
namespace Go.Proofs.YtjpfnbihopoeeaaGreatDoor
open Go.Lift
set_option maxRecDepth 1000000
theorem srS_vp(H:AHeap)(B n i:Nat)(ao bo:Option AAddr)(ca cb:Nat)(a b:AAddr)(x:Bys)(K0:AExit→Facts→AHeap→Prop)(vc:bif Nat.ble B (AHeap.next H) && true then some (AVal.bool (decide ((↑i:Int)<(↑n:Int))))=some (AVal.bool true)∧bif Nat.ble B (AHeap.next H+4) && true then aindexAddr (AEnv.D env) 36 (AVal.slice ao n ca) (AVal.int IntKind.i64 (↑i:Int))=some (AVal.ptr (some a))∧aload (AEnv.D env) 9 a (AHeap.mk (AHeap.next H+13) (H.2))=some (AVal.str x)∧aindexAddr (AEnv.D env) 36 (AVal.slice bo n cb) (AVal.int IntKind.i64 (↑i:Int))=some (AVal.ptr (some b))∧aload (AEnv.D env) 9 b (AHeap.mk (AHeap.next H+13) (H.2))=some (AVal.str x)∧some (AVal.bool !x == x)=some (AVal.bool false)∧bif Nat.ble B (AHeap.next H+13) && true then(-9223372036854775808≤(↑i:Int)+1∧(↑i:Int)+1≤9223372036854775807)∧K0 AExit.normal [(0,AVal.slice ao n ca),(1,AVal.slice bo n cb),(5,AVal.int IntKind.i64 ((↑i:Int)+1))] (AHeap.mk (AHeap.next H+13+3) (AHeap.blks (AHeap.mk (AHeap.next H+4+9) (AHeap.blks (AHeap.mk (AHeap.next H+4) (AHeap.blks H))))))else False else False else False) :
    ∃ e F1 h1,Runs Tryz.prog cnd B 26 (loopAt Tryz.prog 30 0) [(0,.slice ao n ca),(1,.slice bo n cb),(5,.int .i64 i)] H e F1 h1∧K0 e F1 h1 :=
  tpath_runs env_ok mixed noSpecs_ok (hs:= .hint (.val 4003 (AVal.bool true)) (.hint (.val 6002 (AVal.ptr (some a))) (.hint (.val 6003 (AVal.str x)) (.hint (.val 6006 (AVal.ptr (some b))) (.hint (.val 6007 (AVal.str x)) (.hint (.val 6008 (AVal.bool false)) (.hint (.go 5001) .nil))))))) (keep:= [0,1,5]) (by kernel_rfl) vc
theorem srE_vp(H:AHeap)(B n i:Nat)(ao bo:Option AAddr)(ca cb:Nat)(K0:AExit→Facts→AHeap→Prop)(vc:bif Nat.ble B (AHeap.next H) && true then some (AVal.bool (decide ((↑i:Int)<(↑n:Int))))=some (AVal.bool false)∧K0 (AExit.exit 0) [(0,AVal.slice ao n ca),(1,AVal.slice bo n cb),(5,AVal.int IntKind.i64 (↑i:Int))] (AHeap.mk (AHeap.next H+4) (AHeap.blks H))else False) :
    ∃ e F1 h1,Runs Tryz.prog cnd B 26 (loopAt Tryz.prog 30 0) [(0,.slice ao n ca),(1,.slice bo n cb),(5,.int .i64 i)] H e F1 h1∧K0 e F1 h1 :=
  tpath_runs env_ok mixed noSpecs_ok (hs:= .hint (.val 4003 (AVal.bool false)) .nil) (keep:= [0,1,5]) (by kernel_rfl) vc
theorem sr_vc(H H1:AHeap)(n:Nat)(ao bo:Option AAddr)(ca cb:Nat)(K0:AVal→AHeap→Prop)(vc:bif Nat.ble (AHeap.next H) (AHeap.next H) && true then bif Nat.ble (AHeap.next H) (AHeap.next H+1) && true then some (AVal.bool ((↑n:Int) != (↑n:Int)))=some (AVal.bool false)∧bif Nat.ble (AHeap.next H) (AHeap.next H+6) && true then Runs Tryz.prog cnd (AHeap.next H) 26 (Code.loop (loopAt Tryz.prog 30 0)) [(0,AVal.slice ao n ca),(1,AVal.slice bo n cb),(5,AVal.int IntKind.i64 (0))] (AHeap.mk (AHeap.next H+6+1) (AHeap.blks (AHeap.mk (AHeap.next H+1+5) (AHeap.blks (AHeap.mk (AHeap.next H+1) (AHeap.blks H)))))) (AExit.exit 0) [(0,AVal.slice ao n ca),(1,AVal.slice bo n cb),(5,AVal.int IntKind.i64 (↑n:Int))] H1∧bif Nat.ble (AHeap.next H) (AHeap.next H1) && true then bif Nat.ble (AHeap.next H) (AHeap.next H1+1)then K0 (AVal.bool true) (AHeap.mk (AHeap.next H1+1) (AHeap.blks H1))else False else False else False else False else False) :
    ∃ v h1,FDoes Tryz.prog cnd 30 [.slice ao n ca,.slice bo n cb] H v h1∧K0 v h1 :=
  tcall_does env_ok mixed noSpecs_ok (hs:= .hint (.val 1004 (AVal.bool false)) (.hint (.keep [0,1,5]) (.hint (.loop [(0,AVal.slice ao n ca),(1,AVal.slice bo n cb),(5,AVal.int IntKind.i64 (↑n:Int))] H1 (AExit.exit 0)) .nil))) (by kernel_rfl) vc
theorem smS_vp(H H1:AHeap)(B n i:Nat)(ao bo:Option AAddr)(ca cb:Nat)(a b:AAddr)(va vb:AVal)(K0:AExit→Facts→AHeap→Prop)(vc:bif Nat.ble B (AHeap.next H) && true then some (AVal.bool (decide ((↑i:Int)<(↑n:Int))))=some (AVal.bool true)∧bif Nat.ble B (AHeap.next H+4) && true then aindexAddr (AEnv.D env) 22 (AVal.slice ao n ca) (AVal.int IntKind.i64 (↑i:Int))=some (AVal.ptr (some a))∧aload (AEnv.D env) 36 a (AHeap.mk (AHeap.next H+14) (H.2))=some va∧AAddr.id a<AHeap.next H+4∧aindexAddr (AEnv.D env) 22 (AVal.slice bo n cb) (AVal.int IntKind.i64 (↑i:Int))=some (AVal.ptr (some b))∧aload (AEnv.D env) 36 b (AHeap.mk (AHeap.next H+14) (H.2))=some vb∧AAddr.id b<AHeap.next H+4∧CallT Tryz.prog cnd 30 [va,vb] (AHeap.mk (AHeap.next H+14) (H.2)) (AVal.bool true) H1∧bif Nat.ble B (AHeap.next H1) && true then bif Nat.ble B (AHeap.next H1+2) && true then(-9223372036854775808≤(↑i:Int)+1∧(↑i:Int)+1≤9223372036854775807)∧K0 AExit.normal [(0,AVal.slice ao n ca),(1,AVal.slice bo n cb),(5,AVal.int IntKind.i64 ((↑i:Int)+1))] (AHeap.mk (AHeap.next H1+2+3) (AHeap.blks (AHeap.mk (AHeap.next H1+2) (AHeap.blks H1))))else False else False else False else False) :
    ∃ e F1 h1,Runs Tryz.prog cnd B 29 (loopAt Tryz.prog 16 0) [(0,.slice ao n ca),(1,.slice bo n cb),(5,.int .i64 i)] H e F1 h1∧K0 e F1 h1 :=
  tpath_runs env_ok mixed noSpecs_ok (hs:= .hint (.val 4003 (AVal.bool true)) (.hint (.val 6002 (AVal.ptr (some a))) (.hint (.farV 6003 va) (.hint (.val 6006 (AVal.ptr (some b))) (.hint (.farV 6007 vb) (.hint (.act 6008 (AVal.bool true) fun x=>H1) (.hint (.go 5001) .nil))))))) (keep:= [0,1,5]) (by kernel_rfl) vc
theorem smE_vp(H:AHeap)(B n i:Nat)(ao bo:Option AAddr)(ca cb:Nat)(K0:AExit→Facts→AHeap→Prop)(vc:bif Nat.ble B (AHeap.next H) && true then some (AVal.bool (decide ((↑i:Int)<(↑n:Int))))=some (AVal.bool false)∧K0 (AExit.exit 0) [(0,AVal.slice ao n ca),(1,AVal.slice bo n cb),(5,AVal.int IntKind.i64 (↑i:Int))] (AHeap.mk (AHeap.next H+4) (AHeap.blks H))else False) :
    ∃ e F1 h1,Runs Tryz.prog cnd B 29 (loopAt Tryz.prog 16 0) [(0,.slice ao n ca),(1,.slice bo n cb),(5,.int .i64 i)] H e F1 h1∧K0 e F1 h1 :=
  tpath_runs env_ok mixed noSpecs_ok (hs:= .hint (.val 4003 (AVal.bool false)) .nil) (keep:= [0,1,5]) (by kernel_rfl) vc
theorem sm_vc(H H1:AHeap)(n:Nat)(ao bo:Option AAddr)(ca cb:Nat)(K0:AVal→AHeap→Prop)(vc:bif Nat.ble (AHeap.next H) (AHeap.next H) && true then bif Nat.ble (AHeap.next H) (AHeap.next H+1) && true then some (AVal.bool ((↑n:Int) != (↑n:Int)))=some (AVal.bool false)∧bif Nat.ble (AHeap.next H) (AHeap.next H+6) && true then Runs Tryz.prog cnd (AHeap.next H) 29 (Code.loop (loopAt Tryz.prog 16 0)) [(0,AVal.slice ao n ca),(1,AVal.slice bo n cb),(5,AVal.int IntKind.i64 (0))] (AHeap.mk (AHeap.next H+6+1) (AHeap.blks (AHeap.mk (AHeap.next H+1+5) (AHeap.blks (AHeap.mk (AHeap.next H+1) (AHeap.blks H)))))) (AExit.exit 0) [(0,AVal.slice ao n ca),(1,AVal.slice bo n cb),(5,AVal.int IntKind.i64 (↑n:Int))] H1∧bif Nat.ble (AHeap.next H) (AHeap.next H1) && true then bif Nat.ble (AHeap.next H) (AHeap.next H1+1)then K0 (AVal.bool true) (AHeap.mk (AHeap.next H1+1) (AHeap.blks H1))else False else False else False else False else False) :
    ∃ v h1,FDoes Tryz.prog cnd 16 [.slice ao n ca,.slice bo n cb] H v h1∧K0 v h1 :=
  tcall_does env_ok mixed noSpecs_ok (hs:= .hint (.val 1004 (AVal.bool false)) (.hint (.keep [0,1,5]) (.hint (.loop [(0,AVal.slice ao n ca),(1,AVal.slice bo n cb),(5,AVal.int IntKind.i64 (↑n:Int))] H1 (AExit.exit 0)) .nil))) (by kernel_rfl) vc
theorem mark_vc(i:Nat)(x y z:Nat)(K0:AVal→AHeap→Prop)(vc:aop env noCall 2 (getF [(3,AVal.int IntKind.i64 (↑i:Int)),(2,AVal.str []),(0,AVal.int IntKind.i64 (↑i:Int))]) (AHeap.rowsT 12 []) (Op.convert 3 5 (Operand.tmp 3))=some (AVal.int IntKind.u8 (↑x:Int),(AHeap.rowsT 12 []))∧Int.NonNeg (8-0)∧aop env noCall 5 (getF [(6,AVal.int IntKind.i64 (ishr IntKind.i64 (↑i:Int) (8))),(5,AVal.int IntKind.i64 (↑i:Int)),(4,AVal.int IntKind.u8 (↑x:Int)),(3,AVal.int IntKind.i64 (↑i:Int)),(2,AVal.str []),(0,AVal.int IntKind.i64 (↑i:Int))]) (AHeap.rowsT 12 []) (Op.convert 3 5 (Operand.tmp 6))=some (AVal.int IntKind.u8 (↑y:Int),(AHeap.rowsT 12 []))∧Int.NonNeg (16-0)∧aop env noCall 8 (getF [(9,AVal.int IntKind.i64 (ishr IntKind.i64 (↑i:Int) (16))),(8,AVal.int IntKind.i64 (↑i:Int)),(7,AVal.int IntKind.u8 (↑y:Int)),(6,AVal.int IntKind.i64 (ishr IntKind.i64 (↑i:Int) (8))),(5,AVal.int IntKind.i64 (↑i:Int)),(4,AVal.int IntKind.u8 (↑x:Int)),(3,AVal.int IntKind.i64 (↑i:Int)),(2,AVal.str []),(0,AVal.int IntKind.i64 (↑i:Int))]) (AHeap.rowsT 12 []) (Op.convert 3 5 (Operand.tmp 9))=some (AVal.int IntKind.u8 (↑z:Int),(AHeap.rowsT 12 []))∧K0 (AVal.str [{toBitVec:= {toFin:=⟨45,Nat.mod_lt (Int.toNat (45)) (BitVec.ofNat._proof_1 8)⟩}},UInt8.ofNat x,UInt8.ofNat y,UInt8.ofNat z]) (AHeap.rowsT 12 [(9,ABlk.made [AVal.int IntKind.u8 (45),AVal.int IntKind.u8 (↑x:Int),AVal.int IntKind.u8 (↑y:Int),AVal.int IntKind.u8 (↑z:Int)] 1 true)])) :
    ∃ v h1,FDoes Tryz.prog cnd 44 [.int .i64 i] (⟨0,.nil⟩) v h1∧K0 v h1 :=
  tcall_does env_ok mixed noSpecs_ok (hs:= .hint (.val 1001 (AVal.int IntKind.u8 (↑x:Int))) (.hint (.go 1003) (.hint (.val 1004 (AVal.int IntKind.u8 (↑y:Int))) (.hint (.go 1006) (.hint (.val 1007 (AVal.int IntKind.u8 (↑z:Int))) .nil))))) (by kernel_rfl) vc
end Go.Proofs.YtjpfnbihopoeeaaGreatDoor
namespace Go.Proofs.YtjpfnbihopoeeaaGreatDoor
open Go.Lift
set_option maxRecDepth 1000000
theorem succI(i:Nat):(i:Int)+1=((i+1:Nat):Int):=by omega
theorem boolT {p:Prop}[Decidable p](h:p):some (AVal.bool (decide p))=some (AVal.bool true):=by rw [decide_eq_true h]
theorem boolF {p:Prop}[Decidable p](h: ¬p):some (AVal.bool (decide p))=some (AVal.bool false):=by rw [decide_eq_false h]
theorem sr_loop {B q1 q2 ca cb:Nat}{ao bo:Option AAddr}{l:List Bys}(hl:l.length<2^60): ∀ (k i:Nat) (H:AHeap),i+k=l.length→B≤H.next→Rd H q1 (.slice ao l.length ca) (l.map AVal.str)→Rd H q2 (.slice bo l.length cb) (l.map AVal.str) →
    ∃ n,H.next≤n∧Loops Tryz.prog cnd B 26 (loopAt Tryz.prog 30 0) [(0,.slice ao l.length ca),(1,.slice bo l.length cb),(5,.int .i64 (i:Nat))] H (.exit 0) [(0,.slice ao l.length ca),(1,.slice bo l.length cb),(5,.int .i64 (l.length:Nat))] ⟨n,H.blks⟩:=by
  intro k
  induction k with
  | zero =>
    intro i H hi hB r1 r2
    obtain rfl:i=l.length:=by omega
    obtain⟨e,F1,h1,hr,rfl,rfl,rfl⟩:=srE_vp H B l.length l.length ao bo ca cb (fun e F1 h1=>e= .exit 0∧F1= [(0,.slice ao l.length ca),(1,.slice bo l.length cb),(5,.int .i64 (l.length:Nat))]∧h1=up H 4) (bifL hB ⟨boolF (by omega),rfl,rfl,rfl⟩)
    exact⟨H.next+4,by omega,Loops.last (by simp) hr⟩
  | succ k ih =>
    intro i H hi hB r1 r2
    have hlt:i<l.length:=by omega
    obtain⟨a,a1,a2,a3⟩:=r1.txt hlt
    obtain⟨b,b1,b2,b3⟩:=r2.txt hlt
    obtain⟨e,F1,h1,hr,rfl,rfl,rfl⟩:=srS_vp H B l.length i ao bo ca cb a b l[i] (fun e F1 h1=>e= .normal∧F1= [(0,.slice ao l.length ca),(1,.slice bo l.length cb),(5,.int .i64 ((i+1:Nat):Int))]∧h1=up H 16)
      (bifL hB ⟨boolT (by omega),bifL (by omega) ⟨a1,a3 _,b1,b3 _,by simp,bifL (by omega) ⟨⟨by omega,by omega⟩,rfl,by rw [succI],rfl⟩⟩⟩)
    obtain⟨n,hn,L⟩:=ih (i+1) (up H 16) (by omega) (by show B≤H.next+16;omega) (r1.fr (Fr.up H 16 []) (by simp)) (r2.fr (Fr.up H 16 []) (by simp))
    have hn:H.next+16≤n:=hn
    exact⟨n,by omega,Loops.round hr (Ent.refl _ _ _ _) L⟩
theorem sr_does {H:AHeap}{q1 q2:Nat}{va vb:AVal}{l:List Bys}(hl:l.length<2^60)(r1:Rd H q1 va (l.map AVal.str))(r2:Rd H q2 vb (l.map AVal.str)): ∃ n,H.next≤n∧FDoes Tryz.prog cnd 30 [va,vb] H (.bool true) ⟨n,H.blks⟩:=by
  obtain⟨ao,ca,rfl⟩:=r1.sl
  obtain⟨bo,cb,rfl⟩:=r2.sl
  rw [List.length_map]at r1 r2 ⊢
  obtain⟨n,hn,L⟩:=sr_loop (B:=H.next) hl l.length 0 (up H 7) (by omega) (by show H.next≤H.next+7;omega) (r1.fr (Fr.up H 7 []) (by simp)) (r2.fr (Fr.up H 7 []) (by simp))
  have hn:H.next+7≤n:=hn
  obtain⟨v,h1,hd,rfl,rfl⟩:=sr_vc H ⟨n,H.blks⟩ l.length ao bo ca cb (fun v h1=>v= .bool true∧h1=⟨n+1,H.blks⟩)
    (bifL (Nat.le_refl _) (bifL (by omega) ⟨by simp,bifL (by omega) ⟨Runs.of_loops L,bifL (by show H.next≤n;omega) (condL (by show H.next≤n+1;omega) ⟨rfl,rfl⟩)⟩⟩))
  exact⟨n+1,by omega,hd⟩
theorem sm_loop {B B1 B2 E1 E2 o1 o2 ca cb N:Nat}{ao bo:Option AAddr}{rs1 rs2:List Rr}(he:lsOf rs1=lsOf rs2)(hN:N=rs1.length)(hN2:N=rs2.length)(hl:N<2^60)(hs: ∀ r∈rs1,r.l.length<2^60): ∀ (k i:Nat) (H:AHeap),i+k=N→B≤H.next→Tr H B1 E1 (.slice ao N ca) o1 rs1→Tr H B2 E2 (.slice bo N cb) o2 rs2 →
    ∃ n,H.next≤n∧Loops Tryz.prog cnd B 29 (loopAt Tryz.prog 16 0) [(0,.slice ao N ca),(1,.slice bo N cb),(5,.int .i64 (i:Nat))] H (.exit 0) [(0,.slice ao N ca),(1,.slice bo N cb),(5,.int .i64 (N:Nat))] ⟨n,H.blks⟩:=by
  intro k
  induction k with
  | zero =>
    intro i H hi hB r1 r2
    obtain rfl:i=N:=by omega
    obtain⟨e,F1,h1,hr,rfl,rfl,rfl⟩:=smE_vp H B i i ao bo ca cb (fun e F1 h1=>e= .exit 0∧F1= [(0,.slice ao i ca),(1,.slice bo i cb),(5,.int .i64 (i:Nat))]∧h1=up H 4) (bifL hB ⟨boolF (by omega),rfl,rfl,rfl⟩)
    exact⟨H.next+4,by omega,Loops.last (by simp) hr⟩
  | succ k ih =>
    intro i H hi hB r1 r2
    have h1:i<rs1.length:=by omega
    have h2:i<rs2.length:=by omega
    obtain⟨a,a1,a2,a3⟩:=r1.row h1
    obtain⟨b,b1,b2,b3⟩:=r2.row h2
    have e1:rs1[i].l=rs2[i].l:=by
      have:=congrArg (fun l=>l[i]?) he
      simpa [h1,h2]using this
    have q1:=(r1.inn _ (List.getElem_mem h1)).fr (Fr.up H 14 []) (by simp)
    have q2:=(r2.inn _ (List.getElem_mem h2)).fr (Fr.up H 14 []) (by simp)
    rw [← e1]at q2
    obtain⟨m,hm,D⟩:=sr_does (hs _ (List.getElem_mem h1)) q1 q2
    have hm:H.next+14≤m:=hm
    obtain⟨e,F1,h1',hr,rfl,rfl,rfl⟩:=smS_vp H ⟨m,H.blks⟩ B N i ao bo ca cb a b rs1[i].v rs2[i].v (fun e F1 h1=>e= .normal∧F1= [(0,.slice ao N ca),(1,.slice bo N cb),(5,.int .i64 ((i+1:Nat):Int))]∧h1=⟨m+5,H.blks⟩)
      (bifL hB ⟨boolT (by omega),bifL (by omega) ⟨a1,a3 _,by omega,b1,b3 _,by omega,⟨D⟩,bifL (by show B≤m;omega) (bifL (by show B≤m+2;omega) ⟨⟨by omega,by omega⟩,rfl,by rw [succI],rfl⟩)⟩⟩)
    have f:Fr H ⟨m+5,H.blks⟩ []:=⟨by show H.next≤m+5;omega,fun _ _ _=>rfl⟩
    obtain⟨n,hn,L⟩:=ih (i+1) ⟨m+5,H.blks⟩ (by omega) (by show B≤m+5;omega) (r1.fr f (by simp)) (r2.fr f (by simp))
    have hn:m+5≤n:=hn
    exact⟨n,by omega,Loops.round hr (Ent.refl _ _ _ _) L⟩
theorem same_does {H:AHeap}{B1 B2 E1 E2 o1 o2:Nat}{va vb:AVal}{rs1 rs2:List Rr}(he:lsOf rs1=lsOf rs2)(hl:rs1.length<2^60)(hs: ∀ r∈rs1,r.l.length<2^60)(r1:Tr H B1 E1 va o1 rs1)(r2:Tr H B2 E2 vb o2 rs2) :
    ∃ n,H.next≤n∧FDoes Tryz.prog cnd 16 [va,vb] H (.bool true) ⟨n,H.blks⟩:=by
  obtain⟨ao,ca,rfl⟩:=r1.out.sl
  obtain⟨bo,cb,rfl⟩:=r2.out.sl
  have hl2:rs2.length=rs1.length:=by have:=congrArg List.length he;simpa using this.symm
  rw [List.length_map]at r1 r2 ⊢
  rw [List.length_map]
  rw [hl2]at r2 ⊢
  obtain⟨n,hn,L⟩:=sm_loop (B:=H.next) he rfl hl2.symm hl hs rs1.length 0 (up H 7) (by omega) (by show H.next≤H.next+7;omega) (r1.fr (Fr.up H 7 []) (by simp)) (r2.fr (Fr.up H 7 []) (by simp))
  have hn:H.next+7≤n:=hn
  obtain⟨v,h1,hd,rfl,rfl⟩:=sm_vc H ⟨n,H.blks⟩ rs1.length ao bo ca cb (fun v h1=>v= .bool true∧h1=⟨n+1,H.blks⟩)
    (bifL (Nat.le_refl _) (bifL (by omega) ⟨by simp,bifL (by omega) ⟨Runs.of_loops L,bifL (by show H.next≤n;omega) (condL (by show H.next≤n+1;omega) ⟨rfl,rfl⟩)⟩⟩))
  exact⟨n+1,by omega,hd⟩
end Go.Proofs.YtjpfnbihopoeeaaGreatDoor
namespace Go.Proofs.YtjpfnbihopoeeaaGreatDoor
open Go.Lift
set_option maxRecDepth 1000000
theorem cv8 {F:Facts}{k nid:Nat}{n:Int}{H:AHeap}(hF:getF F (.tmp k)= .int .i64 n):aop env noCall nid (getF F) H (Op.convert 3 5 (Operand.tmp k))=some (.int .u8 (((IntKind.u8.wrap n).toNat:Nat):Int),H):=by
  have h0:0≤IntKind.u8.wrap n:=by
    show(0:Int)≤n % 256
    omega
  rw [Int.toNat_of_nonneg h0]
  have:aop env noCall nid (getF F) H (Op.convert 3 5 (Operand.tmp k))=(aconvert (AEnv.D env) 3 5 (.int .i64 n)).map fun v=>(v,H):=by rw [← hF];rfl
  exact this.trans (by kernel_rfl)
theorem mark_ex(i:Nat): ∃ s:Bys,∀ H:AHeap,FDoes Tryz.prog cnd 44 [.int .i64 (i:Nat)] H (.str s) H:=by
  obtain⟨v,h1,hd,s,rfl⟩:=mark_vc i _ _ _ (fun v h1=> ∃ s,v= .str s) ⟨cv8 rfl,.mk 8,cv8 rfl,.mk 16,cv8 rfl,_,rfl⟩
  exact⟨s,fun H=>FDoes.ofVC ⟨_,_,hd,rfl⟩ rfl rfl H⟩
noncomputable def markS(i:Nat):Bys:=Classical.choose (mark_ex i)
theorem mark_does(i:Nat)(H:AHeap):FDoes Tryz.prog cnd 44 [.int .i64 (i:Nat)] H (.str (markS i)) H:=Classical.choose_spec (mark_ex i) H
theorem build1R {F:Facts}{k nid:Nat}{x:AVal}{H:AHeap}(hF:getF F (.tmp k)=x)(hx:Sv x):aop env noCall nid (getF F) H (Op.buildSlice 22 1 {toList:= [(0,Operand.tmp k)]})=some (.slice (some ⟨nid,0,0,0,1⟩) 1 1,H.set nid (ABlk.made [x] 1 true)):=by
  have:aop env noCall nid (getF F) H (Op.buildSlice 22 1 {toList:= [(0,Operand.tmp k)]})=abuildSlice (AEnv.D env) 22 1 [(0,x)] nid H:=by rw [← hF];rfl
  refine this.trans ?_
  cases x with
  | agg=>cases hx
  | tuple=>cases hx
  | undef=>cases hx
  | _=>exact(by kernel_rfl)
theorem build1S {F:Facts}{k nid:Nat}{x:AVal}{H:AHeap}(hF:getF F (.tmp k)=x)(hx:Sv x):aop env noCall nid (getF F) H (Op.buildSlice 36 1 {toList:= [(0,Operand.tmp k)]})=some (.slice (some ⟨nid,0,0,0,1⟩) 1 1,H.set nid (ABlk.made [x] 1 true)):=by
  have:aop env noCall nid (getF F) H (Op.buildSlice 36 1 {toList:= [(0,Operand.tmp k)]})=abuildSlice (AEnv.D env) 36 1 [(0,x)] nid H:=by rw [← hF];rfl
  refine this.trans ?_
  cases x with
  | agg=>cases hx
  | tuple=>cases hx
  | undef=>cases hx
  | _=>exact(by kernel_rfl)
theorem one_elem(H:AHeap)(q:Nat)(x:AVal):elemsOf 1 (.slice (some ⟨q,0,0,0,1⟩) 1 1) (H.set q (ABlk.made [x] 1 true))=some [x]:=by
  have h5:=AHeap.get_set_self H q (ABlk.made [x] 1 true)
  simp only [elemsOf,if_true,h5]
  rw [if_neg (by decide),if_pos ⟨by simp [ABlk.lim,ABlk.made],by simp [ABlk.made]⟩]
  simp [ABlk.made]
end Go.Proofs.YtjpfnbihopoeeaaGreatDoor
namespace Go.Proofs.YtjpfnbihopoeeaaGreatDoor
open Go.Lift
set_option maxRecDepth 1000000
theorem ap0_vp(H H1:AHeap)(B N i n rc:Nat)(ro:Option AAddr)(va vb al:AVal)(a:AAddr)(K0:AExit→Facts→AHeap→Prop)(vc:bif Nat.ble B (AHeap.next H) && true then some (AVal.bool (decide ((↑i:Int)<(↑N:Int))))=some (AVal.bool true)∧bif Nat.ble B (AHeap.next H+1) && true then bif Nat.ble B (AHeap.next H+3) && true then aindexAddr (AEnv.D env) 22 al (AVal.int IntKind.i64 (↑i:Int))=some (AVal.ptr (some a))∧aload (AEnv.D env) 36 a (AHeap.mk (AHeap.next H+9) (H.2))=some (AVal.slice ro n rc)∧Runs Tryz.prog cnd B 209 (Code.loop (loopAt Tryz.prog 17 1)) [(0,va),(1,vb),(5,al),(6,AVal.int IntKind.i64 (↑i:Int)),(28,AVal.int IntKind.i64 (↑N:Int)),(29,AVal.int IntKind.i64 (↑i:Int)),(36,AVal.int IntKind.i64 (↑n:Int)),(37,AVal.int IntKind.i64 (0))] (AHeap.mk (AHeap.next H+3+6) (AHeap.blks (AHeap.mk (AHeap.next H+1+2) (AHeap.blks (AHeap.mk (AHeap.next H+1) (AHeap.blks H)))))) (AExit.exit 2) [(0,va),(1,vb),(5,al),(28,AVal.int IntKind.i64 (↑N:Int)),(29,AVal.int IntKind.i64 (↑i:Int))] H1∧bif Nat.ble B (AHeap.next H1) && true then(-9223372036854775808≤(↑i:Int)+1∧(↑i:Int)+1≤9223372036854775807)∧K0 AExit.normal [(0,va),(1,vb),(5,al),(28,AVal.int IntKind.i64 (↑N:Int)),(29,AVal.int IntKind.i64 ((↑i:Int)+1))] (AHeap.mk (AHeap.next H1+2) (AHeap.blks H1))else False else False else False else False) :
    ∃ e F1 h1,Runs Tryz.prog cnd B 209 (loopAt Tryz.prog 17 0) [(0,va),(1,vb),(5,al),(28,.int .i64 N),(29,.int .i64 i)] H e F1 h1∧K0 e F1 h1 :=
  tpath_runs env_ok mixed noSpecs_ok (hs:= .hint (.val 5000 (AVal.bool true)) (.hint (.val 7002 (AVal.ptr (some a))) (.hint (.val 7003 (AVal.slice ro n rc)) (.hint (.keep [0,1,5,6,28,29,36,37]) (.hint (.loop [(0,va),(1,vb),(5,al),(28,AVal.int IntKind.i64 (↑N:Int)),(29,AVal.int IntKind.i64 (↑i:Int))] H1 (AExit.exit 2)) (.hint (.go 12000) .nil)))))) (keep:= [0,1,5,28,29]) (by kernel_rfl) vc
theorem ap0E_vp(H:AHeap)(B N i:Nat)(va vb al:AVal)(K0:AExit→Facts→AHeap→Prop)(vc:bif Nat.ble B (AHeap.next H) && true then some (AVal.bool (decide ((↑i:Int)<(↑N:Int))))=some (AVal.bool false)∧K0 (AExit.exit 0) [(0,va),(1,vb),(5,al),(28,AVal.int IntKind.i64 (↑N:Int)),(29,AVal.int IntKind.i64 (↑i:Int))] (AHeap.mk (AHeap.next H+1) (AHeap.blks H))else False) :
    ∃ e F1 h1,Runs Tryz.prog cnd B 209 (loopAt Tryz.prog 17 0) [(0,va),(1,vb),(5,al),(28,.int .i64 N),(29,.int .i64 i)] H e F1 h1∧K0 e F1 h1 :=
  tpath_runs env_ok mixed noSpecs_ok (hs:= .hint (.val 5000 (AVal.bool false)) .nil) (keep:= [0,1,5,28,29]) (by kernel_rfl) vc
theorem ap1_vp(H H1:AHeap)(B N i n k:Nat)(va vb al rv:AVal)(a b:AAddr)(s:Bys)(K0:AExit→Facts→AHeap→Prop)(vc:bif Nat.ble B (AHeap.next H) && true then some (AVal.bool (decide ((↑k:Int)<(↑n:Int))))=some (AVal.bool true)∧bif Nat.ble B (AHeap.next H+1) && true then bif Nat.ble B (AHeap.next H+3) && true then aindexAddr (AEnv.D env) 22 al (AVal.int IntKind.i64 (↑i:Int))=some (AVal.ptr (some a))∧aload (AEnv.D env) 36 a (AHeap.mk (AHeap.next H+12) (H.2))=some rv∧AAddr.id a<AHeap.next H+3∧CallT Tryz.prog cnd 44 [AVal.int IntKind.i64 (↑i:Int)] (AHeap.mk (AHeap.next H+12) (H.2)) (AVal.str s) (AHeap.mk (AHeap.next H+12) (H.2))∧sameOld (AHeap.next H+12) (AHeap.mk (AHeap.next H+12) (H.2)) (AHeap.mk (AHeap.next H+12) (H.2))=true∧aindexAddr (AEnv.D env) 36 rv (AVal.int IntKind.i64 (↑k:Int))=some (AVal.ptr (some b))∧aop env noCall (AHeap.next H+11) (getF [(47,AVal.ptr (some b)),(46,AVal.str s),(45,AVal.int IntKind.i64 (↑i:Int)),(44,AVal.int IntKind.i64 (↑k:Int)),(43,rv),(42,AVal.ptr (some a)),(41,AVal.int IntKind.i64 (↑i:Int)),(40,al),(7,AVal.int IntKind.i64 (↑k:Int)),(39,AVal.int IntKind.i64 (↑k:Int)),(38,AVal.bool true),(0,va),(1,vb),(5,al),(6,AVal.int IntKind.i64 (↑i:Int)),(28,AVal.int IntKind.i64 (↑N:Int)),(29,AVal.int IntKind.i64 (↑i:Int)),(36,AVal.int IntKind.i64 (↑n:Int)),(37,AVal.int IntKind.i64 (↑k:Int))]) (AHeap.mk (AHeap.next H+12) (H.2)) (Op.store 9 (Operand.tmp 47) (Operand.tmp 46))=some (AVal.tuple [],H1)∧bif Nat.ble B (AHeap.next H1) && true then(-9223372036854775808≤(↑k:Int)+1∧(↑k:Int)+1≤9223372036854775807)∧K0 AExit.normal [(0,va),(1,vb),(5,al),(6,AVal.int IntKind.i64 (↑i:Int)),(28,AVal.int IntKind.i64 (↑N:Int)),(29,AVal.int IntKind.i64 (↑i:Int)),(36,AVal.int IntKind.i64 (↑n:Int)),(37,AVal.int IntKind.i64 ((↑k:Int)+1))] (AHeap.mk (AHeap.next H1+2) (AHeap.blks H1))else False else False else False else False) :
    ∃ e F1 h1,Runs Tryz.prog cnd B 209 (loopAt Tryz.prog 17 1) [(0,va),(1,vb),(5,al),(6,.int .i64 i),(28,.int .i64 N),(29,.int .i64 i),(36,.int .i64 n),(37,.int .i64 k)] H e F1 h1∧K0 e F1 h1 :=
  tpath_runs env_ok mixed noSpecs_ok (hs:= .hint (.val 8000 (AVal.bool true)) (.hint (.val 10002 (AVal.ptr (some a))) (.hint (.farV 10003 rv) (.hint (.val 10006 (AVal.str s)) (.hint (.val 10007 (AVal.ptr (some b))) (.hint (.act 10008 (AVal.tuple []) fun x=>H1) (.hint (.go 11000) .nil))))))) (keep:= [0,1,5,6,28,29,36,37]) (by kernel_rfl) vc
theorem ap1E_vp(H:AHeap)(B N i n k:Nat)(va vb al:AVal)(K0:AExit→Facts→AHeap→Prop)(vc:bif Nat.ble B (AHeap.next H) && true then some (AVal.bool (decide ((↑k:Int)<(↑n:Int))))=some (AVal.bool false)∧K0 (AExit.exit 2) [(0,va),(1,vb),(5,al),(6,AVal.int IntKind.i64 (↑i:Int)),(28,AVal.int IntKind.i64 (↑N:Int)),(29,AVal.int IntKind.i64 (↑i:Int)),(36,AVal.int IntKind.i64 (↑n:Int)),(37,AVal.int IntKind.i64 (↑k:Int))] (AHeap.mk (AHeap.next H+1) (AHeap.blks H))else False) :
    ∃ e F1 h1,Runs Tryz.prog cnd B 209 (loopAt Tryz.prog 17 1) [(0,va),(1,vb),(5,al),(6,.int .i64 i),(28,.int .i64 N),(29,.int .i64 i),(36,.int .i64 n),(37,.int .i64 k)] H e F1 h1∧K0 e F1 h1 :=
  tpath_runs env_ok mixed noSpecs_ok (hs:= .hint (.val 8000 (AVal.bool false)) .nil) (keep:= [0,1,5,6,28,29,36,37]) (by kernel_rfl) vc
theorem ap2_vp(H H1 H2 H3:AHeap)(B N i q:Nat)(va vb al lg rv gv lg2:AVal)(a:AAddr)(K0:AExit→Facts→AHeap→Prop)(vc:bif Nat.ble B (AHeap.next H) && true then some (AVal.bool (decide ((↑i:Int)<(↑N:Int))))=some (AVal.bool true)∧bif Nat.ble B (AHeap.next H+1) && true then bif Nat.ble B (AHeap.next H+3) && true then aindexAddr (AEnv.D env) 22 al (AVal.int IntKind.i64 (↑i:Int))=some (AVal.ptr (some a))∧aload (AEnv.D env) 36 a (AHeap.mk (AHeap.next H+8) (H.2))=some rv∧bif Nat.ble B (AHeap.next H+8) && true then Runs Tryz.prog cnd B 209 (Code.loop (loopAt Tryz.prog 17 3)) [(0,va),(1,vb),(5,al),(8,lg),(9,AVal.int IntKind.i64 (↑i:Int)),(10,rv),(51,AVal.int IntKind.i64 (↑N:Int)),(52,AVal.int IntKind.i64 (↑i:Int)),(59,AVal.int IntKind.i64 (0))] (AHeap.mk (AHeap.next H+8+1) (AHeap.blks (AHeap.mk (AHeap.next H+3+5) (AHeap.blks (AHeap.mk (AHeap.next H+1+2) (AHeap.blks (AHeap.mk (AHeap.next H+1) (AHeap.blks H)))))))) (AExit.exit 6) [(0,va),(1,vb),(5,al),(8,lg),(10,gv),(51,AVal.int IntKind.i64 (↑N:Int)),(52,AVal.int IntKind.i64 (↑i:Int))] H1∧bif Nat.ble B (AHeap.next H1) && true then aop env noCall (AHeap.next H1+2) (getF [(68,gv),(67,lg),(0,va),(1,vb),(5,al),(8,lg),(10,gv),(51,AVal.int IntKind.i64 (↑N:Int)),(52,AVal.int IntKind.i64 (↑i:Int))]) (AHeap.mk (AHeap.next H1+5) (H1.2)) (Op.buildSlice 22 1 {toList:= [(0,Operand.tmp 68)]})=some (AVal.slice (some ⟨q,0,0,0,1⟩) 1 1,H2)∧abuiltin env Builtin.append {toList:= [22,22]} [lg,AVal.slice (some ⟨q,0,0,0,1⟩) 1 1] (AHeap.next H1+3) H2=some (lg2,H3)∧bif Nat.ble B (AHeap.next H3) && true then(-9223372036854775808≤(↑i:Int)+1∧(↑i:Int)+1≤9223372036854775807)∧K0 AExit.normal [(0,va),(1,vb),(5,al),(8,lg2),(51,AVal.int IntKind.i64 (↑N:Int)),(52,AVal.int IntKind.i64 ((↑i:Int)+1))] (AHeap.mk (AHeap.next H3+2) (AHeap.blks H3))else False else False else False else False else False else False) :
    ∃ e F1 h1,Runs Tryz.prog cnd B 209 (loopAt Tryz.prog 17 2) [(0,va),(1,vb),(5,al),(8,lg),(51,.int .i64 N),(52,.int .i64 i)] H e F1 h1∧K0 e F1 h1 :=
  tpath_runs env_ok mixed noSpecs_ok (hs:= .hint (.val 15000 (AVal.bool true)) (.hint (.val 17002 (AVal.ptr (some a))) (.hint (.val 17003 rv) (.hint (.keep [0,1,5,8,9,10,51,52,59]) (.hint (.loop [(0,va),(1,vb),(5,al),(8,lg),(10,gv),(51,AVal.int IntKind.i64 (↑N:Int)),(52,AVal.int IntKind.i64 (↑i:Int))] H1 (AExit.exit 6)) (.hint (.act 22002 (AVal.slice (some ⟨q,0,0,0,1⟩) 1 1) fun x=>H2) (.hint (.act 22003 lg2 fun x=>H3) (.hint (.go 23000) .nil)))))))) (keep:= [0,1,5,8,51,52]) (by kernel_rfl) vc
theorem ap2E_vp(H:AHeap)(B N i:Nat)(va vb al lg:AVal)(K0:AExit→Facts→AHeap→Prop)(vc:bif Nat.ble B (AHeap.next H) && true then some (AVal.bool (decide ((↑i:Int)<(↑N:Int))))=some (AVal.bool false)∧K0 (AExit.exit 4) [(0,va),(1,vb),(5,al),(8,lg),(51,AVal.int IntKind.i64 (↑N:Int)),(52,AVal.int IntKind.i64 (↑i:Int))] (AHeap.mk (AHeap.next H+1) (AHeap.blks H))else False) :
    ∃ e F1 h1,Runs Tryz.prog cnd B 209 (loopAt Tryz.prog 17 2) [(0,va),(1,vb),(5,al),(8,lg),(51,.int .i64 N),(52,.int .i64 i)] H e F1 h1∧K0 e F1 h1 :=
  tpath_runs env_ok mixed noSpecs_ok (hs:= .hint (.val 15000 (AVal.bool false)) .nil) (keep:= [0,1,5,8,51,52]) (by kernel_rfl) vc
theorem ap3_vp(H H1 H2:AHeap)(B N i j q:Nat)(va vb al lg gv gv2:AVal)(s:Bys)(K0:AExit→Facts→AHeap→Prop)(vc:bif Nat.ble B (AHeap.next H) && true then some (AVal.bool (decide ((↑j:Int)<20)))=some (AVal.bool true)∧bif Nat.ble B (AHeap.next H+1) && true then CallT Tryz.prog cnd 44 [AVal.int IntKind.i64 (↑i:Int)] (AHeap.mk (AHeap.next H+7) (H.2)) (AVal.str s) (AHeap.mk (AHeap.next H+7) (H.2))∧aop env noCall (AHeap.next H+4) (getF [(63,AVal.str s),(62,AVal.int IntKind.i64 (↑i:Int)),(61,gv),(60,AVal.bool true),(0,va),(1,vb),(5,al),(8,lg),(9,AVal.int IntKind.i64 (↑i:Int)),(10,gv),(51,AVal.int IntKind.i64 (↑N:Int)),(52,AVal.int IntKind.i64 (↑i:Int)),(59,AVal.int IntKind.i64 (↑j:Int))]) (AHeap.mk (AHeap.next H+7) (H.2)) (Op.buildSlice 36 1 {toList:= [(0,Operand.tmp 63)]})=some (AVal.slice (some ⟨q,0,0,0,1⟩) 1 1,H1)∧abuiltin env Builtin.append {toList:= [36,36]} [gv,AVal.slice (some ⟨q,0,0,0,1⟩) 1 1] (AHeap.next H+5) H1=some (gv2,H2)∧bif Nat.ble B (AHeap.next H2) && true then(-9223372036854775808≤(↑j:Int)+1∧(↑j:Int)+1≤9223372036854775807)∧K0 AExit.normal [(0,va),(1,vb),(5,al),(8,lg),(9,AVal.int IntKind.i64 (↑i:Int)),(10,gv2),(51,AVal.int IntKind.i64 (↑N:Int)),(52,AVal.int IntKind.i64 (↑i:Int)),(59,AVal.int IntKind.i64 ((↑j:Int)+1))] (AHeap.mk (AHeap.next H2+2) (AHeap.blks H2))else False else False else False) :
    ∃ e F1 h1,Runs Tryz.prog cnd B 209 (loopAt Tryz.prog 17 3) [(0,va),(1,vb),(5,al),(8,lg),(9,.int .i64 i),(10,gv),(51,.int .i64 N),(52,.int .i64 i),(59,.int .i64 j)] H e F1 h1∧K0 e F1 h1 :=
  tpath_runs env_ok mixed noSpecs_ok (hs:= .hint (.val 19000 (AVal.bool true)) (.hint (.val 20002 (AVal.str s)) (.hint (.act 20003 (AVal.slice (some ⟨q,0,0,0,1⟩) 1 1) fun x=>H1) (.hint (.act 20004 gv2 fun x=>H2) (.hint (.go 21000) .nil))))) (keep:= [0,1,5,8,9,10,51,52,59]) (by kernel_rfl) vc
theorem ap3E_vp(H:AHeap)(B N i j:Nat)(va vb al lg gv:AVal)(K0:AExit→Facts→AHeap→Prop)(vc:bif Nat.ble B (AHeap.next H) && true then some (AVal.bool (decide ((↑j:Int)<20)))=some (AVal.bool false)∧K0 (AExit.exit 6) [(0,va),(1,vb),(5,al),(8,lg),(9,AVal.int IntKind.i64 (↑i:Int)),(10,gv),(51,AVal.int IntKind.i64 (↑N:Int)),(52,AVal.int IntKind.i64 (↑i:Int)),(59,AVal.int IntKind.i64 (↑j:Int))] (AHeap.mk (AHeap.next H+1) (AHeap.blks H))else False) :
    ∃ e F1 h1,Runs Tryz.prog cnd B 209 (loopAt Tryz.prog 17 3) [(0,va),(1,vb),(5,al),(8,lg),(9,.int .i64 i),(10,gv),(51,.int .i64 N),(52,.int .i64 i),(59,.int .i64 j)] H e F1 h1∧K0 e F1 h1 :=
  tpath_runs env_ok mixed noSpecs_ok (hs:= .hint (.val 19000 (AVal.bool false)) .nil) (keep:= [0,1,5,8,9,10,51,52,59]) (by kernel_rfl) vc
theorem ap4_vp(H H1:AHeap)(B N i m gc:Nat)(go:Option AAddr)(va vb al lg:AVal)(a:AAddr)(K0:AExit→Facts→AHeap→Prop)(vc:bif Nat.ble B (AHeap.next H) && true then some (AVal.bool (decide ((↑i:Int)<(↑N:Int))))=some (AVal.bool true)∧bif Nat.ble B (AHeap.next H+1) && true then bif Nat.ble B (AHeap.next H+3) && true then aindexAddr (AEnv.D env) 22 lg (AVal.int IntKind.i64 (↑i:Int))=some (AVal.ptr (some a))∧aload (AEnv.D env) 36 a (AHeap.mk (AHeap.next H+9) (H.2))=some (AVal.slice go m gc)∧Runs Tryz.prog cnd B 209 (Code.loop (loopAt Tryz.prog 17 5)) [(0,va),(1,vb),(5,al),(8,lg),(11,AVal.int IntKind.i64 (↑i:Int)),(73,AVal.int IntKind.i64 (↑N:Int)),(74,AVal.int IntKind.i64 (↑i:Int)),(81,AVal.int IntKind.i64 (↑m:Int)),(82,AVal.int IntKind.i64 (0))] (AHeap.mk (AHeap.next H+3+6) (AHeap.blks (AHeap.mk (AHeap.next H+1+2) (AHeap.blks (AHeap.mk (AHeap.next H+1) (AHeap.blks H)))))) (AExit.exit 10) [(0,va),(1,vb),(5,al),(8,lg),(73,AVal.int IntKind.i64 (↑N:Int)),(74,AVal.int IntKind.i64 (↑i:Int))] H1∧bif Nat.ble B (AHeap.next H1) && true then(-9223372036854775808≤(↑i:Int)+1∧(↑i:Int)+1≤9223372036854775807)∧K0 AExit.normal [(0,va),(1,vb),(5,al),(8,lg),(73,AVal.int IntKind.i64 (↑N:Int)),(74,AVal.int IntKind.i64 ((↑i:Int)+1))] (AHeap.mk (AHeap.next H1+2) (AHeap.blks H1))else False else False else False else False) :
    ∃ e F1 h1,Runs Tryz.prog cnd B 209 (loopAt Tryz.prog 17 4) [(0,va),(1,vb),(5,al),(8,lg),(73,.int .i64 N),(74,.int .i64 i)] H e F1 h1∧K0 e F1 h1 :=
  tpath_runs env_ok mixed noSpecs_ok (hs:= .hint (.val 25000 (AVal.bool true)) (.hint (.val 27002 (AVal.ptr (some a))) (.hint (.val 27003 (AVal.slice go m gc)) (.hint (.keep [0,1,5,8,11,73,74,81,82]) (.hint (.loop [(0,va),(1,vb),(5,al),(8,lg),(73,AVal.int IntKind.i64 (↑N:Int)),(74,AVal.int IntKind.i64 (↑i:Int))] H1 (AExit.exit 10)) (.hint (.go 33000) .nil)))))) (keep:= [0,1,5,8,73,74]) (by kernel_rfl) vc
theorem ap4E_vp(H:AHeap)(B N i:Nat)(va vb al lg:AVal)(K0:AExit→Facts→AHeap→Prop)(vc:bif Nat.ble B (AHeap.next H) && true then some (AVal.bool (decide ((↑i:Int)<(↑N:Int))))=some (AVal.bool false)∧K0 (AExit.exit 8) [(0,va),(1,vb),(5,al),(8,lg),(73,AVal.int IntKind.i64 (↑N:Int)),(74,AVal.int IntKind.i64 (↑i:Int))] (AHeap.mk (AHeap.next H+1) (AHeap.blks H))else False) :
    ∃ e F1 h1,Runs Tryz.prog cnd B 209 (loopAt Tryz.prog 17 4) [(0,va),(1,vb),(5,al),(8,lg),(73,.int .i64 N),(74,.int .i64 i)] H e F1 h1∧K0 e F1 h1 :=
  tpath_runs env_ok mixed noSpecs_ok (hs:= .hint (.val 25000 (AVal.bool false)) .nil) (keep:= [0,1,5,8,73,74]) (by kernel_rfl) vc
theorem ap5A_vp(H:AHeap)(B N i m k n rc:Nat)(ro:Option AAddr)(va vb al lg gv:AVal)(a b c d:AAddr)(s:Bys)(K0:AExit→Facts→AHeap→Prop)(vc:bif Nat.ble B (AHeap.next H) && true then some (AVal.bool (decide ((↑k:Int)<(↑m:Int))))=some (AVal.bool true)∧bif Nat.ble B (AHeap.next H+1) && true then bif Nat.ble B (AHeap.next H+3) && true then aindexAddr (AEnv.D env) 22 lg (AVal.int IntKind.i64 (↑i:Int))=some (AVal.ptr (some a))∧aload (AEnv.D env) 36 a (AHeap.mk (AHeap.next H+34) (H.2))=some gv∧AAddr.id a<AHeap.next H+3∧aindexAddr (AEnv.D env) 36 gv (AVal.int IntKind.i64 (↑k:Int))=some (AVal.ptr (some b))∧aload (AEnv.D env) 9 b (AHeap.mk (AHeap.next H+34) (H.2))=some (AVal.str s)∧AAddr.id b<AHeap.next H+3∧CallT Tryz.prog cnd 44 [AVal.int IntKind.i64 (↑i:Int)] (AHeap.mk (AHeap.next H+34) (H.2)) (AVal.str s) (AHeap.mk (AHeap.next H+34) (H.2))∧sameOld (AHeap.next H+34) (AHeap.mk (AHeap.next H+34) (H.2)) (AHeap.mk (AHeap.next H+34) (H.2))=true∧some (AVal.bool !s == s)=some (AVal.bool false)∧aindexAddr (AEnv.D env) 22 al (AVal.int IntKind.i64 (↑i:Int))=some (AVal.ptr (some c))∧aload (AEnv.D env) 36 c (AHeap.mk (AHeap.next H+34) (H.2))=some (AVal.slice ro n rc)∧AAddr.id c<AHeap.next H+3∧some (AVal.bool (decide ((↑k:Int)<(↑n:Int))))=some (AVal.bool true)∧aindexAddr (AEnv.D env) 22 al (AVal.int IntKind.i64 (↑i:Int))=some (AVal.ptr (some c))∧aload (AEnv.D env) 36 c (AHeap.mk (AHeap.next H+34) (H.2))=some (AVal.slice ro n rc)∧AAddr.id c<AHeap.next H+3∧aindexAddr (AEnv.D env) 36 (AVal.slice ro n rc) (AVal.int IntKind.i64 (↑k:Int))=some (AVal.ptr (some d))∧aload (AEnv.D env) 9 d (AHeap.mk (AHeap.next H+34) (H.2))=some (AVal.str s)∧AAddr.id d<AHeap.next H+3∧CallT Tryz.prog cnd 44 [AVal.int IntKind.i64 (↑i:Int)] (AHeap.mk (AHeap.next H+34) (H.2)) (AVal.str s) (AHeap.mk (AHeap.next H+34) (H.2))∧sameOld (AHeap.next H+34) (AHeap.mk (AHeap.next H+34) (H.2)) (AHeap.mk (AHeap.next H+34) (H.2))=true∧some (AVal.bool !s == s)=some (AVal.bool false)∧Agree [AVal.int IntKind.i64 (↑i:Int)] [AVal.int IntKind.i64 (↑i:Int)] (AHeap.mk (AHeap.next H+34) (H.2)) (AHeap.mk (AHeap.next H+34) (H.2)) (AVal.str s) (AVal.str s) (AHeap.mk (AHeap.next H+34) (H.2)) (AHeap.mk (AHeap.next H+34) (H.2))∧bif Nat.ble B (AHeap.next H+34) && true then(-9223372036854775808≤(↑k:Int)+1∧(↑k:Int)+1≤9223372036854775807)∧K0 AExit.normal [(0,va),(1,vb),(5,al),(8,lg),(11,AVal.int IntKind.i64 (↑i:Int)),(73,AVal.int IntKind.i64 (↑N:Int)),(74,AVal.int IntKind.i64 (↑i:Int)),(81,AVal.int IntKind.i64 (↑m:Int)),(82,AVal.int IntKind.i64 ((↑k:Int)+1))] (AHeap.mk (AHeap.next H+34+2) (AHeap.blks (AHeap.mk (AHeap.next H+3+31) (AHeap.blks (AHeap.mk (AHeap.next H+1+2) (AHeap.blks (AHeap.mk (AHeap.next H+1) (AHeap.blks H))))))))else False else False else False else False) :
    ∃ e F1 h1,Runs Tryz.prog cnd B 209 (loopAt Tryz.prog 17 5) [(0,va),(1,vb),(5,al),(8,lg),(11,.int .i64 i),(73,.int .i64 N),(74,.int .i64 i),(81,.int .i64 m),(82,.int .i64 k)] H e F1 h1∧K0 e F1 h1 :=
  tpath_runs env_ok mixed noSpecs_ok (hs:= .hint (.val 28000 (AVal.bool true)) (.hint (.val 30002 (AVal.ptr (some a))) (.hint (.farV 30003 gv) (.hint (.val 30005 (AVal.ptr (some b))) (.hint (.farV 30006 (AVal.str s)) (.hint (.val 30008 (AVal.str s)) (.hint (.val 30009 (AVal.bool false)) (.hint (.val 30014 (AVal.ptr (some c))) (.hint (.farV 30015 (AVal.slice ro n rc)) (.hint (.val 30017 (AVal.bool true)) (.hint (.val 30021 (AVal.ptr (some c))) (.hint (.farV 30022 (AVal.slice ro n rc)) (.hint (.val 30024 (AVal.ptr (some d))) (.hint (.farV 30025 (AVal.str s)) (.hint (.val 30027 (AVal.str s)) (.hint (.val 30028 (AVal.bool false)) (.hint (.go 32000) .nil))))))))))))))))) (keep:= [0,1,5,8,11,73,74,81,82]) (by kernel_rfl) vc
theorem ap5B_vp(H:AHeap)(B N i m k n rc:Nat)(ro:Option AAddr)(va vb al lg gv:AVal)(a b c:AAddr)(s:Bys)(K0:AExit→Facts→AHeap→Prop)(vc:bif Nat.ble B (AHeap.next H) && true then some (AVal.bool (decide ((↑k:Int)<(↑m:Int))))=some (AVal.bool true)∧bif Nat.ble B (AHeap.next H+1) && true then bif Nat.ble B (AHeap.next H+3) && true then aindexAddr (AEnv.D env) 22 lg (AVal.int IntKind.i64 (↑i:Int))=some (AVal.ptr (some a))∧aload (AEnv.D env) 36 a (AHeap.mk (AHeap.next H+34) (H.2))=some gv∧AAddr.id a<AHeap.next H+3∧aindexAddr (AEnv.D env) 36 gv (AVal.int IntKind.i64 (↑k:Int))=some (AVal.ptr (some b))∧aload (AEnv.D env) 9 b (AHeap.mk (AHeap.next H+34) (H.2))=some (AVal.str s)∧AAddr.id b<AHeap.next H+3∧CallT Tryz.prog cnd 44 [AVal.int IntKind.i64 (↑i:Int)] (AHeap.mk (AHeap.next H+34) (H.2)) (AVal.str s) (AHeap.mk (AHeap.next H+34) (H.2))∧sameOld (AHeap.next H+34) (AHeap.mk (AHeap.next H+34) (H.2)) (AHeap.mk (AHeap.next H+34) (H.2))=true∧some (AVal.bool !s == s)=some (AVal.bool false)∧aindexAddr (AEnv.D env) 22 al (AVal.int IntKind.i64 (↑i:Int))=some (AVal.ptr (some c))∧aload (AEnv.D env) 36 c (AHeap.mk (AHeap.next H+34) (H.2))=some (AVal.slice ro n rc)∧AAddr.id c<AHeap.next H+3∧some (AVal.bool (decide ((↑k:Int)<(↑n:Int))))=some (AVal.bool false)∧bif Nat.ble B (AHeap.next H+34) && true then(-9223372036854775808≤(↑k:Int)+1∧(↑k:Int)+1≤9223372036854775807)∧K0 AExit.normal [(0,va),(1,vb),(5,al),(8,lg),(11,AVal.int IntKind.i64 (↑i:Int)),(73,AVal.int IntKind.i64 (↑N:Int)),(74,AVal.int IntKind.i64 (↑i:Int)),(81,AVal.int IntKind.i64 (↑m:Int)),(82,AVal.int IntKind.i64 ((↑k:Int)+1))] (AHeap.mk (AHeap.next H+34+2) (AHeap.blks (AHeap.mk (AHeap.next H+3+31) (AHeap.blks (AHeap.mk (AHeap.next H+1+2) (AHeap.blks (AHeap.mk (AHeap.next H+1) (AHeap.blks H))))))))else False else False else False else False) :
    ∃ e F1 h1,Runs Tryz.prog cnd B 209 (loopAt Tryz.prog 17 5) [(0,va),(1,vb),(5,al),(8,lg),(11,.int .i64 i),(73,.int .i64 N),(74,.int .i64 i),(81,.int .i64 m),(82,.int .i64 k)] H e F1 h1∧K0 e F1 h1 :=
  tpath_runs env_ok mixed noSpecs_ok (hs:= .hint (.val 28000 (AVal.bool true)) (.hint (.val 30002 (AVal.ptr (some a))) (.hint (.farV 30003 gv) (.hint (.val 30005 (AVal.ptr (some b))) (.hint (.farV 30006 (AVal.str s)) (.hint (.val 30008 (AVal.str s)) (.hint (.val 30009 (AVal.bool false)) (.hint (.val 30014 (AVal.ptr (some c))) (.hint (.farV 30015 (AVal.slice ro n rc)) (.hint (.val 30017 (AVal.bool false)) (.hint (.go 32000) .nil))))))))))) (keep:= [0,1,5,8,11,73,74,81,82]) (by kernel_rfl) vc
theorem ap5E_vp(H:AHeap)(B N i m k:Nat)(va vb al lg:AVal)(K0:AExit→Facts→AHeap→Prop)(vc:bif Nat.ble B (AHeap.next H) && true then some (AVal.bool (decide ((↑k:Int)<(↑m:Int))))=some (AVal.bool false)∧K0 (AExit.exit 10) [(0,va),(1,vb),(5,al),(8,lg),(11,AVal.int IntKind.i64 (↑i:Int)),(73,AVal.int IntKind.i64 (↑N:Int)),(74,AVal.int IntKind.i64 (↑i:Int)),(81,AVal.int IntKind.i64 (↑m:Int)),(82,AVal.int IntKind.i64 (↑k:Int))] (AHeap.mk (AHeap.next H+1) (AHeap.blks H))else False) :
    ∃ e F1 h1,Runs Tryz.prog cnd B 209 (loopAt Tryz.prog 17 5) [(0,va),(1,vb),(5,al),(8,lg),(11,.int .i64 i),(73,.int .i64 N),(74,.int .i64 i),(81,.int .i64 m),(82,.int .i64 k)] H e F1 h1∧K0 e F1 h1 :=
  tpath_runs env_ok mixed noSpecs_ok (hs:= .hint (.val 28000 (AVal.bool false)) .nil) (keep:= [0,1,5,8,11,73,74,81,82]) (by kernel_rfl) vc
theorem ap6_vp(H H1:AHeap)(B N i:Nat)(va vb ov tv:AVal)(a:AAddr)(K0:AExit→Facts→AHeap→Prop)(vc:bif Nat.ble B (AHeap.next H) && true then some (AVal.bool (decide ((↑i:Int)<(↑N:Int))))=some (AVal.bool true)∧bif Nat.ble B (AHeap.next H+1) && true then bif Nat.ble B (AHeap.next H+3) && true then aindexAddr (AEnv.D env) 22 va (AVal.int IntKind.i64 (↑i:Int))=some (AVal.ptr (some a))∧aop env noCall (AHeap.next H+7) (getF [(128,AVal.ptr (some a)),(127,ov),(126,AVal.int IntKind.i64 (↑i:Int)),(125,va),(15,AVal.int IntKind.i64 (↑i:Int)),(124,AVal.int IntKind.i64 (↑i:Int)),(123,AVal.bool true),(0,va),(1,vb),(13,ov),(14,tv),(121,AVal.int IntKind.i64 (↑N:Int)),(122,AVal.int IntKind.i64 (↑i:Int))]) (AHeap.mk (AHeap.next H+8) (H.2)) (Op.store 36 (Operand.tmp 128) (Operand.tmp 127))=some (AVal.tuple [],H1)∧bif Nat.ble B (AHeap.next H1) && true then(-9223372036854775808≤(↑i:Int)+1∧(↑i:Int)+1≤9223372036854775807)∧K0 AExit.normal [(0,va),(1,vb),(13,ov),(14,tv),(121,AVal.int IntKind.i64 (↑N:Int)),(122,AVal.int IntKind.i64 ((↑i:Int)+1))] (AHeap.mk (AHeap.next H1+2) (AHeap.blks H1))else False else False else False else False) :
    ∃ e F1 h1,Runs Tryz.prog cnd B 209 (loopAt Tryz.prog 17 6) [(0,va),(1,vb),(13,ov),(14,tv),(121,.int .i64 N),(122,.int .i64 i)] H e F1 h1∧K0 e F1 h1 :=
  tpath_runs env_ok mixed noSpecs_ok (hs:= .hint (.val 36000 (AVal.bool true)) (.hint (.val 38003 (AVal.ptr (some a))) (.hint (.act 38004 (AVal.tuple []) fun x=>H1) (.hint (.go 39000) .nil)))) (keep:= [0,1,13,14,121,122]) (by kernel_rfl) vc
theorem ap6E_vp(H:AHeap)(B N i:Nat)(va vb ov tv:AVal)(K0:AExit→Facts→AHeap→Prop)(vc:bif Nat.ble B (AHeap.next H) && true then some (AVal.bool (decide ((↑i:Int)<(↑N:Int))))=some (AVal.bool false)∧K0 (AExit.exit 12) [(0,va),(1,vb),(13,ov),(14,tv),(121,AVal.int IntKind.i64 (↑N:Int)),(122,AVal.int IntKind.i64 (↑i:Int))] (AHeap.mk (AHeap.next H+1) (AHeap.blks H))else False) :
    ∃ e F1 h1,Runs Tryz.prog cnd B 209 (loopAt Tryz.prog 17 6) [(0,va),(1,vb),(13,ov),(14,tv),(121,.int .i64 N),(122,.int .i64 i)] H e F1 h1∧K0 e F1 h1 :=
  tpath_runs env_ok mixed noSpecs_ok (hs:= .hint (.val 36000 (AVal.bool false)) .nil) (keep:= [0,1,13,14,121,122]) (by kernel_rfl) vc
theorem ap7_vp(H H1:AHeap)(B N i:Nat)(va vb ov tv:AVal)(a:AAddr)(K0:AExit→Facts→AHeap→Prop)(vc:bif Nat.ble B (AHeap.next H) && true then some (AVal.bool (decide ((↑i:Int)<(↑N:Int))))=some (AVal.bool true)∧bif Nat.ble B (AHeap.next H+1) && true then bif Nat.ble B (AHeap.next H+3) && true then aindexAddr (AEnv.D env) 22 vb (AVal.int IntKind.i64 (↑i:Int))=some (AVal.ptr (some a))∧aop env noCall (AHeap.next H+7) (getF [(138,AVal.ptr (some a)),(137,tv),(136,AVal.int IntKind.i64 (↑i:Int)),(135,vb),(16,AVal.int IntKind.i64 (↑i:Int)),(134,AVal.int IntKind.i64 (↑i:Int)),(133,AVal.bool true),(0,va),(1,vb),(13,ov),(14,tv),(131,AVal.int IntKind.i64 (↑N:Int)),(132,AVal.int IntKind.i64 (↑i:Int))]) (AHeap.mk (AHeap.next H+8) (H.2)) (Op.store 36 (Operand.tmp 138) (Operand.tmp 137))=some (AVal.tuple [],H1)∧bif Nat.ble B (AHeap.next H1) && true then(-9223372036854775808≤(↑i:Int)+1∧(↑i:Int)+1≤9223372036854775807)∧K0 AExit.normal [(0,va),(1,vb),(13,ov),(14,tv),(131,AVal.int IntKind.i64 (↑N:Int)),(132,AVal.int IntKind.i64 ((↑i:Int)+1))] (AHeap.mk (AHeap.next H1+2) (AHeap.blks H1))else False else False else False else False) :
    ∃ e F1 h1,Runs Tryz.prog cnd B 209 (loopAt Tryz.prog 17 7) [(0,va),(1,vb),(13,ov),(14,tv),(131,.int .i64 N),(132,.int .i64 i)] H e F1 h1∧K0 e F1 h1 :=
  tpath_runs env_ok mixed noSpecs_ok (hs:= .hint (.val 41000 (AVal.bool true)) (.hint (.val 43003 (AVal.ptr (some a))) (.hint (.act 43004 (AVal.tuple []) fun x=>H1) (.hint (.go 44000) .nil)))) (keep:= [0,1,13,14,131,132]) (by kernel_rfl) vc
theorem ap7E_vp(H:AHeap)(B N i:Nat)(va vb ov tv:AVal)(K0:AExit→Facts→AHeap→Prop)(vc:bif Nat.ble B (AHeap.next H) && true then some (AVal.bool (decide ((↑i:Int)<(↑N:Int))))=some (AVal.bool false)∧K0 (AExit.exit 14) [(0,va),(1,vb),(13,ov),(14,tv),(131,AVal.int IntKind.i64 (↑N:Int)),(132,AVal.int IntKind.i64 (↑i:Int))] (AHeap.mk (AHeap.next H+1) (AHeap.blks H))else False) :
    ∃ e F1 h1,Runs Tryz.prog cnd B 209 (loopAt Tryz.prog 17 7) [(0,va),(1,vb),(13,ov),(14,tv),(131,.int .i64 N),(132,.int .i64 i)] H e F1 h1∧K0 e F1 h1 :=
  tpath_runs env_ok mixed noSpecs_ok (hs:= .hint (.val 41000 (AVal.bool false)) .nil) (keep:= [0,1,13,14,131,132]) (by kernel_rfl) vc
theorem ap8_vp(H H1 H2 H3 H4:AHeap)(B j p q:Nat)(va vb ov tv x y x2 y2:AVal)(K0:AExit→Facts→AHeap→Prop)(vc:bif Nat.ble B (AHeap.next H) && true then some (AVal.bool (decide ((↑j:Int)<20)))=some (AVal.bool true)∧bif Nat.ble B (AHeap.next H+1) && true then aop env noCall (AHeap.next H+3) (getF [(145,ov),(144,x),(143,AVal.bool true),(0,va),(1,vb),(13,ov),(14,tv),(17,x),(18,y),(142,AVal.int IntKind.i64 (↑j:Int))]) (AHeap.mk (AHeap.next H+6) (H.2)) (Op.buildSlice 22 1 {toList:= [(0,Operand.tmp 145)]})=some (AVal.slice (some ⟨p,0,0,0,1⟩) 1 1,H1)∧abuiltin env Builtin.append {toList:= [22,22]} [x,AVal.slice (some ⟨p,0,0,0,1⟩) 1 1] (AHeap.next H+4) H1=some (x2,H2)∧bif Nat.ble B (AHeap.next H2) && true then aop env noCall (AHeap.next H2+2) (getF [(149,tv),(148,y),(17,x2),(147,x2),(146,AVal.slice (some ⟨p,0,0,0,1⟩) 1 1),(145,ov),(144,x),(143,AVal.bool true),(0,va),(1,vb),(13,ov),(14,tv),(18,y),(142,AVal.int IntKind.i64 (↑j:Int))]) (AHeap.mk (AHeap.next H2+5) (H2.2)) (Op.buildSlice 22 1 {toList:= [(0,Operand.tmp 149)]})=some (AVal.slice (some ⟨q,0,0,0,1⟩) 1 1,H3)∧abuiltin env Builtin.append {toList:= [22,22]} [y,AVal.slice (some ⟨q,0,0,0,1⟩) 1 1] (AHeap.next H2+3) H3=some (y2,H4)∧bif Nat.ble B (AHeap.next H4) && true then(-9223372036854775808≤(↑j:Int)+1∧(↑j:Int)+1≤9223372036854775807)∧K0 AExit.normal [(0,va),(1,vb),(13,ov),(14,tv),(17,x2),(18,y2),(142,AVal.int IntKind.i64 ((↑j:Int)+1))] (AHeap.mk (AHeap.next H4+2) (AHeap.blks H4))else False else False else False else False) :
    ∃ e F1 h1,Runs Tryz.prog cnd B 209 (loopAt Tryz.prog 17 8) [(0,va),(1,vb),(13,ov),(14,tv),(17,x),(18,y),(142,.int .i64 j)] H e F1 h1∧K0 e F1 h1 :=
  tpath_runs env_ok mixed noSpecs_ok (hs:= .hint (.val 47000 (AVal.bool true)) (.hint (.act 48002 (AVal.slice (some ⟨p,0,0,0,1⟩) 1 1) fun x=>H1) (.hint (.act 48003 x2 fun x=>H2) (.hint (.act 49002 (AVal.slice (some ⟨q,0,0,0,1⟩) 1 1) fun x=>H3) (.hint (.act 49003 y2 fun x=>H4) (.hint (.go 50000) .nil)))))) (keep:= [0,1,13,14,17,18,142]) (by kernel_rfl) vc
theorem ap8E_vp(H:AHeap)(B j:Nat)(va vb ov tv x y:AVal)(K0:AExit→Facts→AHeap→Prop)(vc:bif Nat.ble B (AHeap.next H) && true then some (AVal.bool (decide ((↑j:Int)<20)))=some (AVal.bool false)∧K0 (AExit.exit 16) [(0,va),(1,vb),(13,ov),(14,tv),(17,x),(18,y),(142,AVal.int IntKind.i64 (↑j:Int))] (AHeap.mk (AHeap.next H+1) (AHeap.blks H))else False) :
    ∃ e F1 h1,Runs Tryz.prog cnd B 209 (loopAt Tryz.prog 17 8) [(0,va),(1,vb),(13,ov),(14,tv),(17,x),(18,y),(142,.int .i64 j)] H e F1 h1∧K0 e F1 h1 :=
  tpath_runs env_ok mixed noSpecs_ok (hs:= .hint (.val 47000 (AVal.bool false)) .nil) (keep:= [0,1,13,14,17,18,142]) (by kernel_rfl) vc
theorem ap9A_vp(H:AHeap)(B m i na ac:Nat)(ao:Option AAddr)(vb x y ov:AVal)(a b c:AAddr)(K0:AExit→Facts→AHeap→Prop)(vc:bif Nat.ble B (AHeap.next H) && true then some (AVal.bool (decide ((↑i:Int)<(↑m:Int))))=some (AVal.bool true)∧bif Nat.ble B (AHeap.next H+1) && true then bif Nat.ble B (AHeap.next H+3) && true then aindexAddr (AEnv.D env) 22 x (AVal.int IntKind.i64 (↑i:Int))=some (AVal.ptr (some a))∧aload (AEnv.D env) 36 a (AHeap.mk (AHeap.next H+25) (H.2))=some ov∧aindexAddr (AEnv.D env) 36 ov (AVal.int IntKind.i64 (0))=some (AVal.ptr (some b))∧aload (AEnv.D env) 9 b (AHeap.mk (AHeap.next H+25) (H.2))=some (AVal.str [(111:UInt8),(110:UInt8),(101:UInt8)])∧some (AVal.bool (decide ((↑i:Int)<(↑na:Int))))=some (AVal.bool true)∧aindexAddr (AEnv.D env) 22 (AVal.slice ao na ac) (AVal.int IntKind.i64 (↑i:Int))=some (AVal.ptr (some c))∧aload (AEnv.D env) 36 c (AHeap.mk (AHeap.next H+25) (H.2))=some ov∧aindexAddr (AEnv.D env) 36 ov (AVal.int IntKind.i64 (0))=some (AVal.ptr (some b))∧aload (AEnv.D env) 9 b (AHeap.mk (AHeap.next H+25) (H.2))=some (AVal.str [(111:UInt8),(110:UInt8),(101:UInt8)])∧bif Nat.ble B (AHeap.next H+25) && true then(-9223372036854775808≤(↑i:Int)+1∧(↑i:Int)+1≤9223372036854775807)∧K0 AExit.normal [(0,AVal.slice ao na ac),(1,vb),(17,x),(18,y),(154,AVal.int IntKind.i64 (↑m:Int)),(155,AVal.int IntKind.i64 ((↑i:Int)+1))] (AHeap.mk (AHeap.next H+25+2) (AHeap.blks (AHeap.mk (AHeap.next H+3+22) (AHeap.blks (AHeap.mk (AHeap.next H+1+2) (AHeap.blks (AHeap.mk (AHeap.next H+1) (AHeap.blks H))))))))else False else False else False else False) :
    ∃ e F1 h1,Runs Tryz.prog cnd B 209 (loopAt Tryz.prog 17 9) [(0,.slice ao na ac),(1,vb),(17,x),(18,y),(154,.int .i64 m),(155,.int .i64 i)] H e F1 h1∧K0 e F1 h1 :=
  tpath_runs env_ok mixed noSpecs_ok (hs:= .hint (.val 52000 (AVal.bool true)) (.hint (.val 54002 (AVal.ptr (some a))) (.hint (.val 54003 ov) (.hint (.val 54004 (AVal.ptr (some b))) (.hint (.val 54005 (AVal.str [111,110,101])) (.hint (.val 54011 (AVal.bool true)) (.hint (.val 54015 (AVal.ptr (some c))) (.hint (.val 54016 ov) (.hint (.val 54017 (AVal.ptr (some b))) (.hint (.val 54018 (AVal.str [111,110,101])) (.hint (.go 56000) .nil))))))))))) (keep:= [0,1,17,18,154,155]) (by kernel_rfl) vc
theorem ap9B_vp(H:AHeap)(B m i na ac:Nat)(ao:Option AAddr)(vb x y ov:AVal)(a b:AAddr)(K0:AExit→Facts→AHeap→Prop)(vc:bif Nat.ble B (AHeap.next H) && true then some (AVal.bool (decide ((↑i:Int)<(↑m:Int))))=some (AVal.bool true)∧bif Nat.ble B (AHeap.next H+1) && true then bif Nat.ble B (AHeap.next H+3) && true then aindexAddr (AEnv.D env) 22 x (AVal.int IntKind.i64 (↑i:Int))=some (AVal.ptr (some a))∧aload (AEnv.D env) 36 a (AHeap.mk (AHeap.next H+25) (H.2))=some ov∧aindexAddr (AEnv.D env) 36 ov (AVal.int IntKind.i64 (0))=some (AVal.ptr (some b))∧aload (AEnv.D env) 9 b (AHeap.mk (AHeap.next H+25) (H.2))=some (AVal.str [(111:UInt8),(110:UInt8),(101:UInt8)])∧some (AVal.bool (decide ((↑i:Int)<(↑na:Int))))=some (AVal.bool false)∧bif Nat.ble B (AHeap.next H+25) && true then(-9223372036854775808≤(↑i:Int)+1∧(↑i:Int)+1≤9223372036854775807)∧K0 AExit.normal [(0,AVal.slice ao na ac),(1,vb),(17,x),(18,y),(154,AVal.int IntKind.i64 (↑m:Int)),(155,AVal.int IntKind.i64 ((↑i:Int)+1))] (AHeap.mk (AHeap.next H+25+2) (AHeap.blks (AHeap.mk (AHeap.next H+3+22) (AHeap.blks (AHeap.mk (AHeap.next H+1+2) (AHeap.blks (AHeap.mk (AHeap.next H+1) (AHeap.blks H))))))))else False else False else False else False) :
    ∃ e F1 h1,Runs Tryz.prog cnd B 209 (loopAt Tryz.prog 17 9) [(0,.slice ao na ac),(1,vb),(17,x),(18,y),(154,.int .i64 m),(155,.int .i64 i)] H e F1 h1∧K0 e F1 h1 :=
  tpath_runs env_ok mixed noSpecs_ok (hs:= .hint (.val 52000 (AVal.bool true)) (.hint (.val 54002 (AVal.ptr (some a))) (.hint (.val 54003 ov) (.hint (.val 54004 (AVal.ptr (some b))) (.hint (.val 54005 (AVal.str [111,110,101])) (.hint (.val 54011 (AVal.bool false)) (.hint (.go 56000) .nil))))))) (keep:= [0,1,17,18,154,155]) (by kernel_rfl) vc
theorem ap9E_vp(H:AHeap)(B m i:Nat)(va vb x y:AVal)(K0:AExit→Facts→AHeap→Prop)(vc:bif Nat.ble B (AHeap.next H) && true then some (AVal.bool (decide ((↑i:Int)<(↑m:Int))))=some (AVal.bool false)∧K0 (AExit.exit 18) [(0,va),(1,vb),(17,x),(18,y),(154,AVal.int IntKind.i64 (↑m:Int)),(155,AVal.int IntKind.i64 (↑i:Int))] (AHeap.mk (AHeap.next H+1) (AHeap.blks H))else False) :
    ∃ e F1 h1,Runs Tryz.prog cnd B 209 (loopAt Tryz.prog 17 9) [(0,va),(1,vb),(17,x),(18,y),(154,.int .i64 m),(155,.int .i64 i)] H e F1 h1∧K0 e F1 h1 :=
  tpath_runs env_ok mixed noSpecs_ok (hs:= .hint (.val 52000 (AVal.bool false)) .nil) (keep:= [0,1,17,18,154,155]) (by kernel_rfl) vc
theorem ap10A_vp(H:AHeap)(B m i na ac:Nat)(ao:Option AAddr)(y ov:AVal)(a b c:AAddr)(K0:AExit→Facts→AHeap→Prop)(vc:bif Nat.ble B (AHeap.next H) && true then some (AVal.bool (decide ((↑i:Int)<(↑m:Int))))=some (AVal.bool true)∧bif Nat.ble B (AHeap.next H+1) && true then bif Nat.ble B (AHeap.next H+3) && true then aindexAddr (AEnv.D env) 22 y (AVal.int IntKind.i64 (↑i:Int))=some (AVal.ptr (some a))∧aload (AEnv.D env) 36 a (AHeap.mk (AHeap.next H+25) (H.2))=some ov∧aindexAddr (AEnv.D env) 36 ov (AVal.int IntKind.i64 (0))=some (AVal.ptr (some b))∧aload (AEnv.D env) 9 b (AHeap.mk (AHeap.next H+25) (H.2))=some (AVal.str [(116:UInt8),(119:UInt8),(111:UInt8)])∧some (AVal.bool (decide ((↑i:Int)<(↑na:Int))))=some (AVal.bool true)∧aindexAddr (AEnv.D env) 22 (AVal.slice ao na ac) (AVal.int IntKind.i64 (↑i:Int))=some (AVal.ptr (some c))∧aload (AEnv.D env) 36 c (AHeap.mk (AHeap.next H+25) (H.2))=some ov∧aindexAddr (AEnv.D env) 36 ov (AVal.int IntKind.i64 (0))=some (AVal.ptr (some b))∧aload (AEnv.D env) 9 b (AHeap.mk (AHeap.next H+25) (H.2))=some (AVal.str [(116:UInt8),(119:UInt8),(111:UInt8)])∧bif Nat.ble B (AHeap.next H+25) && true then(-9223372036854775808≤(↑i:Int)+1∧(↑i:Int)+1≤9223372036854775807)∧K0 AExit.normal [(1,AVal.slice ao na ac),(18,y),(182,AVal.int IntKind.i64 (↑m:Int)),(183,AVal.int IntKind.i64 ((↑i:Int)+1))] (AHeap.mk (AHeap.next H+25+2) (AHeap.blks (AHeap.mk (AHeap.next H+3+22) (AHeap.blks (AHeap.mk (AHeap.next H+1+2) (AHeap.blks (AHeap.mk (AHeap.next H+1) (AHeap.blks H))))))))else False else False else False else False) :
    ∃ e F1 h1,Runs Tryz.prog cnd B 209 (loopAt Tryz.prog 17 10) [(1,.slice ao na ac),(18,y),(182,.int .i64 m),(183,.int .i64 i)] H e F1 h1∧K0 e F1 h1 :=
  tpath_runs env_ok mixed noSpecs_ok (hs:= .hint (.val 58000 (AVal.bool true)) (.hint (.val 60002 (AVal.ptr (some a))) (.hint (.val 60003 ov) (.hint (.val 60004 (AVal.ptr (some b))) (.hint (.val 60005 (AVal.str [116,119,111])) (.hint (.val 60011 (AVal.bool true)) (.hint (.val 60015 (AVal.ptr (some c))) (.hint (.val 60016 ov) (.hint (.val 60017 (AVal.ptr (some b))) (.hint (.val 60018 (AVal.str [116,119,111])) (.hint (.go 62000) .nil))))))))))) (keep:= [1,18,182,183]) (by kernel_rfl) vc
theorem ap10B_vp(H:AHeap)(B m i na ac:Nat)(ao:Option AAddr)(y ov:AVal)(a b:AAddr)(K0:AExit→Facts→AHeap→Prop)(vc:bif Nat.ble B (AHeap.next H) && true then some (AVal.bool (decide ((↑i:Int)<(↑m:Int))))=some (AVal.bool true)∧bif Nat.ble B (AHeap.next H+1) && true then bif Nat.ble B (AHeap.next H+3) && true then aindexAddr (AEnv.D env) 22 y (AVal.int IntKind.i64 (↑i:Int))=some (AVal.ptr (some a))∧aload (AEnv.D env) 36 a (AHeap.mk (AHeap.next H+25) (H.2))=some ov∧aindexAddr (AEnv.D env) 36 ov (AVal.int IntKind.i64 (0))=some (AVal.ptr (some b))∧aload (AEnv.D env) 9 b (AHeap.mk (AHeap.next H+25) (H.2))=some (AVal.str [(116:UInt8),(119:UInt8),(111:UInt8)])∧some (AVal.bool (decide ((↑i:Int)<(↑na:Int))))=some (AVal.bool false)∧bif Nat.ble B (AHeap.next H+25) && true then(-9223372036854775808≤(↑i:Int)+1∧(↑i:Int)+1≤9223372036854775807)∧K0 AExit.normal [(1,AVal.slice ao na ac),(18,y),(182,AVal.int IntKind.i64 (↑m:Int)),(183,AVal.int IntKind.i64 ((↑i:Int)+1))] (AHeap.mk (AHeap.next H+25+2) (AHeap.blks (AHeap.mk (AHeap.next H+3+22) (AHeap.blks (AHeap.mk (AHeap.next H+1+2) (AHeap.blks (AHeap.mk (AHeap.next H+1) (AHeap.blks H))))))))else False else False else False else False) :
    ∃ e F1 h1,Runs Tryz.prog cnd B 209 (loopAt Tryz.prog 17 10) [(1,.slice ao na ac),(18,y),(182,.int .i64 m),(183,.int .i64 i)] H e F1 h1∧K0 e F1 h1 :=
  tpath_runs env_ok mixed noSpecs_ok (hs:= .hint (.val 58000 (AVal.bool true)) (.hint (.val 60002 (AVal.ptr (some a))) (.hint (.val 60003 ov) (.hint (.val 60004 (AVal.ptr (some b))) (.hint (.val 60005 (AVal.str [116,119,111])) (.hint (.val 60011 (AVal.bool false)) (.hint (.go 62000) .nil))))))) (keep:= [1,18,182,183]) (by kernel_rfl) vc
theorem ap10E_vp(H:AHeap)(B m i:Nat)(vb y:AVal)(K0:AExit→Facts→AHeap→Prop)(vc:bif Nat.ble B (AHeap.next H) && true then some (AVal.bool (decide ((↑i:Int)<(↑m:Int))))=some (AVal.bool false)∧K0 (AExit.exit 20) [(1,vb),(18,y),(182,AVal.int IntKind.i64 (↑m:Int)),(183,AVal.int IntKind.i64 (↑i:Int))] (AHeap.mk (AHeap.next H+1) (AHeap.blks H))else False) :
    ∃ e F1 h1,Runs Tryz.prog cnd B 209 (loopAt Tryz.prog 17 10) [(1,vb),(18,y),(182,.int .i64 m),(183,.int .i64 i)] H e F1 h1∧K0 e F1 h1 :=
  tpath_runs env_ok mixed noSpecs_ok (hs:= .hint (.val 58000 (AVal.bool false)) .nil) (keep:= [1,18,182,183]) (by kernel_rfl) vc
theorem apart_vc(H H1 H2 H3 H4 H5 H6 H7 H8 H9 H10 H11 H12 H13:AHeap)(lo:Option AAddr)(N lc na ac nb bc nx xc ny yc p q:Nat)(ao bo xo yo:Option AAddr)(l1 lg:AVal)(K0:AVal→AHeap→Prop)(vc:bif Nat.ble (AHeap.next H) (AHeap.next H) && true then bif Nat.ble (AHeap.next H) (AHeap.next H+1) && true then bif Nat.ble (AHeap.next H) (AHeap.next H+2) && true then abuiltin env Builtin.append {toList:= [22,22]} [AVal.slice none 0 0,AVal.slice ao na ac] (AHeap.next H+4) (AHeap.mk (AHeap.next H+6) (H.2))=some (l1,H1)∧bif Nat.ble (AHeap.next H) (AHeap.next H1) && true then abuiltin env Builtin.append {toList:= [22,22]} [l1,AVal.slice bo nb bc] (AHeap.next H1+2) (AHeap.mk (AHeap.next H1+4) (H1.2))=some (AVal.slice lo N lc,H2)∧bif Nat.ble (AHeap.next H) (AHeap.next H2) && true then Runs Tryz.prog cnd (AHeap.next H) 209 (Code.loop (loopAt Tryz.prog 17 0)) [(0,AVal.slice ao na ac),(1,AVal.slice bo nb bc),(5,AVal.slice lo N lc),(28,AVal.int IntKind.i64 (↑N:Int)),(29,AVal.int IntKind.i64 (0))] (AHeap.mk (AHeap.next H2+3) (AHeap.blks H2)) (AExit.exit 0) [(0,AVal.slice ao na ac),(1,AVal.slice bo nb bc),(5,AVal.slice lo N lc)] H3∧bif Nat.ble (AHeap.next H) (AHeap.next H3) && true then bif Nat.ble (AHeap.next H) (AHeap.next H3+1) && true then Runs Tryz.prog cnd (AHeap.next H) 209 (Code.loop (loopAt Tryz.prog 17 2)) [(0,AVal.slice ao na ac),(1,AVal.slice bo nb bc),(5,AVal.slice lo N lc),(8,AVal.slice none 0 0),(51,AVal.int IntKind.i64 (↑N:Int)),(52,AVal.int IntKind.i64 (0))] (AHeap.mk (AHeap.next H3+1+3) (AHeap.blks (AHeap.mk (AHeap.next H3+1) (AHeap.blks H3)))) (AExit.exit 4) [(0,AVal.slice ao na ac),(1,AVal.slice bo nb bc),(5,AVal.slice lo N lc),(8,lg)] H4∧bif Nat.ble (AHeap.next H) (AHeap.next H4) && true then Runs Tryz.prog cnd (AHeap.next H) 209 (Code.loop (loopAt Tryz.prog 17 4)) [(0,AVal.slice ao na ac),(1,AVal.slice bo nb bc),(5,AVal.slice lo N lc),(8,lg),(73,AVal.int IntKind.i64 (↑N:Int)),(74,AVal.int IntKind.i64 (0))] (AHeap.mk (AHeap.next H4+3) (AHeap.blks H4)) (AExit.exit 8) [(0,AVal.slice ao na ac),(1,AVal.slice bo nb bc)] H5∧bif Nat.ble (AHeap.next H) (AHeap.next H5) && true then aop env noCall (AHeap.next H5+0) (getF [(0,AVal.slice ao na ac),(1,AVal.slice bo nb bc)]) (AHeap.mk (AHeap.next H5+4) (H5.2)) (Op.buildSlice 36 1 {toList:= [(0,Operand.const (Value.string {data:= {toList:= [(111:UInt8),(110:UInt8),(101:UInt8)]}}))]})=some (AVal.slice (some ⟨p,0,0,0,1⟩) 1 1,H6)∧aop env noCall (AHeap.next H5+1) (getF [(118,AVal.slice (some ⟨p,0,0,0,1⟩) 1 1),(0,AVal.slice ao na ac),(1,AVal.slice bo nb bc)]) H6 (Op.buildSlice 36 1 {toList:= [(0,Operand.const (Value.string {data:= {toList:= [(116:UInt8),(119:UInt8),(111:UInt8)]}}))]})=some (AVal.slice (some ⟨q,0,0,0,1⟩) 1 1,H7)∧bif Nat.ble (AHeap.next H) (AHeap.next H7) && true then Runs Tryz.prog cnd (AHeap.next H) 209 (Code.loop (loopAt Tryz.prog 17 6)) [(0,AVal.slice ao na ac),(1,AVal.slice bo nb bc),(13,AVal.slice (some ⟨p,0,0,0,1⟩) 1 1),(14,AVal.slice (some ⟨q,0,0,0,1⟩) 1 1),(121,AVal.int IntKind.i64 (↑na:Int)),(122,AVal.int IntKind.i64 (0))] (AHeap.mk (AHeap.next H7+3) (AHeap.blks H7)) (AExit.exit 12) [(0,AVal.slice ao na ac),(1,AVal.slice bo nb bc),(13,AVal.slice (some ⟨p,0,0,0,1⟩) 1 1),(14,AVal.slice (some ⟨q,0,0,0,1⟩) 1 1)] H8∧bif Nat.ble (AHeap.next H) (AHeap.next H8) && true then Runs Tryz.prog cnd (AHeap.next H) 209 (Code.loop (loopAt Tryz.prog 17 7)) [(0,AVal.slice ao na ac),(1,AVal.slice bo nb bc),(13,AVal.slice (some ⟨p,0,0,0,1⟩) 1 1),(14,AVal.slice (some ⟨q,0,0,0,1⟩) 1 1),(131,AVal.int IntKind.i64 (↑nb:Int)),(132,AVal.int IntKind.i64 (0))] (AHeap.mk (AHeap.next H8+3) (AHeap.blks H8)) (AExit.exit 14) [(0,AVal.slice ao na ac),(1,AVal.slice bo nb bc),(13,AVal.slice (some ⟨p,0,0,0,1⟩) 1 1),(14,AVal.slice (some ⟨q,0,0,0,1⟩) 1 1)] H9∧bif Nat.ble (AHeap.next H) (AHeap.next H9) && true then bif Nat.ble (AHeap.next H) (AHeap.next H9+4) && true then Runs Tryz.prog cnd (AHeap.next H) 209 (Code.loop (loopAt Tryz.prog 17 8)) [(0,AVal.slice ao na ac),(1,AVal.slice bo nb bc),(13,AVal.slice (some ⟨p,0,0,0,1⟩) 1 1),(14,AVal.slice (some ⟨q,0,0,0,1⟩) 1 1),(17,AVal.slice ao na ac),(18,AVal.slice bo nb bc),(142,AVal.int IntKind.i64 (0))] (AHeap.mk (AHeap.next H9+4+1) (AHeap.blks (AHeap.mk (AHeap.next H9+4) (AHeap.blks H9)))) (AExit.exit 16) [(0,AVal.slice ao na ac),(1,AVal.slice bo nb bc),(17,AVal.slice xo nx xc),(18,AVal.slice yo ny yc)] H10∧bif Nat.ble (AHeap.next H) (AHeap.next H10) && true then Runs Tryz.prog cnd (AHeap.next H) 209 (Code.loop (loopAt Tryz.prog 17 9)) [(0,AVal.slice ao na ac),(1,AVal.slice bo nb bc),(17,AVal.slice xo nx xc),(18,AVal.slice yo ny yc),(154,AVal.int IntKind.i64 (↑nx:Int)),(155,AVal.int IntKind.i64 (0))] (AHeap.mk (AHeap.next H10+3) (AHeap.blks H10)) (AExit.exit 18) [(1,AVal.slice bo nb bc),(18,AVal.slice yo ny yc)] H11∧bif Nat.ble (AHeap.next H) (AHeap.next H11) && true then Runs Tryz.prog cnd (AHeap.next H) 209 (Code.loop (loopAt Tryz.prog 17 10)) [(1,AVal.slice bo nb bc),(18,AVal.slice yo ny yc),(182,AVal.int IntKind.i64 (↑ny:Int)),(183,AVal.int IntKind.i64 (0))] (AHeap.mk (AHeap.next H11+3) (AHeap.blks H11)) (AExit.exit 20) [(1,AVal.slice bo nb bc)] H12∧bif Nat.ble (AHeap.next H) (AHeap.next H12) && true then bif Nat.ble (AHeap.next H) (AHeap.next H12+1)then K0 (AVal.bool true) (AHeap.mk (AHeap.next H12+1) (AHeap.blks H12))else False else False else False else False else False else False else False else False else False else False else False else False else False else False else False else False else False) :
    ∃ v h1,FDoes Tryz.prog cnd 17 [.slice ao na ac,.slice bo nb bc] H v h1∧K0 v h1 :=
  tcall_does env_ok mixed noSpecs_ok (hs:= .hint (.act 2002 l1 fun x=>H1) (.hint (.act 3002 (AVal.slice lo N lc) fun x=>H2) (.hint (.keep [0,1,5,28,29]) (.hint (.loop [(0,AVal.slice ao na ac),(1,AVal.slice bo nb bc),(5,AVal.slice lo N lc)] H3 (AExit.exit 0)) (.hint (.keep [0,1,5,8,51,52]) (.hint (.loop [(0,AVal.slice ao na ac),(1,AVal.slice bo nb bc),(5,AVal.slice lo N lc),(8,lg)] H4 (AExit.exit 4)) (.hint (.keep [0,1,5,8,73,74]) (.hint (.loop [(0,AVal.slice ao na ac),(1,AVal.slice bo nb bc)] H5 (AExit.exit 8)) (.hint (.act 34000 (AVal.slice (some ⟨p,0,0,0,1⟩) 1 1) fun x=>H6) (.hint (.act 34001 (AVal.slice (some ⟨q,0,0,0,1⟩) 1 1) fun x=>H7) (.hint (.keep [0,1,13,14,121,122]) (.hint (.loop [(0,AVal.slice ao na ac),(1,AVal.slice bo nb bc),(13,AVal.slice (some ⟨p,0,0,0,1⟩) 1 1),(14,AVal.slice (some ⟨q,0,0,0,1⟩) 1 1)] H8 (AExit.exit 12)) (.hint (.keep [0,1,13,14,131,132]) (.hint (.loop [(0,AVal.slice ao na ac),(1,AVal.slice bo nb bc),(13,AVal.slice (some ⟨p,0,0,0,1⟩) 1 1),(14,AVal.slice (some ⟨q,0,0,0,1⟩) 1 1)] H9 (AExit.exit 14)) (.hint (.keep [0,1,13,14,17,18,142]) (.hint (.loop [(0,AVal.slice ao na ac),(1,AVal.slice bo nb bc),(17,AVal.slice xo nx xc),(18,AVal.slice yo ny yc)] H10 (AExit.exit 16)) (.hint (.keep [0,1,17,18,154,155]) (.hint (.loop [(1,AVal.slice bo nb bc),(18,AVal.slice yo ny yc)] H11 (AExit.exit 18)) (.hint (.keep [1,18,182,183]) (.hint (.loop [(1,AVal.slice bo nb bc)] H12 (AExit.exit 20)) .nil)))))))))))))))))))) (by kernel_rfl) vc
end Go.Proofs.YtjpfnbihopoeeaaGreatDoor
namespace Go.Proofs.YtjpfnbihopoeeaaGreatDoor
open Go.Lift
set_option maxRecDepth 1000000
end Go.Proofs.YtjpfnbihopoeeaaGreatDoor
namespace Go.Proofs.YtjpfnbihopoeeaaGreatDoor
open Go.Lift
set_option maxRecDepth 1000000
theorem aop_storeG {t:TypeId}{F:Facts}{H H1:AHeap}{a:AAddr}{v:AVal}{nid:Nat}{x y:Operand}(hf:getF F x= .ptr (some a))(hv:getF F y=v)(hs:astore (AEnv.D env) t a v H=some H1):aop env noCall nid (getF F) H (Op.store t x y)=some (.tuple [],H1):=by
  simp only [aop,hf,hv,hs,Option.map_some]
theorem fle {F G:Facts}(l:List Nat)(h:onlyF F l=G):Facts.le G F:=h▸Facts.only_le F l
noncomputable abbrev apC(k:Nat):Code:=loopAt Tryz.prog 17 k
theorem rep_set {x y:AVal}{rest:List AVal}{k:Nat} :(List.replicate k x++y::rest).set k x=List.replicate (k+1) x++rest:=by
  rw [List.set_append_right _ _ (by simp),List.length_replicate,Nat.sub_self,List.set_cons_zero,List.replicate_succ',List.append_assoc]
  rfl
theorem rep_get {x y:AVal}{rest:List AVal}{k:Nat}(h:k<(List.replicate k x++y::rest).length):(List.replicate k x++y::rest)[k]=y:=by
  rw [List.getElem_append_right (by simp)]
  simp
theorem ap1_loop {B N i n oal:Nat}{va vb al:AVal}{rs:List Rr}(hi:i<rs.length)(hn:n<2^40)(hi2:i<2^40)(hoq:oal≠rs[i].q): ∀ (rest:List AVal) (k:Nat) (H:AHeap),k+rest.length=n→B≤H.next→Rd H oal al (vsOf rs)→Rw H 9 rs[i].q rs[i].v (List.replicate k (.str (markS i))++rest)→(∀ x∈rest,Sv x)→(rest= []→Wr H rs[i].q rs[i].v) →
    ∃ H',Loops Tryz.prog cnd B 209 (apC 1) [(0,va),(1,vb),(5,al),(6,.int .i64 (i:Nat)),(28,.int .i64 (N:Nat)),(29,.int .i64 (i:Nat)),(36,.int .i64 (n:Nat)),(37,.int .i64 (k:Nat))] H (.exit 2) [(0,va),(1,vb),(5,al),(28,.int .i64 (N:Nat)),(29,.int .i64 (i:Nat))] H' ∧
      Rw H' 9 rs[i].q rs[i].v (List.replicate n (.str (markS i)))∧Wr H' rs[i].q rs[i].v∧Fr H H' [rs[i].q]:=by
  intro rest
  induction rest with
  | nil =>
    intro k H hk hB r1 w1 hs hw
    obtain rfl:k=n:=by simpa using hk
    obtain⟨e,F1,h1,hr,rfl,rfl,rfl⟩:=ap1E_vp H B N i k k va vb al (fun e F1 h1=>e= .exit 2∧F1= [(0,va),(1,vb),(5,al),(6,.int .i64 (i:Nat)),(28,.int .i64 (N:Nat)),(29,.int .i64 (i:Nat)),(36,.int .i64 (k:Nat)),(37,.int .i64 (k:Nat))]∧h1=up H 1) (bifL hB ⟨boolF (by omega),rfl,rfl,rfl⟩)
    have f:=Fr.up H 1 []
    exact⟨_,(Loops.last (by simp) hr).post (Ent.facts (fle [0,1,5,28,29] (by kernel_rfl))),by rw [List.append_nil]at w1;exact w1.fr f (by simp),(hw rfl).fr f (by simp),Fr.up H 1 _⟩
  | cons y rest ih =>
    intro k H hk hB r1 w1 hs hw
    simp only [List.length_cons]at hk
    obtain⟨a,a1,a2,a3⟩:=r1.at elR (i:=i) (by simpa using hi) (by rw [List.getElem_map];exact w1.rd.sv)
    rw [List.getElem_map]at a3
    obtain⟨b,H1,b1,b2,w2,wr2,f2,n2⟩:=w1.st elS (i:=k) (x:= .str (markS i)) (by simp) (by rw [rep_get];exact hs y (by simp)) rfl 12
    rw [rep_set]at w2
    obtain⟨e,F1,h1,hr,rfl,rfl,rfl⟩:=ap1_vp H H1 B N i n k va vb al rs[i].v a b (markS i) (fun e F1 h1=>e= .normal∧F1= [(0,va),(1,vb),(5,al),(6,.int .i64 (i:Nat)),(28,.int .i64 (N:Nat)),(29,.int .i64 (i:Nat)),(36,.int .i64 (n:Nat)),(37,.int .i64 ((k+1:Nat):Int))]∧h1=up H1 2)
      (bifL hB ⟨boolT (by omega),bifL (by omega) (bifL (by omega) ⟨a1,a3 _,by omega,⟨mark_does i _⟩,sameOld_refl _ _,b1,aop_storeG rfl rfl b2,bifL (by omega) ⟨⟨by omega,by omega⟩,rfl,by rw [succI],rfl⟩⟩)⟩)
    have f3:=Fr.up H1 2 []
    have f23:Fr H (up H1 2) [rs[i].q]:=f2.trans f3 (by simp)
    obtain⟨H',L,w',wr',f'⟩:=ih (k+1) (up H1 2) (by omega) (by show B≤H1.next+2;omega) (r1.fr f23 (by simpa using hoq)) (w2.fr f3 (by simp)) (fun x hx=>hs x (by simp [hx])) (fun _=>wr2.fr f3 (by simp))
    exact⟨H',Loops.round hr (Ent.refl _ _ _ _) L,w',wr',f23.trans f' (fun x hx _=>hx)⟩
theorem ap0_loop {B N oal:Nat} {va vb al:AVal} {rs:List Rr} (hN:N=rs.length) (hN2:N<2^40) (hl: ∀ r∈rs,r.l.length<2^40) (hoq:oal ∉ qsOf rs) (hd: ∀ i j (hi:i<rs.length) (hj:j<rs.length),i≠j→rs[i].q≠rs[j].q): ∀ (f i:Nat) (H:AHeap),i+f=N→B≤H.next→Rd H oal al (vsOf rs) →
    (∀ j (hj:j<rs.length),j<i→Rw H 9 rs[j].q rs[j].v (List.replicate rs[j].l.length (.str (markS j)))∧Wr H rs[j].q rs[j].v) →
    (∀ j (hj:j<rs.length),i≤j→Rw H 9 rs[j].q rs[j].v (rs[j].l.map AVal.str)∧(rs[j].l= []→Wr H rs[j].q rs[j].v)) →
    ∃ H',Loops Tryz.prog cnd B 209 (apC 0) [(0,va),(1,vb),(5,al),(28,.int .i64 (N:Nat)),(29,.int .i64 (i:Nat))] H (.exit 0) [(0,va),(1,vb),(5,al)] H' ∧
      (∀ j (hj:j<rs.length),Rw H' 9 rs[j].q rs[j].v (List.replicate rs[j].l.length (.str (markS j)))∧Wr H' rs[j].q rs[j].v)∧Fr H H' (qsOf rs):=by
  intro f
  induction f with
  | zero =>
    intro i H hi hB r1 done todo
    obtain rfl:i=N:=by omega
    obtain⟨e,F1,h1,hr,rfl,rfl,rfl⟩:=ap0E_vp H B i i va vb al (fun e F1 h1=>e= .exit 0∧F1= [(0,va),(1,vb),(5,al),(28,.int .i64 (i:Nat)),(29,.int .i64 (i:Nat))]∧h1=up H 1) (bifL hB ⟨boolF (by omega),rfl,rfl,rfl⟩)
    have f:=Fr.up H 1 []
    exact⟨_,(Loops.last (by simp) hr).post (Ent.facts (fle [0,1,5] (by kernel_rfl))),fun j hj=>⟨(done j hj (by omega)).1.fr f (by simp),(done j hj (by omega)).2.fr f (by simp)⟩,Fr.up H 1 _⟩
  | succ f ih =>
    intro i H hi hB r1 done todo
    have hlt:i<rs.length:=by omega
    obtain⟨w1,wr1⟩:=todo i hlt (Nat.le_refl _)
    obtain⟨a,a1,a2,a3⟩:=r1.at elR (i:=i) (by simpa using hlt) (by rw [List.getElem_map];exact w1.rd.sv)
    rw [List.getElem_map]at a3
    have hq:oal≠rs[i].q:=fun e=>hoq (e▸List.mem_map.2 ⟨_,List.getElem_mem hlt,rfl⟩)
    have f0:=Fr.up H 9 []
    obtain⟨H1,L1,w2,wr2,f1⟩:=ap1_loop (B:=B) (N:=N) (n:=rs[i].l.length) (va:=va) (vb:=vb) hlt (hl _ (List.getElem_mem hlt)) (by omega) hq (rs[i].l.map AVal.str) 0 (up H 9) (by simp) (by show B≤H.next+9;omega) (r1.fr f0 (by simp)) (w1.fr f0 (by simp)) (fun x hx=>by obtain⟨w,_,rfl⟩:=List.mem_map.1 hx;rfl) (fun h=>(wr1 (by simpa using h)).fr f0 (by simp))
    have n1:=f1.next
    have n1:H.next+9≤H1.next:=n1
    obtain⟨ro,rc,rv⟩:=w1.rd.sl
    rw [List.length_map]at rv
    obtain⟨e,F1,h1,hr,rfl,rfl,rfl⟩:=ap0_vp H H1 B N i rs[i].l.length rc ro va vb al a (fun e F1 h1=>e= .normal∧F1= [(0,va),(1,vb),(5,al),(28,.int .i64 (N:Nat)),(29,.int .i64 ((i+1:Nat):Int))]∧h1=up H1 2)
      (bifL hB ⟨boolT (by omega),bifL (by omega) (bifL (by omega) ⟨a1,by rw [← rv];exact a3 _,Runs.of_loops L1,bifL (by omega) ⟨⟨by omega,by omega⟩,rfl,by rw [succI],rfl⟩⟩)⟩)
    have f2:=Fr.up H1 2 []
    have f01:Fr H (up H1 2) [rs[i].q]:=((f0.sub (M:= [rs[i].q]) (by simp)).trans f1 (fun x hx _=>hx)).trans f2 (by simp)
    obtain⟨H',L,dn,f'⟩:=ih (i+1) (up H1 2) (by omega) (by show B≤H1.next+2;omega) (r1.fr f01 (by simpa using hq)) (fun j hj hji=>by
        by_cases e:j=i
        · subst e;exact⟨w2.fr f2 (by simp),wr2.fr f2 (by simp)⟩
        · obtain⟨x1,x2⟩:=done j hj (by omega)
          have hne:rs[j].q ∉ [rs[i].q]:=by simpa using hd j i hj hlt e
          exact⟨x1.fr f01 hne,x2.fr f01 hne⟩) (fun j hj hij=>by
        obtain⟨x1,x2⟩:=todo j hj (by omega)
        have hne:rs[j].q ∉ [rs[i].q]:=by simpa using hd j i hj hlt (by omega)
        exact⟨x1.fr f01 hne,fun h=>(x2 h).fr f01 hne⟩)
    refine⟨H',Loops.round hr (Ent.refl _ _ _ _) L,dn,(f01.sub fun x hx _=> ?_).trans f' (fun x hx _=>hx)⟩
    simp only [List.mem_singleton]at hx
    subst hx
    exact List.mem_map.2 ⟨_,List.getElem_mem hlt,rfl⟩
abbrev g3F(va vb al lg g:AVal)(N i j:Nat):Facts:= [(0,va),(1,vb),(5,al),(8,lg),(9,.int .i64 (i:Nat)),(10,g),(51,.int .i64 (N:Nat)),(52,.int .i64 (i:Nat)),(59,.int .i64 (j:Nat))]
theorem ap3_loop {B N i q:Nat}{va vb al lg v:AVal}{old:List AVal}(ho:old.length<2^40): ∀ (f j q2:Nat) (H:AHeap) (g:AVal),j+f=20→B≤H.next→q<H.next→q2<H.next→Gw H 9 q v old (.str (markS i)) j q2 g →
    ∃ H' g' q3,Loops Tryz.prog cnd B 209 (apC 3) (g3F va vb al lg g N i j) H (.exit 6) [(0,va),(1,vb),(5,al),(8,lg),(10,g'),(51,.int .i64 (N:Nat)),(52,.int .i64 (i:Nat))] H'∧Gw H' 9 q v old (.str (markS i)) 20 q3 g'∧(q3=q2∨H.next≤q3)∧q3<H'.next∧Fr H H' [q2]:=by
  intro f
  induction f with
  | zero =>
    intro j q2 H g hj hB hq hq2 w
    obtain rfl:j=20:=by omega
    obtain⟨e,F1,h1,hr,rfl,rfl,rfl⟩:=ap3E_vp H B N i 20 va vb al lg g (fun e F1 h1=>e= .exit 6∧F1=g3F va vb al lg g N i 20∧h1=up H 1) (bifL hB ⟨boolF (by omega),rfl,rfl,rfl⟩)
    exact⟨up H 1,g,q2,(Loops.last (by simp) hr).post (Ent.facts (fle [0,1,5,8,10,51,52] (by kernel_rfl))),w.fr (Fr.up H 1 []) (by simp) (by simp),.inl rfl,by show q2<H.next+1;omega,Fr.up H 1 _⟩
  | succ f ih =>
    intro j q2 H g hj hB hq hq2 w
    let H1:AHeap:=(up H 7).set (H.next+4) (ABlk.made [.str (markS i)] 1 true)
    have f1:Fr H H1 []:=(Fr.up H 7 []).trans (Fr.set (L:= [H.next+4]) (up H 7) _ _ (by simp)) (by intro x hx;simp at hx;omega)
    obtain⟨g2,H2,q3,e2,w2,c2,f2,n2⟩:=(w.fr f1 (by simp) (by simp)).app elS (by decide) (nid:=H.next+5) (w:= .slice (some ⟨H.next+4,0,0,0,1⟩) 1 1) (one_elem (up H 7) _ _) (by show H.next+5<H.next+7;omega) (by omega) (by omega)
    have n2:H2.next=H.next+7:=n2
    obtain⟨e,F1,h1,hr,rfl,rfl,rfl⟩:=ap3_vp H H1 H2 B N i j (H.next+4) va vb al lg g g2 (markS i) (fun e F1 h1=>e= .normal∧F1=g3F va vb al lg g2 N i (j+1)∧h1=up H2 2)
      (bifL hB ⟨boolT (by omega),bifL (by omega) ⟨⟨mark_does i _⟩,build1S rfl rfl,e2,bifL (by omega) ⟨⟨by omega,by omega⟩,rfl,by rw [succI],rfl⟩⟩⟩)
    have f3:=Fr.up H2 2 []
    have f12:Fr H (up H2 2) [q2]:=((f1.sub (M:= [q2]) (by simp)).trans f2 (fun x hx hx2=>by
      simp only [List.mem_singleton]at hx ⊢
      rcases c2 with c2 | c2<;>omega)).trans f3 (by simp)
    obtain⟨H',g',q4,L,w',c',l',f'⟩:=ih (j+1) q3 (up H2 2) g2 (by omega) (by show B≤H2.next+2;omega) (by show q<H2.next+2;omega) (by show q3<H2.next+2;rcases c2 with rfl | rfl<;>omega) (w2.fr f3 (by simp) (by simp))
    have c':q4=q3∨H2.next+2≤q4:=c'
    exact⟨H',g',q4,Loops.round hr (Ent.refl _ _ _ _) L,w',by rcases c2 with rfl | rfl<;>rcases c' with rfl | c'<;>omega,l',f12.trans f' (fun x hx hx2=>by
      simp only [List.mem_singleton]at hx ⊢
      rcases c2 with c2 | c2<;>omega)⟩
end Go.Proofs.YtjpfnbihopoeeaaGreatDoor
namespace Go.Proofs.YtjpfnbihopoeeaaGreatDoor
open Go.Lift
set_option maxRecDepth 1000000
def Gs(H:AHeap)(rs:List Rr)(gs:List (Nat×AVal)):Prop:= ∀ j (hj:j<rs.length) (hg:j<gs.length),Gw H 9 rs[j].q rs[j].v (List.replicate rs[j].l.length (.str (markS j))) (.str (markS j)) 20 gs[j].1 gs[j].2
abbrev a2F(va vb al lg:AVal)(N i:Nat):Facts:= [(0,va),(1,vb),(5,al),(8,lg),(51,.int .i64 (N:Nat)),(52,.int .i64 (i:Nat))]
theorem ap2_loop {B N E0 oal:Nat} {va vb al:AVal} {rs:List Rr} (hN:N=rs.length) (hN2:N<2^39) (hl: ∀ r∈rs,r.l.length<2^39) (hoq:oal ∉ qsOf rs) (ho:oal<E0) (hq: ∀ r∈rs,r.q<E0) (hd: ∀ i j (hi:i<rs.length) (hj:j<rs.length),i≠j→rs[i].q≠rs[j].q): ∀ (f i olg:Nat) (H:AHeap) (lg:AVal) (gs:List (Nat×AVal)),i+f=N→B≤H.next→E0≤H.next→Rd H oal al (vsOf rs) →
    gs.length=i→Gs H rs gs→(∀ x∈gs,Sv x.2)→Rw H 36 olg lg (gs.map (·.2))→(gs= []→lg= .slice none 0 0)→(gs≠ []→E0≤olg∧olg<H.next)→(∀ j (hj:j<rs.length) (hg:j<gs.length),(gs[j].1=rs[j].q∨E0≤gs[j].1)∧gs[j].1≠olg∧gs[j].1<H.next) →
    (∀ j (hj:j<rs.length),i≤j→Rw H 9 rs[j].q rs[j].v (List.replicate rs[j].l.length (.str (markS j)))∧Wr H rs[j].q rs[j].v) →
    ∃ H' lg' olg' gs',Loops Tryz.prog cnd B 209 (apC 2) (a2F va vb al lg N i) H (.exit 4) [(0,va),(1,vb),(5,al),(8,lg')] H'∧gs'.length=N∧Gs H' rs gs'∧(∀ x∈gs',Sv x.2)∧Rw H' 36 olg' lg' (gs'.map (·.2))∧H.next≤H'.next∧ ∀ x,x<E0→x ∉ qsOf rs→H'.get x=H.get x:=by
  intro f
  induction f with
  | zero =>
    intro i olg H lg gs hi hB hE r1 gl g1 sv w1 w0 we gq todo
    obtain rfl:i=N:=by omega
    obtain⟨e,F1,h1,hr,rfl,rfl,rfl⟩:=ap2E_vp H B i i va vb al lg (fun e F1 h1=>e= .exit 4∧F1=a2F va vb al lg i i∧h1=up H 1) (bifL hB ⟨boolF (by omega),rfl,rfl,rfl⟩)
    have f:=Fr.up H 1 []
    exact⟨up H 1,lg,olg,gs,(Loops.last (by simp) hr).post (Ent.facts (fle [0,1,5,8] (by kernel_rfl))),gl,fun j hj hg=>(g1 j hj hg).fr f (by simp) (by simp),sv,w1.fr f (by simp),f.next,fun x hx _=>rfl⟩
  | succ f ih =>
    intro i olg H lg gs hi hB hE r1 gl g1 sv w1 w0 we gq todo
    have hlt:i<rs.length:=by omega
    obtain⟨wi,wri⟩:=todo i hlt (Nat.le_refl _)
    obtain⟨a,a1,a2,a3⟩:=r1.at elR (i:=i) (by simpa using hlt) (by rw [List.getElem_map];exact wi.rd.sv)
    rw [List.getElem_map]at a3
    have hqi:=hq _ (List.getElem_mem hlt)
    have hqm:rs[i].q∈qsOf rs:=List.mem_map.2 ⟨_,List.getElem_mem hlt,rfl⟩
    have f0:=Fr.up H 9 []
    obtain⟨H1,g',q3,L1,w2,c2,l2,f1⟩:=ap3_loop (B:=B) (N:=N) (i:=i) (q:=rs[i].q) (va:=va) (vb:=vb) (al:=al) (lg:=lg) (v:=rs[i].v) (old:=List.replicate rs[i].l.length (.str (markS i))) (by have:=hl _ (List.getElem_mem hlt);simp;omega) 20 0 rs[i].q (up H 9) rs[i].v (by omega) (by show B≤H.next+9;omega) (by show rs[i].q<H.next+9;omega) (by show rs[i].q<H.next+9;omega) ((show Gw H 9 rs[i].q rs[i].v _ (.str (markS i)) 0 rs[i].q rs[i].v from .inl ⟨rfl,rfl,rfl,wi,wri⟩).fr f0 (by simp) (by simp))
    have c2:q3=rs[i].q∨H.next+9≤q3:=c2
    have n1:H.next+9≤H1.next:=f1.next
    have svg:=w2.rd.2.sv
    let H2:AHeap:=(up H1 5).set (H1.next+2) (ABlk.made [g'] 1 true)
    have f2:Fr H1 H2 []:=(Fr.up H1 5 []).trans (Fr.set (L:= [H1.next+2]) (up H1 5) _ _ (by simp)) (by intro x hx;simp at hx;omega)
    have f02:Fr H H2 [rs[i].q]:=((f0.sub (M:= [rs[i].q]) (by simp)).trans f1 (fun x hx _=>hx)).trans f2 (by simp)
    have holg:olg ∉ [rs[i].q]∨gs= []:=by
      by_cases h:gs= []
      · exact .inr h
      · have:=we h;left;simp;omega
    have w3:Rw H2 36 olg lg (gs.map (·.2)):=by
      rcases holg with h | h
      · exact w1.fr f02 h
      · subst h;rw [w0 rfl];exact .inl ⟨rfl,rfl⟩
    obtain⟨lg2,H3,o2,e3,w4,c4,c5,f3,n3,l3⟩:=w3.app elR (by decide) (nid:=H1.next+3) (w:= .slice (some ⟨H1.next+2,0,0,0,1⟩) 1 1) (one_elem (up H1 5) _ _) (by show H1.next+3<H1.next+5;omega) (by simp;omega)
    have n3:H3.next=H1.next+5:=n3
    have ho2:E0≤o2:=by
      by_cases h:gs= []
      · have:=c5 (by simp [h]) (w0 h);omega
      · have:=we h;rcases c4 with c4 | c4<;>omega
    obtain⟨e,F1,h1,hr,rfl,rfl,rfl⟩:=ap2_vp H H1 H2 H3 B N i (H1.next+2) va vb al lg rs[i].v g' lg2 a (fun e F1 h1=>e= .normal∧F1=a2F va vb al lg2 N (i+1)∧h1=up H3 2)
      (bifL hB ⟨boolT (by omega),bifL (by omega) (bifL (by omega) ⟨a1,a3 _,bifL (by omega) ⟨Runs.of_loops L1,bifL (by omega) ⟨build1R rfl svg,e3,bifL (by omega) ⟨⟨by omega,by omega⟩,rfl,by rw [succI],rfl⟩⟩⟩⟩)⟩)
    have f4:=Fr.up H3 2 []
    have f24:Fr H2 (up H3 2) [o2]:=f3.trans f4 (by simp)
    have q3n:q3≠o2:=by
      rcases c2 with c2 | c2
      · omega
      · rcases c4 with c4 | c4
        · by_cases h:gs= []
          · have:=c5 (by simp [h]) (w0 h);omega
          · have:=we h;omega
        · omega
    have f04:Fr H (up H3 2) [rs[i].q,o2]:=(f02.sub (M:= [rs[i].q,o2]) (by simp)).trans f24 (by simp)
    have keep: ∀ j (hj:j<rs.length),j≠i→rs[j].q ∉ [rs[i].q,o2]:=fun j hj hne=>by
      have h1:=hd j i hj hlt hne
      have h2:=hq _ (List.getElem_mem hj)
      simp;omega
    obtain⟨H',lg',olg',gs',L,r2,r3,r4,r5,r6,r7⟩:=ih (i+1) o2 (up H3 2) lg2 (gs++ [(q3,g')]) (by omega) (by show B≤H3.next+2;omega) (by show E0≤H3.next+2;omega)
      (r1.fr f04 (by
        have:oal≠rs[i].q:=fun e=>hoq (e▸hqm)
        simp;omega)) (by simp [gl]) (fun j hj hg=>by
        by_cases hji:j<gs.length
        · have hgj:=gq j hj hji
          simp only [List.getElem_append_left hji]
          refine(g1 j hj hji).fr f04 (keep j hj (by omega)) ?_
          have h1:=hd j i hj hlt (by omega)
          have h2:=hq _ (List.getElem_mem hj)
          simp only [List.mem_cons,List.not_mem_nil,or_false,not_or]
          refine⟨by rcases hgj.1 with h | h<;>omega,?_⟩
          rcases c4 with c4 | c4
          · rw [c4];exact hgj.2.1
          · have:=hgj.2.2;omega
        · have hjl:j=gs.length:=by simp at hg;omega
          subst hjl
          subst gl
          simp only [List.getElem_concat_length]
          exact(w2.fr f2 (by simp) (by simp)).fr f24 (by simp;omega) (by simpa using q3n))
      (fun x hx=>by
        rcases List.mem_append.1 hx with h | h
        · exact sv x h
        · simp only [List.mem_singleton]at h;subst h;exact svg)
      (by rw [List.map_append];exact w4.fr f4 (by simp)) (fun h=>by simp at h) (fun _=>⟨ho2,by show o2<H3.next+2;omega⟩)
      (fun j hj hg=>by
        by_cases hji:j<gs.length
        · have hgj:=gq j hj hji
          simp only [List.getElem_append_left hji]
          refine⟨hgj.1,?_,by show gs[j].1<H3.next+2;omega⟩
          rcases c4 with c4 | c4
          · rw [c4];exact hgj.2.1
          · have:=hgj.2.2;omega
        · have hjl:j=gs.length:=by simp at hg;omega
          subst hjl
          subst gl
          simp only [List.getElem_concat_length]
          exact⟨by rcases c2 with c2 | c2<;>omega,q3n,by show q3<H3.next+2;omega⟩)
      (fun j hj hij=>by
        obtain⟨x1,x2⟩:=todo j hj (by omega)
        exact⟨x1.fr f04 (keep j hj (by omega)),x2.fr f04 (keep j hj (by omega))⟩)
    have r6:H3.next+2≤H'.next:=r6
    refine⟨H',lg',olg',gs',Loops.round hr (Ent.refl _ _ _ _) L,r2,r3,r4,r5,by omega,fun x hx hxq=> ?_⟩
    rw [r7 x hx hxq]
    refine f04.get x (by omega) ?_
    have:x≠rs[i].q:=fun e=>hxq (e▸hqm)
    simp;omega
abbrev a5F(va vb al lg:AVal)(N i m k:Nat):Facts:= [(0,va),(1,vb),(5,al),(8,lg),(11,.int .i64 (i:Nat)),(73,.int .i64 (N:Nat)),(74,.int .i64 (i:Nat)),(81,.int .i64 (m:Nat)),(82,.int .i64 (k:Nat))]
theorem ap5_loop {B N i n oal olg q q2:Nat} {va vb al lg rv gv:AVal} {vs gl:List AVal} (hn:n<2^40) (hi:i<vs.length) (hg:i<gl.length) (ev:vs[i]=rv) (eg:gl[i]=gv): ∀ (f k:Nat) (H:AHeap),k+f=n+20→B≤H.next→Rd H oal al vs→Rd H olg lg gl→Rd H q rv (List.replicate n (.str (markS i)))→Rd H q2 gv (List.replicate (n+20) (.str (markS i))) →
    ∃ m,H.next≤m∧Loops Tryz.prog cnd B 209 (apC 5) (a5F va vb al lg N i (n+20) k) H (.exit 10) [(0,va),(1,vb),(5,al),(8,lg),(73,.int .i64 (N:Nat)),(74,.int .i64 (i:Nat))] ⟨m,H.blks⟩:=by
  intro f
  induction f with
  | zero =>
    intro k H hk hB r1 r2 r3 r4
    obtain rfl:k=n+20:=by omega
    obtain⟨e,F1,h1,hr,rfl,rfl,rfl⟩:=ap5E_vp H B N i (n+20) (n+20) va vb al lg (fun e F1 h1=>e= .exit 10∧F1=a5F va vb al lg N i (n+20) (n+20)∧h1=up H 1) (bifL hB ⟨boolF (by omega),rfl,rfl,rfl⟩)
    exact⟨H.next+1,by omega,(Loops.last (by simp) hr).post (Ent.facts (fle [0,1,5,8,73,74] (by kernel_rfl)))⟩
  | succ f ih =>
    intro k H hk hB r1 r2 r3 r4
    obtain⟨a,a1,a2,a3⟩:=r2.at elR hg (by rw [eg];exact r4.sv)
    rw [eg]at a3
    obtain⟨c,c1,c2,c3⟩:=r1.at elR hi (by rw [ev];exact r3.sv)
    rw [ev]at c3
    obtain⟨b,b1,b2,b3⟩:=r4.at elS (i:=k) (by simp;omega) (by rw [List.getElem_replicate];rfl)
    rw [List.getElem_replicate]at b3
    obtain⟨ro,rc,e0⟩:=r3.sl
    rw [List.length_replicate]at e0
    have f0:=Fr.up H 36 []
    obtain⟨m,hm,L⟩:=ih (k+1) (up H 36) (by omega) (by show B≤H.next+36;omega) (r1.fr f0 (by simp)) (r2.fr f0 (by simp)) (r3.fr f0 (by simp)) (r4.fr f0 (by simp))
    have hm:H.next+36≤m:=hm
    by_cases hkn:k<n
    · obtain⟨d,d1,d2,d3⟩:=r3.at elS (i:=k) (by simp;omega) (by rw [List.getElem_replicate];rfl)
      rw [List.getElem_replicate]at d3
      rw [e0]at d1 c3
      obtain⟨e,F1,h1,hr,rfl,rfl,rfl⟩:=ap5A_vp H B N i (n+20) k n rc ro va vb al lg gv a b c d (markS i) (fun e F1 h1=>e= .normal∧F1=a5F va vb al lg N i (n+20) (k+1)∧h1=up H 36)
        (bifL hB ⟨boolT (by omega),bifL (by omega) (bifL (by omega) ⟨a1,a3 _,by omega,b1,b3 _,by omega,⟨mark_does i _⟩,sameOld_refl _ _,by simp,c1,c3 _,by omega,boolT (by omega),c1,c3 _,by omega,d1,d3 _,by omega,⟨mark_does i _⟩,sameOld_refl _ _,by simp,⟨fun _ _=>⟨rfl,rfl⟩⟩,bifL (by omega) ⟨⟨by omega,by omega⟩,rfl,by rw [succI],rfl⟩⟩)⟩)
      exact⟨m,by omega,Loops.round hr (Ent.refl _ _ _ _) L⟩
    · rw [e0]at c3
      obtain⟨e,F1,h1,hr,rfl,rfl,rfl⟩:=ap5B_vp H B N i (n+20) k n rc ro va vb al lg gv a b c (markS i) (fun e F1 h1=>e= .normal∧F1=a5F va vb al lg N i (n+20) (k+1)∧h1=up H 36)
        (bifL hB ⟨boolT (by omega),bifL (by omega) (bifL (by omega) ⟨a1,a3 _,by omega,b1,b3 _,by omega,⟨mark_does i _⟩,sameOld_refl _ _,by simp,c1,c3 _,by omega,boolF (by omega),bifL (by omega) ⟨⟨by omega,by omega⟩,rfl,by rw [succI],rfl⟩⟩)⟩)
      exact⟨m,by omega,Loops.round hr (Ent.refl _ _ _ _) L⟩
abbrev a4F(va vb al lg:AVal)(N i:Nat):Facts:= [(0,va),(1,vb),(5,al),(8,lg),(73,.int .i64 (N:Nat)),(74,.int .i64 (i:Nat))]
theorem ap4_loop {B N oal olg:Nat}{va vb al lg:AVal}{rs:List Rr}{gs:List (Nat×AVal)}(hN:N=rs.length)(hg:gs.length=N)(hN2:N<2^39)(hl: ∀ r∈rs,r.l.length<2^39): ∀ (f i:Nat) (H:AHeap),i+f=N→B≤H.next→Rd H oal al (vsOf rs)→Rd H olg lg (gs.map (·.2))→Gs H rs gs →
    ∃ m,H.next≤m∧Loops Tryz.prog cnd B 209 (apC 4) (a4F va vb al lg N i) H (.exit 8) [(0,va),(1,vb)] ⟨m,H.blks⟩:=by
  intro f
  induction f with
  | zero =>
    intro i H hi hB r1 r2 g
    obtain rfl:i=N:=by omega
    obtain⟨e,F1,h1,hr,rfl,rfl,rfl⟩:=ap4E_vp H B i i va vb al lg (fun e F1 h1=>e= .exit 8∧F1=a4F va vb al lg i i∧h1=up H 1) (bifL hB ⟨boolF (by omega),rfl,rfl,rfl⟩)
    exact⟨H.next+1,by omega,(Loops.last (by simp) hr).post (Ent.facts (fle [0,1] (by kernel_rfl)))⟩
  | succ f ih =>
    intro i H hi hB r1 r2 g
    have hlt:i<rs.length:=by omega
    have hgt:i<gs.length:=by omega
    obtain⟨ra,rb⟩:=(g i hlt hgt).rd
    have hnl:=hl _ (List.getElem_mem hlt)
    have er:List.replicate rs[i].l.length (AVal.str (markS i))++List.replicate 20 (AVal.str (markS i))=List.replicate (rs[i].l.length+20) (AVal.str (markS i)):=List.replicate_append_replicate
    rw [er]at rb
    obtain⟨a,a1,a2,a3⟩:=r2.at elR (i:=i) (by simpa using hgt) (by rw [List.getElem_map];exact rb.sv)
    rw [List.getElem_map]at a3
    obtain⟨go,gc,e0⟩:=rb.sl
    rw [List.length_replicate]at e0
    have f0:=Fr.up H 9 []
    obtain⟨m1,hm1,L1⟩:=ap5_loop (B:=B) (N:=N) (va:=va) (vb:=vb) (al:=al) (lg:=lg) (vs:=vsOf rs) (gl:=gs.map (·.2)) (rv:=rs[i].v) (gv:=gs[i].2) (n:=rs[i].l.length) (i:=i) (by omega) (by simpa using hlt) (by simpa using hgt) (by rw [List.getElem_map]) (by rw [List.getElem_map]) (rs[i].l.length+20) 0 (up H 9) (by omega) (by show B≤H.next+9;omega) (r1.fr f0 (by simp)) (r2.fr f0 (by simp)) (ra.fr f0 (by simp)) (rb.fr f0 (by simp))
    have hm1:H.next+9≤m1:=hm1
    obtain⟨e,F1,h1,hr,rfl,rfl,rfl⟩:=ap4_vp H ⟨m1,H.blks⟩ B N i (rs[i].l.length+20) gc go va vb al lg a (fun e F1 h1=>e= .normal∧F1=a4F va vb al lg N (i+1)∧h1=⟨m1+2,H.blks⟩)
      (bifL hB ⟨boolT (by omega),bifL (by omega) (bifL (by omega) ⟨a1,by rw [← e0];exact a3 _,Runs.of_loops L1,bifL (by show B≤m1;omega) ⟨⟨by omega,by omega⟩,rfl,by rw [succI],rfl⟩⟩)⟩)
    have f1:Fr H ⟨m1+2,H.blks⟩ []:=⟨by show H.next≤m1+2;omega,fun _ _ _=>rfl⟩
    obtain⟨m,hm,L⟩:=ih (i+1) ⟨m1+2,H.blks⟩ (by omega) (by show B≤m1+2;omega) (r1.fr f1 (by simp)) (r2.fr f1 (by simp)) (fun j hj hg=>(g j hj hg).fr f1 (by simp) (by simp))
    have hm:m1+2≤m:=hm
    exact⟨m,by omega,Loops.round hr (Ent.refl _ _ _ _) L⟩
end Go.Proofs.YtjpfnbihopoeeaaGreatDoor
namespace Go.Proofs.YtjpfnbihopoeeaaGreatDoor
open Go.Lift
set_option maxRecDepth 1000000
abbrev a6F(va vb ov tv:AVal)(N i:Nat):Facts:= [(0,va),(1,vb),(13,ov),(14,tv),(121,.int .i64 (N:Nat)),(122,.int .i64 (i:Nat))]
theorem ap6_loop {B N oa:Nat}{va vb ov tv:AVal}(hN:N<2^40)(ho:Sv ov): ∀ (rest:List AVal) (k:Nat) (H:AHeap),k+rest.length=N→B≤H.next→Rw H 36 oa va (List.replicate k ov++rest)→(∀ x∈rest,Sv x)→(rest= []→Wr H oa va) →
    ∃ H',Loops Tryz.prog cnd B 209 (apC 6) (a6F va vb ov tv N k) H (.exit 12) [(0,va),(1,vb),(13,ov),(14,tv)] H'∧Rw H' 36 oa va (List.replicate N ov)∧Wr H' oa va∧Fr H H' [oa]:=by
  intro rest
  induction rest with
  | nil =>
    intro k H hk hB w1 hs hw
    obtain rfl:k=N:=by simpa using hk
    obtain⟨e,F1,h1,hr,rfl,rfl,rfl⟩:=ap6E_vp H B k k va vb ov tv (fun e F1 h1=>e= .exit 12∧F1=a6F va vb ov tv k k∧h1=up H 1) (bifL hB ⟨boolF (by omega),rfl,rfl,rfl⟩)
    have f:=Fr.up H 1 []
    exact⟨_,(Loops.last (by simp) hr).post (Ent.facts (fle [0,1,13,14] (by kernel_rfl))),by rw [List.append_nil]at w1;exact w1.fr f (by simp),(hw rfl).fr f (by simp),Fr.up H 1 _⟩
  | cons y rest ih =>
    intro k H hk hB w1 hs hw
    simp only [List.length_cons]at hk
    obtain⟨b,H1,b1,b2,w2,wr2,f2,n2⟩:=w1.st elR (i:=k) (x:=ov) (by simp) (by rw [rep_get];exact hs y (by simp)) ho 8
    rw [rep_set]at w2
    obtain⟨e,F1,h1,hr,rfl,rfl,rfl⟩:=ap6_vp H H1 B N k va vb ov tv b (fun e F1 h1=>e= .normal∧F1=a6F va vb ov tv N (k+1)∧h1=up H1 2)
      (bifL hB ⟨boolT (by omega),bifL (by omega) (bifL (by omega) ⟨b1,aop_storeG rfl rfl b2,bifL (by omega) ⟨⟨by omega,by omega⟩,rfl,by rw [succI],rfl⟩⟩)⟩)
    have f3:=Fr.up H1 2 []
    have f23:Fr H (up H1 2) [oa]:=f2.trans f3 (by simp)
    obtain⟨H',L,w',wr',f'⟩:=ih (k+1) (up H1 2) (by omega) (by show B≤H1.next+2;omega) (w2.fr f3 (by simp)) (fun x hx=>hs x (by simp [hx])) (fun _=>wr2.fr f3 (by simp))
    exact⟨H',Loops.round hr (Ent.refl _ _ _ _) L,w',wr',f23.trans f' (fun x hx _=>hx)⟩
abbrev a7F(va vb ov tv:AVal)(N i:Nat):Facts:= [(0,va),(1,vb),(13,ov),(14,tv),(131,.int .i64 (N:Nat)),(132,.int .i64 (i:Nat))]
theorem ap7_loop {B N oa:Nat}{va vb ov tv:AVal}(hN:N<2^40)(ho:Sv tv): ∀ (rest:List AVal) (k:Nat) (H:AHeap),k+rest.length=N→B≤H.next→Rw H 36 oa vb (List.replicate k tv++rest)→(∀ x∈rest,Sv x)→(rest= []→Wr H oa vb) →
    ∃ H',Loops Tryz.prog cnd B 209 (apC 7) (a7F va vb ov tv N k) H (.exit 14) [(0,va),(1,vb),(13,ov),(14,tv)] H'∧Rw H' 36 oa vb (List.replicate N tv)∧Wr H' oa vb∧Fr H H' [oa]:=by
  intro rest
  induction rest with
  | nil =>
    intro k H hk hB w1 hs hw
    obtain rfl:k=N:=by simpa using hk
    obtain⟨e,F1,h1,hr,rfl,rfl,rfl⟩:=ap7E_vp H B k k va vb ov tv (fun e F1 h1=>e= .exit 14∧F1=a7F va vb ov tv k k∧h1=up H 1) (bifL hB ⟨boolF (by omega),rfl,rfl,rfl⟩)
    have f:=Fr.up H 1 []
    exact⟨_,(Loops.last (by simp) hr).post (Ent.facts (fle [0,1,13,14] (by kernel_rfl))),by rw [List.append_nil]at w1;exact w1.fr f (by simp),(hw rfl).fr f (by simp),Fr.up H 1 _⟩
  | cons y rest ih =>
    intro k H hk hB w1 hs hw
    simp only [List.length_cons]at hk
    obtain⟨b,H1,b1,b2,w2,wr2,f2,n2⟩:=w1.st elR (i:=k) (x:=tv) (by simp) (by rw [rep_get];exact hs y (by simp)) ho 8
    rw [rep_set]at w2
    obtain⟨e,F1,h1,hr,rfl,rfl,rfl⟩:=ap7_vp H H1 B N k va vb ov tv b (fun e F1 h1=>e= .normal∧F1=a7F va vb ov tv N (k+1)∧h1=up H1 2)
      (bifL hB ⟨boolT (by omega),bifL (by omega) (bifL (by omega) ⟨b1,aop_storeG rfl rfl b2,bifL (by omega) ⟨⟨by omega,by omega⟩,rfl,by rw [succI],rfl⟩⟩)⟩)
    have f3:=Fr.up H1 2 []
    have f23:Fr H (up H1 2) [oa]:=f2.trans f3 (by simp)
    obtain⟨H',L,w',wr',f'⟩:=ih (k+1) (up H1 2) (by omega) (by show B≤H1.next+2;omega) (w2.fr f3 (by simp)) (fun x hx=>hs x (by simp [hx])) (fun _=>wr2.fr f3 (by simp))
    exact⟨H',Loops.round hr (Ent.refl _ _ _ _) L,w',wr',f23.trans f' (fun x hx _=>hx)⟩
abbrev a8F(va vb ov tv x y:AVal)(j:Nat):Facts:= [(0,va),(1,vb),(13,ov),(14,tv),(17,x),(18,y),(142,.int .i64 (j:Nat))]
theorem ap8_loop {B E oa ob:Nat}{va vb ov tv:AVal}{la lb:List AVal}(hla:la.length<2^40)(hlb:lb.length<2^40)(ho:Sv ov)(ht:Sv tv)(hab:oa≠ob)(hoa:oa<E)(hob:ob<E): ∀ (f j qx qy:Nat) (H:AHeap) (x y:AVal),j+f=20→B≤H.next→E≤H.next→(qx=oa∨E≤qx)→(qy=ob∨E≤qy)→qx≠qy→qx<H.next→qy<H.next →
    Gw H 36 oa va la ov j qx x→Gw H 36 ob vb lb tv j qy y →
    ∃ H' x' y' qx' qy',Loops Tryz.prog cnd B 209 (apC 8) (a8F va vb ov tv x y j) H (.exit 16) [(0,va),(1,vb),(17,x'),(18,y')] H'∧Gw H' 36 oa va la ov 20 qx' x'∧Gw H' 36 ob vb lb tv 20 qy' y'∧H.next≤H'.next∧ ∀ z,z<E→z≠oa→z≠ob→H'.get z=H.get z:=by
  intro f
  induction f with
  | zero =>
    intro j qx qy H x y hj hB hE cx cy hxy lx ly gx gy
    obtain rfl:j=20:=by omega
    obtain⟨e,F1,h1,hr,rfl,rfl,rfl⟩:=ap8E_vp H B 20 va vb ov tv x y (fun e F1 h1=>e= .exit 16∧F1=a8F va vb ov tv x y 20∧h1=up H 1) (bifL hB ⟨boolF (by omega),rfl,rfl,rfl⟩)
    have f:=Fr.up H 1 []
    exact⟨up H 1,x,y,qx,qy,(Loops.last (by simp) hr).post (Ent.facts (fle [0,1,17,18] (by kernel_rfl))),gx.fr f (by simp) (by simp),gy.fr f (by simp) (by simp),f.next,fun _ _ _ _=>rfl⟩
  | succ f ih =>
    intro j qx qy H x y hj hB hE cx cy hxy lx ly gx gy
    let H1:AHeap:=(up H 6).set (H.next+3) (ABlk.made [ov] 1 true)
    have f1:Fr H H1 []:=(Fr.up H 6 []).trans (Fr.set (L:= [H.next+3]) (up H 6) _ _ (by simp)) (by intro x hx;simp at hx;omega)
    obtain⟨x2,H2,qx2,e2,gx2,c2,f2,n2⟩:=(gx.fr f1 (by simp) (by simp)).app elR (by decide) (nid:=H.next+4) (w:= .slice (some ⟨H.next+3,0,0,0,1⟩) 1 1) (one_elem (up H 6) _ _) (by show H.next+4<H.next+6;omega) (by omega) (by omega)
    have n2:H2.next=H.next+6:=n2
    have gy2:=(gy.fr f1 (by simp) (by simp)).fr f2 (by simp;rcases c2 with c2 | c2<;>omega) (by simp;rcases c2 with c2 | c2<;>omega)
    let H3:AHeap:=(up H2 5).set (H2.next+2) (ABlk.made [tv] 1 true)
    have f3:Fr H2 H3 []:=(Fr.up H2 5 []).trans (Fr.set (L:= [H2.next+2]) (up H2 5) _ _ (by simp)) (by intro x hx;simp at hx;omega)
    obtain⟨y2,H4,qy2,e4,gy4,c4,f4,n4⟩:=(gy2.fr f3 (by simp) (by simp)).app elR (by decide) (nid:=H2.next+3) (w:= .slice (some ⟨H2.next+2,0,0,0,1⟩) 1 1) (one_elem (up H2 5) _ _) (by show H2.next+3<H2.next+5;omega) (by omega) (by omega)
    have n4:H4.next=H2.next+5:=n4
    have gx4:=(gx2.fr f3 (by simp) (by simp)).fr f4 (by simp;rcases c4 with c4 | c4<;>omega) (by simp;rcases c4 with c4 | c4<;>rcases c2 with c2 | c2<;>omega)
    obtain⟨e,F1,h1,hr,rfl,rfl,rfl⟩:=ap8_vp H H1 H2 H3 H4 B j (H.next+3) (H2.next+2) va vb ov tv x y x2 y2 (fun e F1 h1=>e= .normal∧F1=a8F va vb ov tv x2 y2 (j+1)∧h1=up H4 2)
      (bifL hB ⟨boolT (by omega),bifL (by omega) ⟨build1R rfl ho,e2,bifL (by omega) ⟨build1R rfl ht,e4,bifL (by omega) ⟨⟨by omega,by omega⟩,rfl,by rw [succI],rfl⟩⟩⟩⟩)
    have f5:=Fr.up H4 2 []
    obtain⟨H',x',y',qx',qy',L,r1,r2,r3,r4⟩:=ih (j+1) qx2 qy2 (up H4 2) x2 y2 (by omega) (by show B≤H4.next+2;omega) (by show E≤H4.next+2;omega) (by rcases c2 with c2 | c2<;>omega) (by rcases c4 with c4 | c4<;>omega) (by rcases c2 with c2 | c2<;>rcases c4 with c4 | c4<;>omega) (by show qx2<H4.next+2;rcases c2 with c2 | c2<;>omega) (by show qy2<H4.next+2;rcases c4 with c4 | c4<;>omega) (gx4.fr f5 (by simp) (by simp)) (gy4.fr f5 (by simp) (by simp))
    have r3:H4.next+2≤H'.next:=r3
    refine⟨H',x',y',qx',qy',Loops.round hr (Ent.refl _ _ _ _) L,r1,r2,by omega,fun z hz h1 h2=> ?_⟩
    rw [r4 z hz h1 h2]
    show H4.get z=H.get z
    rw [f4.get z (by show z<H2.next+5;omega) (by simp;rcases c4 with c4 | c4<;>omega),f3.get z (by omega) (by simp),f2.get z (by show z<H.next+6;omega) (by simp;rcases c2 with c2 | c2<;>omega),f1.get z (by omega) (by simp)]
abbrev a9F(va vb x y:AVal)(m i:Nat):Facts:= [(0,va),(1,vb),(17,x),(18,y),(154,.int .i64 (m:Nat)),(155,.int .i64 (i:Nat))]
theorem ap9_loop {B na ac oa qx p:Nat} {ao:Option AAddr} {vb x y ov:AVal} (hn:na<2^40): ∀ (f i:Nat) (H:AHeap),i+f=na+20→B≤H.next→Rd H oa (.slice ao na ac) (List.replicate na ov)→Rd H qx x (List.replicate (na+20) ov)→Rd H p ov [.str [111,110,101]] →
    ∃ m,H.next≤m∧Loops Tryz.prog cnd B 209 (apC 9) (a9F (.slice ao na ac) vb x y (na+20) i) H (.exit 18) [(1,vb),(18,y)] ⟨m,H.blks⟩:=by
  intro f
  induction f with
  | zero =>
    intro i H hi hB r1 r2 r3
    obtain rfl:i=na+20:=by omega
    obtain⟨e,F1,h1,hr,rfl,rfl,rfl⟩:=ap9E_vp H B (na+20) (na+20) (.slice ao na ac) vb x y (fun e F1 h1=>e= .exit 18∧F1=a9F (.slice ao na ac) vb x y (na+20) (na+20)∧h1=up H 1) (bifL hB ⟨boolF (by omega),rfl,rfl,rfl⟩)
    exact⟨H.next+1,by omega,(Loops.last (by simp) hr).post (Ent.facts (fle [1,18] (by kernel_rfl)))⟩
  | succ f ih =>
    intro i H hi hB r1 r2 r3
    obtain⟨a,a1,a2,a3⟩:=r2.at elR (i:=i) (by simp;omega) (by rw [List.getElem_replicate];exact r3.sv)
    rw [List.getElem_replicate]at a3
    obtain⟨b,b1,b2,b3⟩:=r3.at elS (i:=0) (by simp) rfl
    have b3: ∀ n,aload (AEnv.D env) 9 b ⟨n,H.blks⟩=some (.str [111,110,101]):=b3
    have f0:=Fr.up H 27 []
    obtain⟨m,hm,L⟩:=ih (i+1) (up H 27) (by omega) (by show B≤H.next+27;omega) (r1.fr f0 (by simp)) (r2.fr f0 (by simp)) (r3.fr f0 (by simp))
    have hm:H.next+27≤m:=hm
    by_cases hin:i<na
    · obtain⟨c,c1,c2,c3⟩:=r1.at elR (i:=i) (by simp;omega) (by rw [List.getElem_replicate];exact r3.sv)
      rw [List.getElem_replicate]at c3
      obtain⟨e,F1,h1,hr,rfl,rfl,rfl⟩:=ap9A_vp H B (na+20) i na ac ao vb x y ov a b c (fun e F1 h1=>e= .normal∧F1=a9F (.slice ao na ac) vb x y (na+20) (i+1)∧h1=up H 27)
        (bifL hB ⟨boolT (by omega),bifL (by omega) (bifL (by omega) ⟨a1,a3 _,b1,b3 _,boolT (by omega),c1,c3 _,b1,b3 _,bifL (by omega) ⟨⟨by omega,by omega⟩,rfl,by rw [succI],rfl⟩⟩)⟩)
      exact⟨m,by omega,Loops.round hr (Ent.refl _ _ _ _) L⟩
    · obtain⟨e,F1,h1,hr,rfl,rfl,rfl⟩:=ap9B_vp H B (na+20) i na ac ao vb x y ov a b (fun e F1 h1=>e= .normal∧F1=a9F (.slice ao na ac) vb x y (na+20) (i+1)∧h1=up H 27)
        (bifL hB ⟨boolT (by omega),bifL (by omega) (bifL (by omega) ⟨a1,a3 _,b1,b3 _,boolF (by omega),bifL (by omega) ⟨⟨by omega,by omega⟩,rfl,by rw [succI],rfl⟩⟩)⟩)
      exact⟨m,by omega,Loops.round hr (Ent.refl _ _ _ _) L⟩
abbrev a10F(va y:AVal)(m i:Nat):Facts:= [(1,va),(18,y),(182,.int .i64 (m:Nat)),(183,.int .i64 (i:Nat))]
theorem ap10_loop {B na ac oa qx p:Nat} {ao:Option AAddr} {y ov:AVal} (hn:na<2^40): ∀ (f i:Nat) (H:AHeap),i+f=na+20→B≤H.next→Rd H oa (.slice ao na ac) (List.replicate na ov)→Rd H qx y (List.replicate (na+20) ov)→Rd H p ov [.str [116,119,111]] →
    ∃ m,H.next≤m∧Loops Tryz.prog cnd B 209 (apC 10) (a10F (.slice ao na ac) y (na+20) i) H (.exit 20) [(1,.slice ao na ac)] ⟨m,H.blks⟩:=by
  intro f
  induction f with
  | zero =>
    intro i H hi hB r1 r2 r3
    obtain rfl:i=na+20:=by omega
    obtain⟨e,F1,h1,hr,rfl,rfl,rfl⟩:=ap10E_vp H B (na+20) (na+20) (.slice ao na ac) y (fun e F1 h1=>e= .exit 20∧F1=a10F (.slice ao na ac) y (na+20) (na+20)∧h1=up H 1) (bifL hB ⟨boolF (by omega),rfl,rfl,rfl⟩)
    exact⟨H.next+1,by omega,(Loops.last (by simp) hr).post (Ent.facts (fle [1] (by kernel_rfl)))⟩
  | succ f ih =>
    intro i H hi hB r1 r2 r3
    obtain⟨a,a1,a2,a3⟩:=r2.at elR (i:=i) (by simp;omega) (by rw [List.getElem_replicate];exact r3.sv)
    rw [List.getElem_replicate]at a3
    obtain⟨b,b1,b2,b3⟩:=r3.at elS (i:=0) (by simp) rfl
    have b3: ∀ n,aload (AEnv.D env) 9 b ⟨n,H.blks⟩=some (.str [116,119,111]):=b3
    have f0:=Fr.up H 27 []
    obtain⟨m,hm,L⟩:=ih (i+1) (up H 27) (by omega) (by show B≤H.next+27;omega) (r1.fr f0 (by simp)) (r2.fr f0 (by simp)) (r3.fr f0 (by simp))
    have hm:H.next+27≤m:=hm
    by_cases hin:i<na
    · obtain⟨c,c1,c2,c3⟩:=r1.at elR (i:=i) (by simp;omega) (by rw [List.getElem_replicate];exact r3.sv)
      rw [List.getElem_replicate]at c3
      obtain⟨e,F1,h1,hr,rfl,rfl,rfl⟩:=ap10A_vp H B (na+20) i na ac ao y ov a b c (fun e F1 h1=>e= .normal∧F1=a10F (.slice ao na ac) y (na+20) (i+1)∧h1=up H 27)
        (bifL hB ⟨boolT (by omega),bifL (by omega) (bifL (by omega) ⟨a1,a3 _,b1,b3 _,boolT (by omega),c1,c3 _,b1,b3 _,bifL (by omega) ⟨⟨by omega,by omega⟩,rfl,by rw [succI],rfl⟩⟩)⟩)
      exact⟨m,by omega,Loops.round hr (Ent.refl _ _ _ _) L⟩
    · obtain⟨e,F1,h1,hr,rfl,rfl,rfl⟩:=ap10B_vp H B (na+20) i na ac ao y ov a b (fun e F1 h1=>e= .normal∧F1=a10F (.slice ao na ac) y (na+20) (i+1)∧h1=up H 27)
        (bifL hB ⟨boolT (by omega),bifL (by omega) (bifL (by omega) ⟨a1,a3 _,b1,b3 _,boolF (by omega),bifL (by omega) ⟨⟨by omega,by omega⟩,rfl,by rw [succI],rfl⟩⟩)⟩)
      exact⟨m,by omega,Loops.round hr (Ent.refl _ _ _ _) L⟩
end Go.Proofs.YtjpfnbihopoeeaaGreatDoor
namespace Go.Proofs.YtjpfnbihopoeeaaGreatDoor
open Go.Lift
set_option maxRecDepth 1000000
theorem bOne(F:Facts)(nid:Nat)(H:AHeap):aop env noCall nid (getF F) H (Op.buildSlice 36 1 {toList:= [(0,Operand.const (Value.string {data:= {toList:= [111,110,101]}}))]})=some (.slice (some ⟨nid,0,0,0,1⟩) 1 1,H.set nid (ABlk.made [.str [111,110,101]] 1 true)):=by
  have:aop env noCall nid (getF F) H (Op.buildSlice 36 1 {toList:= [(0,Operand.const (Value.string {data:= {toList:= [111,110,101]}}))]})=abuildSlice (AEnv.D env) 36 1 [(0,.str [111,110,101])] nid H:=rfl
  exact this.trans (by kernel_rfl)
theorem bTwo(F:Facts)(nid:Nat)(H:AHeap):aop env noCall nid (getF F) H (Op.buildSlice 36 1 {toList:= [(0,Operand.const (Value.string {data:= {toList:= [116,119,111]}}))]})=some (.slice (some ⟨nid,0,0,0,1⟩) 1 1,H.set nid (ABlk.made [.str [116,119,111]] 1 true)):=by
  have:aop env noCall nid (getF F) H (Op.buildSlice 36 1 {toList:= [(0,Operand.const (Value.string {data:= {toList:= [116,119,111]}}))]})=abuildSlice (AEnv.D env) 36 1 [(0,.str [116,119,111])] nid H:=rfl
  exact this.trans (by kernel_rfl)
theorem rd_made(H:AHeap)(q:Nat)(x:AVal)(hq:q<H.next):Rd (H.set q (ABlk.made [x] 1 true)) q (.slice (some ⟨q,0,0,0,1⟩) 1 1) [x] :=
  ⟨_,_,rfl,(fun a h=>by cases h;exact⟨rfl,rfl⟩),.inr ⟨0,0,_,rfl,hq,AHeap.get_set_self _ _ _,fun i hi=>by
    have:i=0:=by simp at hi;omega
    subst this
    rfl⟩⟩
theorem apart_does {H:AHeap}{Ba Ea Bb Eb oa ob:Nat}{va vb:AVal}{rsa rsb:List Rr}(ta:Tb H Ba Ea va oa rsa)(tb:Tb H Bb Eb vb ob rsb)(hab:Ea≤Bb)(hEb:Eb≤H.next)(la:rsa.length<2^38)(lb:rsb.length<2^38)(sa: ∀ r∈rsa,r.l.length<2^39)(sb: ∀ r∈rsb,r.l.length<2^39)
    (ea: ∀ r∈rsa,r.l= []→Wr H r.q r.v) (eb: ∀ r∈rsb,r.l= []→Wr H r.q r.v) (wa:rsa= []→Wr H oa va) (wb:rsb= []→Wr H ob vb) :
    ∃ H',FDoes Tryz.prog cnd 17 [va,vb] H (.bool true) H'∧H.next≤H'.next∧ ∀ x,x<H.next→(x<Ba∨Ea≤x)→(x<Bb∨Eb≤x)→H'.get x=H.get x:=by
  obtain⟨ao,ac,rfl⟩:=ta.out.rd.sl
  obtain⟨bo,bc,rfl⟩:=tb.out.rd.sl
  simp only [List.length_map]at ta tb wa wb ⊢
  have goa:=ta.ge oa (by simp)
  have gob:=tb.ge ob (by simp)
  have gqa: ∀ r∈rsa,Ba≤r.q∧r.q<Ea:=fun r hr=>ta.ge r.q (List.mem_cons_of_mem _ (List.mem_map.2 ⟨r,hr,rfl⟩))
  have gqb: ∀ r∈rsb,Bb≤r.q∧r.q<Eb:=fun r hr=>tb.ge r.q (List.mem_cons_of_mem _ (List.mem_map.2 ⟨r,hr,rfl⟩))
  have nda:=ta.nd
  have ndb:=tb.nd
  rw [List.nodup_cons]at nda ndb
  have f6:=Fr.up H 6 []
  obtain⟨l1,H1,q1,e1,w1,c1,d1,fr1,n1⟩:=Rw.apps (H:=up H 6) (e:=36) (q:=H.next+4) (v:= .slice none 0 0) (els:= []) (nid:=H.next+4) (new:=vsOf rsa) (.inl ⟨rfl,rfl⟩) elR (by decide) (ta.out.rd.fr f6 (by simp)).elems (by show H.next+4<H.next+6;omega) (by simp;omega)
  have hq1:q1=H.next+4:=d1 rfl rfl
  subst hq1
  have n1:H1.next=H.next+6:=n1
  rw [List.nil_append]at w1
  have f01:Fr H H1 []:=f6.trans fr1 (by intro x hx;simp at hx;omega)
  have f4:=Fr.up H1 4 []
  obtain⟨lv,H2,oal,e2,w2,c2,d2,fr2,n2⟩:=(w1.fr f4 (by simp)).apps elR (by decide) (nid:=H1.next+2) (new:=vsOf rsb) ((tb.out.rd.fr f01 (by simp)).fr f4 (by simp)).elems (by show H1.next+2<H1.next+4;omega) (by simp;omega)
  have n2:H2.next=H.next+10:=by have:H2.next=H1.next+4:=n2;omega
  have hoal:H.next≤oal∧oal<H2.next:=by rcases c2 with c2 | c2<;>omega
  have f02:Fr H H2 []:=(f01.trans f4 (by simp)).trans fr2 (by intro x hx;simp at hx;omega)
  let rs:=rsa++rsb
  have evs:vsOf rsa++vsOf rsb=vsOf rs:=by simp [vsOf,rs]
  rw [evs]at w2
  obtain⟨lo,lc,hlv⟩:=w2.rd.sl
  rw [List.length_map]at hlv
  have hN:rs.length=rsa.length+rsb.length:=by simp [rs]
  have hmem: ∀ r∈rs,r∈rsa∨r∈rsb:=fun r hr=>List.mem_append.1 hr
  have hqlt: ∀ r∈rs,r.q<H.next:=fun r hr=>by
    rcases hmem r hr with h | h
    · have:=gqa r h;omega
    · have:=gqb r h;omega
  have hqs: ∀ x∈qsOf rs,(Ba≤x∧x<Ea∧x≠oa)∨(Bb≤x∧x<Eb∧x≠ob):=by
    intro x hx
    obtain⟨r,hr,rfl⟩:=List.mem_map.1 hx
    rcases hmem r hr with h | h
    · have:=gqa r h
      exact .inl ⟨this.1,this.2,fun e=>nda.1 (e▸List.mem_map.2 ⟨r,h,rfl⟩)⟩
    · have:=gqb r h
      exact .inr ⟨this.1,this.2,fun e=>ndb.1 (e▸List.mem_map.2 ⟨r,h,rfl⟩)⟩
  have ndq:(qsOf rs).Nodup:=by
    show(List.map (·.q) (rsa++rsb)).Nodup
    rw [List.map_append,List.nodup_append]
    refine⟨nda.2,ndb.2,fun x hx y hy=> ?_⟩
    obtain⟨r,hr,rfl⟩:=List.mem_map.1 hx
    obtain⟨s,hs,rfl⟩:=List.mem_map.1 hy
    have h1:=gqa r hr
    have h2:=gqb s hs
    omega
  have hd: ∀ i j (hi:i<rs.length) (hj:j<rs.length),i≠j→rs[i].q≠rs[j].q:=fun i j hi hj hne e=>by
    have key:=List.pairwise_iff_getElem.1 ndq
    rcases Nat.lt_or_gt_of_ne hne with h | h
    · exact key i j (by simpa using hi) (by simpa using hj) h (by simpa using e)
    · exact key j i (by simpa using hj) (by simpa using hi) h (by simpa using e.symm)
  have hoq:oal ∉ qsOf rs:=fun k=>by have:=hqs _ k;omega
  have inr: ∀ r∈rs,Rw H 9 r.q r.v (r.l.map AVal.str)∧(r.l= []→Wr H r.q r.v)∧r.l.length<2^39:=fun r hr=>by
    rcases hmem r hr with h | h
    · exact⟨ta.inn r h,ea r h,sa r h⟩
    · exact⟨tb.inn r h,eb r h,sb r h⟩
  have f3:=Fr.up H2 3 []
  have f03:Fr H (up H2 3) []:=f02.trans f3 (by simp)
  obtain⟨H3,L0,dn0,g3⟩:=ap0_loop (B:=H.next) (N:=rs.length) (va:= .slice ao rsa.length ac) (vb:= .slice bo rsb.length bc) (al:=lv) rfl (by omega) (fun r hr=>by have:=(inr r hr).2.2;omega) hoq hd rs.length 0 (up H2 3) (by omega) (by show H.next≤H2.next+3;omega) (w2.rd.fr f3 (by simp)) (fun j hj h=>absurd h (by omega)) (fun j hj _=>by
    obtain⟨x1,x2,_⟩:=inr _ (List.getElem_mem hj)
    exact⟨x1.fr f03 (by simp),fun h=>(x2 h).fr f03 (by simp)⟩)
  have n3:H2.next+3≤H3.next:=g3.next
  have f23:Fr H2 H3 (qsOf rs):=(f3.sub (M:=qsOf rs) (by simp)).trans g3 (fun x hx _=>hx)
  have r3:Rd H3 oal lv (vsOf rs):=w2.rd.fr f23 hoq
  have f4':=Fr.up H3 4 []
  obtain⟨H4,lg,olg,gs,L2,lgs,gg,sgs,wg,n4,k4⟩:=ap2_loop (B:=H.next) (N:=rs.length) (E0:=H3.next) (va:= .slice ao rsa.length ac) (vb:= .slice bo rsb.length bc) (al:=lv) (oal:=oal) rfl (by omega) (fun r hr=>(inr r hr).2.2) hoq (by omega) (fun r hr=>by have:=hqlt r hr;omega) hd rs.length 0 0 (up H3 4) (.slice none 0 0) [] (by omega) (by show H.next≤H3.next+4;omega) (by show H3.next≤H3.next+4;omega) (r3.fr f4' (by simp)) rfl (fun j hj hg=>absurd hg (by simp)) (by simp) (.inl ⟨rfl,rfl⟩) (fun _=>rfl) (fun h=>absurd rfl h) (fun j hj hg=>absurd hg (by simp)) (fun j hj _=>⟨(dn0 j hj).1.fr f4' (by simp),(dn0 j hj).2.fr f4' (by simp)⟩)
  have n4:H3.next+4≤H4.next:=n4
  have f34:Fr H3 H4 (qsOf rs):=⟨by omega,fun x hx h=>k4 x hx h⟩
  have r4:Rd H4 oal lv (vsOf rs):=r3.fr f34 hoq
  have f43:=Fr.up H4 3 []
  obtain⟨m5,hm5,L4⟩:=ap4_loop (B:=H.next) (N:=rs.length) (va:= .slice ao rsa.length ac) (vb:= .slice bo rsb.length bc) (al:=lv) (lg:=lg) rfl lgs (by omega) (fun r hr=>(inr r hr).2.2) rs.length 0 (up H4 3) (by omega) (by show H.next≤H4.next+3;omega) (r4.fr f43 (by simp)) (wg.rd.fr f43 (by simp)) (fun j hj hg=>(gg j hj hg).fr f43 (by simp) (by simp))
  have hm5:H4.next+3≤m5:=hm5
  let H5:AHeap:=⟨m5,H4.blks⟩
  let H6:AHeap:=(up H5 4).set m5 (ABlk.made [.str [111,110,101]] 1 true)
  let H7:AHeap:=H6.set (m5+1) (ABlk.made [.str [116,119,111]] 1 true)
  let ov:AVal:= .slice (some ⟨m5,0,0,0,1⟩) 1 1
  let tv:AVal:= .slice (some ⟨m5+1,0,0,0,1⟩) 1 1
  have f67:Fr H6 H7 [m5+1]:=Fr.set H6 _ _ (by simp)
  have r7a:Rd H7 m5 ov [.str [111,110,101]]:=(rd_made (up H5 4) m5 _ (by show m5<m5+4;omega)).fr f67 (by simp)
  have r7b:Rd H7 (m5+1) tv [.str [116,119,111]]:=rd_made H6 (m5+1) _ (by show m5+1<m5+4;omega)
  have f47:Fr H4 H7 []:=by
    refine⟨by show H4.next≤m5+4;omega,fun x hx _=> ?_⟩
    show(AHeap.set _ _ _).get x=_
    rw [AHeap.get_set_ne _ _ (by omega)]
    show(AHeap.set _ _ _).get x=_
    rw [AHeap.get_set_ne _ _ (by omega)]
    rfl
  have f07:Fr H H7 (qsOf rs):=(((f02.sub (M:=qsOf rs) (by simp)).trans f23 (fun x hx _=>hx)).trans f34 (fun x hx _=>hx)).trans f47 (by simp)
  have noa:oa ∉ qsOf rs:=fun k=>by have:=hqs _ k;omega
  have nob:ob ∉ qsOf rs:=fun k=>by have:=hqs _ k;omega
  have f73:=Fr.up H7 3 []
  have n7:H7.next=m5+4:=rfl
  obtain⟨H8,L6,w8,wr8,f8⟩:=ap6_loop (B:=H.next) (N:=rsa.length) (va:= .slice ao rsa.length ac) (vb:= .slice bo rsb.length bc) (ov:=ov) (tv:=tv) (oa:=oa) (by omega) rfl (vsOf rsa) 0 (up H7 3) (by simp) (by show H.next≤H7.next+3;omega) ((ta.out.fr f07 noa).fr f73 (by simp)) (fun x hx=>by obtain⟨r,hr,rfl⟩:=List.mem_map.1 hx;exact(ta.inn r hr).rd.sv) (fun h=>((wa (by simpa using h)).fr f07 noa).fr f73 (by simp))
  have n8:H7.next+3≤H8.next:=f8.next
  have f78:Fr H7 H8 [oa]:=(f73.sub (M:= [oa]) (by simp)).trans f8 (fun x hx _=>hx)
  have f83:=Fr.up H8 3 []
  have obA:ob ∉ [oa]:=by simp;omega
  have oaB:oa ∉ [ob]:=by simp;omega
  obtain⟨H9,L7,w9,wr9,f9⟩:=ap7_loop (B:=H.next) (N:=rsb.length) (va:= .slice ao rsa.length ac) (vb:= .slice bo rsb.length bc) (ov:=ov) (tv:=tv) (oa:=ob) (by omega) rfl (vsOf rsb) 0 (up H8 3) (by simp) (by show H.next≤H8.next+3;omega) (((tb.out.fr f07 nob).fr f78 obA).fr f83 (by simp)) (fun x hx=>by obtain⟨r,hr,rfl⟩:=List.mem_map.1 hx;exact(tb.inn r hr).rd.sv) (fun h=>(((wb (by simpa using h)).fr f07 nob).fr f78 obA).fr f83 (by simp))
  have n9:H8.next+3≤H9.next:=f9.next
  have f89:Fr H8 H9 [ob]:=(f83.sub (M:= [ob]) (by simp)).trans f9 (fun x hx _=>hx)
  have f95:=Fr.up H9 5 []
  obtain⟨H10,x,y,qx,qy,L8,gx,gy,n10,k10⟩:=ap8_loop (B:=H.next) (E:=H9.next) (va:= .slice ao rsa.length ac) (vb:= .slice bo rsb.length bc) (ov:=ov) (tv:=tv) (oa:=oa) (ob:=ob) (la:=List.replicate rsa.length ov) (lb:=List.replicate rsb.length tv) (by simp;omega) (by simp;omega) rfl rfl (by omega) (by omega) (by omega) 20 0 oa ob (up H9 5) (.slice ao rsa.length ac) (.slice bo rsb.length bc) (by omega) (by show H.next≤H9.next+5;omega) (by show H9.next≤H9.next+5;omega) (.inl rfl) (.inl rfl) (by omega) (by show oa<H9.next+5;omega) (by show ob<H9.next+5;omega) (.inl ⟨rfl,rfl,rfl,(w8.fr f89 oaB).fr f95 (by simp),(wr8.fr f89 oaB).fr f95 (by simp)⟩) (.inl ⟨rfl,rfl,rfl,w9.fr f95 (by simp),wr9.fr f95 (by simp)⟩)
  have n10:H9.next+5≤H10.next:=n10
  have f9x:Fr H9 H10 [oa,ob]:=⟨by omega,fun z hz h=>by
    simp only [List.mem_cons,List.not_mem_nil,or_false,not_or]at h
    exact k10 z hz h.1 h.2⟩
  have p1:Rd H10 m5 ov [.str [111,110,101]]:=((r7a.fr f78 (by simp;omega)).fr f89 (by simp;omega)).fr f9x (by simp;omega)
  have p2:Rd H10 (m5+1) tv [.str [116,119,111]]:=((r7b.fr f78 (by simp;omega)).fr f89 (by simp;omega)).fr f9x (by simp;omega)
  obtain⟨ra,rx⟩:=gx.rd
  obtain⟨rb,ry⟩:=gy.rd
  rw [List.replicate_append_replicate]at rx ry
  obtain⟨xo,xc,hx⟩:=rx.sl
  obtain⟨yo,yc,hy⟩:=ry.sl
  rw [List.length_replicate]at hx hy
  subst hx hy
  have fx3:=Fr.up H10 3 []
  obtain⟨m11,hm11,L9⟩:=ap9_loop (B:=H.next) (ao:=ao) (ac:=ac) (vb:= .slice bo rsb.length bc) (y:= .slice yo (rsb.length+20) yc) (na:=rsa.length) (by omega) (rsa.length+20) 0 (up H10 3) (by omega) (by show H.next≤H10.next+3;omega) (ra.fr fx3 (by simp)) (rx.fr fx3 (by simp)) (p1.fr fx3 (by simp))
  have hm11:H10.next+3≤m11:=hm11
  have fx4:Fr H10 ⟨m11+3,H10.blks⟩ []:=⟨by show H10.next≤m11+3;omega,fun _ _ _=>rfl⟩
  obtain⟨m12,hm12,L10⟩:=ap10_loop (B:=H.next) (ao:=bo) (ac:=bc) (na:=rsb.length) (by omega) (rsb.length+20) 0 ⟨m11+3,H10.blks⟩ (by omega) (by show H.next≤m11+3;omega) (rb.fr fx4 (by simp)) (ry.fr fx4 (by simp)) (p2.fr fx4 (by simp))
  have hm12:m11+3≤m12:=hm12
  subst hlv
  obtain⟨v,h1,hd',rfl,rfl⟩:=apart_vc H H1 H2 H3 H4 H5 H6 H7 H8 H9 H10 ⟨m11,H10.blks⟩ ⟨m12,H10.blks⟩ H lo rs.length lc rsa.length ac rsb.length bc (rsa.length+20) xc (rsb.length+20) yc m5 (m5+1) ao bo xo yo l1 lg (fun v h1=>v= .bool true∧h1=⟨m12+1,H10.blks⟩)
    (bifL (Nat.le_refl _) (bifL (by omega) (bifL (by omega) ⟨e1,bifL (by omega) ⟨e2,bifL (by omega) ⟨Runs.of_loops L0,bifL (by omega) (bifL (by omega) ⟨Runs.of_loops L2,bifL (by omega) ⟨Runs.of_loops L4,bifL (by show H.next≤m5;omega) ⟨bOne _ _ _,bTwo _ _ _,bifL (by show H.next≤m5+4;omega) ⟨Runs.of_loops L6,bifL (by omega) ⟨Runs.of_loops L7,bifL (by omega) (bifL (by omega) ⟨Runs.of_loops L8,bifL (by omega) ⟨Runs.of_loops L9,bifL (by show H.next≤m11;omega) ⟨Runs.of_loops L10,bifL (by show H.next≤m12;omega) (condL (by show H.next≤m12+1;omega) ⟨rfl,rfl⟩)⟩⟩⟩)⟩⟩⟩⟩⟩)⟩⟩⟩)))
  refine⟨_,hd',by show H.next≤m12+1;omega,fun z hz ha hb=> ?_⟩
  show H10.get z=H.get z
  rw [f9x.get z (by omega) (by simp;omega),f89.get z (by omega) (by simp;omega),f78.get z (by omega) (by simp;omega),f07.get z hz (fun k=>by have:=hqs _ k;omega)]
end Go.Proofs.YtjpfnbihopoeeaaGreatDoor
namespace Go.Proofs.YtjpfnbihopoeeaaGreatDoor
open Go.Lift
set_option maxRecDepth 1000000
def numI(o:Option Int):Int:=o.getD 0
def numB(o:Option Int):Bool:=o.isSome
theorem numA_eq(o:Option Int):numA o= .tuple [.int .i64 (numI o),.bool (numB o)]:=by cases o<;>rfl
noncomputable def numbS:List AVal→AHeap→Option Alts:=pureS fun a=>match a with | [.str s]=>some (.tuple [.int .i64 (numI (numD s)),.bool (numB (numD s))],[s.length<2^48]) | _=>none
theorem numbS_ok: ∀ args h a,numbS args h=some a→a.Ok Tryz.prog cnd 65 args h:=by
  refine pureS_ok ?_
  intro args v ps e hp H
  split at e<;>first | (cases e;done) | skip
  simp only [Option.some.injEq,Prod.mk.injEq]at e
  obtain⟨rfl,rfl⟩:=e
  have k:=num_does _ hp.head H
  rwa [numA_eq]at k
theorem dnumS_ok: ∀ args h a,numbS args h=some a→a.Ok Tryz.prog cnd 68 args h:=by
  refine pureS_ok ?_
  intro args v ps e hp H
  split at e<;>first | (cases e;done) | skip
  simp only [Option.some.injEq,Prod.mk.injEq]at e
  obtain⟨rfl,rfl⟩:=e
  have k:=dnum_does _ hp.head H
  rwa [numA_eq]at k
def signS:List AVal→AHeap→Option Alts:=pureS fun a=>match a with | [.bool x,.bool y]=>some (.int .i64 (sgnV x y),[]) | _=>none
theorem signS_ok: ∀ args h a,signS args h=some a→a.Ok Tryz.prog cnd 69 args h:=by
  refine pureS_ok ?_
  intro args v ps e hp H
  split at e<;>first | (cases e;done) | skip
  simp only [Option.some.injEq,Prod.mk.injEq]at e
  obtain⟨rfl,rfl⟩:=e
  exact sign_does _ _ H
def cmpiS:List AVal→AHeap→Option Alts:=pureS fun a=>match a with | [.int .i64 x,.int .i64 y]=>some (.int .i64 (sgnV (decide (x<y)) (decide (y<x))),[]) | _=>none
theorem cmpiS_ok: ∀ args h a,cmpiS args h=some a→a.Ok Tryz.prog cnd 66 args h:=by
  refine pureS_ok ?_
  intro args v ps e hp H
  split at e<;>first | (cases e;done) | skip
  simp only [Option.some.injEq,Prod.mk.injEq]at e
  obtain⟨rfl,rfl⟩:=e
  exact cmpi_does _ _ H
def cmpsS:List AVal→AHeap→Option Alts:=pureS fun a=>match a with | [.str x,.str y]=>some (.int .i64 (Lib.compareBytes x y),[]) | _=>none
theorem cmpsS_ok: ∀ args h a,cmpsS args h=some a→a.Ok Tryz.prog cnd 121 args h:=by
  refine pureS_ok ?_
  intro args v ps e hp H
  split at e<;>first | (cases e;done) | skip
  simp only [Option.some.injEq,Prod.mk.injEq]at e
  obtain⟨rfl,rfl⟩:=e
  exact cmps_does _ _ H
noncomputable def specsB:Specs:=((((noSpecs.add 65 numbS).add 68 numbS).add 69 signS).add 66 cmpiS).add 121 cmpsS
theorem specsB_ok:SpecsOk Tryz.prog cnd specsB:=((((noSpecs_ok.add numbS_ok).add dnumS_ok).add signS_ok).add cmpiS_ok).add cmpsS_ok
theorem byT_vc(H H1 H2:AHeap)(va vb:AVal)(p q:Nat)(k:Int)(x y:List UInt8)(K0:AVal→AHeap→Prop)(vc:bif Nat.ble (AHeap.next H) (AHeap.next H) && true then bif Nat.ble (AHeap.next H) (AHeap.next H+1) && true then aload (AEnv.D env) 4 ⟨p,0,0,0,1⟩ (AHeap.mk (AHeap.next H+2) (H.2))=some (AVal.bool true)∧bif Nat.ble (AHeap.next H) (AHeap.next H+2) && true then bif Nat.ble (AHeap.next H) (AHeap.next H+6) && true then aload (AEnv.D env) 3 ⟨q,0,0,0,1⟩ (AHeap.mk (AHeap.next H+14) (H.2))=some (AVal.int IntKind.i64 k)∧q<AHeap.next H+6∧CallT Tryz.prog cnd 49 [vb,AVal.int IntKind.i64 k] (AHeap.mk (AHeap.next H+14) (H.2)) (AVal.str x) H1∧sameOld (AHeap.next H+14) (AHeap.mk (AHeap.next H+14) (H.2)) H1=true∧aload (AEnv.D env) 3 ⟨q,0,0,0,1⟩ H1=some (AVal.int IntKind.i64 k)∧q<AHeap.next H+6∧CallT Tryz.prog cnd 49 [va,AVal.int IntKind.i64 k] H1 (AVal.str y) H2∧Agree [vb,AVal.int IntKind.i64 k] [va,AVal.int IntKind.i64 k] (AHeap.mk (AHeap.next H+14) (H.2)) H1 (AVal.str x) (AVal.str y) H1 H2∧bif Nat.ble (AHeap.next H) (AHeap.next H2) && true then List.length x<281474976710656∧(numB (numD x)=true→bif Nat.ble (AHeap.next H) (AHeap.next H2+7) && true then List.length y<281474976710656∧(numB (numD y)=true→bif Nat.ble (AHeap.next H) (AHeap.next H2+14) && true then bif Nat.ble (AHeap.next H) (AHeap.next H2+19) && true then bif Nat.ble (AHeap.next H) (AHeap.next H2+23)then K0 (AVal.int IntKind.i64 (sgnV (decide (numI (numD x)<numI (numD y))) (decide (numI (numD y)<numI (numD x))))) (AHeap.mk (AHeap.next H2+19+4) (AHeap.blks (AHeap.mk (AHeap.next H2+14+5) (AHeap.blks (AHeap.mk (AHeap.next H2+7+7) (AHeap.blks (AHeap.mk (AHeap.next H2+7) (AHeap.blks H2))))))))else False else False else False)∧(numB (numD y)=false→bif Nat.ble (AHeap.next H) (AHeap.next H2+14) && true then bif Nat.ble (AHeap.next H) (AHeap.next H2+19) && true then bif Nat.ble (AHeap.next H) (AHeap.next H2+21) && true then bif Nat.ble (AHeap.next H) (AHeap.next H2+22)then K0 (AVal.int IntKind.i64 (-1)) (AHeap.mk (AHeap.next H2+21+1) (AHeap.blks (AHeap.mk (AHeap.next H2+19+2) (AHeap.blks (AHeap.mk (AHeap.next H2+14+5) (AHeap.blks (AHeap.mk (AHeap.next H2+7+7) (AHeap.blks (AHeap.mk (AHeap.next H2+7) (AHeap.blks H2))))))))))else False else False else False else False)else False)∧(numB (numD x)=false→bif Nat.ble (AHeap.next H) (AHeap.next H2+7) && true then List.length y<281474976710656∧(numB (numD y)=true→bif Nat.ble (AHeap.next H) (AHeap.next H2+14) && true then bif Nat.ble (AHeap.next H) (AHeap.next H2+19) && true then bif Nat.ble (AHeap.next H) (AHeap.next H2+21) && true then bif Nat.ble (AHeap.next H) (AHeap.next H2+23) && true then bif Nat.ble (AHeap.next H) (AHeap.next H2+24)then K0 (AVal.int IntKind.i64 (1)) (AHeap.mk (AHeap.next H2+23+1) (AHeap.blks (AHeap.mk (AHeap.next H2+21+2) (AHeap.blks (AHeap.mk (AHeap.next H2+19+2) (AHeap.blks (AHeap.mk (AHeap.next H2+14+5) (AHeap.blks (AHeap.mk (AHeap.next H2+7+7) (AHeap.blks (AHeap.mk (AHeap.next H2+7) (AHeap.blks H2))))))))))))else False else False else False else False else False)∧(numB (numD y)=false→bif Nat.ble (AHeap.next H) (AHeap.next H2+14) && true then bif Nat.ble (AHeap.next H) (AHeap.next H2+19) && true then bif Nat.ble (AHeap.next H) (AHeap.next H2+21) && true then bif Nat.ble (AHeap.next H) (AHeap.next H2+23) && true then bif Nat.ble (AHeap.next H2+27) (AHeap.next H2+27) && true then bif Nat.ble (AHeap.next H2+27) (AHeap.next H2+28) && true then bif Nat.ble (AHeap.next H2+27) (AHeap.next H2+32)then bif Nat.ble (AHeap.next H) (AHeap.next H2+32)then K0 (AVal.int IntKind.i64 (Lib.compareBytes x y)) (AHeap.mk (AHeap.next H2+28+4) (AHeap.blks (AHeap.mk (AHeap.next H2+27+1) (AHeap.blks (AHeap.mk (AHeap.next H2+23+4) (AHeap.blks (AHeap.mk (AHeap.next H2+21+2) (AHeap.blks (AHeap.mk (AHeap.next H2+19+2) (AHeap.blks (AHeap.mk (AHeap.next H2+14+5) (AHeap.blks (AHeap.mk (AHeap.next H2+7+7) (AHeap.blks (AHeap.mk (AHeap.next H2+7) (AHeap.blks H2))))))))))))))))else False else False else False else False else False else False else False else False)else False)else False else False else False else False else False) :
    ∃ v h1,FDoes Tryz.prog cnd 64 [va,vb,.ptr (some ⟨p,0,0,0,1⟩),.ptr (some ⟨q,0,0,0,1⟩)] H v h1∧K0 v h1 :=
  tcall_does env_ok mixed specsB_ok (hs:= .hint (.val 1000 (AVal.bool true)) (.hint (.farV 3001 (AVal.int IntKind.i64 k)) (.hint (.act 3002 (AVal.str x) fun x=>H1) (.hint (.farV 3004 (AVal.int IntKind.i64 k)) (.hint (.act 3005 (AVal.str y) fun x=>H2) (.br 4004 (.br 5004 .nil .nil) (.br 5004 .nil (.hint (.enter 12002) .nil)))))))) (by kernel_rfl) vc
theorem byF_vc(H H1 H2:AHeap)(va vb:AVal)(p q:Nat)(k:Int)(x y:List UInt8)(K0:AVal→AHeap→Prop)(vc:bif Nat.ble (AHeap.next H) (AHeap.next H) && true then bif Nat.ble (AHeap.next H) (AHeap.next H+1) && true then aload (AEnv.D env) 4 ⟨p,0,0,0,1⟩ (AHeap.mk (AHeap.next H+2) (H.2))=some (AVal.bool false)∧bif Nat.ble (AHeap.next H) (AHeap.next H+2) && true then aload (AEnv.D env) 3 ⟨q,0,0,0,1⟩ (AHeap.mk (AHeap.next H+10) (H.2))=some (AVal.int IntKind.i64 k)∧q<AHeap.next H+2∧CallT Tryz.prog cnd 49 [va,AVal.int IntKind.i64 k] (AHeap.mk (AHeap.next H+10) (H.2)) (AVal.str x) H1∧sameOld (AHeap.next H+10) (AHeap.mk (AHeap.next H+10) (H.2)) H1=true∧aload (AEnv.D env) 3 ⟨q,0,0,0,1⟩ H1=some (AVal.int IntKind.i64 k)∧q<AHeap.next H+2∧CallT Tryz.prog cnd 49 [vb,AVal.int IntKind.i64 k] H1 (AVal.str y) H2∧Agree [va,AVal.int IntKind.i64 k] [vb,AVal.int IntKind.i64 k] (AHeap.mk (AHeap.next H+10) (H.2)) H1 (AVal.str x) (AVal.str y) H1 H2∧bif Nat.ble (AHeap.next H) (AHeap.next H2) && true then List.length x<281474976710656∧(numB (numD x)=true→bif Nat.ble (AHeap.next H) (AHeap.next H2+7) && true then List.length y<281474976710656∧(numB (numD y)=true→bif Nat.ble (AHeap.next H) (AHeap.next H2+14) && true then bif Nat.ble (AHeap.next H) (AHeap.next H2+19) && true then bif Nat.ble (AHeap.next H) (AHeap.next H2+23)then K0 (AVal.int IntKind.i64 (sgnV (decide (numI (numD x)<numI (numD y))) (decide (numI (numD y)<numI (numD x))))) (AHeap.mk (AHeap.next H2+19+4) (AHeap.blks (AHeap.mk (AHeap.next H2+14+5) (AHeap.blks (AHeap.mk (AHeap.next H2+7+7) (AHeap.blks (AHeap.mk (AHeap.next H2+7) (AHeap.blks H2))))))))else False else False else False)∧(numB (numD y)=false→bif Nat.ble (AHeap.next H) (AHeap.next H2+14) && true then bif Nat.ble (AHeap.next H) (AHeap.next H2+19) && true then bif Nat.ble (AHeap.next H) (AHeap.next H2+21) && true then bif Nat.ble (AHeap.next H) (AHeap.next H2+22)then K0 (AVal.int IntKind.i64 (-1)) (AHeap.mk (AHeap.next H2+21+1) (AHeap.blks (AHeap.mk (AHeap.next H2+19+2) (AHeap.blks (AHeap.mk (AHeap.next H2+14+5) (AHeap.blks (AHeap.mk (AHeap.next H2+7+7) (AHeap.blks (AHeap.mk (AHeap.next H2+7) (AHeap.blks H2))))))))))else False else False else False else False)else False)∧(numB (numD x)=false→bif Nat.ble (AHeap.next H) (AHeap.next H2+7) && true then List.length y<281474976710656∧(numB (numD y)=true→bif Nat.ble (AHeap.next H) (AHeap.next H2+14) && true then bif Nat.ble (AHeap.next H) (AHeap.next H2+19) && true then bif Nat.ble (AHeap.next H) (AHeap.next H2+21) && true then bif Nat.ble (AHeap.next H) (AHeap.next H2+23) && true then bif Nat.ble (AHeap.next H) (AHeap.next H2+24)then K0 (AVal.int IntKind.i64 (1)) (AHeap.mk (AHeap.next H2+23+1) (AHeap.blks (AHeap.mk (AHeap.next H2+21+2) (AHeap.blks (AHeap.mk (AHeap.next H2+19+2) (AHeap.blks (AHeap.mk (AHeap.next H2+14+5) (AHeap.blks (AHeap.mk (AHeap.next H2+7+7) (AHeap.blks (AHeap.mk (AHeap.next H2+7) (AHeap.blks H2))))))))))))else False else False else False else False else False)∧(numB (numD y)=false→bif Nat.ble (AHeap.next H) (AHeap.next H2+14) && true then bif Nat.ble (AHeap.next H) (AHeap.next H2+19) && true then bif Nat.ble (AHeap.next H) (AHeap.next H2+21) && true then bif Nat.ble (AHeap.next H) (AHeap.next H2+23) && true then bif Nat.ble (AHeap.next H2+27) (AHeap.next H2+27) && true then bif Nat.ble (AHeap.next H2+27) (AHeap.next H2+28) && true then bif Nat.ble (AHeap.next H2+27) (AHeap.next H2+32)then bif Nat.ble (AHeap.next H) (AHeap.next H2+32)then K0 (AVal.int IntKind.i64 (Lib.compareBytes x y)) (AHeap.mk (AHeap.next H2+28+4) (AHeap.blks (AHeap.mk (AHeap.next H2+27+1) (AHeap.blks (AHeap.mk (AHeap.next H2+23+4) (AHeap.blks (AHeap.mk (AHeap.next H2+21+2) (AHeap.blks (AHeap.mk (AHeap.next H2+19+2) (AHeap.blks (AHeap.mk (AHeap.next H2+14+5) (AHeap.blks (AHeap.mk (AHeap.next H2+7+7) (AHeap.blks (AHeap.mk (AHeap.next H2+7) (AHeap.blks H2))))))))))))))))else False else False else False else False else False else False else False else False)else False)else False else False else False else False) :
    ∃ v h1,FDoes Tryz.prog cnd 64 [va,vb,.ptr (some ⟨p,0,0,0,1⟩),.ptr (some ⟨q,0,0,0,1⟩)] H v h1∧K0 v h1 :=
  tcall_does env_ok mixed specsB_ok (hs:= .hint (.val 1000 (AVal.bool false)) (.hint (.farV 3001 (AVal.int IntKind.i64 k)) (.hint (.act 3002 (AVal.str x) fun x=>H1) (.hint (.farV 3004 (AVal.int IntKind.i64 k)) (.hint (.act 3005 (AVal.str y) fun x=>H2) (.br 4004 (.br 5004 .nil .nil) (.br 5004 .nil (.hint (.enter 12002) .nil)))))))) (by kernel_rfl) vc
theorem cmp_vc(H H1 H2:AHeap)(va vb:AVal)(k:Int)(d:Bool)(x y:List UInt8)(K0:AVal→AHeap→Prop)(vc:bif Nat.ble (AHeap.next H) (AHeap.next H) && true then bif Nat.ble (AHeap.next H) (AHeap.next H+1) && true then CallT Tryz.prog cnd 55 [va,AVal.int IntKind.i64 k] (AHeap.mk (AHeap.next H+5) (H.2)) (AVal.str x) H1∧bif Nat.ble (AHeap.next H) (AHeap.next H1) && true then CallT Tryz.prog cnd 55 [vb,AVal.int IntKind.i64 k] (AHeap.mk (AHeap.next H1+4) (H1.2)) (AVal.str y) H2∧bif Nat.ble (AHeap.next H) (AHeap.next H2) && true then List.length x<281474976710656∧(numB (numD x)=true→bif Nat.ble (AHeap.next H) (AHeap.next H2+7) && true then List.length y<281474976710656∧(numB (numD y)=true→bif Nat.ble (AHeap.next H) (AHeap.next H2+14) && true then bif Nat.ble (AHeap.next H) (AHeap.next H2+15) && true then bif Nat.ble (AHeap.next H) (AHeap.next H2+20) && true then(numI (numD x)<numI (numD y)→(numI (numD y)<numI (numD x)→bif Nat.ble (AHeap.next H) (AHeap.next H2+28) && true then(d=true→bif Nat.ble (AHeap.next H) (AHeap.next H2+29) && true then bif Nat.ble (AHeap.next H) (AHeap.next H2+32)then K0 (AVal.int IntKind.i64 (1)) (AHeap.mk (AHeap.next H2+29+3) (AHeap.blks (AHeap.mk (AHeap.next H2+28+1) (AHeap.blks (AHeap.mk (AHeap.next H2+20+8) (AHeap.blks (AHeap.mk (AHeap.next H2+15+5) (AHeap.blks (AHeap.mk (AHeap.next H2+14+1) (AHeap.blks (AHeap.mk (AHeap.next H2+7+7) (AHeap.blks (AHeap.mk (AHeap.next H2+7) (AHeap.blks H2))))))))))))))else False else False)∧(d=false→bif Nat.ble (AHeap.next H) (AHeap.next H2+29) && true then bif Nat.ble (AHeap.next H) (AHeap.next H2+31)then K0 (AVal.int IntKind.i64 (-1)) (AHeap.mk (AHeap.next H2+29+2) (AHeap.blks (AHeap.mk (AHeap.next H2+28+1) (AHeap.blks (AHeap.mk (AHeap.next H2+20+8) (AHeap.blks (AHeap.mk (AHeap.next H2+15+5) (AHeap.blks (AHeap.mk (AHeap.next H2+14+1) (AHeap.blks (AHeap.mk (AHeap.next H2+7+7) (AHeap.blks (AHeap.mk (AHeap.next H2+7) (AHeap.blks H2))))))))))))))else False else False)else False)∧(¬numI (numD y)<numI (numD x)→bif Nat.ble (AHeap.next H) (AHeap.next H2+28) && true then(d=true→bif Nat.ble (AHeap.next H) (AHeap.next H2+29) && true then bif Nat.ble (AHeap.next H) (AHeap.next H2+32)then K0 (AVal.int IntKind.i64 (1)) (AHeap.mk (AHeap.next H2+29+3) (AHeap.blks (AHeap.mk (AHeap.next H2+28+1) (AHeap.blks (AHeap.mk (AHeap.next H2+20+8) (AHeap.blks (AHeap.mk (AHeap.next H2+15+5) (AHeap.blks (AHeap.mk (AHeap.next H2+14+1) (AHeap.blks (AHeap.mk (AHeap.next H2+7+7) (AHeap.blks (AHeap.mk (AHeap.next H2+7) (AHeap.blks H2))))))))))))))else False else False)∧(d=false→bif Nat.ble (AHeap.next H) (AHeap.next H2+29) && true then bif Nat.ble (AHeap.next H) (AHeap.next H2+31)then K0 (AVal.int IntKind.i64 (-1)) (AHeap.mk (AHeap.next H2+29+2) (AHeap.blks (AHeap.mk (AHeap.next H2+28+1) (AHeap.blks (AHeap.mk (AHeap.next H2+20+8) (AHeap.blks (AHeap.mk (AHeap.next H2+15+5) (AHeap.blks (AHeap.mk (AHeap.next H2+14+1) (AHeap.blks (AHeap.mk (AHeap.next H2+7+7) (AHeap.blks (AHeap.mk (AHeap.next H2+7) (AHeap.blks H2))))))))))))))else False else False)else False))∧(¬numI (numD x)<numI (numD y)→(numI (numD y)<numI (numD x)→bif Nat.ble (AHeap.next H) (AHeap.next H2+28) && true then(d=true→bif Nat.ble (AHeap.next H) (AHeap.next H2+29) && true then bif Nat.ble (AHeap.next H) (AHeap.next H2+32)then K0 (AVal.int IntKind.i64 (-1)) (AHeap.mk (AHeap.next H2+29+3) (AHeap.blks (AHeap.mk (AHeap.next H2+28+1) (AHeap.blks (AHeap.mk (AHeap.next H2+20+8) (AHeap.blks (AHeap.mk (AHeap.next H2+15+5) (AHeap.blks (AHeap.mk (AHeap.next H2+14+1) (AHeap.blks (AHeap.mk (AHeap.next H2+7+7) (AHeap.blks (AHeap.mk (AHeap.next H2+7) (AHeap.blks H2))))))))))))))else False else False)∧(d=false→bif Nat.ble (AHeap.next H) (AHeap.next H2+29) && true then bif Nat.ble (AHeap.next H) (AHeap.next H2+31)then K0 (AVal.int IntKind.i64 (1)) (AHeap.mk (AHeap.next H2+29+2) (AHeap.blks (AHeap.mk (AHeap.next H2+28+1) (AHeap.blks (AHeap.mk (AHeap.next H2+20+8) (AHeap.blks (AHeap.mk (AHeap.next H2+15+5) (AHeap.blks (AHeap.mk (AHeap.next H2+14+1) (AHeap.blks (AHeap.mk (AHeap.next H2+7+7) (AHeap.blks (AHeap.mk (AHeap.next H2+7) (AHeap.blks H2))))))))))))))else False else False)else False)∧(¬numI (numD y)<numI (numD x)→bif Nat.ble (AHeap.next H) (AHeap.next H2+28) && true then(d=true→bif Nat.ble (AHeap.next H) (AHeap.next H2+29) && true then bif Nat.ble (AHeap.next H) (AHeap.next H2+32)then K0 (AVal.int IntKind.i64 (0)) (AHeap.mk (AHeap.next H2+29+3) (AHeap.blks (AHeap.mk (AHeap.next H2+28+1) (AHeap.blks (AHeap.mk (AHeap.next H2+20+8) (AHeap.blks (AHeap.mk (AHeap.next H2+15+5) (AHeap.blks (AHeap.mk (AHeap.next H2+14+1) (AHeap.blks (AHeap.mk (AHeap.next H2+7+7) (AHeap.blks (AHeap.mk (AHeap.next H2+7) (AHeap.blks H2))))))))))))))else False else False)∧(d=false→bif Nat.ble (AHeap.next H) (AHeap.next H2+29) && true then bif Nat.ble (AHeap.next H) (AHeap.next H2+31)then K0 (AVal.int IntKind.i64 (0)) (AHeap.mk (AHeap.next H2+29+2) (AHeap.blks (AHeap.mk (AHeap.next H2+28+1) (AHeap.blks (AHeap.mk (AHeap.next H2+20+8) (AHeap.blks (AHeap.mk (AHeap.next H2+15+5) (AHeap.blks (AHeap.mk (AHeap.next H2+14+1) (AHeap.blks (AHeap.mk (AHeap.next H2+7+7) (AHeap.blks (AHeap.mk (AHeap.next H2+7) (AHeap.blks H2))))))))))))))else False else False)else False))else False else False else False)∧(numB (numD y)=false→bif Nat.ble (AHeap.next H) (AHeap.next H2+14) && true then bif Nat.ble (AHeap.next H) (AHeap.next H2+15) && true then bif Nat.ble (AHeap.next H) (AHeap.next H2+20) && true then bif Nat.ble (AHeap.next H) (AHeap.next H2+24) && true then bif Nat.ble (AHeap.next H) (AHeap.next H2+28) && true then(d=true→bif Nat.ble (AHeap.next H) (AHeap.next H2+29) && true then bif Nat.ble (AHeap.next H) (AHeap.next H2+32)then K0 (AVal.int IntKind.i64 (1)) (AHeap.mk (AHeap.next H2+29+3) (AHeap.blks (AHeap.mk (AHeap.next H2+28+1) (AHeap.blks (AHeap.mk (AHeap.next H2+24+4) (AHeap.blks (AHeap.mk (AHeap.next H2+20+4) (AHeap.blks (AHeap.mk (AHeap.next H2+15+5) (AHeap.blks (AHeap.mk (AHeap.next H2+14+1) (AHeap.blks (AHeap.mk (AHeap.next H2+7+7) (AHeap.blks (AHeap.mk (AHeap.next H2+7) (AHeap.blks H2))))))))))))))))else False else False)∧(d=false→bif Nat.ble (AHeap.next H) (AHeap.next H2+29) && true then bif Nat.ble (AHeap.next H) (AHeap.next H2+31)then K0 (AVal.int IntKind.i64 (-1)) (AHeap.mk (AHeap.next H2+29+2) (AHeap.blks (AHeap.mk (AHeap.next H2+28+1) (AHeap.blks (AHeap.mk (AHeap.next H2+24+4) (AHeap.blks (AHeap.mk (AHeap.next H2+20+4) (AHeap.blks (AHeap.mk (AHeap.next H2+15+5) (AHeap.blks (AHeap.mk (AHeap.next H2+14+1) (AHeap.blks (AHeap.mk (AHeap.next H2+7+7) (AHeap.blks (AHeap.mk (AHeap.next H2+7) (AHeap.blks H2))))))))))))))))else False else False)else False else False else False else False else False)else False)∧(numB (numD x)=false→bif Nat.ble (AHeap.next H) (AHeap.next H2+7) && true then List.length y<281474976710656∧(numB (numD y)=true→bif Nat.ble (AHeap.next H) (AHeap.next H2+14) && true then bif Nat.ble (AHeap.next H) (AHeap.next H2+15) && true then bif Nat.ble (AHeap.next H) (AHeap.next H2+20) && true then bif Nat.ble (AHeap.next H) (AHeap.next H2+24) && true then bif Nat.ble (AHeap.next H) (AHeap.next H2+28) && true then(d=true→bif Nat.ble (AHeap.next H) (AHeap.next H2+29) && true then bif Nat.ble (AHeap.next H) (AHeap.next H2+32)then K0 (AVal.int IntKind.i64 (-1)) (AHeap.mk (AHeap.next H2+29+3) (AHeap.blks (AHeap.mk (AHeap.next H2+28+1) (AHeap.blks (AHeap.mk (AHeap.next H2+24+4) (AHeap.blks (AHeap.mk (AHeap.next H2+20+4) (AHeap.blks (AHeap.mk (AHeap.next H2+15+5) (AHeap.blks (AHeap.mk (AHeap.next H2+14+1) (AHeap.blks (AHeap.mk (AHeap.next H2+7+7) (AHeap.blks (AHeap.mk (AHeap.next H2+7) (AHeap.blks H2))))))))))))))))else False else False)∧(d=false→bif Nat.ble (AHeap.next H) (AHeap.next H2+29) && true then bif Nat.ble (AHeap.next H) (AHeap.next H2+31)then K0 (AVal.int IntKind.i64 (1)) (AHeap.mk (AHeap.next H2+29+2) (AHeap.blks (AHeap.mk (AHeap.next H2+28+1) (AHeap.blks (AHeap.mk (AHeap.next H2+24+4) (AHeap.blks (AHeap.mk (AHeap.next H2+20+4) (AHeap.blks (AHeap.mk (AHeap.next H2+15+5) (AHeap.blks (AHeap.mk (AHeap.next H2+14+1) (AHeap.blks (AHeap.mk (AHeap.next H2+7+7) (AHeap.blks (AHeap.mk (AHeap.next H2+7) (AHeap.blks H2))))))))))))))))else False else False)else False else False else False else False else False)∧(numB (numD y)=false→bif Nat.ble (AHeap.next H) (AHeap.next H2+14) && true then bif Nat.ble (AHeap.next H) (AHeap.next H2+15) && true then bif Nat.ble (AHeap.next H) (AHeap.next H2+20) && true then bif Nat.ble (AHeap.next H) (AHeap.next H2+24) && true then(Op.bytesLess x y=true→((!(Op.bytesLess x y || x == y))=true→bif Nat.ble (AHeap.next H) (AHeap.next H2+32) && true then(d=true→bif Nat.ble (AHeap.next H) (AHeap.next H2+33) && true then bif Nat.ble (AHeap.next H) (AHeap.next H2+36)then K0 (AVal.int IntKind.i64 (1)) (AHeap.mk (AHeap.next H2+33+3) (AHeap.blks (AHeap.mk (AHeap.next H2+32+1) (AHeap.blks (AHeap.mk (AHeap.next H2+24+8) (AHeap.blks (AHeap.mk (AHeap.next H2+20+4) (AHeap.blks (AHeap.mk (AHeap.next H2+15+5) (AHeap.blks (AHeap.mk (AHeap.next H2+14+1) (AHeap.blks (AHeap.mk (AHeap.next H2+7+7) (AHeap.blks (AHeap.mk (AHeap.next H2+7) (AHeap.blks H2))))))))))))))))else False else False)∧(d=false→bif Nat.ble (AHeap.next H) (AHeap.next H2+33) && true then bif Nat.ble (AHeap.next H) (AHeap.next H2+35)then K0 (AVal.int IntKind.i64 (-1)) (AHeap.mk (AHeap.next H2+33+2) (AHeap.blks (AHeap.mk (AHeap.next H2+32+1) (AHeap.blks (AHeap.mk (AHeap.next H2+24+8) (AHeap.blks (AHeap.mk (AHeap.next H2+20+4) (AHeap.blks (AHeap.mk (AHeap.next H2+15+5) (AHeap.blks (AHeap.mk (AHeap.next H2+14+1) (AHeap.blks (AHeap.mk (AHeap.next H2+7+7) (AHeap.blks (AHeap.mk (AHeap.next H2+7) (AHeap.blks H2))))))))))))))))else False else False)else False)∧((!(Op.bytesLess x y || x == y))=false→bif Nat.ble (AHeap.next H) (AHeap.next H2+32) && true then(d=true→bif Nat.ble (AHeap.next H) (AHeap.next H2+33) && true then bif Nat.ble (AHeap.next H) (AHeap.next H2+36)then K0 (AVal.int IntKind.i64 (1)) (AHeap.mk (AHeap.next H2+33+3) (AHeap.blks (AHeap.mk (AHeap.next H2+32+1) (AHeap.blks (AHeap.mk (AHeap.next H2+24+8) (AHeap.blks (AHeap.mk (AHeap.next H2+20+4) (AHeap.blks (AHeap.mk (AHeap.next H2+15+5) (AHeap.blks (AHeap.mk (AHeap.next H2+14+1) (AHeap.blks (AHeap.mk (AHeap.next H2+7+7) (AHeap.blks (AHeap.mk (AHeap.next H2+7) (AHeap.blks H2))))))))))))))))else False else False)∧(d=false→bif Nat.ble (AHeap.next H) (AHeap.next H2+33) && true then bif Nat.ble (AHeap.next H) (AHeap.next H2+35)then K0 (AVal.int IntKind.i64 (-1)) (AHeap.mk (AHeap.next H2+33+2) (AHeap.blks (AHeap.mk (AHeap.next H2+32+1) (AHeap.blks (AHeap.mk (AHeap.next H2+24+8) (AHeap.blks (AHeap.mk (AHeap.next H2+20+4) (AHeap.blks (AHeap.mk (AHeap.next H2+15+5) (AHeap.blks (AHeap.mk (AHeap.next H2+14+1) (AHeap.blks (AHeap.mk (AHeap.next H2+7+7) (AHeap.blks (AHeap.mk (AHeap.next H2+7) (AHeap.blks H2))))))))))))))))else False else False)else False))∧(Op.bytesLess x y=false→((!(Op.bytesLess x y || x == y))=true→bif Nat.ble (AHeap.next H) (AHeap.next H2+32) && true then(d=true→bif Nat.ble (AHeap.next H) (AHeap.next H2+33) && true then bif Nat.ble (AHeap.next H) (AHeap.next H2+36)then K0 (AVal.int IntKind.i64 (-1)) (AHeap.mk (AHeap.next H2+33+3) (AHeap.blks (AHeap.mk (AHeap.next H2+32+1) (AHeap.blks (AHeap.mk (AHeap.next H2+24+8) (AHeap.blks (AHeap.mk (AHeap.next H2+20+4) (AHeap.blks (AHeap.mk (AHeap.next H2+15+5) (AHeap.blks (AHeap.mk (AHeap.next H2+14+1) (AHeap.blks (AHeap.mk (AHeap.next H2+7+7) (AHeap.blks (AHeap.mk (AHeap.next H2+7) (AHeap.blks H2))))))))))))))))else False else False)∧(d=false→bif Nat.ble (AHeap.next H) (AHeap.next H2+33) && true then bif Nat.ble (AHeap.next H) (AHeap.next H2+35)then K0 (AVal.int IntKind.i64 (1)) (AHeap.mk (AHeap.next H2+33+2) (AHeap.blks (AHeap.mk (AHeap.next H2+32+1) (AHeap.blks (AHeap.mk (AHeap.next H2+24+8) (AHeap.blks (AHeap.mk (AHeap.next H2+20+4) (AHeap.blks (AHeap.mk (AHeap.next H2+15+5) (AHeap.blks (AHeap.mk (AHeap.next H2+14+1) (AHeap.blks (AHeap.mk (AHeap.next H2+7+7) (AHeap.blks (AHeap.mk (AHeap.next H2+7) (AHeap.blks H2))))))))))))))))else False else False)else False)∧((!(Op.bytesLess x y || x == y))=false→bif Nat.ble (AHeap.next H) (AHeap.next H2+32) && true then(d=true→bif Nat.ble (AHeap.next H) (AHeap.next H2+33) && true then bif Nat.ble (AHeap.next H) (AHeap.next H2+36)then K0 (AVal.int IntKind.i64 (0)) (AHeap.mk (AHeap.next H2+33+3) (AHeap.blks (AHeap.mk (AHeap.next H2+32+1) (AHeap.blks (AHeap.mk (AHeap.next H2+24+8) (AHeap.blks (AHeap.mk (AHeap.next H2+20+4) (AHeap.blks (AHeap.mk (AHeap.next H2+15+5) (AHeap.blks (AHeap.mk (AHeap.next H2+14+1) (AHeap.blks (AHeap.mk (AHeap.next H2+7+7) (AHeap.blks (AHeap.mk (AHeap.next H2+7) (AHeap.blks H2))))))))))))))))else False else False)∧(d=false→bif Nat.ble (AHeap.next H) (AHeap.next H2+33) && true then bif Nat.ble (AHeap.next H) (AHeap.next H2+35)then K0 (AVal.int IntKind.i64 (0)) (AHeap.mk (AHeap.next H2+33+2) (AHeap.blks (AHeap.mk (AHeap.next H2+32+1) (AHeap.blks (AHeap.mk (AHeap.next H2+24+8) (AHeap.blks (AHeap.mk (AHeap.next H2+20+4) (AHeap.blks (AHeap.mk (AHeap.next H2+15+5) (AHeap.blks (AHeap.mk (AHeap.next H2+14+1) (AHeap.blks (AHeap.mk (AHeap.next H2+7+7) (AHeap.blks (AHeap.mk (AHeap.next H2+7) (AHeap.blks H2))))))))))))))))else False else False)else False))else False else False else False else False)else False)else False else False else False else False) :
    ∃ v h1,FDoes Tryz.prog cnd 33 [.int .i64 k,.bool d,va,vb] H v h1∧K0 v h1 :=
  tcall_does env_ok mixed specsB_ok (hs:= .hint (.act 1002 (AVal.str x) fun x=>H1) (.hint (.act 2002 (AVal.str y) fun x=>H2) (.br 3004 (.br 4004 (.br 8002 (.br 8005 (.br 11000 .nil .nil) (.br 11000 .nil .nil)) (.br 8005 (.br 11000 .nil .nil) (.br 11000 .nil .nil))) (.br 11000 .nil .nil)) (.br 4004 (.br 11000 .nil .nil) (.br 6002 (.br 6005 (.br 11000 .nil .nil) (.br 11000 .nil .nil)) (.br 6005 (.br 11000 .nil .nil) (.br 11000 .nil .nil))))))) (by kernel_rfl) vc
end Go.Proofs.YtjpfnbihopoeeaaGreatDoor
namespace Go.Proofs.YtjpfnbihopoeeaaGreatDoor
open Go.Lift
set_option maxRecDepth 1000000
def ordR(x y:Bytes):Int :=
  if numB (numD x)=true then(if numB (numD y)=true then sgnV (decide (numI (numD x)<numI (numD y))) (decide (numI (numD y)<numI (numD x)))else-1)
  else if numB (numD y)=true then 1 else sgnV (Op.bytesLess x y) (!(Op.bytesLess x y || x == y))
def ordP(x y:Bytes):Int :=
  if numB (numD x)=true then(if numB (numD y)=true then sgnV (decide (numI (numD x)<numI (numD y))) (decide (numI (numD y)<numI (numD x)))else-1)
  else if numB (numD y)=true then 1 else Lib.compareBytes x y
def docV(d:Bool)(x y:Bytes):Int:=if d=true then-ordR x y else ordR x y
theorem cmp_core {H H1 H2:AHeap}{va vb:AVal}{k:Int}{d:Bool}{x y:Bytes}(c1:FDoes Tryz.prog cnd 55 [va,.int .i64 k] (up H 5) (.str x) H1)(c2:FDoes Tryz.prog cnd 55 [vb,.int .i64 k] (up H1 4) (.str y) H2)
    (n1:H1.next=H.next+19) (n2:H2.next=H.next+37) (b2:H2.blks=H.blks) (hx:x.length<2^48) (hy:y.length<2^48) :
    ∃ v h1,FDoes Tryz.prog cnd 33 [.int .i64 k,.bool d,va,vb] H v h1∧v= .int .i64 (docV d x y)∧h1.blks=H.blks∧h1.next≤H.next+200:=by
  refine cmp_vc H H1 H2 va vb k d x y (fun v h1=>v= .int .i64 (docV d x y)∧h1.blks=H.blks∧h1.next≤H.next+200) ?_
  refine bifL (by omega) (bifL (by omega) ⟨⟨c1⟩,bifL (by omega) ⟨⟨c2⟩,bifL (by omega) ⟨hx,?_⟩⟩⟩)
  unfold docV ordR
  generalize (!(Op.bytesLess x y || x == y))=q
  generalize Op.bytesLess x y=p
  repeat' (first | refine bifL (by(try dsimp only);omega) ?_ | refine condL (by(try dsimp only);omega) ?_ | refine⟨?_,?_⟩ | intro _)
  all_goals first
    | exact hy
    | exact b2
    | (dsimp only;omega)
    | (simp [*,sgnV];done)
    | skip
theorem by_core(d:Bool){H H1 H2:AHeap}{va vb:AVal}{p q:Nat}{k:Int}{x y:Bytes}(N:Nat)(hN:N=if d=true then 14 else 10)
    (hd: ∀ n,aload (AEnv.D env) 4 ⟨p,0,0,0,1⟩ ⟨n,H.blks⟩=some (.bool d)) (hk: ∀ n,aload (AEnv.D env) 3 ⟨q,0,0,0,1⟩ ⟨n,H.blks⟩=some (.int .i64 k)) (hq:q<H.next)
    (c1:FDoes Tryz.prog cnd 49 [if d=true then vb else va,.int .i64 k] (up H N) (.str x) H1) (c2:FDoes Tryz.prog cnd 49 [if d=true then va else vb,.int .i64 k] H1 (.str y) H2)
    (n1:H1.next=H.next+N+14) (n2:H2.next=H.next+N+28) (b1:H1.blks=H.blks) (b2:H2.blks=H.blks) (hx:x.length<2^48) (hy:y.length<2^48) :
    ∃ v h1,FDoes Tryz.prog cnd 64 [va,vb,.ptr (some ⟨p,0,0,0,1⟩),.ptr (some ⟨q,0,0,0,1⟩)] H v h1∧v= .int .i64 (ordP x y)∧h1.blks=H.blks∧h1.next≤H.next+200:=by
  have hs: ∀ n,sameOld n (up H N) H1=true:=fun n=>sameOld_of fun i _=>by show H1.blks.get i=H.blks.get i;rw [b1]
  have hk1:aload (AEnv.D env) 3 ⟨q,0,0,0,1⟩ H1=some (.int .i64 k):=by have:=hk H1.next;rwa [← b1]at this
  have ag: ∀ {a b:List AVal} {v u:AVal},Agree a b (up H N) H1 v u H1 H2:=⟨fun _ e=>absurd (congrArg AHeap.next e) (by show ¬ H.next+N=H1.next;omega)⟩
  cases d
  · have hN:N=10:=hN
    subst hN
    refine byF_vc H H1 H2 va vb p q k x y (fun v h1=>v= .int .i64 (ordP x y)∧h1.blks=H.blks∧h1.next≤H.next+200) ?_
    refine bifL (by omega) (bifL (by omega) ⟨hd _,bifL (by omega) ⟨hk _,by omega,⟨c1⟩,hs _,hk1,by omega,⟨c2⟩,ag,bifL (by omega) ⟨hx,?_⟩⟩⟩)
    unfold ordP
    repeat' (first | refine bifL (by(try dsimp only);omega) ?_ | refine condL (by(try dsimp only);omega) ?_ | refine⟨?_,?_⟩ | intro _)
    all_goals first
      | exact hy
      | exact b2
      | (dsimp only;omega)
      | (simp [*];done)
      | skip
  · have hN:N=14:=hN
    subst hN
    refine byT_vc H H1 H2 va vb p q k x y (fun v h1=>v= .int .i64 (ordP x y)∧h1.blks=H.blks∧h1.next≤H.next+200) ?_
    refine bifL (by omega) (bifL (by omega) ⟨hd _,bifL (by omega) (bifL (by omega) ⟨hk _,by omega,⟨c1⟩,hs _,hk1,by omega,⟨c2⟩,ag,bifL (by omega) ⟨hx,?_⟩⟩)⟩)
    unfold ordP
    repeat' (first | refine bifL (by(try dsimp only);omega) ?_ | refine condL (by(try dsimp only);omega) ?_ | refine⟨?_,?_⟩ | intro _)
    all_goals first
      | exact hy
      | exact b2
      | (dsimp only;omega)
      | (simp [*];done)
      | skip
def Short(l:List Bytes):Prop:= ∀ x∈l,x.length<2^48
theorem short_field {l:List Bytes}(h:Short l)(k:Int):(fieldV l k).length<2^48:=by
  by_cases h0:k<0
  · rw [fieldV_lo h0];decide
  · by_cases h1:(l.length:Int)≤k
    · rw [fieldV_hi h1];decide
    · rw [fieldV_in h0 h1];exact h _ (List.getElem_mem _)
theorem cmp_does {H:AHeap}{va vb:AVal}{a b:List Bytes}(ha:RowAt H va a)(hb:RowAt H vb b)(sa:Short a)(sb:Short b)(k:Int)(d:Bool) :
    FDoes Tryz.prog cnd 33 [.int .i64 k,.bool d,va,vb] H (.int .i64 (docV d (fieldV a k) (fieldV b k))) (up H 200):=by
  obtain⟨v,h1,hd,rfl,e1,e2⟩:=cmp_core (d:=d) (dfield_does (ha.up 5) k) (dfield_does (H:=up (up (up H 5) 14) 4) hb k) (by show H.next+5+14=_;omega) (by show H.next+5+14+4+14=_;omega) rfl (short_field sa k) (short_field sb k)
  have:=bump (n:=H.next+200) hd e2
  rwa [e1]at this
theorem by_does {H:AHeap}{va vb:AVal}{a b:List Bytes}(ha:RowAt H va a)(hb:RowAt H vb b)(sa:Short a)(sb:Short b)(k:Int)(d:Bool){p q:Nat}
    (hd: ∀ n,aload (AEnv.D env) 4 ⟨p,0,0,0,1⟩ ⟨n,H.blks⟩=some (.bool d)) (hk: ∀ n,aload (AEnv.D env) 3 ⟨q,0,0,0,1⟩ ⟨n,H.blks⟩=some (.int .i64 k)) (hq:q<H.next) :
    FDoes Tryz.prog cnd 64 [va,vb,.ptr (some ⟨p,0,0,0,1⟩),.ptr (some ⟨q,0,0,0,1⟩)] H (.int .i64 (ordP (fieldV (if d=true then b else a) k) (fieldV (if d=true then a else b) k))) (up H 200):=by
  have key: ∀ {v1 v2:AVal} {l1 l2:List Bytes},RowAt H v1 l1→RowAt H v2 l2→Short l1→Short l2→(v1=if d=true then vb else va)→(v2=if d=true then va else vb) →
      FDoes Tryz.prog cnd 64 [va,vb,.ptr (some ⟨p,0,0,0,1⟩),.ptr (some ⟨q,0,0,0,1⟩)] H (.int .i64 (ordP (fieldV l1 k) (fieldV l2 k))) (up H 200):=by
    rintro v1 v2 l1 l2 h1 h2 s1 s2 rfl rfl
    let N:=if d=true then 14 else 10
    obtain⟨v,h1,hd,rfl,e1,e2⟩:=by_core d N rfl hd hk hq (field_does (h1.up N) k) (field_does (H:=up (up H N) 14) h2 k) (by show H.next+N+14=_;omega) (by show H.next+N+14+14=_;omega) rfl rfl (short_field s1 k) (short_field s2 k)
    have:=bump (n:=H.next+200) hd e2
    rwa [e1]at this
  cases d
  · exact key ha hb sa sb rfl rfl
  · exact key hb ha sb sa rfl rfl
theorem cmpB (x:Bytes): ∀ y:Bytes,Lib.compareBytes x y=sgnV (Op.bytesLess x y) (!(Op.bytesLess x y || x == y))∧Lib.compareBytes y x= -Lib.compareBytes x y:=by
  induction x with
  | nil=>intro y;cases y<;>exact⟨rfl,rfl⟩
  | cons a x ih =>
    intro y
    cases y with
    | nil=>exact⟨rfl,rfl⟩
    | cons b y =>
      obtain⟨i1,i2⟩:=ih y
      simp only [Lib.compareBytes,Op.bytesLess]
      by_cases h1:a<b
      · have h2: ¬b<a:=fun h=>absurd (UInt8.lt_trans h1 h) (UInt8.lt_irrefl a)
        simp [h1,h2,sgnV]
      · by_cases h2:b<a
        · have h3: ¬a=b:=fun h=>by subst h;exact UInt8.lt_irrefl _ h2
          simp [h1,h2,h3,sgnV]
        · have h3:a=b:=UInt8.le_antisymm (UInt8.not_lt.1 h2) (UInt8.not_lt.1 h1)
          subst h3
          simp only [if_neg h1]
          refine⟨?_,i2⟩
          rw [i1]
          simp [h1]
theorem ordP_ordR(x y:Bytes):ordP x y=ordR x y:=by unfold ordP ordR;rw [(cmpB x y).1]
theorem ordP_neg(x y:Bytes):ordP y x= -ordP x y:=by
  unfold ordP
  rw [(cmpB x y).2]
  cases numB (numD x)<;>cases numB (numD y)<;>simp [sgnV]
  by_cases h1:numI (numD x)<numI (numD y)
  · have h2: ¬numI (numD y)<numI (numD x):=by omega
    simp [h1,h2]
  · by_cases h2:numI (numD y)<numI (numD x)<;>simp [h1,h2]
theorem by_doc(k:Int)(d:Bool)(a b:List Bytes):ordP (fieldV (if d=true then b else a) k) (fieldV (if d=true then a else b) k)=docV d (fieldV a k) (fieldV b k):=by
  unfold docV
  cases d
  · exact ordP_ordR _ _
  · show ordP (fieldV b k) (fieldV a k)= -ordR (fieldV a k) (fieldV b k)
    rw [← ordP_ordR,ordP_neg]
end Go.Proofs.YtjpfnbihopoeeaaGreatDoor
namespace Go.Proofs.YtjpfnbihopoeeaaGreatDoor
open Go.Lift
set_option maxRecDepth 1000000
theorem works_run:saysTrue (fcall Tryz.prog env 400 18 [] ⟨0,.nil⟩)=true:=by decide+kernel
end Go.Proofs.YtjpfnbihopoeeaaGreatDoor
namespace Go.Proofs.YtjpfnbihopoeeaaGreatDoor
open Go.Lift
set_option maxRecDepth 1000000
theorem works_does(H:AHeap):FDoes Tryz.prog cnd 18 [] H (.bool true) H:=by
  obtain⟨h',hc⟩:=fcall_true works_run
  exact FDoes.ofVC ⟨_,_,FDoes.of_acall env_ok mixed hc,rfl⟩ rfl rfl H
def worksS:List AVal→AHeap→Option Alts:=pureS fun a=>match a with | []=>some (.bool true,[]) | _=>none
theorem worksS_ok: ∀ args h a,worksS args h=some a→a.Ok Tryz.prog cnd 18 args h:=by
  refine pureS_ok ?_
  intro args v ps e hp H
  split at e<;>first | (cases e;done) | skip
  simp only [Option.some.injEq,Prod.mk.injEq]at e
  obtain⟨rfl,rfl⟩:=e
  exact works_does H
noncomputable def specsW:Specs:=noSpecs.add 18 worksS
theorem specsW_ok:SpecsOk Tryz.prog cnd specsW:=noSpecs_ok.add worksS_ok
end Go.Proofs.YtjpfnbihopoeeaaGreatDoor
namespace Go.Proofs.YtjpfnbihopoeeaaGreatDoor
open Go.Lift
set_option maxRecDepth 1000000
theorem agNe {a b:List AVal}{h k h' k':AHeap}{v u:AVal}(e:h.next≠k.next):Agree a b h k v u h' k':=⟨fun _ q=>absurd (congrArg AHeap.next q) e⟩
theorem same1 {H:AHeap}{B1 B2 E1 E2 o1 o2:Nat}{va vb:AVal}{rs1 rs2:List Rr}(he:lsOf rs1=lsOf rs2)(hl:rs1.length<2^60)(hs: ∀ r∈rs1,r.l.length<2^60)(r1:Tr H B1 E1 va o1 rs1)(r2:Tr H B2 E2 vb o2 rs2) :
    ∃ n,H.next<n∧FDoes Tryz.prog cnd 16 [va,vb] H (.bool true) ⟨n,H.blks⟩:=by
  obtain⟨n,hn,D⟩:=same_does he hl hs r1 r2
  exact⟨n+1,by omega,bump (h':=⟨n,H.blks⟩) D (by show n≤n+1;omega)⟩
end Go.Proofs.YtjpfnbihopoeeaaGreatDoor
namespace Go.Proofs.YtjpfnbihopoeeaaGreatDoor
open Go.Lift
set_option maxRecDepth 1000000
theorem inS_vp(H H1 H2 H3:AHeap)(B a m i j:Nat)(g:FuncId)(cs:List AVal)(dv x y:AVal)(p q:AAddr)(r:Int)(K0:AExit→Facts→AHeap→Prop)(vc:bif Nat.ble B (AHeap.next H) && true then some (AVal.bool (decide ((↑j:Int)>(↑a:Int))))=some (AVal.bool true)∧aindexAddr (AEnv.D env) 22 dv (AVal.int IntKind.i64 (↑j:Int))=some (AVal.ptr (some p))∧aload (AEnv.D env) 36 p (AHeap.mk (AHeap.next H+17) (H.2))=some x∧AAddr.id p<AHeap.next H∧(-9223372036854775808≤(↑j:Int)-1∧(↑j:Int)-1≤9223372036854775807)∧aindexAddr (AEnv.D env) 22 dv (AVal.int IntKind.i64 ((↑j:Int)-1))=some (AVal.ptr (some q))∧aload (AEnv.D env) 36 q (AHeap.mk (AHeap.next H+17) (H.2))=some y∧AAddr.id q<AHeap.next H∧CallT Tryz.prog cnd g (x::y::cs) (AHeap.mk (AHeap.next H+17) (H.2)) (AVal.int IntKind.i64 r) H1∧some (AVal.bool (decide (r<0)))=some (AVal.bool true)∧bif Nat.ble B (AHeap.next H1) && true then(-9223372036854775808≤(↑j:Int)-1∧(↑j:Int)-1≤9223372036854775807)∧(-9223372036854775808≤(↑j:Int)-1∧(↑j:Int)-1≤9223372036854775807)∧aindexAddr (AEnv.D env) 22 dv (AVal.int IntKind.i64 ((↑j:Int)-1))=some (AVal.ptr (some q))∧aload (AEnv.D env) 36 q (AHeap.mk (AHeap.next H1+18) (H1.2))=some y∧AAddr.id q<AHeap.next H1∧aindexAddr (AEnv.D env) 22 dv (AVal.int IntKind.i64 (↑j:Int))=some (AVal.ptr (some p))∧aload (AEnv.D env) 36 p (AHeap.mk (AHeap.next H1+18) (H1.2))=some x∧AAddr.id p<AHeap.next H1∧aindexAddr (AEnv.D env) 22 dv (AVal.int IntKind.i64 (↑j:Int))=some (AVal.ptr (some p))∧aop env noCall (AHeap.next H1+15) (getF [(51,AVal.ptr (some p)),(50,x),(49,AVal.ptr (some p)),(48,AVal.int IntKind.i64 (↑j:Int)),(47,dv),(46,y),(45,AVal.ptr (some q)),(44,AVal.int IntKind.i64 ((↑j:Int)-1)),(43,AVal.int IntKind.i64 (↑j:Int)),(42,dv),(41,AVal.int IntKind.i64 ((↑j:Int)-1)),(40,AVal.int IntKind.i64 (↑j:Int)),(39,dv),(38,AVal.int IntKind.i64 (↑j:Int)),(37,dv),(34,AVal.bool true),(33,AVal.bool true),(32,AVal.int IntKind.i64 r),(31,y),(30,AVal.ptr (some q)),(29,AVal.int IntKind.i64 ((↑j:Int)-1)),(28,AVal.int IntKind.i64 (↑j:Int)),(27,dv),(26,x),(25,AVal.ptr (some p)),(24,AVal.int IntKind.i64 (↑j:Int)),(23,dv),(22,AVal.func (Fn.func g) [] cs),(21,AVal.bool true),(20,AVal.bool true),(19,AVal.int IntKind.i64 (↑a:Int)),(18,AVal.int IntKind.i64 (↑j:Int)),(0,dv),(1,AVal.int IntKind.i64 (↑a:Int)),(2,AVal.int IntKind.i64 (↑m:Int)),(3,AVal.func (Fn.func g) [] cs),(8,AVal.int IntKind.i64 (↑i:Int)),(9,AVal.int IntKind.i64 (↑j:Int))]) (AHeap.mk (AHeap.next H1+18) (H1.2)) (Op.store 36 (Operand.tmp 51) (Operand.tmp 46))=some (AVal.tuple [],H2)∧aindexAddr (AEnv.D env) 22 dv (AVal.int IntKind.i64 ((↑j:Int)-1))=some (AVal.ptr (some q))∧aop env noCall (AHeap.next H1+17) (getF [(52,AVal.ptr (some q)),(51,AVal.ptr (some p)),(50,x),(49,AVal.ptr (some p)),(48,AVal.int IntKind.i64 (↑j:Int)),(47,dv),(46,y),(45,AVal.ptr (some q)),(44,AVal.int IntKind.i64 ((↑j:Int)-1)),(43,AVal.int IntKind.i64 (↑j:Int)),(42,dv),(41,AVal.int IntKind.i64 ((↑j:Int)-1)),(40,AVal.int IntKind.i64 (↑j:Int)),(39,dv),(38,AVal.int IntKind.i64 (↑j:Int)),(37,dv),(34,AVal.bool true),(33,AVal.bool true),(32,AVal.int IntKind.i64 r),(31,y),(30,AVal.ptr (some q)),(29,AVal.int IntKind.i64 ((↑j:Int)-1)),(28,AVal.int IntKind.i64 (↑j:Int)),(27,dv),(26,x),(25,AVal.ptr (some p)),(24,AVal.int IntKind.i64 (↑j:Int)),(23,dv),(22,AVal.func (Fn.func g) [] cs),(21,AVal.bool true),(20,AVal.bool true),(19,AVal.int IntKind.i64 (↑a:Int)),(18,AVal.int IntKind.i64 (↑j:Int)),(0,dv),(1,AVal.int IntKind.i64 (↑a:Int)),(2,AVal.int IntKind.i64 (↑m:Int)),(3,AVal.func (Fn.func g) [] cs),(8,AVal.int IntKind.i64 (↑i:Int)),(9,AVal.int IntKind.i64 (↑j:Int))]) H2 (Op.store 36 (Operand.tmp 52) (Operand.tmp 50))=some (AVal.tuple [],H3)∧bif Nat.ble B (AHeap.next H3) && true then(-9223372036854775808≤(↑j:Int)-1∧(↑j:Int)-1≤9223372036854775807)∧K0 AExit.normal [(0,dv),(1,AVal.int IntKind.i64 (↑a:Int)),(2,AVal.int IntKind.i64 (↑m:Int)),(3,AVal.func (Fn.func g) [] cs),(8,AVal.int IntKind.i64 (↑i:Int)),(9,AVal.int IntKind.i64 ((↑j:Int)-1))] (AHeap.mk (AHeap.next H3+3) (AHeap.blks H3))else False else False else False) :
    ∃ e F1 h1,Runs Tryz.prog cnd B 53 (loopAt Tryz.prog 160 1) [(0,dv),(1,.int .i64 a),(2,.int .i64 m),(3,.func (.func g) [] cs),(8,.int .i64 i),(9,.int .i64 j)] H e F1 h1∧K0 e F1 h1 :=
  tpath_runs env_ok mixed noSpecs_ok (hs:= .hint (.val 4002 (AVal.bool true)) (.hint (.val 4007 (AVal.ptr (some p))) (.hint (.farV 4008 x) (.hint (.go 4011) (.hint (.val 4012 (AVal.ptr (some q))) (.hint (.farV 4013 y) (.hint (.act 4014 (AVal.int IntKind.i64 r) fun x=>H1) (.hint (.val 4015 (AVal.bool true)) (.hint (.go 6004) (.hint (.go 6007) (.hint (.val 6008 (AVal.ptr (some q))) (.hint (.farV 6009 y) (.hint (.val 6012 (AVal.ptr (some p))) (.hint (.farV 6013 x) (.hint (.val 6014 (AVal.ptr (some p))) (.hint (.act 6015 (AVal.tuple []) fun x=>H2) (.hint (.val 6016 (AVal.ptr (some q))) (.hint (.act 6017 (AVal.tuple []) fun x=>H3) (.hint (.go 5001) .nil))))))))))))))))))) (keep:= [0,1,2,3,8,9]) (by kernel_rfl) vc
theorem inB_vp(H H1:AHeap)(B a m i j:Nat)(g:FuncId)(cs:List AVal)(dv x y:AVal)(p q:AAddr)(r:Int)(K0:AExit→Facts→AHeap→Prop)(vc:bif Nat.ble B (AHeap.next H) && true then some (AVal.bool (decide ((↑j:Int)>(↑a:Int))))=some (AVal.bool true)∧aindexAddr (AEnv.D env) 22 dv (AVal.int IntKind.i64 (↑j:Int))=some (AVal.ptr (some p))∧aload (AEnv.D env) 36 p (AHeap.mk (AHeap.next H+17) (H.2))=some x∧AAddr.id p<AHeap.next H∧(-9223372036854775808≤(↑j:Int)-1∧(↑j:Int)-1≤9223372036854775807)∧aindexAddr (AEnv.D env) 22 dv (AVal.int IntKind.i64 ((↑j:Int)-1))=some (AVal.ptr (some q))∧aload (AEnv.D env) 36 q (AHeap.mk (AHeap.next H+17) (H.2))=some y∧AAddr.id q<AHeap.next H∧CallT Tryz.prog cnd g (x::y::cs) (AHeap.mk (AHeap.next H+17) (H.2)) (AVal.int IntKind.i64 r) H1∧some (AVal.bool (decide (r<0)))=some (AVal.bool false)∧K0 (AExit.exit 2) [(0,dv),(1,AVal.int IntKind.i64 (↑a:Int)),(2,AVal.int IntKind.i64 (↑m:Int)),(3,AVal.func (Fn.func g) [] cs),(8,AVal.int IntKind.i64 (↑i:Int)),(9,AVal.int IntKind.i64 (↑j:Int))] H1 else False) :
    ∃ e F1 h1,Runs Tryz.prog cnd B 53 (loopAt Tryz.prog 160 1) [(0,dv),(1,.int .i64 a),(2,.int .i64 m),(3,.func (.func g) [] cs),(8,.int .i64 i),(9,.int .i64 j)] H e F1 h1∧K0 e F1 h1 :=
  tpath_runs env_ok mixed noSpecs_ok (hs:= .hint (.val 4002 (AVal.bool true)) (.hint (.val 4007 (AVal.ptr (some p))) (.hint (.farV 4008 x) (.hint (.go 4011) (.hint (.val 4012 (AVal.ptr (some q))) (.hint (.farV 4013 y) (.hint (.act 4014 (AVal.int IntKind.i64 r) fun x=>H1) (.hint (.val 4015 (AVal.bool false)) .nil)))))))) (keep:= [0,1,2,3,8,9]) (by kernel_rfl) vc
theorem inE_vp(H:AHeap)(B a m i j:Nat)(dv cv:AVal)(K0:AExit→Facts→AHeap→Prop)(vc:bif Nat.ble B (AHeap.next H) && true then some (AVal.bool (decide ((↑j:Int)>(↑a:Int))))=some (AVal.bool false)∧K0 (AExit.exit 2) [(0,dv),(1,AVal.int IntKind.i64 (↑a:Int)),(2,AVal.int IntKind.i64 (↑m:Int)),(3,cv),(8,AVal.int IntKind.i64 (↑i:Int)),(9,AVal.int IntKind.i64 (↑j:Int))] (AHeap.mk (AHeap.next H+17) (AHeap.blks H))else False) :
    ∃ e F1 h1,Runs Tryz.prog cnd B 53 (loopAt Tryz.prog 160 1) [(0,dv),(1,.int .i64 a),(2,.int .i64 m),(3,cv),(8,.int .i64 i),(9,.int .i64 j)] H e F1 h1∧K0 e F1 h1 :=
  tpath_runs env_ok mixed noSpecs_ok (hs:= .hint (.val 4002 (AVal.bool false)) .nil) (keep:= [0,1,2,3,8,9]) (by kernel_rfl) vc
theorem ioS_vp(H H1:AHeap)(B a m i:Nat)(dv cv:AVal)(K0:AExit→Facts→AHeap→Prop)(vc:bif Nat.ble B (AHeap.next H) && true then some (AVal.bool (decide ((↑i:Int)<(↑m:Int))))=some (AVal.bool true)∧bif Nat.ble B (AHeap.next H+3) && true then Runs Tryz.prog cnd B 53 (Code.loop (loopAt Tryz.prog 160 1)) [(0,dv),(1,AVal.int IntKind.i64 (↑a:Int)),(2,AVal.int IntKind.i64 (↑m:Int)),(3,cv),(8,AVal.int IntKind.i64 (↑i:Int)),(9,AVal.int IntKind.i64 (↑i:Int))] (AHeap.mk (AHeap.next H+3+2) (AHeap.blks (AHeap.mk (AHeap.next H+3) (AHeap.blks H)))) (AExit.exit 2) [(0,dv),(1,AVal.int IntKind.i64 (↑a:Int)),(2,AVal.int IntKind.i64 (↑m:Int)),(3,cv),(8,AVal.int IntKind.i64 (↑i:Int))] H1∧bif Nat.ble B (AHeap.next H1) && true then(-9223372036854775808≤(↑i:Int)+1∧(↑i:Int)+1≤9223372036854775807)∧K0 AExit.normal [(0,dv),(1,AVal.int IntKind.i64 (↑a:Int)),(2,AVal.int IntKind.i64 (↑m:Int)),(3,cv),(8,AVal.int IntKind.i64 ((↑i:Int)+1))] (AHeap.mk (AHeap.next H1+3) (AHeap.blks H1))else False else False else False) :
    ∃ e F1 h1,Runs Tryz.prog cnd B 53 (loopAt Tryz.prog 160 0) [(0,dv),(1,.int .i64 a),(2,.int .i64 m),(3,cv),(8,.int .i64 i)] H e F1 h1∧K0 e F1 h1 :=
  tpath_runs env_ok mixed noSpecs_ok (hs:= .hint (.val 1002 (AVal.bool true)) (.hint (.keep [0,1,2,3,8,9]) (.hint (.loop [(0,dv),(1,AVal.int IntKind.i64 (↑a:Int)),(2,AVal.int IntKind.i64 (↑m:Int)),(3,cv),(8,AVal.int IntKind.i64 (↑i:Int))] H1 (AExit.exit 2)) (.hint (.go 2001) .nil)))) (keep:= [0,1,2,3,8]) (by kernel_rfl) vc
theorem ioE_vp(H:AHeap)(B a m i:Nat)(dv cv:AVal)(K0:AExit→Facts→AHeap→Prop)(vc:bif Nat.ble B (AHeap.next H) && true then some (AVal.bool (decide ((↑i:Int)<(↑m:Int))))=some (AVal.bool false)∧K0 (AExit.exit 0) [(0,dv),(1,AVal.int IntKind.i64 (↑a:Int)),(2,AVal.int IntKind.i64 (↑m:Int)),(3,cv),(8,AVal.int IntKind.i64 (↑i:Int))] (AHeap.mk (AHeap.next H+3) (AHeap.blks H))else False) :
    ∃ e F1 h1,Runs Tryz.prog cnd B 53 (loopAt Tryz.prog 160 0) [(0,dv),(1,.int .i64 a),(2,.int .i64 m),(3,cv),(8,.int .i64 i)] H e F1 h1∧K0 e F1 h1 :=
  tpath_runs env_ok mixed noSpecs_ok (hs:= .hint (.val 1002 (AVal.bool false)) .nil) (keep:= [0,1,2,3,8]) (by kernel_rfl) vc
theorem ins_vc(H H1:AHeap)(a m i:Nat)(dv cv:AVal)(K0:AVal→AHeap→Prop)(vc:bif Nat.ble (AHeap.next H) (AHeap.next H) && true then(-9223372036854775808≤(↑a:Int)+1∧(↑a:Int)+1≤9223372036854775807)∧Runs Tryz.prog cnd (AHeap.next H) 53 (Code.loop (loopAt Tryz.prog 160 0)) [(0,dv),(1,AVal.int IntKind.i64 (↑a:Int)),(2,AVal.int IntKind.i64 (↑m:Int)),(3,cv),(8,AVal.int IntKind.i64 ((↑a:Int)+1))] (AHeap.mk (AHeap.next H+3) (AHeap.blks H)) (AExit.exit 0) [] H1∧bif Nat.ble (AHeap.next H) (AHeap.next H1)then K0 (AVal.tuple []) H1 else False else False) :
    ∃ v h1,FDoes Tryz.prog cnd 160 [dv,.int .i64 a,.int .i64 m,cv] H v h1∧K0 v h1 :=
  tcall_does env_ok mixed noSpecs_ok (hs:= .hint (.go 1) (.hint (.keep [0,1,2,3,8]) (.hint (.loop [] H1 (AExit.exit 0)) .nil))) (by kernel_rfl) vc
theorem swS_vp(H H1 H2:AHeap)(B a m k i:Nat)(dv x y:AVal)(p q:AAddr)(K0:AExit→Facts→AHeap→Prop)(vc:bif Nat.ble B (AHeap.next H) && true then some (AVal.bool (decide ((↑i:Int)<(↑k:Int))))=some (AVal.bool true)∧bif Nat.ble B (AHeap.next H+3) && true then(-9223372036854775808≤(↑a:Int)+(↑i:Int)∧(↑a:Int)+(↑i:Int)≤9223372036854775807)∧(-9223372036854775808≤(↑m:Int)+(↑i:Int)∧(↑m:Int)+(↑i:Int)≤9223372036854775807)∧(-9223372036854775808≤(↑m:Int)+(↑i:Int)∧(↑m:Int)+(↑i:Int)≤9223372036854775807)∧aindexAddr (AEnv.D env) 22 dv (AVal.int IntKind.i64 ((↑m:Int)+(↑i:Int)))=some (AVal.ptr (some q))∧aload (AEnv.D env) 36 q (AHeap.mk (AHeap.next H+27) (H.2))=some y∧AAddr.id q<AHeap.next H+3∧(-9223372036854775808≤(↑a:Int)+(↑i:Int)∧(↑a:Int)+(↑i:Int)≤9223372036854775807)∧aindexAddr (AEnv.D env) 22 dv (AVal.int IntKind.i64 ((↑a:Int)+(↑i:Int)))=some (AVal.ptr (some p))∧aload (AEnv.D env) 36 p (AHeap.mk (AHeap.next H+27) (H.2))=some x∧AAddr.id p<AHeap.next H+3∧aindexAddr (AEnv.D env) 22 dv (AVal.int IntKind.i64 ((↑a:Int)+(↑i:Int)))=some (AVal.ptr (some p))∧aop env noCall (AHeap.next H+24) (getF [(36,AVal.ptr (some p)),(35,x),(34,AVal.ptr (some p)),(33,AVal.int IntKind.i64 ((↑a:Int)+(↑i:Int))),(32,AVal.int IntKind.i64 (↑i:Int)),(31,AVal.int IntKind.i64 (↑a:Int)),(30,dv),(29,y),(28,AVal.ptr (some q)),(27,AVal.int IntKind.i64 ((↑m:Int)+(↑i:Int))),(26,AVal.int IntKind.i64 (↑i:Int)),(25,AVal.int IntKind.i64 (↑m:Int)),(24,dv),(23,AVal.int IntKind.i64 ((↑m:Int)+(↑i:Int))),(22,AVal.int IntKind.i64 (↑i:Int)),(21,AVal.int IntKind.i64 (↑m:Int)),(20,dv),(19,AVal.int IntKind.i64 ((↑a:Int)+(↑i:Int))),(18,AVal.int IntKind.i64 (↑i:Int)),(17,AVal.int IntKind.i64 (↑a:Int)),(16,dv),(13,AVal.bool true),(12,AVal.int IntKind.i64 (↑k:Int)),(11,AVal.int IntKind.i64 (↑i:Int)),(0,dv),(1,AVal.int IntKind.i64 (↑a:Int)),(2,AVal.int IntKind.i64 (↑m:Int)),(3,AVal.int IntKind.i64 (↑k:Int)),(10,AVal.int IntKind.i64 (↑i:Int))]) (AHeap.mk (AHeap.next H+27) (H.2)) (Op.store 36 (Operand.tmp 36) (Operand.tmp 29))=some (AVal.tuple [],H1)∧aindexAddr (AEnv.D env) 22 dv (AVal.int IntKind.i64 ((↑m:Int)+(↑i:Int)))=some (AVal.ptr (some q))∧aop env noCall (AHeap.next H+26) (getF [(37,AVal.ptr (some q)),(36,AVal.ptr (some p)),(35,x),(34,AVal.ptr (some p)),(33,AVal.int IntKind.i64 ((↑a:Int)+(↑i:Int))),(32,AVal.int IntKind.i64 (↑i:Int)),(31,AVal.int IntKind.i64 (↑a:Int)),(30,dv),(29,y),(28,AVal.ptr (some q)),(27,AVal.int IntKind.i64 ((↑m:Int)+(↑i:Int))),(26,AVal.int IntKind.i64 (↑i:Int)),(25,AVal.int IntKind.i64 (↑m:Int)),(24,dv),(23,AVal.int IntKind.i64 ((↑m:Int)+(↑i:Int))),(22,AVal.int IntKind.i64 (↑i:Int)),(21,AVal.int IntKind.i64 (↑m:Int)),(20,dv),(19,AVal.int IntKind.i64 ((↑a:Int)+(↑i:Int))),(18,AVal.int IntKind.i64 (↑i:Int)),(17,AVal.int IntKind.i64 (↑a:Int)),(16,dv),(13,AVal.bool true),(12,AVal.int IntKind.i64 (↑k:Int)),(11,AVal.int IntKind.i64 (↑i:Int)),(0,dv),(1,AVal.int IntKind.i64 (↑a:Int)),(2,AVal.int IntKind.i64 (↑m:Int)),(3,AVal.int IntKind.i64 (↑k:Int)),(10,AVal.int IntKind.i64 (↑i:Int))]) H1 (Op.store 36 (Operand.tmp 37) (Operand.tmp 35))=some (AVal.tuple [],H2)∧bif Nat.ble B (AHeap.next H2) && true then(-9223372036854775808≤(↑i:Int)+1∧(↑i:Int)+1≤9223372036854775807)∧K0 AExit.normal [(0,dv),(1,AVal.int IntKind.i64 (↑a:Int)),(2,AVal.int IntKind.i64 (↑m:Int)),(3,AVal.int IntKind.i64 (↑k:Int)),(10,AVal.int IntKind.i64 ((↑i:Int)+1))] (AHeap.mk (AHeap.next H2+3) (AHeap.blks H2))else False else False else False) :
    ∃ e F1 h1,Runs Tryz.prog cnd B 38 (loopAt Tryz.prog 221 0) [(0,dv),(1,.int .i64 a),(2,.int .i64 m),(3,.int .i64 k),(10,.int .i64 i)] H e F1 h1∧K0 e F1 h1 :=
  tpath_runs env_ok mixed noSpecs_ok (hs:= .hint (.val 1002 (AVal.bool true)) (.hint (.go 3003) (.hint (.go 3007) (.hint (.go 3011) (.hint (.val 3012 (AVal.ptr (some q))) (.hint (.farV 3013 y) (.hint (.go 3017) (.hint (.val 3018 (AVal.ptr (some p))) (.hint (.farV 3019 x) (.hint (.val 3020 (AVal.ptr (some p))) (.hint (.act 3021 (AVal.tuple []) fun x=>H1) (.hint (.val 3022 (AVal.ptr (some q))) (.hint (.act 3023 (AVal.tuple []) fun x=>H2) (.hint (.go 2001) .nil)))))))))))))) (keep:= [0,1,2,3,10]) (by kernel_rfl) vc
theorem swE_vp(H:AHeap)(B a m k i:Nat)(dv:AVal)(K0:AExit→Facts→AHeap→Prop)(vc:bif Nat.ble B (AHeap.next H) && true then some (AVal.bool (decide ((↑i:Int)<(↑k:Int))))=some (AVal.bool false)∧K0 (AExit.exit 0) [(0,dv),(1,AVal.int IntKind.i64 (↑a:Int)),(2,AVal.int IntKind.i64 (↑m:Int)),(3,AVal.int IntKind.i64 (↑k:Int)),(10,AVal.int IntKind.i64 (↑i:Int))] (AHeap.mk (AHeap.next H+3) (AHeap.blks H))else False) :
    ∃ e F1 h1,Runs Tryz.prog cnd B 38 (loopAt Tryz.prog 221 0) [(0,dv),(1,.int .i64 a),(2,.int .i64 m),(3,.int .i64 k),(10,.int .i64 i)] H e F1 h1∧K0 e F1 h1 :=
  tpath_runs env_ok mixed noSpecs_ok (hs:= .hint (.val 1002 (AVal.bool false)) .nil) (keep:= [0,1,2,3,10]) (by kernel_rfl) vc
theorem swr_vc(H H1:AHeap)(a m k:Nat)(dv cv:AVal)(K0:AVal→AHeap→Prop)(vc:bif Nat.ble (AHeap.next H) (AHeap.next H) && true then Runs Tryz.prog cnd (AHeap.next H) 38 (Code.loop (loopAt Tryz.prog 221 0)) [(0,dv),(1,AVal.int IntKind.i64 (↑a:Int)),(2,AVal.int IntKind.i64 (↑m:Int)),(3,AVal.int IntKind.i64 (↑k:Int)),(10,AVal.int IntKind.i64 (0))] (AHeap.mk (AHeap.next H+1) (AHeap.blks H)) (AExit.exit 0) [] H1∧bif Nat.ble (AHeap.next H) (AHeap.next H1)then K0 (AVal.tuple []) H1 else False else False) :
    ∃ v h1,FDoes Tryz.prog cnd 221 [dv,.int .i64 a,.int .i64 m,.int .i64 k,cv] H v h1∧K0 v h1 :=
  tcall_does env_ok mixed noSpecs_ok (hs:= .hint (.keep [0,1,2,3,10]) (.hint (.loop [] H1 (AExit.exit 0)) .nil)) (by kernel_rfl) vc
theorem roA_vp(H H1:AHeap)(B m i j:Nat)(dv cv:AVal)(K0:AExit→Facts→AHeap→Prop)(vc:bif Nat.ble B (AHeap.next H) && true then some (AVal.bool ((↑i:Int) != (↑j:Int)))=some (AVal.bool true)∧bif Nat.ble B (AHeap.next H+3) && true then some (AVal.bool (decide ((↑i:Int)>(↑j:Int))))=some (AVal.bool true)∧bif Nat.ble B (AHeap.next H+6) && true then(-9223372036854775808≤(↑m:Int)- (↑i:Int)∧(↑m:Int)- (↑i:Int)≤9223372036854775807)∧CallT Tryz.prog cnd 221 [dv,AVal.int IntKind.i64 ((↑m:Int)- (↑i:Int)),AVal.int IntKind.i64 (↑m:Int),AVal.int IntKind.i64 (↑j:Int),cv] (AHeap.mk (AHeap.next H+14) (H.2)) (AVal.tuple []) H1∧bif Nat.ble B (AHeap.next H1) && true then(-9223372036854775808≤(↑i:Int)- (↑j:Int)∧(↑i:Int)- (↑j:Int)≤9223372036854775807)∧K0 AExit.normal [(0,dv),(2,AVal.int IntKind.i64 (↑m:Int)),(4,cv),(10,AVal.int IntKind.i64 ((↑i:Int)- (↑j:Int))),(11,AVal.int IntKind.i64 (↑j:Int))] (AHeap.mk (AHeap.next H1+4) (AHeap.blks H1))else False else False else False else False) :
    ∃ e F1 h1,Runs Tryz.prog cnd B 58 (loopAt Tryz.prog 195 0) [(0,dv),(2,.int .i64 m),(4,cv),(10,.int .i64 i),(11,.int .i64 j)] H e F1 h1∧K0 e F1 h1 :=
  tpath_runs env_ok mixed noSpecs_ok (hs:= .hint (.val 2002 (AVal.bool true)) (.hint (.val 3002 (AVal.bool true)) (.hint (.go 4003) (.hint (.act 4007 (AVal.tuple []) fun x=>H1) (.hint (.go 5002) .nil))))) (keep:= [0,2,4,10,11]) (by kernel_rfl) vc
theorem roB_vp(H H1:AHeap)(B m i j:Nat)(dv cv:AVal)(K0:AExit→Facts→AHeap→Prop)(vc:bif Nat.ble B (AHeap.next H) && true then some (AVal.bool ((↑i:Int) != (↑j:Int)))=some (AVal.bool true)∧bif Nat.ble B (AHeap.next H+3) && true then some (AVal.bool (decide ((↑i:Int)>(↑j:Int))))=some (AVal.bool false)∧bif Nat.ble B (AHeap.next H+6) && true then(-9223372036854775808≤(↑m:Int)- (↑i:Int)∧(↑m:Int)- (↑i:Int)≤9223372036854775807)∧(-9223372036854775808≤(↑m:Int)+(↑j:Int)∧(↑m:Int)+(↑j:Int)≤9223372036854775807)∧(-9223372036854775808≤(↑m:Int)+(↑j:Int)- (↑i:Int)∧(↑m:Int)+(↑j:Int)- (↑i:Int)≤9223372036854775807)∧CallT Tryz.prog cnd 221 [dv,AVal.int IntKind.i64 ((↑m:Int)- (↑i:Int)),AVal.int IntKind.i64 ((↑m:Int)+(↑j:Int)- (↑i:Int)),AVal.int IntKind.i64 (↑i:Int),cv] (AHeap.mk (AHeap.next H+18) (H.2)) (AVal.tuple []) H1∧bif Nat.ble B (AHeap.next H1) && true then(-9223372036854775808≤(↑j:Int)- (↑i:Int)∧(↑j:Int)- (↑i:Int)≤9223372036854775807)∧K0 AExit.normal [(0,dv),(2,AVal.int IntKind.i64 (↑m:Int)),(4,cv),(10,AVal.int IntKind.i64 (↑i:Int)),(11,AVal.int IntKind.i64 ((↑j:Int)- (↑i:Int)))] (AHeap.mk (AHeap.next H1+4) (AHeap.blks H1))else False else False else False else False) :
    ∃ e F1 h1,Runs Tryz.prog cnd B 58 (loopAt Tryz.prog 195 0) [(0,dv),(2,.int .i64 m),(4,cv),(10,.int .i64 i),(11,.int .i64 j)] H e F1 h1∧K0 e F1 h1 :=
  tpath_runs env_ok mixed noSpecs_ok (hs:= .hint (.val 2002 (AVal.bool true)) (.hint (.val 3002 (AVal.bool false)) (.hint (.go 6003) (.hint (.go 6006) (.hint (.go 6008) (.hint (.act 6011 (AVal.tuple []) fun x=>H1) (.hint (.go 7002) .nil))))))) (keep:= [0,2,4,10,11]) (by kernel_rfl) vc
theorem roE_vp(H:AHeap)(B m i j:Nat)(dv cv:AVal)(K0:AExit→Facts→AHeap→Prop)(vc:bif Nat.ble B (AHeap.next H) && true then some (AVal.bool ((↑i:Int) != (↑j:Int)))=some (AVal.bool false)∧K0 (AExit.exit 0) [(0,dv),(2,AVal.int IntKind.i64 (↑m:Int)),(4,cv),(10,AVal.int IntKind.i64 (↑i:Int)),(11,AVal.int IntKind.i64 (↑j:Int))] (AHeap.mk (AHeap.next H+3) (AHeap.blks H))else False) :
    ∃ e F1 h1,Runs Tryz.prog cnd B 58 (loopAt Tryz.prog 195 0) [(0,dv),(2,.int .i64 m),(4,cv),(10,.int .i64 i),(11,.int .i64 j)] H e F1 h1∧K0 e F1 h1 :=
  tpath_runs env_ok mixed noSpecs_ok (hs:= .hint (.val 2002 (AVal.bool false)) .nil) (keep:= [0,2,4,10,11]) (by kernel_rfl) vc
theorem rot_vc(H H1 H2:AHeap)(a m z i:Nat)(dv cv:AVal)(K0:AVal→AHeap→Prop)(vc:bif Nat.ble (AHeap.next H) (AHeap.next H) && true then(-9223372036854775808≤(↑m:Int)- (↑a:Int)∧(↑m:Int)- (↑a:Int)≤9223372036854775807)∧bif Nat.ble (AHeap.next H) (AHeap.next H+4) && true then(-9223372036854775808≤(↑z:Int)- (↑m:Int)∧(↑z:Int)- (↑m:Int)≤9223372036854775807)∧Runs Tryz.prog cnd (AHeap.next H) 58 (Code.loop (loopAt Tryz.prog 195 0)) [(0,dv),(2,AVal.int IntKind.i64 (↑m:Int)),(4,cv),(10,AVal.int IntKind.i64 ((↑m:Int)- (↑a:Int))),(11,AVal.int IntKind.i64 ((↑z:Int)- (↑m:Int)))] (AHeap.mk (AHeap.next H+4+4) (AHeap.blks (AHeap.mk (AHeap.next H+4) (AHeap.blks H)))) (AExit.exit 0) [(0,dv),(2,AVal.int IntKind.i64 (↑m:Int)),(4,cv),(10,AVal.int IntKind.i64 (↑i:Int))] H1∧bif Nat.ble (AHeap.next H) (AHeap.next H1) && true then(-9223372036854775808≤(↑m:Int)- (↑i:Int)∧(↑m:Int)- (↑i:Int)≤9223372036854775807)∧CallT Tryz.prog cnd 221 [dv,AVal.int IntKind.i64 ((↑m:Int)- (↑i:Int)),AVal.int IntKind.i64 (↑m:Int),AVal.int IntKind.i64 (↑i:Int),cv] (AHeap.mk (AHeap.next H1+8) (H1.2)) (AVal.tuple []) H2∧bif Nat.ble (AHeap.next H) (AHeap.next H2)then K0 (AVal.tuple []) H2 else False else False else False else False) :
    ∃ v h1,FDoes Tryz.prog cnd 195 [dv,.int .i64 a,.int .i64 m,.int .i64 z,cv] H v h1∧K0 v h1 :=
  tcall_does env_ok mixed noSpecs_ok (hs:= .hint (.go 2) (.hint (.go 1002) (.hint (.keep [0,2,4,10,11]) (.hint (.loop [(0,dv),(2,AVal.int IntKind.i64 (↑m:Int)),(4,cv),(10,AVal.int IntKind.i64 (↑i:Int))] H1 (AExit.exit 0)) (.hint (.go 8003) (.hint (.act 8007 (AVal.tuple []) fun x=>H2) .nil)))))) (by kernel_rfl) vc
end Go.Proofs.YtjpfnbihopoeeaaGreatDoor
