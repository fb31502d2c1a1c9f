/-
  Parts of the proof of TableFits.
-/
import Derived.Test.YtjpfnbihopoeeaaGreatDoorKTableFitsD
set_option maxRecDepth 1000000
set_option linter.unusedSectionVars false
set_option linter.unusedVariables false
set_option linter.unusedSimpArgs false
namespace Go.Proofs.YtjpfnbihopoeeaaGreatDoor
open Go.ba
theorem yt{t x:Int}(bl:0≤t∧t≤2^30)(ab:0≤x∧x≤2^23):0≤t*x∧t*x≤2^53:=by refine⟨Int.mul_nonneg bl.1 ab.1,?_⟩;have:=Int.mul_le_mul bl.2 ab.2 ab.1 (by decide);omega
theorem HE{v:Int}(h: -2^62≤v∧v≤2^62):IntKind.wrap .i64 v=v:=wrap64 (by omega) (by omega)
theorem yu{t al:Int}{w:List Int}(bl:0≤t∧t≤2^30)(et:0<al)(hw:∀x∈w,0≤x∧x≤2^23):c1 t al w=w.map fun x=>(t*x)/al:=by
 refine List.map_congr_left fun x ab=> ?_
 have h:=yt bl (hw x ab);rw [Int.tdiv_eq_ediv_of_nonneg h.1];have U:=Int.ediv_nonneg h.1 (Int.le_of_lt et);have ak:=Int.ediv_le_self al h.1;exact HE (by omega)
theorem yv{t al:Int}{w:List Int}(bl:0≤t∧t≤2^30)(hw:∀x∈w,0≤x∧x≤2^23):e4 t al w=w.map fun x=>(t*x)%al:=by
 refine List.map_congr_left fun x ab=> ?_
 rw [Int.tmod_eq_emod_of_nonneg (yt bl (hw x ab)).1]
theorem yw{t al:Int}{w:List Int}(bl:0≤t∧t≤2^30)(et:0<al)(hw:∀x∈w,0≤x∧x≤2^23):∀y∈c1 t al w,0≤y∧y≤2^53:=by rw [yu bl et hw];intro y bi;obtain⟨x,ab,rfl⟩:=List.mem_map.1 bi;have h:=yt bl (hw x ab);have U:=Int.ediv_nonneg h.1 (Int.le_of_lt et);have ak:=Int.ediv_le_self al h.1;omega
theorem rem_in{t al:Int}{w:List Int}(bl:0≤t∧t≤2^30)(et:0<al)(hw:∀x∈w,0≤x∧x≤2^23):∀y∈e4 t al w,0≤y∧y<al:=by rw [yv bl hw];intro y bi;obtain⟨x,ab,rfl⟩:=List.mem_map.1 bi;exact⟨Int.emod_nonneg _ (by omega),Int.emod_lt_of_pos _ et⟩
theorem Cz(t al:Int):∀w:List Int,al*bs (w.map fun x=>(t*x)/al)+bs (w.map fun x=>(t*x)%al)=t*bs w
 |[]=>by simp [bs]
 |x::r=>by have ih:=Cz t al r;have e:=Int.mul_ediv_add_emod (t*x) al;simp only [List.map_cons,bs,Int.mul_add];omega
theorem vn{t:Int}{w:List Int}(bl:0≤t∧t≤2^30)(et:0<bs w)(hw:∀x∈w,0≤x∧x≤2^23):0≤t-bs (c1 t (bs w) w)∧t-bs (c1 t (bs w) w)≤w.length:=by
 have aC:=rem_in bl et hw;have e:=Cz t (bs w) w;rw [←yu bl et hw,←yv (al:=bs w) bl hw]at e
 have key:∀(l:List Int)(m:Int),(∀y∈l,0≤y∧y<m)→0≤bs l∧bs l≤m*l.length:=by
  intro l m;induction l with
  |nil=>intro _;simp [bs]
  |cons a r ih =>
   intro h;have U:=ih fun y bi=>h y (List.mem_cons_of_mem _ bi)
   have ak:=h a (by simp);simp only [bs,List.length_cons];rw [show m* ((r.length+1:Nat):Int)=m*r.length+m by rw [Int.natCast_add,Int.mul_add];simp];omega
 obtain⟨k1,k2⟩:=key _ _ aC;rw [e4,List.length_map]at k2
 have bO:bs w* (t-bs (c1 t (bs w) w))=bs (e4 t (bs w) w):=by rw [Int.mul_sub,Int.mul_comm (bs w) t];omega
 refine⟨?_,?_⟩
 ·refine Int.le_of_mul_le_mul_left (a:=bs w) ?_ et;rw [bO,Int.mul_zero];exact k1
 ·refine Int.le_of_mul_le_mul_left (a:=bs w) ?_ et;rw [bO];exact k2
theorem vo{l:List Int}{m:Int}(hm:0≤m∧m≤2^53)(aF:l.length≤2^8)(h:∀x∈l, -m≤x∧x≤m):∀i,i≤l.length→ -2^62≤bs (l.take i)∧bs (l.take i)≤2^62:=by
 intro i ac;have:=vi (l.take i) fun x ab=>h x (List.mem_of_mem_take ab)
 have hlen:((l.take i).length:Int)≤2^8:=by rw [List.length_take];omega
 have:=Int.mul_le_mul hm.2 hlen (by omega) (by decide);omega
end Go.Proofs.YtjpfnbihopoeeaaGreatDoor
namespace Go.Proofs.YtjpfnbihopoeeaaGreatDoor
open Go.ba
theorem yx(H:I){q N:Nat}{Y:List Int}(aw:q<H.next)(us:Y.length=N):cQ (H.set q (aJ.made (List.replicate N (.int .i64 0)) 1 true)) 3 q (.slice (some ⟨q,0,0,0,1⟩) N N) (dh (fm Y 0)):=by
 have e:dh (fm Y 0)=List.replicate N (.int .i64 0):=by simp [fm,us]
 rw [e];exact .inr ⟨aJ.made (List.replicate N (.int .i64 0)) 1 true,by simp [aJ.made],aw,I.eG _ _ _,rfl,rfl,.inl rfl⟩
theorem HF{H:I}{qw:Nat}{pY:J}{t:Int}{w:List Int}(r:dJ H qw pY (dh w))(qT:qw<H.next)(be:w.length≤2^8)(bl:0≤t∧t≤2^30)(hw:∀x∈w,0≤x∧x≤2^23)(et:0<bs w) :
 ∃σ H' qo v,aZ Tryz.prog aq 94 [.int .i64 t,pY] H v H'∧cQ H' 3 qo v (dh (fl σ (c1 t (bs w) w) (t-bs (c1 t (bs w) w)).toNat))∧dM (fun k=>k) σ 0 w.length∧fV (pW (e4 t (bs w) w)) σ 0 w.length∧Fr H H' []∧H.next<H'.next∧H.next≤qo∧qo<H'.next:=by
 obtain⟨wo,wc,rfl⟩:=r.eS;rw [List.length_map]at r⊢;obtain⟨N,rl⟩:∃N,N=w.length:=⟨_,rfl⟩
 rw [←rl]at r be⊢;obtain⟨s,hs⟩:∃s,s=bs w:=⟨_,rfl⟩
 have sR:=vn bl et hw;have lf:=yw bl et hw;have yy:=rem_in bl et hw;have HG:=vo (l:=w) (m:=2^23) (by decide) (by omega) (fun x ab=>by have:=hw x ab;omega);have gy:(c1 t (bs w) w).length=N:=by rw [c1,List.length_map,rl]
 have nJ:(e4 t (bs w) w).length=N:=by rw [e4,List.length_map,rl]
 have hi:=vo (l:=c1 t (bs w) w) (m:=2^53) (by decide) (by omega) (fun x ab=>by have:=lf x ab;omega);have sk:bs w≤2^62:=by have:=HG w.length (Nat.le_refl _);rw [List.take_of_length_le (Nat.le_refl _)]at this;exact this.2
 have HH: -2^62≤bs (c1 t (bs w) w)∧bs (c1 t (bs w) w)≤2^62:=by have:=hi (c1 t (bs w) w).length (Nat.le_refl _);rwa [List.take_of_length_le (Nat.le_refl _)]at this
 have Ql:bs w≤2^34:=by have:=(vi (m:=2^23) w fun x ab=>by have:=hw x ab;omega).2;omega
 rw [←hs]at sR lf yy gy nJ hi HH et sk Ql⊢;obtain⟨m1,U,gg⟩:=vj (H:=up H 4) (by omega) HG (r.aI (Fr.up H 4 []) (by simp));have U:H.next+4<m1:=U
 rw [←hs]at gg
 let H1:I:=⟨m1,H.aj⟩
 have f1:Fr H H1 []:=Fr.aj (by omega)
 let sQ:I:=up H1 4
 let af:I:=sQ.set (m1+2) (aJ.made (List.replicate N (.int .i64 0)) 1 true)
 have n2:af.next=m1+4:=rfl
 have f2:Fr H af []:=(f1.more (Fr.up H1 4 []) (by simp)).more (Fr.set (L:=[m1+2]) sQ _ _ (by simp)) (by intro x ab;simp at ab;omega);have cJ:cQ af 3 (m1+2) (.slice (some ⟨m1+2,0,0,0,1⟩) N N) (dh (fm (c1 t s w) 0)):=yx sQ (by show m1+2<m1+4;omega) gy
 let CA:I:=up af 6
 let ax:I:=CA.set (m1+8) (aJ.made (List.replicate N (.int .i64 0)) 1 true)
 have b2:ax.next=m1+10:=rfl
 have f23:Fr af ax [m1+8]:=(Fr.up af 6 [m1+8]).trans (Fr.set (L:=[m1+8]) CA _ _ (by simp)) (fun x ab _=>ab);have f3:Fr H ax []:=f2.more f23 (by intro x ab;simp at ab;omega);have fb:cQ ax 3 (m1+8) (.slice (some ⟨m1+8,0,0,0,1⟩) N N) (dh (fm (e4 t s w) 0)):=yx CA (by show m1+8<m1+4+6;omega) nJ;have rm:Fr H (up ax 3) []:=f3.more (Fr.up ax 3 []) (by simp);obtain⟨au,L,HI,wr,f34⟩:=Qi (B:=H.next) (qw:=qw) (t:=t) (al:=s) rl (by omega) (by omega) (fun x ab=>by have:=yt bl (hw x ab);omega) (by omega) (by omega) (by omega) N 0 (up ax 3) (by omega) (by show H.next≤m1+10+3;omega) (r.aI rm (by simp)) ((cJ.aI f23 (by simp)).aI (Fr.up ax 3 []) (by simp)) (fb.aI (Fr.up ax 3 []) (by simp));have cY:=f34.next
 have cY:m1+13≤au.next:=cY
 have f4:Fr H au []:=rm.more f34 (by intro x ab;simp at ab;omega);obtain⟨kQ,ct,sS⟩:=vj (H:=up au 7) (by omega) hi (HI.rd.aI (Fr.up au 7 []) (by simp));have ct:au.next+7<kQ:=ct
 have f45:Fr au ⟨kQ,au.aj⟩ []:=Fr.aj (by omega);obtain⟨k,az⟩:∃k:Nat,k=(t-bs (c1 t s w)).toNat:=⟨_,rfl⟩
 have vp:((k:Nat):Int)=t-bs (c1 t s w):=by omega
 obtain⟨σ,bc,kR,s1,s2,mH,f56,ls⟩:=HC (H:=⟨kQ,au.aj⟩) (k:=k) (HI.aI f45 (by simp)) (by show m1+2<kQ;omega) (wr.rd.aI f45 (by simp)) (by show m1+8<kQ;omega) (by rw [gy,nJ]) (by omega) (by omega) (fun v a7=>by have:=yy v a7;omega) (fun v a7=>by have:=lf v a7;omega);have ls:kQ<bc.next:=ls
 rw [vp]at kR;rw [gy]at s1 s2
 have cg:some (J.bool (s == 0))=some (J.bool false):=by
  have:(s == 0)=false:=by rw [beq_eq_false_iff_ne];omega
  rw [this]
 obtain⟨v,h',aM,rfl,rfl⟩:=OP H H1 af ax au ⟨kQ,au.aj⟩ bc N wc (m1+2) (m1+8) wo t s (bs (c1 t s w)) (fun v U=>v=.slice (some ⟨m1+2,0,0,0,1⟩) N N∧U=up bc 2)
  (ae (Nat.le_refl _) (ae (by omega) ⟨⟨gg⟩,ae (by show H.next≤m1;omega) ⟨kP rfl (by omega),ae (by omega) ⟨cg,ae (by omega) ⟨kP rfl (by omega),ae (by omega) ⟨aR.cx L,ae (by omega) ⟨⟨sS⟩,⟨by omega,by omega⟩,⟨kR⟩,ae (by omega) (df (by omega) ⟨rfl,rfl⟩)⟩⟩⟩⟩⟩⟩))
 rw [←az];exact⟨σ,up bc 2,m1+2,_,aM,mH.aI (Fr.up bc 2 []) (by simp),s1,s2,((f4.more f45 (by simp)).more f56 (by intro x ab;simp at ab;omega)).more (Fr.up bc 2 []) (by simp),by show H.next<bc.next+2;omega,by omega,by show m1+2<bc.next+2;omega⟩
end Go.Proofs.YtjpfnbihopoeeaaGreatDoor
namespace Go.Proofs.YtjpfnbihopoeeaaGreatDoor
open Go.ba
theorem Wz{H:I}{qw:Nat}{pY:J}{t:Int}{w:List Int}(r:dJ H qw pY (dh w))(qT:qw<H.next)(be:w.length≤2^8)(bl:0≤t∧t≤2^30)(hw:∀x∈w,0≤x∧x≤2^23)(et:0<bs w) :
 ∃Z H' qo v,aZ Tryz.prog aq 94 [.int .i64 t,pY] H v H'∧cQ H' 3 qo v (dh Z)∧Z.length=w.length∧bs Z=t∧(∀z∈Z,0≤z∧z≤2^54)∧Fr H H' []∧H.next<H'.next∧H.next≤qo∧qo<H'.next:=by
 obtain⟨σ,H',qo,v,D,aN,s1,s2,aI,bK,n2,b2⟩:=HF r qT be bl hw et;have sR:=vn bl et hw;have lf:=yw bl et hw;have gy:(c1 t (bs w) w).length=w.length:=by rw [c1,List.length_map]
 have iP:∀j,j<(t-bs (c1 t (bs w) w)).toNat→σ j<(c1 t (bs w) w).length:=fun j ay=>by
  obtain⟨i,_,ak,e⟩:=s1.from (Nat.zero_le j) (show j<w.length by omega)
  rw [e,gy];exact ak
 refine⟨_,H',qo,v,D,aN,by rw [pX,gy],?_,fun z cl=> ?_,aI,bK,n2,b2⟩
 ·rw [Cw _ iP];omega
 ·have:=yp lf _ iP z cl;omega
end Go.Proofs.YtjpfnbihopoeeaaGreatDoor
namespace Go.Proofs.YtjpfnbihopoeeaaGreatDoor
open Go.ba
theorem Qm(H:I)(a:Int)(ai:J→I→Prop)(aG:ad (H.next) (H.next) (ad (H.next) (H.next+1) (cW (H.next) (H.next+5) (ai (.int .i64 (if 4096<if 0>a then 0 else a then 4096 else if 0>a then 0 else a)) (I.mk (H.next+1+4) (I.aj (I.mk (H.next+1) (I.aj H)))))))) :
 ∃v U,aZ Tryz.prog aq 91 [.int .i64 a] H v U∧ai v U :=
 cE bg mixed bq (hs:= .nil) (by kernel_rfl) aG
end Go.Proofs.YtjpfnbihopoeeaaGreatDoor
namespace Go.Proofs.YtjpfnbihopoeeaaGreatDoor
open Go.ba
def iR(a:Int):Int:=min (max a 0) 4096
theorem HJ(a:Int):0≤iR a∧iR a≤4096:=by unfold iR;omega
theorem Qn(a:Int)(H:I):aZ Tryz.prog aq 91 [.int .i64 a] H (.int .i64 (iR a)) (up H 5):=by
 obtain⟨v,h',aM,rfl,rfl⟩:=Qm H a (fun v U=>v=.int .i64 (iR a)∧U=up H 5)
  (ae (Nat.le_refl _) (ae (by omega) (df (by omega) ⟨by
   congr 1
   unfold iR
   split<;>split<;>omega,rfl⟩)))
 exact aM
end Go.Proofs.YtjpfnbihopoeeaaGreatDoor
namespace Go.ba
def bC(f:Nat→Int):List Nat→Int
 |[]=>0
 |a::l=>f a+bC f l
theorem oP(f:Nat→Int):∀(l r:List Nat),bC f (l++r)=bC f l+bC f r
 |[],r=>by simp [bC]
 |a::l,r=>by simp only [List.cons_append,bC,oP f l r];omega
theorem sT{f g:Nat→Int} :∀{l:List Nat},(∀i∈l,f i≤g i)→bC f l≤bC g l
 |[],_=>by simp [bC]
 |a::l,h=>by
  have U:=sT (l:=l) fun i ac=>h i (by simp [ac])
  have ak:=h a (by simp);simp only [bC];omega
theorem ka{f g:Nat→Int} :∀{l:List Nat},(∀i∈l,f i=g i)→bC f l=bC g l
 |[],_=>by simp [bC]
 |a::l,h=>by
  have U:=ka (l:=l) fun i ac=>h i (by simp [ac])
  have ak:=h a (by simp);simp only [bC];omega
theorem yz(f g:Nat→Int):∀(l:List Nat),bC (fun i=>f i+g i) l=bC f l+bC g l
 |[]=>by simp [bC]
 |a::l=>by simp only [bC,yz f g l];omega
theorem rn(c:Int)(f:Nat→Int):∀(l:List Nat),bC (fun i=>c*f i) l=c*bC f l
 |[]=>by simp [bC]
 |a::l=>by simp only [bC,rn c f l,Int.mul_add]
theorem yA(c:Int):∀(l:List Nat),bC (fun _=>c) l=l.length*c
 |[]=>by simp [bC]
 |a::l=>by simp only [bC,yA c l,List.length_cons];rw [Int.natCast_add,Int.add_mul];simp;omega
theorem mI{f:Nat→Int}{l:List Nat}(h:∀i∈l,0≤f i):0≤bC f l:=by have:=sT (f:=fun _=>0) h;rw [yA]at this;omega
theorem yB(f:Nat→Int)(p:Nat→Bool):∀(l:List Nat),bC f l=bC f (l.filter p)+bC f (l.filter fun i=> !p i)
 |[]=>by simp [bC]
 |a ::l=>by
  have:=yB f p l;by_cases h:p a=true
  ·simp only [bC,List.filter_cons,h,if_true,Bool.not_true,Bool.false_eq_true,if_false];omega
  ·simp only [Bool.not_eq_true]at h;simp only [bC,List.filter_cons,h,Bool.false_eq_true,if_false,Bool.not_false,if_true];omega
theorem CB{f:Nat→Int} :∀{l:List Nat},0<bC f l→ ∃i∈l,0<f i
 |[],h=>by simp [bC]at h
 |a ::l,h=>by
  by_cases c:0<f a
  ·exact⟨a,by simp,c⟩
  ·simp only [bC]at h;obtain⟨i,ac,ak⟩:=CB (f:=f) (l:=l) (by omega);exact⟨i,by simp [ac],ak⟩
theorem vq{f:Nat→Int} :∀{l:List Nat},(∀i∈l,0≤f i)→ ∀i∈l,f i≤bC f l
 |[],_,i,ac=>by cases ac
 |a::l,h,i,ac=>by
  have bt:=mI (f:=f) (l:=l) fun i ac=>h i (by simp [ac])
  have U:=h a (by simp);simp only [bC];rcases List.mem_cons.1 ac with e|ac
  ·subst e;omega
  ·have:=vq (l:=l) (fun i ac=>h i (by simp [ac])) i ac;omega
theorem HK{f:Nat→Int}{l:List Nat}(h:∀i∈l,0≤f i)(bt:bC f l=0):∀i∈l,f i=0:=by intro i ac;have:=vq h i ac;have:=h i ac;omega
theorem Qo{f:Nat→Int}{l r:List Nat}(h:l.Perm r):bC f l=bC f r:=by
 induction h with
 |nil=>rfl
 |cons a _ ih=>simp only [bC,ih]
 |swap a b l=>simp only [bC];omega
 |trans _ _ U ak=>rw [U,ak]
theorem yC(f:Nat→Int)(g:Nat→Nat):∀(l:List Nat),bC f (l.map g)=bC (fun i=>f (g i)) l
 |[]=>rfl
 |a::l=>by simp only [List.map_cons,bC,yC f g l]
def hO(y:Nat→Int)(σ:Nat→Nat):Nat→Nat→Int
 |0,j=>y j
 |i+1,j=>if j=σ i then hO y σ i j+1 else hO y σ i j
def vr(x:Nat→Int)(p q:Nat):Bool:=decide (x q<x p)
structure yD(n:Nat)(y r:Nat→Int)(k:Nat)(z:Nat→Int):Prop where
 one:∀j,j<n→z j=y j∨(z j=y j+1∧0<r j)
 sum:bC z (List.range n)=bC y (List.range n)+k
 ord:∃σ,dM (fun j=>j) σ 0 n∧fV (vr r) σ 0 n∧z=hO y σ k
theorem CC{y:Nat→Int}{σ:Nat→Nat}{j:Nat} :∀{k:Nat},(∀i,i<k→σ i≠j)→hO y σ k j=y j
 |0,_=>rfl
 |k+1,h=>by simp only [hO];rw [if_neg (Ne.symm (h k (by omega))),CC fun i ac=>h i (by omega)]
theorem HL{y:Nat→Int}{σ:Nat→Nat}{j:Nat} :∀{k:Nat},(∀a b,a<b→b<k→σ a≠σ b)→(∃i,i<k∧σ i=j)→hO y σ k j=y j+1
 |0,_,⟨i,ac,_⟩=>by omega
 |k +1,aM,⟨i,ac,e⟩=>by
  simp only [hO];by_cases c:j=σ k
  ·rw [if_pos c,CC];intro a aW bO;exact aM a k aW (by omega) (by rw [bO,c])
  ·rw [if_neg c];have:i≠k:=fun h=>c (by rw [←h,e])
   exact HL (fun a b U ak=>aM a b U (by omega)) ⟨i,by omega,e⟩
theorem Qp{σ:Nat→Nat}{n:Nat}(h:dM (fun j=>j) σ 0 n):∀a b,a<b→b<n→σ a≠σ b:=by
 have be:((List.range' 0 (n-0)).map σ).Nodup:=by refine h.perm.nodup_iff.2 ?_;rw [List.map_id'];exact List.nodup_range'
 rw [Nat.sub_zero]at be;intro a b U ak e;have bO:((List.range' 0 n).map σ)[a]'(by simp;omega)=((List.range' 0 n).map σ)[b]'(by simp;omega):=by simp [e]
 have:=(List.getElem_inj be).1 bO;omega
theorem yE{σ:Nat→Nat}{n:Nat}(h:dM (fun j=>j) σ 0 n){j:Nat}(ay:j<n):σ j<n:=by
 obtain⟨i,_,ak,e⟩:=h.from (k:=j) (by omega) ay
 omega
theorem HM{σ:Nat→Nat}{n:Nat}(h:dM (fun j=>j) σ 0 n)(y:Nat→Int):∀k,k≤n→bC (hO y σ k) (List.range n)=bC y (List.range n)+k
 |0,_=>by show bC (hO y σ 0) _=_;rw [show hO y σ 0=y from rfl];simp
 |k + 1,az=>by
  have ih:=HM h y k (by omega)
  have key:∀(f:Nat→Int)(s:Nat)(l:List Nat),l.Nodup→s∈l→bC (fun j=>if j=s then f j+1 else f j) l=bC f l+1:=by
   intro f s l;induction l with
   |nil=>intro _ h;cases h
   |cons a l um =>
    intro gi hm;simp only [List.nodup_cons]at gi;simp only [bC];by_cases c:a=s
    ·subst c;rw [if_pos rfl];have:bC (fun j=>if j=a then f j+1 else f j) l=bC f l:=ka fun i ac=>by rw [if_neg (fun(e:i=a)=>gi.1 (by rw [←e];exact ac))]
     omega
    ·rw [if_neg c];have:=um gi.2 ((List.mem_cons.1 hm).resolve_left (Ne.symm c));omega
  have:=key (hO y σ k) (σ k) (List.range n) List.nodup_range (List.mem_range.2 (yE h (by omega)));show bC (fun j=>if j=σ k then hO y σ k j+1 else hO y σ k j) _=_;rw [this,ih];omega
theorem HN{σ:Nat→Nat}{n:Nat}(h:dM (fun j=>j) σ 0 n){r:Nat→Int}(hs:fV (vr r) σ 0 n){w:Int}(hw:0<w)(aC:∀j,j<n→0≤r j∧r j<w){k:Nat}(az:k≤n)(Qq:bC r (List.range n)=w*k)(y:Nat→Int) :
 yD n y r k (hO y σ k):=by
 refine⟨fun j ay=> ?_,HM h y k az,σ,h,hs,rfl⟩;by_cases c:∃i,i<k∧σ i=j
 ·right;refine⟨HL (fun a b U ak=>Qp h a b U (by omega)) c,?_⟩;obtain⟨i,ac,e⟩:=c;rcases Int.lt_or_le 0 (r j)with bt|bt
  ·exact bt
  exfalso
  have cl:∀b,i≤b→b<n→r (σ b)=0:=by
   intro b U ak;have aP:=aC (σ b) (yE h ak);by_cases c:b=i
   ·subst c;rw [e]at aP⊢; omega
   ·have:=hs i b (by omega) (by omega) ak;unfold iA at this;simp only [vr,decide_eq_true_eq,decide_eq_false_iff_not]at this;rw [e]at this;omega
  have bo:bC r (List.range n)=bC (fun b=>r (σ b)) (List.range n):=by rw [←yC r σ];have:=h.perm;rw [List.map_id',Nat.sub_zero,←List.range_eq_range']at this;exact Qo this.symm
  have bO : bC (fun b=>r (σ b)) (List.range n)≤i* (w-1):=by
   have Qr :∀m,i≤m→m≤n→bC (fun b=>r (σ b)) (List.range m)≤i* (w-1):=by
    intro m;induction m with
    |zero => intro U _;obtain rfl:i=0:=by omega
             simp [bC]
    |succ m ih =>
     intro U ak;rw [List.range_succ,oP];simp only [bC];by_cases c:i≤m
     ·have:=ih c (by omega);have:=cl m c (by omega);omega
     ·obtain rfl:i=m+1:=by omega
      have bQ:bC (fun b=>r (σ b)) (List.range m)≤bC (fun _=>w-1) (List.range m):=sT fun b ao=>by have:=aC (σ b) (yE h (by have:=List.mem_range.1 ao;omega));omega
      rw [yA,List.length_range]at bQ;have ct:=aC (σ m) (yE h (by omega));have cL:((m+1:Nat):Int)* (w-1)=(m:Int)* (w-1)+(w-1):=by rw [Int.natCast_add,Int.add_mul];simp
      omega
   exact Qr n (by omega) (Nat.le_refl _)
  have fR:(i:Int)* (w-1)<w*k:=by
   have U:(i:Int)* (w-1)≤(k:Int)* (w-1):=Int.mul_le_mul_of_nonneg_right (by omega) (by omega);have ak:(k:Int)* (w-1)=w*k-k:=by rw [Int.mul_sub,Int.mul_comm];simp
   omega
  omega
 ·left;exact CC fun i ac e=>c ⟨i,ac,e⟩
theorem Qs{l:List Nat}{x:Nat→Int}{w t:Int}(hw:0<w)(h:bC x l=t*w):bC (fun j=>x j%w) l=w* (t-bC (fun j=>x j/w) l):=by
 have e:bC x l=bC (fun j=>w* (x j/w)+x j%w) l:=ka fun i _=>(Int.mul_ediv_add_emod (x i) w).symm
 rw [yz,rn,h]at e;rw [Int.mul_sub,Int.mul_comm w t];omega
structure cd where
 n:Nat→Int
 aE:Nat→Int
 cq:Nat→Int
structure cd.dG(p:cd)(l:List Nat):Prop where
 n:∀i∈l,1≤p.n i
 aE:∀i∈l,0≤p.aE i
 le:∀i∈l,p.aE i≤p.cq i
def cd.gL(p:cd)(rest weight:Int)(l:List Nat):Int:=bC (fun i=>max 0 (rest*p.n i-weight*p.cq i)) l
def cd.below(p:cd)(rest weight:Int)(l:List Nat):Int:=bC (fun i=>max 0 (weight*p.aE i-rest*p.n i)) l
def cd.gz(p:cd)(rest weight a b:Int)(i:Nat):Bool:=decide (b≤a)&&decide (weight*p.cq i≤rest*p.n i)
def cd.mJ(p:cd)(rest weight a b:Int)(i:Nat):Bool:= !p.gz rest weight a b i&&(decide (a≤b)&&decide (rest*p.n i≤weight*p.aE i))
def cd.c2(p:cd)(rest weight a b:Int)(i:Nat):Bool:=p.gz rest weight a b i || p.mJ rest weight a b i
def cd.fo(p:cd)(rest weight a b:Int)(i:Nat):Int:=if p.gz rest weight a b i=true then p.cq i else p.aE i
inductive nL(p:cd):List Nat→Int→Int→(Nat→Int)→(Nat→Int)→Prop
 |stop {l:List Nat} {rest weight:Int} {y z:Nat→Int} (aW:p.gL rest weight l=0) (ao:p.below rest weight l=0) (out:Nat→Int)
  (bl:l≠[]→ ∃k:Nat,(k:Int)=rest-bC (fun i=>rest*p.n i/weight) l∧yD l.length (fun k=>rest*p.n (l.getD k 0)/weight) (fun k=>rest*p.n (l.getD k 0)%weight) k out)
  (fN:∀k,k<l.length→z (l.getD k 0)=out k) (jY:∀j,j ∉ l→z j=y j):nL p l rest weight y z
 |round {l:List Nat} {rest weight a b:Int} {y z:Nat→Int} (aW:a=p.gL rest weight l) (ao:b=p.below rest weight l) (h:a≠0∨b≠0)
  (next:nL p (l.filter fun i=> !p.c2 rest weight a b i) (rest-bC (p.fo rest weight a b) (l.filter (p.c2 rest weight a b))) (weight-bC p.n (l.filter (p.c2 rest weight a b)))
   (fun j=>if j∈l∧p.c2 rest weight a b j=true then p.fo rest weight a b j else y j) z):nL p l rest weight y z
theorem nL.out{p:cd}{l:List Nat}{rest weight:Int}{y z:Nat→Int}(h:nL p l rest weight y z):∀j,j ∉ l→z j=y j:=by
 induction h with
 |stop _ _ _ _ _ h=>exact h
 | @round l rest weight a b y z aW ao h next ih =>
   intro j ay;rw [ih j fun k=>ay (List.mem_filter.1 k).1];exact if_neg fun k=>ay k.1
structure iS(p:cd)(l:List Nat)(rest weight:Int):Prop where
 ok:p.dG l
 HO:l.Nodup
 w:weight=bC p.n l
 aB:bC p.aE l≤rest
 ac:rest≤bC p.cq l
theorem iS.yF{p:cd}{l:List Nat}{rest weight:Int}(h:iS p l rest weight):0≤rest:=by have:=mI (f:=p.aE) (l:=l) h.ok.aE;have:=h.aB;omega
theorem iS.vt{p:cd}{l:List Nat}{rest weight:Int}(h:iS p l rest weight)(aF:l≠[]):0<weight:=by
 rw [h.w];cases l with
 |nil=>exact absurd rfl aF
 |cons a l =>
  simp only [bC];have:=h.ok.n a (by simp);have:=mI (f:=p.n) (l:=l) fun i ac=>by have:=h.ok.n i (by simp [ac]);omega
  omega
theorem iS.w0{p:cd}{l:List Nat}{rest weight:Int}(h:iS p l rest weight):0≤weight:=by rw [h.w];exact mI fun i ac=>by have:=h.ok.n i ac;omega
def cd.fO(p:cd)(rest weight:Int)(i:Nat):Int:=rest*p.n i-max 0 (rest*p.n i-weight*p.cq i)+max 0 (weight*p.aE i-rest*p.n i)
theorem Qt{p:cd}{l:List Nat}{rest weight:Int}(h:iS p l rest weight):bC (p.fO rest weight) l=rest*weight-p.gL rest weight l+p.below rest weight l:=by
 unfold cd.fO cd.gL cd.below;rw [yz]
 have e:bC (fun i=>rest*p.n i-max 0 (rest*p.n i-weight*p.cq i)) l+bC (fun i=>max 0 (rest*p.n i-weight*p.cq i)) l=rest*weight:=by rw [←yz,h.w,←rn];exact ka fun i _=>by omega
 omega
theorem CD{w a b:Int}(hw:0≤w)(h:a≤b):w*a≤w*b:=Int.mul_le_mul_of_nonneg_left h hw
theorem iS.round{p:cd}{l:List Nat}{rest weight a b:Int}(h:iS p l rest weight)(aW:a=p.gL rest weight l)(ao:b=p.below rest weight l)(aF:l≠[]) :
 iS p (l.filter fun i=> !p.c2 rest weight a b i) (rest-bC (p.fo rest weight a b) (l.filter (p.c2 rest weight a b))) (weight-bC p.n (l.filter (p.c2 rest weight a b))):=by
 have hw:=h.vt aF;have sU:∀{q:Nat→Bool}{i},i∈l.filter q→i∈l:=fun ac=>(List.mem_filter.1 ac).1
 have dO:=Qt h;rw [←aW,←ao]at dO;have split:=fun f=>yB f (p.c2 rest weight a b) l
 have hle:=h.ok.le
 have bU:∀i∈l,weight*p.aE i≤p.fO rest weight i∧p.fO rest weight i≤weight*p.cq i:=by intro i ac;have:=CD (Int.le_of_lt hw) (hle i ac);unfold cd.fO;omega
 have s1:weight*bC p.aE (l.filter fun i=> !p.c2 rest weight a b i)≤bC (p.fO rest weight) (l.filter fun i=> !p.c2 rest weight a b i):=by rw [←rn];exact sT fun i ac=>(bU i (sU ac)).1
 have s2:bC (p.fO rest weight) (l.filter fun i=> !p.c2 rest weight a b i)≤weight*bC p.cq (l.filter fun i=> !p.c2 rest weight a b i):=by rw [←rn];exact sT fun i ac=>(bU i (sU ac)).2
 have hs:=split (p.fO rest weight)
 have aS:∀i∈l.filter (p.c2 rest weight a b),weight*p.fo rest weight a b i=p.fO rest weight i:=by
  intro i ac;have lI:=(List.mem_filter.1 ac).2;have:=CD (Int.le_of_lt hw) (hle i (sU ac));unfold cd.fo cd.fO;by_cases c:p.gz rest weight a b i=true
  ·rw [if_pos c];simp only [cd.gz,Bool.and_eq_true,decide_eq_true_eq]at c;omega
  ·rw [if_neg c];simp only [cd.c2,Bool.or_eq_true,c,Bool.false_eq_true,false_or,cd.mJ,Bool.and_eq_true,decide_eq_true_eq]at lI;omega
 have fF:weight*bC (p.fo rest weight a b) (l.filter (p.c2 rest weight a b))=bC (p.fO rest weight) (l.filter (p.c2 rest weight a b)):=by rw [←rn];exact ka aS
 refine⟨⟨fun i ac=>h.ok.n i (sU ac),fun i ac=>h.ok.aE i (sU ac),fun i ac=>h.ok.le i (sU ac)⟩,h.HO.filter _,?_,?_,?_⟩
 ·have:=split p.n;rw [←h.w]at this;omega
 ·rcases Int.lt_or_le a b with c|c
  ·
    have e:∀i,p.gz rest weight a b i=false:=fun i=>by unfold cd.gz;rw [show decide (b≤a)=false by simp;omega];rfl
    have bO:bC (p.fo rest weight a b) (l.filter (p.c2 rest weight a b))=bC p.aE (l.filter (p.c2 rest weight a b)):=ka fun i _=>by unfold cd.fo;rw [e i];simp
    have:=split p.aE;have:=h.aB;omega
  ·have:weight*bC p.aE (l.filter fun i=> !p.c2 rest weight a b i)≤weight* (rest-bC (p.fo rest weight a b) (l.filter (p.c2 rest weight a b))):=by rw [Int.mul_sub,fF,Int.mul_comm weight rest];omega
   exact Int.le_of_mul_le_mul_left this hw
 ·rcases Int.lt_or_le b a with c|c
  ·
    have bO:bC (p.fo rest weight a b) (l.filter (p.c2 rest weight a b))=bC p.cq (l.filter (p.c2 rest weight a b)):=ka fun i ac=>by
     have lI:=(List.mem_filter.1 ac).2;unfold cd.fo;rw [if_pos];simp only [cd.c2,Bool.or_eq_true,cd.mJ,Bool.and_eq_true,decide_eq_true_eq]at lI;rcases lI with h|h
     ·exact h
     ·omega
    have:=split p.cq;have:=h.ac;omega
  ·have:weight* (rest-bC (p.fo rest weight a b) (l.filter (p.c2 rest weight a b)))≤weight*bC p.cq (l.filter fun i=> !p.c2 rest weight a b i):=by rw [Int.mul_sub,fF,Int.mul_comm weight rest];omega
   exact Int.le_of_mul_le_mul_left this hw
theorem iS.less{p:cd}{l:List Nat}{rest weight a b:Int}(h:iS p l rest weight)(aW:a=p.gL rest weight l)(ao:b=p.below rest weight l)(bt:a≠0∨b≠0):(l.filter fun i=> !p.c2 rest weight a b i).length<l.length:=by
 have a0:0≤a:=by rw [aW];exact mI fun i _=>by omega
 have aL:0≤b:=by rw [ao];exact mI fun i _=>by omega
 have key:∃i∈l,p.c2 rest weight a b i=true:=by
  rcases Int.lt_or_le a b with c|c
  ·have:0<p.below rest weight l:=by omega
   obtain⟨i,ac,U⟩:=CB this;refine⟨i,ac,?_⟩;simp only [cd.c2,cd.mJ,cd.gz,Bool.or_eq_true,Bool.and_eq_true,decide_eq_true_eq,Bool.not_eq_true',Bool.and_eq_false_iff,decide_eq_false_iff_not];right;exact⟨.inl (by omega),by omega,by omega⟩
  ·have:0<p.gL rest weight l:=by omega
   obtain⟨i,ac,U⟩:=CB this;refine⟨i,ac,?_⟩;simp only [cd.c2,cd.gz,Bool.or_eq_true,Bool.and_eq_true,decide_eq_true_eq];left;exact⟨by omega,by omega⟩
 obtain⟨i,ac,U⟩:=key;exact List.length_filter_lt_length_iff_exists.2 ⟨i,ac,by simp [U]⟩
theorem Qu(l:List Nat):(List.range l.length).map (fun k=>l.getD k 0)=l:=by apply List.ext_getElem (by simp);intro j U ak;simp [List.getD_eq_getElem?_getD,ak]
theorem yG(f:Nat→Int)(l:List Nat):bC (fun k=>f (l.getD k 0)) (List.range l.length)=bC f l:=by conv=>rhs;rw [←Qu l,yC]
theorem Qv{l:List Nat}{j:Nat}(h:j∈l):∃k,k<l.length∧l.getD k 0=j:=by obtain⟨k,az,e⟩:=List.mem_iff_getElem.1 h;exact⟨k,az,by simp [List.getD_eq_getElem?_getD,az,e]⟩
theorem cd.Qw{p:cd}{rest weight:Int}{l:List Nat}(h:p.gL rest weight l=0){i:Nat}(ac:i∈l):rest*p.n i≤weight*p.cq i:=by have:=HK (f:=fun i=>max 0 (rest*p.n i-weight*p.cq i)) (fun i _=>by omega) h i ac;omega
theorem cd.Qx{p:cd}{rest weight:Int}{l:List Nat}(h:p.below rest weight l=0){i:Nat}(ac:i∈l):weight*p.aE i≤rest*p.n i:=by have:=HK (f:=fun i=>max 0 (weight*p.aE i-rest*p.n i)) (fun i _=>by omega) h i ac;omega
theorem CE{p:cd}{l:List Nat}{rest weight:Int}{z:Nat→Int}(h:iS p l rest weight){out:Nat→Int}{k:Nat}(bl:yD l.length (fun k=>rest*p.n (l.getD k 0)/weight) (fun k=>rest*p.n (l.getD k 0)%weight) k out)
 (fN:∀k,k<l.length→z (l.getD k 0)=out k) {j:Nat} (ay:j∈l):z j=rest*p.n j/weight∨(z j=rest*p.n j/weight+1∧0<rest*p.n j%weight):=by
 obtain⟨q,aw,e⟩:=Qv ay;have U:=fN q aw;have ak:=bl.one q aw;rw [e]at U ak;rw [U];exact ak
theorem nL.law{p:cd}{l:List Nat}{rest weight:Int}{y z:Nat→Int}(h:nL p l rest weight y z)(ac:iS p l rest weight) :
 bC z l=rest∧(∀j∈l,p.aE j≤z j∧z j≤p.cq j)∧(∀i∈l,∀k∈l,p.aE i=p.aE k→p.cq i=p.cq k→p.n k≤p.n i→z k≤z i+1):=by
 induction h with
 | @stop l rest weight y z aW ao out bl fN jY =>
   by_cases aF:l=[]
   ·subst aF;have U:=ac.aB;have ak:=ac.ac;simp only [bC]at U ak⊢;exact⟨by omega,by simp,by simp⟩
   obtain⟨k,az,bl⟩:=bl aF;have hw:=ac.vt aF;have r0:=ac.yF;refine⟨?_,?_,?_⟩
   ·have U:=bl.sum;rw [yG (fun i=>rest*p.n i/weight) l]at U
    have ak:bC z l=bC out (List.range l.length):=by rw [←yG z l];exact ka fun q aw=>fN q (List.mem_range.1 aw)
    omega
   ·intro j ay;have U:=cd.Qw aW ay;have ak:=cd.Qx ao ay;have aP:=Int.mul_ediv_add_emod (rest*p.n j) weight;have bQ:=Int.emod_lt_of_pos (rest*p.n j) hw;have ct:=Int.emod_nonneg (rest*p.n j) (show weight≠0 by omega);have aB:p.aE j≤rest*p.n j/weight:=Int.le_ediv_of_mul_le hw (by rw [Int.mul_comm];exact ak)
    have up:rest*p.n j/weight≤p.cq j:=by
     have:=Int.ediv_le_ediv hw U
     rwa [Int.mul_ediv_cancel_left _ (by omega)]at this
    rcases CE ac bl fN ay with e|⟨e,bO⟩
    ·omega
    ·refine⟨by omega,?_⟩;rw [e];rcases Int.lt_or_le (rest*p.n j/weight) (p.cq j)with c|c
     ·omega
     ·have:rest*p.n j/weight=p.cq j:=by omega
      rw [this]at aP;omega
   ·intro i du k' dz _ _ be;have U:rest*p.n k'≤rest*p.n i:=Int.mul_le_mul_of_nonneg_left be r0;have ak:=Int.ediv_le_ediv hw U;rcases CE ac bl fN du with e|⟨e,_⟩<;>rcases CE ac bl fN dz with fR|⟨fR,_⟩<;>omega
 | @round l rest weight a b y z aW ao bt next ih =>
   have aF:l≠[]:=by intro e;subst e;simp [cd.gL,cd.below,bC]at aW ao;omega
   have mK:=ac.round aW ao aF;obtain⟨i1,i2,i3⟩:=ih mK;have hw:=ac.vt aF;have r0:=ac.yF
   have aI:∀j,j∈l→p.c2 rest weight a b j=true→z j=p.fo rest weight a b j:=by intro j ay aS;rw [next.out j fun k=>by have:=(List.mem_filter.1 k).2;simp [aS]at this];exact if_pos ⟨ay,aS⟩
   have bounds:∀j,j∈l→p.aE j≤z j∧z j≤p.cq j:=by
    intro j ay;by_cases c:p.c2 rest weight a b j=true
    ·rw [aI j ay c];have:=ac.ok.le j ay;unfold cd.fo;split<;>omega
    ·exact i2 j (List.mem_filter.2 ⟨ay,by simpa using c⟩)
   refine⟨?_,bounds,?_⟩
   ·rw [yB z (p.c2 rest weight a b) l,i1];have:bC z (l.filter (p.c2 rest weight a b))=bC (p.fo rest weight a b) (l.filter (p.c2 rest weight a b)):=ka fun j ay=>aI j (List.mem_filter.1 ay).1 (List.mem_filter.1 ay).2
    omega
   ·intro i du k az hm sj be;have ab:rest*p.n k≤rest*p.n i:=Int.mul_le_mul_of_nonneg_left be r0;have Fs:=bounds i du;have CF:=bounds k az;have hle:=CD (Int.le_of_lt hw) (ac.ok.le k az);by_cases yH:p.c2 rest weight a b i=true
    ·by_cases CG:p.gz rest weight a b i=true
     ·have:=aI i du yH;unfold cd.fo at this;rw [if_pos CG]at this;omega
     ·
       have HP:=yH;simp only [cd.c2,Bool.or_eq_true,CG,Bool.false_eq_true,false_or,cd.mJ,Bool.and_eq_true,decide_eq_true_eq]at HP
       have jI:p.c2 rest weight a b k=true:=by
        by_cases mk:p.gz rest weight a b k=true
        ·simp [cd.c2,mk]
        ·simp only [cd.c2,cd.mJ,Bool.or_eq_true,Bool.and_eq_true,decide_eq_true_eq];right;refine⟨by simpa using mk,HP.2.1,?_⟩;rw [←hm];omega
       have e:=aI k az jI;unfold cd.fo at e;split at e
       ·rename_i mk;simp only [cd.gz,Bool.and_eq_true,decide_eq_true_eq]at mk;exfalso;apply CG;simp only [cd.gz,Bool.and_eq_true,decide_eq_true_eq];exact⟨mk.1,by rw [sj];omega⟩
       ·omega
    ·by_cases jI:p.c2 rest weight a b k=true
     ·have e:=aI k az jI;unfold cd.fo at e;split at e
      ·rename_i mk;simp only [cd.gz,Bool.and_eq_true,decide_eq_true_eq]at mk;exfalso;apply yH
       have:p.gz rest weight a b i=true:=by simp only [cd.gz,Bool.and_eq_true,decide_eq_true_eq];exact⟨mk.1,by rw [sj];omega⟩
       simp [cd.c2,this]
      ·omega
     ·exact i3 i (List.mem_filter.2 ⟨du,by simpa using yH⟩) k (List.mem_filter.2 ⟨az,by simpa using jI⟩) hm sj be
end Go.ba
namespace Go.Proofs.YtjpfnbihopoeeaaGreatDoor
open Go.ba
theorem CH{σ:Nat→Nat}{y:List Int} :∀k,(∀j,j<k→σ j<y.length)→ ∀i,i<y.length→(fl σ y k).getD i 0=hO (fun j=>y.getD j 0) σ k i
 |0,_,_,_=>rfl
 |k +1,h,i,ac=>by
  have ih:=CH k (fun j ay=>h j (by omega));have az:=h k (by omega);have e:fl σ y (k+1)=(fl σ y k).set (σ k) ((fl σ y k).getD (σ k) 0+1):=rfl;rw [e];simp only [hO];by_cases c:i=σ k
  ·subst c;rw [if_pos rfl,←ih _ az];have aF:σ k<(fl σ y k).length:=by rw [pX];exact az
   simp [List.getD_eq_getElem?_getD,aF]
  ·rw [if_neg c,←ih _ ac];simp only [List.getD_eq_getElem?_getD];rw [List.getElem?_set_ne (Ne.symm c)]
theorem yI:∀l:List Int,bC (fun i=>l.getD i 0) (List.range l.length)=bs l
 |[]=>rfl
 |x::r=>by rw [List.length_cons,List.range_succ_eq_map];simp only [bC,yC,List.getD_cons_zero,bs];have:=yI r;simp only [List.getD_cons_succ]at *;rw [this]
theorem Qy{t al:Int}{w x y:List Int}{σ:Nat→Nat}{k:Nat}(et:0<al)(ab:x=w.map fun v=>(t*v)%al)(bi:y=w.map fun v=>(t*v)/al)(hs:t*bs w=al* (bs y+k))(s1:dM (fun k=>k) σ 0 w.length)(s2:fV (pW x) σ 0 w.length)(az:k≤w.length) :
 yD w.length (fun j=>y.getD j 0) (fun j=>x.getD j 0) k (hO (fun j=>y.getD j 0) σ k):=by
 have Qz:x.length=w.length:=by rw [ab,List.length_map]
 have n9:∀j,(ay:j<w.length)→x.getD j 0=(t*w[j])%al:=fun j ay=>by rw [ab];simp [List.getD_eq_getElem?_getD,ay]
 refine HN s1 s2 et (fun j ay=> ?_) az ?_ _
 ·rw [n9 j ay];exact⟨Int.emod_nonneg _ (by omega),Int.emod_lt_of_pos _ et⟩
 ·rw [←Qz,yI];have:=Cz t al w;rw [←ab,←bi]at this;rw [Int.mul_add]at hs;omega
theorem QA{t:Int}{w:List Int}(bl:0≤t∧t≤2^30)(hw:∀x∈w,0≤x∧x≤2^23)(et:0<bs w)(QB:t≤bs w){σ:Nat→Nat}(s1:dM (fun k=>k) σ 0 w.length)(s2:fV (pW (e4 t (bs w) w)) σ 0 w.length){k:Nat}(az:((k:Nat):Int)=t-bs (c1 t (bs w) w)) :
 ∀i,(ac:i<w.length)→(fl σ (c1 t (bs w) w) k).getD i 0≤w[i]:=by
 intro i ac;have sR:=vn bl et hw;have eq:=yu bl et hw;have jH:=yv (al:=bs w) bl hw;have gy:(c1 t (bs w) w).length=w.length:=by rw [c1,List.length_map]
 have k7:k≤w.length:=by omega
 have iP:∀j,j<k→σ j<(c1 t (bs w) w).length:=fun j ay=>by
  obtain⟨i,_,ak,e⟩:=s1.from (Nat.zero_le j) (show j<w.length by omega)
  rw [e,gy];exact ak
 have T:=Qy et jH eq (by rw [az];rw [show bs (c1 t (bs w) w)+(t-bs (c1 t (bs w) w))=t by omega,Int.mul_comm]) s1 s2 k7;rw [CH k iP i (by rw [gy];exact ac)];have oO:(c1 t (bs w) w).getD i 0=t*w[i] / bs w:=by rw [eq];simp [List.getD_eq_getElem?_getD,ac]
 have nc:(e4 t (bs w) w).getD i 0=t*w[i] % bs w:=by rw [jH];simp [List.getD_eq_getElem?_getD,ac]
 have qM:=hw _ (List.getElem_mem ac);have hm:t*w[i]≤bs w*w[i]:=Int.mul_le_mul_of_nonneg_right QB qM.1;have aM:=Int.mul_ediv_add_emod (t*w[i]) (bs w);have bt:=Int.emod_nonneg (t*w[i]) (show bs w≠0 by omega);rcases T.one i ac with e|⟨e,bO⟩
 ·rw [e,oO];refine Int.le_of_mul_le_mul_left (a:=bs w) ?_ et;omega
 ·rw [nc]at bO;rw [e,oO];have:bs w* (t*w[i] / bs w)<bs w*w[i]:=by omega
  have:=Int.lt_of_mul_lt_mul_left this (Int.le_of_lt et);omega
theorem HQ{H:I}{qw:Nat}{pY:J}{t:Int}{w:List Int}(r:dJ H qw pY (dh w))(qT:qw<H.next)(be:w.length≤2^8)(bl:0≤t∧t≤2^30)(hw:∀x∈w,0≤x∧x≤2^23)(et:0<bs w) :
 ∃Z H' qo v,aZ Tryz.prog aq 94 [.int .i64 t,pY] H v H'∧cQ H' 3 qo v (dh Z)∧Z.length=w.length∧bs Z=t∧(∀z∈Z,0≤z∧z≤2^54)∧(t≤bs w→ ∀i,(ac:i<w.length)→Z.getD i 0≤w[i])∧Fr H H' []∧H.next<H'.next∧H.next≤qo∧qo<H'.next:=by
 obtain⟨σ,H',qo,v,D,aN,s1,s2,aI,bK,n2,b2⟩:=HF r qT be bl hw et;have sR:=vn bl et hw;have lf:=yw bl et hw;have gy:(c1 t (bs w) w).length=w.length:=by rw [c1,List.length_map]
 have iP:∀j,j<(t-bs (c1 t (bs w) w)).toNat→σ j<(c1 t (bs w) w).length:=fun j ay=>by
  obtain⟨i,_,ak,e⟩:=s1.from (Nat.zero_le j) (show j<w.length by omega)
  rw [e,gy];exact ak
 refine⟨_,H',qo,v,D,aN,by rw [pX,gy],?_,fun z cl=> ?_,fun h=>QA bl hw et h s1 s2 (by omega),aI,bK,n2,b2⟩
 ·rw [Cw _ iP];omega
 ·have:=yp lf _ iP z cl;omega
end Go.Proofs.YtjpfnbihopoeeaaGreatDoor
namespace Go.Proofs.YtjpfnbihopoeeaaGreatDoor
open Go.ba
structure cz where
 k:Int
 n:Int
 d:Int
 aE:Int
 mx:Int
abbrev cz.v(t:cz):J:= .agg [.int .i8 t.k,.int .i64 t.n,.int .i64 t.d,.int .i64 t.aE,.int .i64 t.mx]
abbrev kb(N:Nat)(f:Nat→cz):List J:=(List.range N).map fun k=>(f k).v
theorem rp:∃ez jJ gl d8 fs,env.D 27=some ez∧ez.kind=.slice 65∧env.D 65=some jJ∧jJ.size=5∧jJ.bytes=40∧jJ.zero=some (.agg [.int .i8 0,.int .i64 0,.int .i64 0,.int .i64 0,.int .i64 0])∧jJ.kind=.struct fs∧fs[0]? =some (0,35)∧fs[1]? =some (1,3)∧fs[2]? =some (2,3)∧fs[3]? =some (3,3)∧fs[4]? =some (4,3) ∧
 env.D 3=some gl∧gl.size=1∧gl.kind.isAgg=false∧env.D 35=some d8∧d8.size=1∧d8.kind.isAgg=false:=by
 obtain⟨ez,cM,a2⟩:=Option.map_eq_some_iff.1 (show(env.D 27).map (fun x=>x.kind)=some (.slice 65)by kernel_rfl);obtain⟨jJ,aT,bw⟩:=Option.map_eq_some_iff.1 (show(env.D 65).map (fun x=>(x.size,x.bytes,x.zero,match x.kind with|.struct fs=>some (fs[0]?,fs[1]?,fs[2]?,fs[3]?,fs[4]?)|_=>none))=some (5,40,some (.agg [.int .i8 0,.int .i64 0,.int .i64 0,.int .i64 0,.int .i64 0]),some (some (0,35),some (1,3),some (2,3),some (3,3),some (4,3)))by kernel_rfl);obtain⟨gl,bU,b8⟩:=Option.map_eq_some_iff.1 (show(env.D 3).map (fun x=>(x.size,x.kind.isAgg))=some (1,false)by kernel_rfl);obtain⟨d8,d1,d2⟩:=Option.map_eq_some_iff.1 (show(env.D 35).map (fun x=>(x.size,x.kind.isAgg))=some (1,false)by kernel_rfl);simp only [Prod.mk.injEq]at bw b8 d2;obtain⟨cy,fQ,iQ,fv⟩:=bw;split at fv
 ·rename_i fs aS;simp only [Option.some.injEq,Prod.mk.injEq]at fv;exact⟨ez,jJ,gl,d8,fs,cM,a2,aT,cy,fQ,iQ,aS,fv.1,fv.2.1,fv.2.2.1,fv.2.2.2.1,fv.2.2.2.2,bU,b8.1,b8.2,d1,d2.1,d2.2⟩
 ·cases fv
def gM(H:I)(q ver off N:Nat)(v:J)(f:Nat→cz):Prop :=
 ∃c,N≤c∧v=.slice (some ⟨q,ver,off,0,5⟩) N c∧q<H.next∧∃b,H.get q=some b∧∀i,i<N→b.elem? ver (off+i)=some (f i).v
theorem gM.aI{H H':I}{q ver off N:Nat}{v:J}{f:Nat→cz}{L:List Nat}(h:gM H q ver off N v f)(m:Fr H H' L)(aw:q ∉ L):gM H' q ver off N v f:=by obtain⟨c,ar,e,k2,b,bT,cr⟩:=h;exact⟨c,ar,e,Nat.lt_of_lt_of_le k2 m.next,b,(m.get q k2 aw).trans bT,cr⟩
theorem gM.ca{H:I}{q ver off N:Nat}{v:J}{f:Nat→cz}(h:gM H q ver off N v f){i:Nat}(ac:i<N):bb (bh.D env) 27 v (.int .i64 (i:Nat))=some (.ptr (some ⟨q,ver,off+i,0,5⟩)):=by obtain⟨c,ar,rfl,k2,b,bT,cr⟩:=h;obtain⟨ez,jJ,gl,d8,fs,cM,a2,aT,bw,_⟩:=rp;unfold bb;simp only [cM,a2,aT];rw [if_pos ⟨by omega,by omega,by rw [bw],trivial⟩];simp
theorem gM.whole{H:I}{q ver off N:Nat}{v:J}{f:Nat→cz}(h:gM H q ver off N v f){i:Nat}(ac:i<N)(n:Nat):aQ (bh.D env) 65 ⟨q,ver,off+i,0,5⟩ ⟨n,H.aj⟩=some (f i).v:=by obtain⟨c,ar,rfl,k2,b,bT,cr⟩:=h;obtain⟨ez,jJ,gl,d8,fs,cM,a2,aT,bw,cy,fQ,fv,_⟩:=rp;have g:I.get ⟨n,H.aj⟩ q=some b:=bT;unfold aQ;simp only [aT,g,cr i ac,fv,bw];rfl
theorem pZ{H:I}{q ver j:Nat}{b:aJ}{t:cz}(g:H.get q=some b)(e:b.elem? ver j=some t.v)(n:Nat) :
 aQ (bh.D env) 35 ⟨q,ver,j,0,5⟩ ⟨n,H.aj⟩=some (.int .i8 t.k)∧aQ (bh.D env) 3 ⟨q,ver,j,1,5⟩ ⟨n,H.aj⟩=some (.int .i64 t.n)∧aQ (bh.D env) 3 ⟨q,ver,j,2,5⟩ ⟨n,H.aj⟩=some (.int .i64 t.d) ∧
  aQ (bh.D env) 3 ⟨q,ver,j,3,5⟩ ⟨n,H.aj⟩=some (.int .i64 t.aE)∧aQ (bh.D env) 3 ⟨q,ver,j,4,5⟩ ⟨n,H.aj⟩=some (.int .i64 t.mx):=by
 obtain⟨ez,jJ,gl,d8,fs,cM,a2,aT,bw,cy,fQ,fv,f0,f1,f2,f3,f4,bU,b8,dj,d1,d2,d3⟩:=rp;have g:I.get ⟨n,H.aj⟩ q=some b:=g;refine⟨?_,?_,?_,?_,?_⟩
 ·unfold aQ;simp only [d1,g,e,d3];rfl
 ·unfold aQ;simp only [bU,g,e,dj];rfl
 ·unfold aQ;simp only [bU,g,e,dj];rfl
 ·unfold aQ;simp only [bU,g,e,dj];rfl
 ·unfold aQ;simp only [bU,g,e,dj];rfl
theorem gM.fld{H:I}{q ver off N:Nat}{v:J}{f:Nat→cz}(h:gM H q ver off N v f){i:Nat}(ac:i<N)(n:Nat) :
 aQ (bh.D env) 35 ⟨q,ver,off+i,0,5⟩ ⟨n,H.aj⟩=some (.int .i8 (f i).k)∧aQ (bh.D env) 3 ⟨q,ver,off+i,1,5⟩ ⟨n,H.aj⟩=some (.int .i64 (f i).n)∧aQ (bh.D env) 3 ⟨q,ver,off+i,2,5⟩ ⟨n,H.aj⟩=some (.int .i64 (f i).d) ∧
  aQ (bh.D env) 3 ⟨q,ver,off+i,3,5⟩ ⟨n,H.aj⟩=some (.int .i64 (f i).aE)∧aQ (bh.D env) 3 ⟨q,ver,off+i,4,5⟩ ⟨n,H.aj⟩=some (.int .i64 (f i).mx):=by
 obtain⟨c,ar,rfl,k2,b,bT,cr⟩:=h;exact pZ bT (cr i ac) n
def fp(H:I)(Q N:Nat)(f:Nat→cz):Prop:=Q<H.next∧∃b,H.get Q=some b∧b.ver=0∧b.ro=false∧b.exact=true∧b.a'=kb N f
abbrev mL(Q N:Nat):J:= .slice (some ⟨Q,0,0,0,5⟩) N N
theorem fp.aI{H H':I}{Q N:Nat}{f:Nat→cz}{L:List Nat}(h:fp H Q N f)(m:Fr H H' L)(aw:Q ∉ L):fp H' Q N f:=by obtain⟨U,b,ak,aP⟩:=h;exact⟨Nat.lt_of_lt_of_le U m.next,b,(m.get Q U aw).trans ak,aP⟩
theorem yJ{N i:Nat}{f:Nat→cz}(ac:i<N):(kb N f)[i]? =some (f i).v:=by simp [kb,ac]
theorem fp.rd{H:I}{Q N:Nat}{f:Nat→cz}(h:fp H Q N f):gM H Q 0 0 N (mL Q N) f:=by obtain⟨U,b,ak,aP,bQ,ct,cL⟩:=h;refine⟨N,Nat.le_refl _,rfl,U,b,ak,fun i ac=> ?_⟩;unfold aJ.elem? aJ.cj;rw [if_pos aP.symm,cL,if_pos (by simp;omega),Nat.zero_add];exact yJ ac
theorem CI{N i:Nat}{f:Nat→cz}{t:cz} :(kb N f).set i t.v=kb N (fun j=>if j=i then t else f j):=by
 apply List.ext_getElem (by simp [kb]);intro j U ak;rw [List.getElem_set];simp only [kb,List.getElem_map,List.getElem_range];by_cases e:i=j
 ·rw [if_pos e,if_pos e.symm]
 ·rw [if_neg e,if_neg (Ne.symm e)]
theorem fp.hq{H:I}{Q N i:Nat}{f:Nat→cz}(h:fp H Q N f)(ac:i<N)(t:cz)(n:Nat) :
 ∃H1,e7 (bh.D env) 65 ⟨Q,0,0+i,0,5⟩ t.v (up H n)=some H1∧fp H1 Q N (fun j=>if j=i then t else f j)∧Fr H H1 [Q]∧H1.next=H.next+n:=by
 obtain⟨U,b,ak,aP,bQ,ct,cL⟩:=h;obtain⟨ez,jJ,gl,d8,fs,cM,a2,aT,bw,cy,fQ,fv,_⟩:=rp;refine⟨(up H n).set Q {b with a':=kb N (fun j=>if j=i then t else f j),eD:=b.ver},?_,⟨by show Q<H.next+n;omega,_,I.eG _ _ _,aP,bQ,ct,rfl⟩,(Fr.up H n [Q]).trans (Fr.set (L:=[Q]) (up H n) _ _ (by simp)) (fun x ab _=>ab),rfl⟩;have g:(up H n).get Q=some b:=ak;unfold e7;simp only [aT,g,fv,bw];have aS:t.v.fits (gQ.struct fs).isAgg 5=true:=rfl;rw [if_pos (by rw [aS,bQ,aP];rfl),cL,Nat.zero_add,yJ ac];show some ((up H n).set Q {b with a':=(kb N f).set i t.v,eD:=b.ver})=_;rw [CI]
inductive p0:cz→Nat→Int→cz→Prop
 |n (t:cz) (x:Int):p0 t 1 x {t with n:=x}
 |aE (t:cz) (x:Int):p0 t 3 x {t with aE:=x}
theorem fp.iT{H:I}{Q N i j:Nat}{x:Int}{f:Nat→cz}{t:cz}(h:fp H Q N f)(ac:i<N)(bl:p0 (f i) j x t)(n:Nat) :
 ∃H1,e7 (bh.D env) 3 ⟨Q,0,0+i,j,5⟩ (.int .i64 x) (up H n)=some H1∧fp H1 Q N (fun j=>if j=i then t else f j)∧Fr H H1 [Q]∧H1.next=H.next+n:=by
 obtain⟨U,b,ak,aP,bQ,ct,cL⟩:=h;obtain⟨ez,jJ,gl,d8,fs,cM,a2,aT,bw,cy,fQ,fv,f0,f1,f2,f3,f4,bU,b8,dj,d1,d2,d3⟩:=rp;refine⟨(up H n).set Q {b with a':=kb N (fun j=>if j=i then t else f j),eD:=b.ver},?_,⟨by show Q<H.next+n;omega,_,I.eG _ _ _,aP,bQ,ct,rfl⟩,(Fr.up H n [Q]).trans (Fr.set (L:=[Q]) (up H n) _ _ (by simp)) (fun x ab _=>ab),rfl⟩;have g:(up H n).get Q=some b:=ak;unfold e7;simp only [bU,g,b8,dj];rw [if_pos (by rw [bQ,aP];rfl),cL,Nat.zero_add,yJ ac];have e:n3 j (.int .i64 x) (f i).v=some t.v:=by cases bl<;>rfl
 simp only [e];rw [CI]
theorem fp.QC{H:I}{Q N i:Nat}{x:Int}{f:Nat→cz}(h:fp H Q N f)(ac:i<N)(n:Nat) :
 ∃H1,e7 (bh.D env) 35 ⟨Q,0,0+i,0,5⟩ (.int .i8 x) (up H n)=some H1∧fp H1 Q N (fun j=>if j=i then {f i with k:=x} else f j)∧Fr H H1 [Q]∧H1.next=H.next+n:=by
 obtain⟨U,b,ak,aP,bQ,ct,cL⟩:=h;obtain⟨ez,jJ,gl,d8,fs,cM,a2,aT,bw,cy,fQ,fv,f0,f1,f2,f3,f4,bU,b8,dj,d1,d2,d3⟩:=rp;refine⟨(up H n).set Q {b with a':=kb N (fun j=>if j=i then {f i with k:=x} else f j),eD:=b.ver},?_,⟨by show Q<H.next+n;omega,_,I.eG _ _ _,aP,bQ,ct,rfl⟩,(Fr.up H n [Q]).trans (Fr.set (L:=[Q]) (up H n) _ _ (by simp)) (fun x ab _=>ab),rfl⟩;have g:(up H n).get Q=some b:=ak;unfold e7;simp only [d1,g,d2,d3];rw [if_pos (by rw [bQ,aP];rfl),cL,Nat.zero_add,yJ ac];have e:n3 0 (.int .i8 x) (f i).v=some ({f i with k:=x} :cz).v:=rfl;simp only [e];rw [CI]
end Go.Proofs.YtjpfnbihopoeeaaGreatDoor
namespace Go.Proofs.YtjpfnbihopoeeaaGreatDoor
open Go.ba
abbrev cZ(k:Int)(n:Int)(d:Int)(aE:Int)(mx:Int):J:=J.agg [.int .i8 k,.int .i64 n,.int .i64 d,.int .i64 aE,.int .i64 mx]
abbrev QD:dA:=(.bP 8000 (.bP 9002 (.bP 9006 (.bP 9011 (.bP 9016 .nil .nil) .nil) .nil) .nil) (.bP 10000 (.bP 11002 (.bP 11006 (.bP 11011 .nil .nil) .nil) .nil) .nil))
abbrev vu(k:Int)(n:Int)(d:Int)(aE:Int)(mx:Int):I:=(I.bI 29 [(0,aJ.made [(cZ k n d aE mx)] 5 true (some (65,5)))])
abbrev rq(k:Int)(n:Int)(d:Int)(aE:Int)(mx:Int):I:=(I.bI 41 [(0,aJ.made [(cZ k n d aE mx)] 5 true (some (65,5)))])
abbrev vv(k:Int)(n:Int)(d:Int)(aE:Int)(mx:Int):I:=(I.bI 48 [(0,aJ.made [(cZ k n d aE mx)] 5 true (some (65,5)))])
abbrev vw(k:Int)(n:Int)(d:Int)(aE:Int)(mx:Int):I:=(I.bI 52 [(0,aJ.made [(cZ k n d aE mx)] 5 true (some (65,5)))])
abbrev sV(k:Int)(n:Int)(d:Int)(aE:Int)(mx:Int):I:=(I.bI 55 [(0,aJ.made [(cZ k n d aE mx)] 5 true (some (65,5)))])
abbrev HR:dA:=(.bP 4000 (.bP 5002 (.bP 5006 .nil .nil) .nil) (.bP 6000 (.bP 7002 (.bP 7006 (.bP 7011 .nil .nil) .nil) .nil) QD))
abbrev CJ(k:Int)(n:Int)(d:Int)(aE:Int)(mx:Int)(ai:J→I→Prop):Prop:=(k=1→(0≤n→(n≤4096→(d=0→ai (.bool true) (vv k n d aE mx))∧(¬d=0→ai (.bool false) (vv k n d aE mx)))∧(¬n≤4096→ai (.bool false) (vv k n d aE mx)))∧(¬0≤n→ai (.bool false) (vv k n d aE mx)))
abbrev HS(k:Int)(n:Int)(d:Int)(aE:Int)(mx:Int)(ai:J→I→Prop):Prop:=(k=3→(1≤n→(n≤1000→(d=0→ai (.bool true) (vw k n d aE mx))∧(¬d=0→ai (.bool false) (vw k n d aE mx)))∧(¬n≤1000→ai (.bool false) (vw k n d aE mx)))∧(¬1≤n→ai (.bool false) (vw k n d aE mx)))
abbrev HT(k:Int)(n:Int)(d:Int)(aE:Int)(mx:Int)(ai:J→I→Prop):Prop:=(0≤n→(n≤1000→(1≤d→(d≤1000→ai (.bool true) (sV k n d aE mx))∧(¬d≤1000→ai (.bool false) (sV k n d aE mx)))∧(¬1≤d→ai (.bool false) (sV k n d aE mx)))∧(¬n≤1000→ai (.bool false) (sV k n d aE mx)))
abbrev CK(k:Int)(n:Int)(d:Int)(aE:Int)(mx:Int)(ai:J→I→Prop):Prop:=(¬k=1→(k=2→(HT k n d aE mx ai)∧(¬0≤n→ai (.bool false) (sV k n d aE mx)))∧(¬k=2→(HS k n d aE mx ai)∧(¬k=3→ai (.bool false) (I.bI 39 [(0,aJ.made [(cZ k n d aE mx)] 5 true (some (65,5)))]))))
theorem QE(k n d aE mx:Int)(ai:J→I→Prop)(aG:(aE<0→ai (.bool false) (vu k n d aE mx))∧(¬aE<0→(4096<aE→ai (.bool false) (vu k n d aE mx))∧(¬4096<aE→(mx=0→(k=0→(n=0→(d=0→ai (.bool true) (rq k n d aE mx))∧(¬d=0→ai (.bool false) (rq k n d aE mx)))∧(¬n=0→ai (.bool false) (rq k n d aE mx)))∧(¬k=0→(CJ k n d aE mx ai)∧(CK k n d aE mx ai)))∧(¬mx=0→((mx<if 1>aE then 1 else aE)→ai (.bool false) (vu k n d aE mx))∧((¬mx<if 1>aE then 1 else aE)→(4096<mx→ai (.bool false) (vu k n d aE mx))∧(¬4096<mx→(k=0→(n=0→(d=0→ai (.bool true) (rq k n d aE mx))∧(¬d=0→ai (.bool false) (rq k n d aE mx)))∧(¬n=0→ai (.bool false) (rq k n d aE mx)))∧(¬k=0→(CJ k n d aE mx ai)∧(CK k n d aE mx ai)))))))) :
 ∃v U,aZ Tryz.prog aq 47 [.agg [.int .i8 k,.int .i64 n,.int .i64 d,.int .i64 aE,.int .i64 mx]] (⟨0,.nil⟩) v U∧ai v U :=
 cE bg mixed bq (hs:= .bP 1002 .nil (.bP 1006 .nil (.bP 1011 HR (.bP 1018 .nil (.bP 1022 .nil HR))))) (by kernel_rfl) aG
theorem QF(x k n d aE mx:Int)(ai:J→I→Prop)(aG:(0<mx→ai (J.int IntKind.i64 (if mx<if aE>x then aE else x then mx else if aE>x then aE else x)) (I.bI 17 [(0,aJ.made [J.agg [J.int IntKind.i8 k,J.int IntKind.i64 n,J.int IntKind.i64 d,J.int IntKind.i64 aE,J.int IntKind.i64 mx]] 5 true (some (65,5)))]))∧(¬0<mx→ai (J.int IntKind.i64 (if aE>x then aE else x)) (I.bI 12 [(0,aJ.made [J.agg [J.int IntKind.i8 k,J.int IntKind.i64 n,J.int IntKind.i64 d,J.int IntKind.i64 aE,J.int IntKind.i64 mx]] 5 true (some (65,5)))]))) :
 ∃v U,aZ Tryz.prog aq 92 [.int .i64 x,.agg [.int .i8 k,.int .i64 n,.int .i64 d,.int .i64 aE,.int .i64 mx]] (⟨0,.nil⟩) v U∧ai v U :=
 cE bg mixed bq (hs:= .bP 2002 .nil .nil) (by kernel_rfl) aG
theorem QG(k n d aE mx:Int)(ai:J→I→Prop)(aG:(0<mx→ai (J.int IntKind.i64 mx) (I.bI 8 [(0,aJ.made [J.agg [J.int IntKind.i8 k,J.int IntKind.i64 n,J.int IntKind.i64 d,J.int IntKind.i64 aE,J.int IntKind.i64 mx]] 5 true (some (65,5)))]))∧(¬0<mx→ai (J.int IntKind.i64 (8192)) (I.bI 6 [(0,aJ.made [J.agg [J.int IntKind.i8 k,J.int IntKind.i64 n,J.int IntKind.i64 d,J.int IntKind.i64 aE,J.int IntKind.i64 mx]] 5 true (some (65,5)))]))) :
 ∃v U,aZ Tryz.prog aq 145 [.agg [.int .i8 k,.int .i64 n,.int .i64 d,.int .i64 aE,.int .i64 mx]] (⟨0,.nil⟩) v U∧ai v U :=
 cE bg mixed bq (hs:= .bP 1002 .nil .nil) (by kernel_rfl) aG
end Go.Proofs.YtjpfnbihopoeeaaGreatDoor
namespace Go.Proofs.YtjpfnbihopoeeaaGreatDoor
open Go.ba
structure nM(t:cz):Prop where
 aE:0≤t.aE∧t.aE≤4096
 mx:t.mx=0∨(1≤t.mx∧t.mx≤4096∧t.aE≤t.mx)
 kind:(t.k=0∧t.n=0∧t.d=0)∨(t.k=1∧0≤t.n∧t.n≤4096∧t.d=0)∨(t.k=2∧0≤t.n∧t.n≤1000∧1≤t.d∧t.d≤1000)∨(t.k=3∧1≤t.n∧t.n≤1000∧t.d=0)
theorem CL(t:cz):∃b,(b=true→nM t)∧∀H,aZ Tryz.prog aq 47 [t.v] H (.bool b) H:=by
 obtain⟨v,h',D,b,rfl,ao⟩:=QE t.k t.n t.d t.aE t.mx (fun v _=> ∃b,v=.bool b∧(b=true→nM t)) (by
  delta CK cZ HS vw sV HT CJ vv rq vu
  repeat' (first|apply And.intro|intro _)
  all_goals refine⟨_,rfl,fun h=> ?_⟩
  all_goals first
   |(cases h;done)
   |(simp only [beq_iff_eq,decide_eq_true_eq,Bool.and_eq_true,Bool.or_eq_true]at h;exact⟨by omega,by omega,by omega⟩))
 exact⟨b,ao,fun H=>aZ.gm ⟨_,_,D,rfl⟩ rfl rfl H⟩
def lU(aE mx x:Int):Int:=if 0<mx then min (max x aE) mx else max x aE
def e8(mx:Int):Int:=if 0<mx then mx else 8192
theorem CM(x:Int)(t:cz)(H:I):aZ Tryz.prog aq 92 [.int .i64 x,t.v] H (.int .i64 (lU t.aE t.mx x)) H:=by
 refine aZ.gm (QF x t.k t.n t.d t.aE t.mx (fun v _=>v=.int .i64 (lU t.aE t.mx x)) ?_) rfl rfl H;unfold lU
 repeat' (first|apply And.intro|intro _)
 all_goals refine congrArg (J.int .i64) ?_
 all_goals repeat' split
 all_goals omega
theorem vx(t:cz)(H:I):aZ Tryz.prog aq 145 [t.v] H (.int .i64 (e8 t.mx)) H:=by
 refine aZ.gm (QG t.k t.n t.d t.aE t.mx (fun v _=>v=.int .i64 (e8 t.mx)) ?_) rfl rfl H;unfold e8
 repeat' (first|apply And.intro|intro _)
 all_goals refine congrArg (J.int .i64) ?_
 all_goals repeat' split
 all_goals omega
end Go.Proofs.YtjpfnbihopoeeaaGreatDoor
namespace Go.Proofs.YtjpfnbihopoeeaaGreatDoor
open Go.ba
theorem QH(H H1 af:I)(z:Nat)(cq:Bool)(dg:J)(p:aO)(B N ic q ver off i:Nat)(rest weight dH:Int)(sv:J)(k n d aE mx y:Int)(ai:bx→a6→I→Prop)(aG:ad B (H.next) (some (J.bool (decide ((i:Int)<(N:Int))))=some (J.bool true)∧ad B (H.next+1) (bb env.D 27 (.slice (some ⟨q,ver,off,0,5⟩) N ic) (.int .i64 (i:Int))=some (J.ptr (some ⟨q,ver,off+i,0,5⟩))∧aQ env.D 65 ⟨q,ver,off+i,0,5⟩ (I.mk (H.next+7) (H.2))=some ((cZ k n d aE mx))∧aV env bz (H.next+4) (a1 []) (I.mk (H.next+7) (H.2)) (Op.alloc 65)=some (J.ptr (some ⟨z,0,0,0,5⟩),H1)∧aV env bz (H.next+6) (a1 [(12,.ptr (some ⟨z,0,0,0,5⟩)),(39,(cZ k n d aE mx))]) H1 (Op.store 65 (Operand.tmp 12) (Operand.tmp 39))=some (J.tuple [],af)∧ad B (af.next) (aQ env.D 35 ⟨z,0,0,0,5⟩ (I.mk (af.next+3) (af.2))=some (.int .i8 k)∧some (J.bool (k != 3))=some (J.bool true)∧ad B (af.next+3) (bb env.D 28 sv (.int .i64 (i:Int))=some (J.ptr (some p))∧aQ env.D 3 p (I.mk (af.next+10) (af.2))=some (.int .i64 y)∧(-9223372036854775808≤rest-y∧rest-y≤9223372036854775807)∧ad B (af.next+10) ((-9223372036854775808≤(i:Int)+1∧(i:Int)+1≤9223372036854775807)∧ai .normal [(0,.slice (some ⟨q,ver,off,0,5⟩) N ic),(1,sv),(6,.int .i64 (rest-y)),(7,.int .i64 weight),(8,.int .i64 dH),(9,dg),(10,.bool cq),(33,.slice (some ⟨q,ver,off,0,5⟩) N ic),(34,.int .i64 (N:Int)),(35,.int .i64 ((i:Int)+1))] (I.mk (af.next+10+2) (I.aj (I.mk (af.next+3+7) (I.aj (I.mk (af.next+3) (I.aj af)))))))))))) :
 ∃e ah U,aR Tryz.prog aq B 279 (aY Tryz.prog 95 0) [(0,.slice (some ⟨q,ver,off,0,5⟩) N ic),(1,sv),(6,.int .i64 rest),(7,.int .i64 weight),(8,.int .i64 dH),(9,dg),(10,.bool cq),(33,.slice (some ⟨q,ver,off,0,5⟩) N ic),(34,.int .i64 N),(35,.int .i64 i)] H e ah U∧ai e ah U :=
 b0 bg mixed bq (hs:= .aa (.val 4000 (.bool true)) (.aa (.val 5001 (.ptr (some ⟨q,ver,off+i,0,5⟩))) (.aa (.val 5002 ((cZ k n d aE mx))) (.aa (.act 5003 (.ptr (some ⟨z,0,0,0,5⟩)) fun x=>H1) (.aa (.act 5005 (.tuple []) fun x=>af) (.aa (.val 6001 (.int .i8 k)) (.aa (.val 6002 (.bool true)) (.aa (.val 7003 (.ptr (some p))) (.aa (.val 7004 (.int .i64 y)) (an 7005 (an 12000 .nil))))))))))) (keep:=[0,1,6,7,8,9,10,33,34,35]) (by kernel_rfl) aG
abbrev CN(au:I):I:=(I.mk (au.next+10+7) (I.aj (I.mk (au.next+5+5) (I.aj (I.mk (au.next+5) (I.aj au))))))
theorem QI(H H1 af ax au:I)(z a:Nat)(dg kc:J)(B N ic q ver off i:Nat)(rest weight dH:Int)(sv:J)(k n d aE mx y:Int)(ai:bx→a6→I→Prop)(aG:ad B (H.next) (some (J.bool (decide ((i:Int)<(N:Int))))=some (J.bool true)∧ad B (H.next+1) (bb env.D 27 (.slice (some ⟨q,ver,off,0,5⟩) N ic) (.int .i64 (i:Int))=some (J.ptr (some ⟨q,ver,off+i,0,5⟩))∧aQ env.D 65 ⟨q,ver,off+i,0,5⟩ (I.mk (H.next+7) (H.2))=some ((cZ k n d aE mx))∧aV env bz (H.next+4) (a1 []) (I.mk (H.next+7) (H.2)) (Op.alloc 65)=some (J.ptr (some ⟨z,0,0,0,5⟩),H1)∧aV env bz (H.next+6) (a1 [(12,.ptr (some ⟨z,0,0,0,5⟩)),(39,(cZ k n d aE mx))]) H1 (Op.store 65 (Operand.tmp 12) (Operand.tmp 39))=some (J.tuple [],af)∧ad B (af.next) (aQ env.D 35 ⟨z,0,0,0,5⟩ (I.mk (af.next+3) (af.2))=some (.int .i8 k)∧some (J.bool (k != 3))=some (J.bool false)∧ad B (af.next+3) (aV env bz (af.next+5) (a1 [(50,.int .i64 (i:Int))]) (I.mk (af.next+8) (af.2)) (Op.buildSlice 28 1 {toList:=[(0,Operand.tmp 50)]})=some (J.slice (some ⟨a,0,0,0,1⟩) 1 1,ax)∧dk env Builtin.append {toList:=[28,28]} [dg,.slice (some ⟨a,0,0,0,1⟩) 1 1] (af.next+6) ax=some (kc,au)∧ad B (au.next) (aQ env.D 3 ⟨z,0,0,1,5⟩ (I.mk (au.next+5) (au.2))=some (.int .i64 n)∧(-9223372036854775808≤weight+n∧weight+n≤9223372036854775807)∧ad B (au.next+5) (aQ env.D 3 ⟨z,0,0,4,5⟩ (I.mk (au.next+10) (au.2))=some (.int .i64 mx)∧(-9223372036854775808≤dH+mx∧dH+mx≤9223372036854775807)∧ad B (au.next+10) (aQ env.D 3 ⟨z,0,0,4,5⟩ (I.mk (au.next+17) (au.2))=some (.int .i64 mx)∧(0<mx→ad B (au.next+17) ((-9223372036854775808≤(i:Int)+1∧(i:Int)+1≤9223372036854775807)∧ai .normal [(0,.slice (some ⟨q,ver,off,0,5⟩) N ic),(1,sv),(6,.int .i64 rest),(7,.int .i64 (weight+n)),(8,.int .i64 (dH+mx)),(9,kc),(10,.bool true),(33,.slice (some ⟨q,ver,off,0,5⟩) N ic),(34,.int .i64 (N:Int)),(35,.int .i64 ((i:Int)+1))] (I.mk (au.next+17+2) (I.aj (CN au)))))∧(¬0<mx→ad B (au.next+17) ((-9223372036854775808≤(i:Int)+1∧(i:Int)+1≤9223372036854775807)∧ai .normal [(0,.slice (some ⟨q,ver,off,0,5⟩) N ic),(1,sv),(6,.int .i64 rest),(7,.int .i64 (weight+n)),(8,.int .i64 (dH+mx)),(9,kc),(10,.bool false),(33,.slice (some ⟨q,ver,off,0,5⟩) N ic),(34,.int .i64 (N:Int)),(35,.int .i64 ((i:Int)+1))] (I.mk (au.next+17+2) (I.aj (CN au))))))))))))) :
 ∃e ah U,aR Tryz.prog aq B 279 (aY Tryz.prog 95 0) [(0,.slice (some ⟨q,ver,off,0,5⟩) N ic),(1,sv),(6,.int .i64 rest),(7,.int .i64 weight),(8,.int .i64 dH),(9,dg),(10,.bool true),(33,.slice (some ⟨q,ver,off,0,5⟩) N ic),(34,.int .i64 N),(35,.int .i64 i)] H e ah U∧ai e ah U :=
 b0 bg mixed bq (hs:= .aa (.val 4000 (.bool true)) (.aa (.val 5001 (.ptr (some ⟨q,ver,off+i,0,5⟩))) (.aa (.val 5002 ((cZ k n d aE mx))) (.aa (.act 5003 (.ptr (some ⟨z,0,0,0,5⟩)) fun x=>H1) (.aa (.act 5005 (.tuple []) fun x=>af) (.aa (.val 6001 (.int .i8 k)) (.aa (.val 6002 (.bool false)) (.aa (.act 8002 (.slice (some ⟨a,0,0,0,1⟩) 1 1) fun x=>ax) (.aa (.act 8003 kc fun x=>au) (.aa (.val 9002 (.int .i64 n)) (an 9003 (.aa (.val 10002 (.int .i64 mx)) (an 10003 (.aa (.val 11003 (.int .i64 mx)) (.bP 11004 (an 12000 .nil) (an 12000 .nil)))))))))))))))) (keep:=[0,1,6,7,8,9,10,33,34,35]) (by kernel_rfl) aG
theorem QJ(H H1 af ax au:I)(z a:Nat)(dg kc:J)(B N ic q ver off i:Nat)(rest weight dH:Int)(sv:J)(k n d aE mx y:Int)(ai:bx→a6→I→Prop)(aG:ad B (H.next) (some (J.bool (decide ((i:Int)<(N:Int))))=some (J.bool true)∧ad B (H.next+1) (bb env.D 27 (.slice (some ⟨q,ver,off,0,5⟩) N ic) (.int .i64 (i:Int))=some (J.ptr (some ⟨q,ver,off+i,0,5⟩))∧aQ env.D 65 ⟨q,ver,off+i,0,5⟩ (I.mk (H.next+7) (H.2))=some ((cZ k n d aE mx))∧aV env bz (H.next+4) (a1 []) (I.mk (H.next+7) (H.2)) (Op.alloc 65)=some (J.ptr (some ⟨z,0,0,0,5⟩),H1)∧aV env bz (H.next+6) (a1 [(12,.ptr (some ⟨z,0,0,0,5⟩)),(39,(cZ k n d aE mx))]) H1 (Op.store 65 (Operand.tmp 12) (Operand.tmp 39))=some (J.tuple [],af)∧ad B (af.next) (aQ env.D 35 ⟨z,0,0,0,5⟩ (I.mk (af.next+3) (af.2))=some (.int .i8 k)∧some (J.bool (k != 3))=some (J.bool false)∧ad B (af.next+3) (aV env bz (af.next+5) (a1 [(50,.int .i64 (i:Int))]) (I.mk (af.next+8) (af.2)) (Op.buildSlice 28 1 {toList:=[(0,Operand.tmp 50)]})=some (J.slice (some ⟨a,0,0,0,1⟩) 1 1,ax)∧dk env Builtin.append {toList:=[28,28]} [dg,.slice (some ⟨a,0,0,0,1⟩) 1 1] (af.next+6) ax=some (kc,au)∧ad B (au.next) (aQ env.D 3 ⟨z,0,0,1,5⟩ (I.mk (au.next+5) (au.2))=some (.int .i64 n)∧(-9223372036854775808≤weight+n∧weight+n≤9223372036854775807)∧ad B (au.next+5) (aQ env.D 3 ⟨z,0,0,4,5⟩ (I.mk (au.next+10) (au.2))=some (.int .i64 mx)∧(-9223372036854775808≤dH+mx∧dH+mx≤9223372036854775807)∧ad B (au.next+10) (ad B (au.next+17) ((-9223372036854775808≤(i:Int)+1∧(i:Int)+1≤9223372036854775807)∧ai .normal [(0,.slice (some ⟨q,ver,off,0,5⟩) N ic),(1,sv),(6,.int .i64 rest),(7,.int .i64 (weight+n)),(8,.int .i64 (dH+mx)),(9,kc),(10,.bool false),(33,.slice (some ⟨q,ver,off,0,5⟩) N ic),(34,.int .i64 (N:Int)),(35,.int .i64 ((i:Int)+1))] (I.mk (au.next+17+2) (I.aj (CN au)))))))))))) :
 ∃e ah U,aR Tryz.prog aq B 279 (aY Tryz.prog 95 0) [(0,.slice (some ⟨q,ver,off,0,5⟩) N ic),(1,sv),(6,.int .i64 rest),(7,.int .i64 weight),(8,.int .i64 dH),(9,dg),(10,.bool false),(33,.slice (some ⟨q,ver,off,0,5⟩) N ic),(34,.int .i64 N),(35,.int .i64 i)] H e ah U∧ai e ah U :=
 b0 bg mixed bq (hs:= .aa (.val 4000 (.bool true)) (.aa (.val 5001 (.ptr (some ⟨q,ver,off+i,0,5⟩))) (.aa (.val 5002 ((cZ k n d aE mx))) (.aa (.act 5003 (.ptr (some ⟨z,0,0,0,5⟩)) fun x=>H1) (.aa (.act 5005 (.tuple []) fun x=>af) (.aa (.val 6001 (.int .i8 k)) (.aa (.val 6002 (.bool false)) (.aa (.act 8002 (.slice (some ⟨a,0,0,0,1⟩) 1 1) fun x=>ax) (.aa (.act 8003 kc fun x=>au) (.aa (.val 9002 (.int .i64 n)) (an 9003 (.aa (.val 10002 (.int .i64 mx)) (an 10003 (an 12000 .nil)))))))))))))) (keep:=[0,1,6,7,8,9,10,33,34,35]) (by kernel_rfl) aG
theorem QK(H:I)(cq:Bool)(dg:J)(B N ic q ver off i:Nat)(rest weight dH:Int)(sv:J)(k n d aE mx y:Int)(ai:bx→a6→I→Prop)(aG:ad B (H.next) (some (J.bool (decide ((i:Int)<(N:Int))))=some (J.bool false)∧ai (.exit 0) [(0,.slice (some ⟨q,ver,off,0,5⟩) N ic),(1,sv),(6,.int .i64 rest),(7,.int .i64 weight),(8,.int .i64 dH),(9,dg),(10,.bool cq),(33,.slice (some ⟨q,ver,off,0,5⟩) N ic),(34,.int .i64 (N:Int)),(35,.int .i64 (i:Int))] (I.mk (H.next+1) (I.aj H)))) :
 ∃e ah U,aR Tryz.prog aq B 279 (aY Tryz.prog 95 0) [(0,.slice (some ⟨q,ver,off,0,5⟩) N ic),(1,sv),(6,.int .i64 rest),(7,.int .i64 weight),(8,.int .i64 dH),(9,dg),(10,.bool cq),(33,.slice (some ⟨q,ver,off,0,5⟩) N ic),(34,.int .i64 N),(35,.int .i64 i)] H e ah U∧ai e ah U :=
 b0 bg mixed bq (hs:= .aa (.val 4000 (.bool false)) .nil) (keep:=[0,1,6,7,8,9,10,33,34,35]) (by kernel_rfl) aG
theorem QL(H H1:I)(B N ic q ver off m oc i j:Nat)(oo:Option aO)(sv:J)(mx:Int)(p bu:aO)(ai:bx→a6→I→Prop)(aG:ad B (H.next) (some (J.bool (decide ((i:Int)<(m:Int))))=some (J.bool true)∧ad B (H.next+1) (bb env.D 28 (.slice oo m oc) (.int .i64 (i:Int))=some (J.ptr (some p))∧aQ env.D 3 p (I.mk (H.next+4) (H.2))=some (.int .i64 (j:Int))∧ad B (H.next+4) (bb env.D 27 (.slice (some ⟨q,ver,off,0,5⟩) N ic) (.int .i64 (j:Int))=some (J.ptr (some ⟨q,ver,off+j,0,5⟩))∧aQ env.D 3 ⟨q,ver,off+j,4,5⟩ (I.mk (H.next+13) (H.2))=some (.int .i64 mx)∧bb env.D 28 sv (.int .i64 (j:Int))=some (J.ptr (some bu))∧aV env bz (H.next+12) (a1 [(87,.ptr (some bu)),(86,.int .i64 mx)]) (I.mk (H.next+13) (H.2)) (Op.store 3 (Operand.tmp 87) (Operand.tmp 86))=some (J.tuple [],H1)∧ad B (H1.next) ((-9223372036854775808≤(i:Int)+1∧(i:Int)+1≤9223372036854775807)∧ai .normal [(0,.slice (some ⟨q,ver,off,0,5⟩) N ic),(1,sv),(74,.slice oo m oc),(75,.int .i64 (m:Int)),(76,.int .i64 ((i:Int)+1))] (I.mk (H1.next+2) (I.aj H1))))))) :
 ∃e ah U,aR Tryz.prog aq B 279 (aY Tryz.prog 95 1) [(0,.slice (some ⟨q,ver,off,0,5⟩) N ic),(1,sv),(74,.slice oo m oc),(75,.int .i64 m),(76,.int .i64 i)] H e ah U∧ai e ah U :=
 b0 bg mixed bq (hs:= .aa (.val 15000 (.bool true)) (.aa (.val 16000 (.ptr (some p))) (.aa (.val 16001 (.int .i64 (j:Int))) (.aa (.val 17004 (.ptr (some ⟨q,ver,off+j,0,5⟩))) (.aa (.val 17006 (.int .i64 mx)) (.aa (.val 17007 (.ptr (some bu))) (.aa (.act 17008 (.tuple []) fun x=>H1) (an 18000 .nil)))))))) (keep:=[0,1,74,75,76]) (by kernel_rfl) aG
theorem QM(H:I)(B N ic q ver off m oc i j:Nat)(oo:Option aO)(sv:J)(mx:Int)(p bu:aO)(ai:bx→a6→I→Prop)(aG:ad B (H.next) (some (J.bool (decide ((i:Int)<(m:Int))))=some (J.bool false)∧ai (.exit 2) [(0,.slice (some ⟨q,ver,off,0,5⟩) N ic),(1,sv),(74,.slice oo m oc),(75,.int .i64 (m:Int)),(76,.int .i64 (i:Int))] (I.mk (H.next+1) (I.aj H)))) :
 ∃e ah U,aR Tryz.prog aq B 279 (aY Tryz.prog 95 1) [(0,.slice (some ⟨q,ver,off,0,5⟩) N ic),(1,sv),(74,.slice oo m oc),(75,.int .i64 m),(76,.int .i64 i)] H e ah U∧ai e ah U :=
 b0 bg mixed bq (hs:= .aa (.val 15000 (.bool false)) .nil) (keep:=[0,1,74,75,76]) (by kernel_rfl) aG
theorem QN(H:I)(B N ic q ver off m oc i j:Nat)(oo:Option aO)(sv:J)(rest weight a b n aE cq:Int)(it:J)(p:aO)(ai:bx→a6→I→Prop)(aG:ad B (H.next) (some (J.bool (decide ((i:Int)<(m:Int))))=some (J.bool true)∧ad B (H.next+1) (bb env.D 28 (.slice oo m oc) (.int .i64 (i:Int))=some (J.ptr (some p))∧aQ env.D 3 p (I.mk (H.next+4) (H.2))=some (.int .i64 (j:Int))∧ad B (H.next+4) (bb env.D 27 (.slice (some ⟨q,ver,off,0,5⟩) N ic) (.int .i64 (j:Int))=some (J.ptr (some ⟨q,ver,off+j,0,5⟩))∧aQ env.D 3 ⟨q,ver,off+j,1,5⟩ (I.mk (H.next+12) (H.2))=some (.int .i64 n)∧(-9223372036854775808≤rest*n∧rest*n≤9223372036854775807)∧ad B (H.next+12) (bb env.D 27 (.slice (some ⟨q,ver,off,0,5⟩) N ic) (.int .i64 (j:Int))=some (J.ptr (some ⟨q,ver,off+j,0,5⟩))∧aQ env.D 65 ⟨q,ver,off+j,0,5⟩ (I.mk (H.next+25) (H.2))=some it∧bY Tryz.prog aq 145 [it] (I.mk (H.next+25) (H.2)) (.int .i64 cq) (I.mk (H.next+25) (H.2))∧(-9223372036854775808≤weight*cq∧weight*cq≤9223372036854775807)∧(-9223372036854775808≤rest*n-weight*cq∧rest*n-weight*cq≤9223372036854775807)∧((-9223372036854775808≤a+if rest*n-weight*cq>0 then rest*n-weight*cq else 0)∧(a+if rest*n-weight*cq>0 then rest*n-weight*cq else 0)≤9223372036854775807)∧ad B (H.next+25) (bb env.D 27 (.slice (some ⟨q,ver,off,0,5⟩) N ic) (.int .i64 (j:Int))=some (J.ptr (some ⟨q,ver,off+j,0,5⟩))∧aQ env.D 3 ⟨q,ver,off+j,3,5⟩ (I.mk (H.next+38) (H.2))=some (.int .i64 aE)∧(-9223372036854775808≤weight*aE∧weight*aE≤9223372036854775807)∧(-9223372036854775808≤weight*aE-rest*n∧weight*aE-rest*n≤9223372036854775807)∧((-9223372036854775808≤b+if weight*aE-rest*n>0 then weight*aE-rest*n else 0)∧(b+if weight*aE-rest*n>0 then weight*aE-rest*n else 0)≤9223372036854775807)∧ad B (H.next+38) ((-9223372036854775808≤(i:Int)+1∧(i:Int)+1≤9223372036854775807)∧ai .normal [(0,.slice (some ⟨q,ver,off,0,5⟩) N ic),(1,sv),(6,.int .i64 rest),(7,.int .i64 weight),(9,.slice oo m oc),(15,.int .i64 (a+if rest*n-weight*cq>0 then rest*n-weight*cq else 0)),(16,.int .i64 (b+if weight*aE-rest*n>0 then weight*aE-rest*n else 0)),(92,.slice oo m oc),(93,.int .i64 (m:Int)),(94,.int .i64 ((i:Int)+1))] (I.mk (H.next+38+2) (I.aj (I.mk (H.next+25+13) (I.aj (I.mk (H.next+12+13) (I.aj (I.mk (H.next+4+8) (I.aj (I.mk (H.next+1+3) (I.aj (I.mk (H.next+1) (I.aj H))))))))))))))))))) :
 ∃e ah U,aR Tryz.prog aq B 279 (aY Tryz.prog 95 3) [(0,.slice (some ⟨q,ver,off,0,5⟩) N ic),(1,sv),(6,.int .i64 rest),(7,.int .i64 weight),(9,.slice oo m oc),(15,.int .i64 a),(16,.int .i64 b),(92,.slice oo m oc),(93,.int .i64 m),(94,.int .i64 i)] H e ah U∧ai e ah U :=
 b0 bg mixed bq (hs:= .aa (.val 22000 (.bool true)) (.aa (.val 23000 (.ptr (some p))) (.aa (.val 23001 (.int .i64 (j:Int))) (.aa (.val 24003 (.ptr (some ⟨q,ver,off+j,0,5⟩))) (.aa (.val 24005 (.int .i64 n)) (an 24006 (.aa (.val 25005 (.ptr (some ⟨q,ver,off+j,0,5⟩))) (.aa (.val 25006 it) (.aa (.val 25007 (.int .i64 cq)) (an 25008 (an 25009 (an 25011 (.aa (.val 26004 (.ptr (some ⟨q,ver,off+j,0,5⟩))) (.aa (.val 26006 (.int .i64 aE)) (an 26007 (an 26009 (an 26011 (an 27000 .nil)))))))))))))))))) (keep:=[0,1,6,7,9,15,16,92,93,94]) (by kernel_rfl) aG
theorem QO(H:I)(B N ic q ver off m oc i j:Nat)(oo:Option aO)(sv:J)(rest weight a b n aE cq:Int)(it:J)(p:aO)(ai:bx→a6→I→Prop)(aG:ad B (H.next) (some (J.bool (decide ((i:Int)<(m:Int))))=some (J.bool false)∧ai (.exit 6) [(0,.slice (some ⟨q,ver,off,0,5⟩) N ic),(1,sv),(6,.int .i64 rest),(7,.int .i64 weight),(9,.slice oo m oc),(15,.int .i64 a),(16,.int .i64 b),(92,.slice oo m oc),(93,.int .i64 (m:Int)),(94,.int .i64 (i:Int))] (I.mk (H.next+1) (I.aj H)))) :
 ∃e ah U,aR Tryz.prog aq B 279 (aY Tryz.prog 95 3) [(0,.slice (some ⟨q,ver,off,0,5⟩) N ic),(1,sv),(6,.int .i64 rest),(7,.int .i64 weight),(9,.slice oo m oc),(15,.int .i64 a),(16,.int .i64 b),(92,.slice oo m oc),(93,.int .i64 m),(94,.int .i64 i)] H e ah U∧ai e ah U :=
 b0 bg mixed bq (hs:= .aa (.val 22000 (.bool false)) .nil) (keep:=[0,1,6,7,9,15,16,92,93,94]) (by kernel_rfl) aG
theorem QP(H H1:I)(B N ic q ver off m oc i j:Nat)(oo:Option aO)(sv dr fG:J)(rest weight a b l w n aE mx cq:Int)(it:J)(p bu:aO)(ai:bx→a6→I→Prop)(aG:ad B (H.next) (some (J.bool (decide ((i:Int)<(m:Int))))=some (J.bool true)∧ad B (H.next+1) (bb env.D 28 (.slice oo m oc) (.int .i64 (i:Int))=some (J.ptr (some p))∧aQ env.D 3 p (I.mk (H.next+4) (H.2))=some (.int .i64 (j:Int))∧ad B (H.next+4) (bb env.D 27 (.slice (some ⟨q,ver,off,0,5⟩) N ic) (.int .i64 (j:Int))=some (J.ptr (some ⟨q,ver,off+j,0,5⟩))∧aQ env.D 3 ⟨q,ver,off+j,1,5⟩ (I.mk (H.next+12) (H.2))=some (.int .i64 n)∧(-9223372036854775808≤rest*n∧rest*n≤9223372036854775807)∧ad B (H.next+12) (some (J.bool (decide (a≥b)))=some (J.bool true)∧bb env.D 27 (.slice (some ⟨q,ver,off,0,5⟩) N ic) (.int .i64 (j:Int))=some (J.ptr (some ⟨q,ver,off+j,0,5⟩))∧aQ env.D 65 ⟨q,ver,off+j,0,5⟩ (I.mk (H.next+26) (H.2))=some it∧bY Tryz.prog aq 145 [it] (I.mk (H.next+26) (H.2)) (.int .i64 cq) (I.mk (H.next+26) (H.2))∧(-9223372036854775808≤weight*cq∧weight*cq≤9223372036854775807)∧some (J.bool (decide (rest*n≥weight*cq)))=some (J.bool true)∧ad B (H.next+26) (bb env.D 27 (.slice (some ⟨q,ver,off,0,5⟩) N ic) (.int .i64 (j:Int))=some (J.ptr (some ⟨q,ver,off+j,0,5⟩))∧aQ env.D 3 ⟨q,ver,off+j,4,5⟩ (I.mk (H.next+35) (H.2))=some (.int .i64 mx)∧bb env.D 28 sv (.int .i64 (j:Int))=some (J.ptr (some bu))∧aV env bz (H.next+34) (a1 [(172,.ptr (some bu)),(171,.int .i64 mx)]) (I.mk (H.next+35) (H.2)) (Op.store 3 (Operand.tmp 172) (Operand.tmp 171))=some (J.tuple [],H1)∧ad B (H1.next) (bb env.D 28 sv (.int .i64 (j:Int))=some (J.ptr (some bu))∧aQ env.D 3 bu (I.mk (H1.next+7) (H1.2))=some (.int .i64 mx)∧(-9223372036854775808≤l-mx∧l-mx≤9223372036854775807)∧ad B (H1.next+7) (bb env.D 27 (.slice (some ⟨q,ver,off,0,5⟩) N ic) (.int .i64 (j:Int))=some (J.ptr (some ⟨q,ver,off+j,0,5⟩))∧aQ env.D 3 ⟨q,ver,off+j,1,5⟩ (I.mk (H1.next+15) (H1.2))=some (.int .i64 n)∧(-9223372036854775808≤w-n∧w-n≤9223372036854775807)∧ad B (H1.next+15) ((-9223372036854775808≤(i:Int)+1∧(i:Int)+1≤9223372036854775807)∧ai .normal [(0,.slice (some ⟨q,ver,off,0,5⟩) N ic),(1,sv),(6,.int .i64 rest),(7,.int .i64 weight),(15,.int .i64 a),(16,.int .i64 b),(20,dr),(21,.int .i64 (l-mx)),(22,.int .i64 (w-n)),(138,.slice oo m oc),(139,.int .i64 (m:Int)),(140,.int .i64 ((i:Int)+1))] (I.mk (H1.next+15+2) (I.aj (I.mk (H1.next+7+8) (I.aj (I.mk (H1.next+7) (I.aj H1))))))))))))))) :
 ∃e ah U,aR Tryz.prog aq B 279 (aY Tryz.prog 95 4) [(0,.slice (some ⟨q,ver,off,0,5⟩) N ic),(1,sv),(6,.int .i64 rest),(7,.int .i64 weight),(15,.int .i64 a),(16,.int .i64 b),(20,dr),(21,.int .i64 l),(22,.int .i64 w),(138,.slice oo m oc),(139,.int .i64 m),(140,.int .i64 i)] H e ah U∧ai e ah U :=
 b0 bg mixed bq (hs:= .aa (.val 32000 (.bool true)) (.aa (.val 33000 (.ptr (some p))) (.aa (.val 33001 (.int .i64 (j:Int))) (.aa (.val 34003 (.ptr (some ⟨q,ver,off+j,0,5⟩))) (.aa (.val 34005 (.int .i64 n)) (an 34006 (.aa (.val 35002 (.bool true)) (.aa (.val 35008 (.ptr (some ⟨q,ver,off+j,0,5⟩))) (.aa (.val 35009 it) (.aa (.val 35010 (.int .i64 cq)) (an 35011 (.aa (.val 35012 (.bool true)) (.aa (.val 36004 (.ptr (some ⟨q,ver,off+j,0,5⟩))) (.aa (.val 36006 (.int .i64 mx)) (.aa (.val 36007 (.ptr (some bu))) (.aa (.act 36008 (.tuple []) fun x=>H1) (.aa (.val 40003 (.ptr (some bu))) (.aa (.val 40004 (.int .i64 mx)) (an 40005 (.aa (.val 41003 (.ptr (some ⟨q,ver,off+j,0,5⟩))) (.aa (.val 41005 (.int .i64 n)) (an 41006 (an 42000 .nil))))))))))))))))))))))) (keep:=[0,1,6,7,15,16,20,21,22,138,139,140]) (by kernel_rfl) aG
theorem QQ(H H1:I)(B N ic q ver off m oc i j:Nat)(oo:Option aO)(sv dr fG:J)(rest weight a b l w n aE mx cq:Int)(it:J)(p bu:aO)(ai:bx→a6→I→Prop)(aG:ad B (H.next) (some (J.bool (decide ((i:Int)<(m:Int))))=some (J.bool true)∧ad B (H.next+1) (bb env.D 28 (.slice oo m oc) (.int .i64 (i:Int))=some (J.ptr (some p))∧aQ env.D 3 p (I.mk (H.next+4) (H.2))=some (.int .i64 (j:Int))∧ad B (H.next+4) (bb env.D 27 (.slice (some ⟨q,ver,off,0,5⟩) N ic) (.int .i64 (j:Int))=some (J.ptr (some ⟨q,ver,off+j,0,5⟩))∧aQ env.D 3 ⟨q,ver,off+j,1,5⟩ (I.mk (H.next+12) (H.2))=some (.int .i64 n)∧(-9223372036854775808≤rest*n∧rest*n≤9223372036854775807)∧ad B (H.next+12) (some (J.bool (decide (a≥b)))=some (J.bool true)∧bb env.D 27 (.slice (some ⟨q,ver,off,0,5⟩) N ic) (.int .i64 (j:Int))=some (J.ptr (some ⟨q,ver,off+j,0,5⟩))∧aQ env.D 65 ⟨q,ver,off+j,0,5⟩ (I.mk (H.next+26) (H.2))=some it∧bY Tryz.prog aq 145 [it] (I.mk (H.next+26) (H.2)) (.int .i64 cq) (I.mk (H.next+26) (H.2))∧(-9223372036854775808≤weight*cq∧weight*cq≤9223372036854775807)∧some (J.bool (decide (rest*n≥weight*cq)))=some (J.bool false)∧ad B (H.next+26) (some (J.bool (decide (b≥a)))=some (J.bool true)∧bb env.D 27 (.slice (some ⟨q,ver,off,0,5⟩) N ic) (.int .i64 (j:Int))=some (J.ptr (some ⟨q,ver,off+j,0,5⟩))∧aQ env.D 3 ⟨q,ver,off+j,3,5⟩ (I.mk (H.next+40) (H.2))=some (.int .i64 aE)∧(-9223372036854775808≤weight*aE∧weight*aE≤9223372036854775807)∧some (J.bool (decide (rest*n≤weight*aE)))=some (J.bool true)∧ad B (H.next+40) (bb env.D 27 (.slice (some ⟨q,ver,off,0,5⟩) N ic) (.int .i64 (j:Int))=some (J.ptr (some ⟨q,ver,off+j,0,5⟩))∧aQ env.D 3 ⟨q,ver,off+j,3,5⟩ (I.mk (H.next+49) (H.2))=some (.int .i64 aE)∧bb env.D 28 sv (.int .i64 (j:Int))=some (J.ptr (some bu))∧aV env bz (H.next+48) (a1 [(194,.ptr (some bu)),(193,.int .i64 aE)]) (I.mk (H.next+49) (H.2)) (Op.store 3 (Operand.tmp 194) (Operand.tmp 193))=some (J.tuple [],H1)∧ad B (H1.next) (bb env.D 28 sv (.int .i64 (j:Int))=some (J.ptr (some bu))∧aQ env.D 3 bu (I.mk (H1.next+7) (H1.2))=some (.int .i64 aE)∧(-9223372036854775808≤l-aE∧l-aE≤9223372036854775807)∧ad B (H1.next+7) (bb env.D 27 (.slice (some ⟨q,ver,off,0,5⟩) N ic) (.int .i64 (j:Int))=some (J.ptr (some ⟨q,ver,off+j,0,5⟩))∧aQ env.D 3 ⟨q,ver,off+j,1,5⟩ (I.mk (H1.next+15) (H1.2))=some (.int .i64 n)∧(-9223372036854775808≤w-n∧w-n≤9223372036854775807)∧ad B (H1.next+15) ((-9223372036854775808≤(i:Int)+1∧(i:Int)+1≤9223372036854775807)∧ai .normal [(0,.slice (some ⟨q,ver,off,0,5⟩) N ic),(1,sv),(6,.int .i64 rest),(7,.int .i64 weight),(15,.int .i64 a),(16,.int .i64 b),(20,dr),(21,.int .i64 (l-aE)),(22,.int .i64 (w-n)),(138,.slice oo m oc),(139,.int .i64 (m:Int)),(140,.int .i64 ((i:Int)+1))] (I.mk (H1.next+15+2) (I.aj (I.mk (H1.next+7+8) (I.aj (I.mk (H1.next+7) (I.aj H1)))))))))))))))) :
 ∃e ah U,aR Tryz.prog aq B 279 (aY Tryz.prog 95 4) [(0,.slice (some ⟨q,ver,off,0,5⟩) N ic),(1,sv),(6,.int .i64 rest),(7,.int .i64 weight),(15,.int .i64 a),(16,.int .i64 b),(20,dr),(21,.int .i64 l),(22,.int .i64 w),(138,.slice oo m oc),(139,.int .i64 m),(140,.int .i64 i)] H e ah U∧ai e ah U :=
 b0 bg mixed bq (hs:= .aa (.val 32000 (.bool true)) (.aa (.val 33000 (.ptr (some p))) (.aa (.val 33001 (.int .i64 (j:Int))) (.aa (.val 34003 (.ptr (some ⟨q,ver,off+j,0,5⟩))) (.aa (.val 34005 (.int .i64 n)) (an 34006 (.aa (.val 35002 (.bool true)) (.aa (.val 35008 (.ptr (some ⟨q,ver,off+j,0,5⟩))) (.aa (.val 35009 it) (.aa (.val 35010 (.int .i64 cq)) (an 35011 (.aa (.val 35012 (.bool false)) (.aa (.val 37002 (.bool true)) (.aa (.val 37008 (.ptr (some ⟨q,ver,off+j,0,5⟩))) (.aa (.val 37010 (.int .i64 aE)) (an 37011 (.aa (.val 37012 (.bool true)) (.aa (.val 38004 (.ptr (some ⟨q,ver,off+j,0,5⟩))) (.aa (.val 38006 (.int .i64 aE)) (.aa (.val 38007 (.ptr (some bu))) (.aa (.act 38008 (.tuple []) fun x=>H1) (.aa (.val 40003 (.ptr (some bu))) (.aa (.val 40004 (.int .i64 aE)) (an 40005 (.aa (.val 41003 (.ptr (some ⟨q,ver,off+j,0,5⟩))) (.aa (.val 41005 (.int .i64 n)) (an 41006 (an 42000 .nil)))))))))))))))))))))))))))) (keep:=[0,1,6,7,15,16,20,21,22,138,139,140]) (by kernel_rfl) aG
theorem QR(H H1 af:I)(u:Nat)(B N ic q ver off m oc i j:Nat)(oo:Option aO)(sv dr fG:J)(rest weight a b l w n aE mx cq:Int)(it:J)(p bu:aO)(ai:bx→a6→I→Prop)(aG:ad B (H.next) (some (J.bool (decide ((i:Int)<(m:Int))))=some (J.bool true)∧ad B (H.next+1) (bb env.D 28 (.slice oo m oc) (.int .i64 (i:Int))=some (J.ptr (some p))∧aQ env.D 3 p (I.mk (H.next+4) (H.2))=some (.int .i64 (j:Int))∧ad B (H.next+4) (bb env.D 27 (.slice (some ⟨q,ver,off,0,5⟩) N ic) (.int .i64 (j:Int))=some (J.ptr (some ⟨q,ver,off+j,0,5⟩))∧aQ env.D 3 ⟨q,ver,off+j,1,5⟩ (I.mk (H.next+12) (H.2))=some (.int .i64 n)∧(-9223372036854775808≤rest*n∧rest*n≤9223372036854775807)∧ad B (H.next+12) (some (J.bool (decide (a≥b)))=some (J.bool true)∧bb env.D 27 (.slice (some ⟨q,ver,off,0,5⟩) N ic) (.int .i64 (j:Int))=some (J.ptr (some ⟨q,ver,off+j,0,5⟩))∧aQ env.D 65 ⟨q,ver,off+j,0,5⟩ (I.mk (H.next+26) (H.2))=some it∧bY Tryz.prog aq 145 [it] (I.mk (H.next+26) (H.2)) (.int .i64 cq) (I.mk (H.next+26) (H.2))∧(-9223372036854775808≤weight*cq∧weight*cq≤9223372036854775807)∧some (J.bool (decide (rest*n≥weight*cq)))=some (J.bool false)∧ad B (H.next+26) (some (J.bool (decide (b≥a)))=some (J.bool true)∧bb env.D 27 (.slice (some ⟨q,ver,off,0,5⟩) N ic) (.int .i64 (j:Int))=some (J.ptr (some ⟨q,ver,off+j,0,5⟩))∧aQ env.D 3 ⟨q,ver,off+j,3,5⟩ (I.mk (H.next+40) (H.2))=some (.int .i64 aE)∧(-9223372036854775808≤weight*aE∧weight*aE≤9223372036854775807)∧some (J.bool (decide (rest*n≤weight*aE)))=some (J.bool false)∧ad B (H.next+40) (aV env bz (H.next+42) (a1 [(196,.int .i64 (j:Int))]) (I.mk (H.next+45) (H.2)) (Op.buildSlice 28 1 {toList:=[(0,Operand.tmp 196)]})=some (J.slice (some ⟨u,0,0,0,1⟩) 1 1,H1)∧dk env Builtin.append {toList:=[28,28]} [dr,.slice (some ⟨u,0,0,0,1⟩) 1 1] (H.next+43) H1=some (fG,af)∧ad B (af.next) ((-9223372036854775808≤(i:Int)+1∧(i:Int)+1≤9223372036854775807)∧ai .normal [(0,.slice (some ⟨q,ver,off,0,5⟩) N ic),(1,sv),(6,.int .i64 rest),(7,.int .i64 weight),(15,.int .i64 a),(16,.int .i64 b),(20,fG),(21,.int .i64 l),(22,.int .i64 w),(138,.slice oo m oc),(139,.int .i64 (m:Int)),(140,.int .i64 ((i:Int)+1))] (I.mk (af.next+2) (I.aj af)))))))))) :
 ∃e ah U,aR Tryz.prog aq B 279 (aY Tryz.prog 95 4) [(0,.slice (some ⟨q,ver,off,0,5⟩) N ic),(1,sv),(6,.int .i64 rest),(7,.int .i64 weight),(15,.int .i64 a),(16,.int .i64 b),(20,dr),(21,.int .i64 l),(22,.int .i64 w),(138,.slice oo m oc),(139,.int .i64 m),(140,.int .i64 i)] H e ah U∧ai e ah U :=
 b0 bg mixed bq (hs:= .aa (.val 32000 (.bool true)) (.aa (.val 33000 (.ptr (some p))) (.aa (.val 33001 (.int .i64 (j:Int))) (.aa (.val 34003 (.ptr (some ⟨q,ver,off+j,0,5⟩))) (.aa (.val 34005 (.int .i64 n)) (an 34006 (.aa (.val 35002 (.bool true)) (.aa (.val 35008 (.ptr (some ⟨q,ver,off+j,0,5⟩))) (.aa (.val 35009 it) (.aa (.val 35010 (.int .i64 cq)) (an 35011 (.aa (.val 35012 (.bool false)) (.aa (.val 37002 (.bool true)) (.aa (.val 37008 (.ptr (some ⟨q,ver,off+j,0,5⟩))) (.aa (.val 37010 (.int .i64 aE)) (an 37011 (.aa (.val 37012 (.bool false)) (.aa (.act 39002 (.slice (some ⟨u,0,0,0,1⟩) 1 1) fun x=>H1) (.aa (.act 39003 fG fun x=>af) (an 42000 .nil)))))))))))))))))))) (keep:=[0,1,6,7,15,16,20,21,22,138,139,140]) (by kernel_rfl) aG
theorem QS(H H1:I)(B N ic q ver off m oc i j:Nat)(oo:Option aO)(sv dr fG:J)(rest weight a b l w n aE mx cq:Int)(it:J)(p bu:aO)(ai:bx→a6→I→Prop)(aG:ad B (H.next) (some (J.bool (decide ((i:Int)<(m:Int))))=some (J.bool true)∧ad B (H.next+1) (bb env.D 28 (.slice oo m oc) (.int .i64 (i:Int))=some (J.ptr (some p))∧aQ env.D 3 p (I.mk (H.next+4) (H.2))=some (.int .i64 (j:Int))∧ad B (H.next+4) (bb env.D 27 (.slice (some ⟨q,ver,off,0,5⟩) N ic) (.int .i64 (j:Int))=some (J.ptr (some ⟨q,ver,off+j,0,5⟩))∧aQ env.D 3 ⟨q,ver,off+j,1,5⟩ (I.mk (H.next+12) (H.2))=some (.int .i64 n)∧(-9223372036854775808≤rest*n∧rest*n≤9223372036854775807)∧ad B (H.next+12) (some (J.bool (decide (a≥b)))=some (J.bool false)∧ad B (H.next+26) (some (J.bool (decide (b≥a)))=some (J.bool true)∧bb env.D 27 (.slice (some ⟨q,ver,off,0,5⟩) N ic) (.int .i64 (j:Int))=some (J.ptr (some ⟨q,ver,off+j,0,5⟩))∧aQ env.D 3 ⟨q,ver,off+j,3,5⟩ (I.mk (H.next+40) (H.2))=some (.int .i64 aE)∧(-9223372036854775808≤weight*aE∧weight*aE≤9223372036854775807)∧some (J.bool (decide (rest*n≤weight*aE)))=some (J.bool true)∧ad B (H.next+40) (bb env.D 27 (.slice (some ⟨q,ver,off,0,5⟩) N ic) (.int .i64 (j:Int))=some (J.ptr (some ⟨q,ver,off+j,0,5⟩))∧aQ env.D 3 ⟨q,ver,off+j,3,5⟩ (I.mk (H.next+49) (H.2))=some (.int .i64 aE)∧bb env.D 28 sv (.int .i64 (j:Int))=some (J.ptr (some bu))∧aV env bz (H.next+48) (a1 [(194,.ptr (some bu)),(193,.int .i64 aE)]) (I.mk (H.next+49) (H.2)) (Op.store 3 (Operand.tmp 194) (Operand.tmp 193))=some (J.tuple [],H1)∧ad B (H1.next) (bb env.D 28 sv (.int .i64 (j:Int))=some (J.ptr (some bu))∧aQ env.D 3 bu (I.mk (H1.next+7) (H1.2))=some (.int .i64 aE)∧(-9223372036854775808≤l-aE∧l-aE≤9223372036854775807)∧ad B (H1.next+7) (bb env.D 27 (.slice (some ⟨q,ver,off,0,5⟩) N ic) (.int .i64 (j:Int))=some (J.ptr (some ⟨q,ver,off+j,0,5⟩))∧aQ env.D 3 ⟨q,ver,off+j,1,5⟩ (I.mk (H1.next+15) (H1.2))=some (.int .i64 n)∧(-9223372036854775808≤w-n∧w-n≤9223372036854775807)∧ad B (H1.next+15) ((-9223372036854775808≤(i:Int)+1∧(i:Int)+1≤9223372036854775807)∧ai .normal [(0,.slice (some ⟨q,ver,off,0,5⟩) N ic),(1,sv),(6,.int .i64 rest),(7,.int .i64 weight),(15,.int .i64 a),(16,.int .i64 b),(20,dr),(21,.int .i64 (l-aE)),(22,.int .i64 (w-n)),(138,.slice oo m oc),(139,.int .i64 (m:Int)),(140,.int .i64 ((i:Int)+1))] (I.mk (H1.next+15+2) (I.aj (I.mk (H1.next+7+8) (I.aj (I.mk (H1.next+7) (I.aj H1)))))))))))))))) :
 ∃e ah U,aR Tryz.prog aq B 279 (aY Tryz.prog 95 4) [(0,.slice (some ⟨q,ver,off,0,5⟩) N ic),(1,sv),(6,.int .i64 rest),(7,.int .i64 weight),(15,.int .i64 a),(16,.int .i64 b),(20,dr),(21,.int .i64 l),(22,.int .i64 w),(138,.slice oo m oc),(139,.int .i64 m),(140,.int .i64 i)] H e ah U∧ai e ah U :=
 b0 bg mixed bq (hs:= .aa (.val 32000 (.bool true)) (.aa (.val 33000 (.ptr (some p))) (.aa (.val 33001 (.int .i64 (j:Int))) (.aa (.val 34003 (.ptr (some ⟨q,ver,off+j,0,5⟩))) (.aa (.val 34005 (.int .i64 n)) (an 34006 (.aa (.val 35002 (.bool false)) (.aa (.val 37002 (.bool true)) (.aa (.val 37008 (.ptr (some ⟨q,ver,off+j,0,5⟩))) (.aa (.val 37010 (.int .i64 aE)) (an 37011 (.aa (.val 37012 (.bool true)) (.aa (.val 38004 (.ptr (some ⟨q,ver,off+j,0,5⟩))) (.aa (.val 38006 (.int .i64 aE)) (.aa (.val 38007 (.ptr (some bu))) (.aa (.act 38008 (.tuple []) fun x=>H1) (.aa (.val 40003 (.ptr (some bu))) (.aa (.val 40004 (.int .i64 aE)) (an 40005 (.aa (.val 41003 (.ptr (some ⟨q,ver,off+j,0,5⟩))) (.aa (.val 41005 (.int .i64 n)) (an 41006 (an 42000 .nil))))))))))))))))))))))) (keep:=[0,1,6,7,15,16,20,21,22,138,139,140]) (by kernel_rfl) aG
theorem QT(H H1 af:I)(u:Nat)(B N ic q ver off m oc i j:Nat)(oo:Option aO)(sv dr fG:J)(rest weight a b l w n aE mx cq:Int)(it:J)(p bu:aO)(ai:bx→a6→I→Prop)(aG:ad B (H.next) (some (J.bool (decide ((i:Int)<(m:Int))))=some (J.bool true)∧ad B (H.next+1) (bb env.D 28 (.slice oo m oc) (.int .i64 (i:Int))=some (J.ptr (some p))∧aQ env.D 3 p (I.mk (H.next+4) (H.2))=some (.int .i64 (j:Int))∧ad B (H.next+4) (bb env.D 27 (.slice (some ⟨q,ver,off,0,5⟩) N ic) (.int .i64 (j:Int))=some (J.ptr (some ⟨q,ver,off+j,0,5⟩))∧aQ env.D 3 ⟨q,ver,off+j,1,5⟩ (I.mk (H.next+12) (H.2))=some (.int .i64 n)∧(-9223372036854775808≤rest*n∧rest*n≤9223372036854775807)∧ad B (H.next+12) (some (J.bool (decide (a≥b)))=some (J.bool false)∧ad B (H.next+26) (some (J.bool (decide (b≥a)))=some (J.bool true)∧bb env.D 27 (.slice (some ⟨q,ver,off,0,5⟩) N ic) (.int .i64 (j:Int))=some (J.ptr (some ⟨q,ver,off+j,0,5⟩))∧aQ env.D 3 ⟨q,ver,off+j,3,5⟩ (I.mk (H.next+40) (H.2))=some (.int .i64 aE)∧(-9223372036854775808≤weight*aE∧weight*aE≤9223372036854775807)∧some (J.bool (decide (rest*n≤weight*aE)))=some (J.bool false)∧ad B (H.next+40) (aV env bz (H.next+42) (a1 [(196,.int .i64 (j:Int))]) (I.mk (H.next+45) (H.2)) (Op.buildSlice 28 1 {toList:=[(0,Operand.tmp 196)]})=some (J.slice (some ⟨u,0,0,0,1⟩) 1 1,H1)∧dk env Builtin.append {toList:=[28,28]} [dr,.slice (some ⟨u,0,0,0,1⟩) 1 1] (H.next+43) H1=some (fG,af)∧ad B (af.next) ((-9223372036854775808≤(i:Int)+1∧(i:Int)+1≤9223372036854775807)∧ai .normal [(0,.slice (some ⟨q,ver,off,0,5⟩) N ic),(1,sv),(6,.int .i64 rest),(7,.int .i64 weight),(15,.int .i64 a),(16,.int .i64 b),(20,fG),(21,.int .i64 l),(22,.int .i64 w),(138,.slice oo m oc),(139,.int .i64 (m:Int)),(140,.int .i64 ((i:Int)+1))] (I.mk (af.next+2) (I.aj af)))))))))) :
 ∃e ah U,aR Tryz.prog aq B 279 (aY Tryz.prog 95 4) [(0,.slice (some ⟨q,ver,off,0,5⟩) N ic),(1,sv),(6,.int .i64 rest),(7,.int .i64 weight),(15,.int .i64 a),(16,.int .i64 b),(20,dr),(21,.int .i64 l),(22,.int .i64 w),(138,.slice oo m oc),(139,.int .i64 m),(140,.int .i64 i)] H e ah U∧ai e ah U :=
 b0 bg mixed bq (hs:= .aa (.val 32000 (.bool true)) (.aa (.val 33000 (.ptr (some p))) (.aa (.val 33001 (.int .i64 (j:Int))) (.aa (.val 34003 (.ptr (some ⟨q,ver,off+j,0,5⟩))) (.aa (.val 34005 (.int .i64 n)) (an 34006 (.aa (.val 35002 (.bool false)) (.aa (.val 37002 (.bool true)) (.aa (.val 37008 (.ptr (some ⟨q,ver,off+j,0,5⟩))) (.aa (.val 37010 (.int .i64 aE)) (an 37011 (.aa (.val 37012 (.bool false)) (.aa (.act 39002 (.slice (some ⟨u,0,0,0,1⟩) 1 1) fun x=>H1) (.aa (.act 39003 fG fun x=>af) (an 42000 .nil))))))))))))))) (keep:=[0,1,6,7,15,16,20,21,22,138,139,140]) (by kernel_rfl) aG
theorem QU(H H1 af:I)(u:Nat)(B N ic q ver off m oc i j:Nat)(oo:Option aO)(sv dr fG:J)(rest weight a b l w n aE mx cq:Int)(it:J)(p bu:aO)(ai:bx→a6→I→Prop)(aG:ad B (H.next) (some (J.bool (decide ((i:Int)<(m:Int))))=some (J.bool true)∧ad B (H.next+1) (bb env.D 28 (.slice oo m oc) (.int .i64 (i:Int))=some (J.ptr (some p))∧aQ env.D 3 p (I.mk (H.next+4) (H.2))=some (.int .i64 (j:Int))∧ad B (H.next+4) (bb env.D 27 (.slice (some ⟨q,ver,off,0,5⟩) N ic) (.int .i64 (j:Int))=some (J.ptr (some ⟨q,ver,off+j,0,5⟩))∧aQ env.D 3 ⟨q,ver,off+j,1,5⟩ (I.mk (H.next+12) (H.2))=some (.int .i64 n)∧(-9223372036854775808≤rest*n∧rest*n≤9223372036854775807)∧ad B (H.next+12) (some (J.bool (decide (a≥b)))=some (J.bool true)∧bb env.D 27 (.slice (some ⟨q,ver,off,0,5⟩) N ic) (.int .i64 (j:Int))=some (J.ptr (some ⟨q,ver,off+j,0,5⟩))∧aQ env.D 65 ⟨q,ver,off+j,0,5⟩ (I.mk (H.next+26) (H.2))=some it∧bY Tryz.prog aq 145 [it] (I.mk (H.next+26) (H.2)) (.int .i64 cq) (I.mk (H.next+26) (H.2))∧(-9223372036854775808≤weight*cq∧weight*cq≤9223372036854775807)∧some (J.bool (decide (rest*n≥weight*cq)))=some (J.bool false)∧ad B (H.next+26) (some (J.bool (decide (b≥a)))=some (J.bool false)∧ad B (H.next+40) (aV env bz (H.next+42) (a1 [(196,.int .i64 (j:Int))]) (I.mk (H.next+45) (H.2)) (Op.buildSlice 28 1 {toList:=[(0,Operand.tmp 196)]})=some (J.slice (some ⟨u,0,0,0,1⟩) 1 1,H1)∧dk env Builtin.append {toList:=[28,28]} [dr,.slice (some ⟨u,0,0,0,1⟩) 1 1] (H.next+43) H1=some (fG,af)∧ad B (af.next) ((-9223372036854775808≤(i:Int)+1∧(i:Int)+1≤9223372036854775807)∧ai .normal [(0,.slice (some ⟨q,ver,off,0,5⟩) N ic),(1,sv),(6,.int .i64 rest),(7,.int .i64 weight),(15,.int .i64 a),(16,.int .i64 b),(20,fG),(21,.int .i64 l),(22,.int .i64 w),(138,.slice oo m oc),(139,.int .i64 (m:Int)),(140,.int .i64 ((i:Int)+1))] (I.mk (af.next+2) (I.aj af)))))))))) :
 ∃e ah U,aR Tryz.prog aq B 279 (aY Tryz.prog 95 4) [(0,.slice (some ⟨q,ver,off,0,5⟩) N ic),(1,sv),(6,.int .i64 rest),(7,.int .i64 weight),(15,.int .i64 a),(16,.int .i64 b),(20,dr),(21,.int .i64 l),(22,.int .i64 w),(138,.slice oo m oc),(139,.int .i64 m),(140,.int .i64 i)] H e ah U∧ai e ah U :=
 b0 bg mixed bq (hs:= .aa (.val 32000 (.bool true)) (.aa (.val 33000 (.ptr (some p))) (.aa (.val 33001 (.int .i64 (j:Int))) (.aa (.val 34003 (.ptr (some ⟨q,ver,off+j,0,5⟩))) (.aa (.val 34005 (.int .i64 n)) (an 34006 (.aa (.val 35002 (.bool true)) (.aa (.val 35008 (.ptr (some ⟨q,ver,off+j,0,5⟩))) (.aa (.val 35009 it) (.aa (.val 35010 (.int .i64 cq)) (an 35011 (.aa (.val 35012 (.bool false)) (.aa (.val 37002 (.bool false)) (.aa (.act 39002 (.slice (some ⟨u,0,0,0,1⟩) 1 1) fun x=>H1) (.aa (.act 39003 fG fun x=>af) (an 42000 .nil)))))))))))))))) (keep:=[0,1,6,7,15,16,20,21,22,138,139,140]) (by kernel_rfl) aG
theorem QV(H:I)(B N ic q ver off m oc i j:Nat)(oo:Option aO)(sv dr fG:J)(rest weight a b l w n aE mx cq:Int)(it:J)(p bu:aO)(ai:bx→a6→I→Prop)(aG:ad B (H.next) (some (J.bool (decide ((i:Int)<(m:Int))))=some (J.bool false)∧ai (.exit 8) [(0,.slice (some ⟨q,ver,off,0,5⟩) N ic),(1,sv),(6,.int .i64 rest),(7,.int .i64 weight),(15,.int .i64 a),(16,.int .i64 b),(20,dr),(21,.int .i64 l),(22,.int .i64 w),(138,.slice oo m oc),(139,.int .i64 (m:Int)),(140,.int .i64 (i:Int))] (I.mk (H.next+1) (I.aj H)))) :
 ∃e ah U,aR Tryz.prog aq B 279 (aY Tryz.prog 95 4) [(0,.slice (some ⟨q,ver,off,0,5⟩) N ic),(1,sv),(6,.int .i64 rest),(7,.int .i64 weight),(15,.int .i64 a),(16,.int .i64 b),(20,dr),(21,.int .i64 l),(22,.int .i64 w),(138,.slice oo m oc),(139,.int .i64 m),(140,.int .i64 i)] H e ah U∧ai e ah U :=
 b0 bg mixed bq (hs:= .aa (.val 32000 (.bool false)) .nil) (keep:=[0,1,6,7,15,16,20,21,22,138,139,140]) (by kernel_rfl) aG
end Go.Proofs.YtjpfnbihopoeeaaGreatDoor
namespace Go.Proofs.YtjpfnbihopoeeaaGreatDoor
open Go.ba
theorem QW(H H1 af:I)(B N ic q ver off m oc:Nat)(oo:Option aO)(sv dr:J)(rest weight a b l w:Int)(ai:bx→a6→I→Prop)(aG:ad B (H.next) (some (J.bool (decide ((m:Int)>0)))=some (J.bool true)∧ad B (H.next+3) (ad B (H.next+5) (aR Tryz.prog aq B 279 (Code.loop (aY Tryz.prog 95 3)) [(0,.slice (some ⟨q,ver,off,0,5⟩) N ic),(1,sv),(6,.int .i64 rest),(7,.int .i64 weight),(9,.slice oo m oc),(15,.int .i64 0),(16,.int .i64 0),(92,.slice oo m oc),(93,.int .i64 (m:Int)),(94,.int .i64 0)] (I.mk (H.next+5+3) (I.aj (I.mk (H.next+3+2) (I.aj (I.mk (H.next+3) (I.aj H)))))) (.exit 6) [(0,.slice (some ⟨q,ver,off,0,5⟩) N ic),(1,sv),(6,.int .i64 rest),(7,.int .i64 weight),(9,.slice oo m oc),(15,.int .i64 a),(16,.int .i64 b)] H1∧ad B (H1.next) (some (J.bool (a == 0))=some (J.bool false)∧ad B (H1.next+6) (ad B (H1.next+7) (ad B (H1.next+11) (aR Tryz.prog aq B 279 (Code.loop (aY Tryz.prog 95 4)) [(0,.slice (some ⟨q,ver,off,0,5⟩) N ic),(1,sv),(6,.int .i64 rest),(7,.int .i64 weight),(15,.int .i64 a),(16,.int .i64 b),(20,.slice none 0 0),(21,.int .i64 rest),(22,.int .i64 weight),(138,.slice oo m oc),(139,.int .i64 (m:Int)),(140,.int .i64 0)] (I.mk (H1.next+11+3) (I.aj (I.mk (H1.next+7+4) (I.aj (I.mk (H1.next+6+1) (I.aj (I.mk (H1.next+6) (I.aj H1)))))))) (.exit 8) [(0,.slice (some ⟨q,ver,off,0,5⟩) N ic),(1,sv),(20,dr),(21,.int .i64 l),(22,.int .i64 w)] af∧ad B (af.next) (ai .normal [(0,.slice (some ⟨q,ver,off,0,5⟩) N ic),(1,sv),(6,.int .i64 l),(7,.int .i64 w),(9,dr)] (I.mk (af.next+6) (I.aj af))))))))))) :
 ∃e ah U,aR Tryz.prog aq B 279 (aY Tryz.prog 95 2) [(0,.slice (some ⟨q,ver,off,0,5⟩) N ic),(1,sv),(6,.int .i64 rest),(7,.int .i64 weight),(9,.slice oo m oc)] H e ah U∧ai e ah U :=
 b0 bg mixed bq (hs:= .aa (.val 19002 (.bool true)) (.aa (.keep [0,1,6,7,9,15,16,92,93,94]) (.aa (.loop [(0,.slice (some ⟨q,ver,off,0,5⟩) N ic),(1,sv),(6,.int .i64 rest),(7,.int .i64 weight),(9,.slice oo m oc),(15,.int .i64 a),(16,.int .i64 b)] H1 (.exit 6)) (.aa (.val 28001 (.bool false)) (.aa (.keep [0,1,6,7,15,16,20,21,22,138,139,140]) (.aa (.loop [(0,.slice (some ⟨q,ver,off,0,5⟩) N ic),(1,sv),(20,dr),(21,.int .i64 l),(22,.int .i64 w)] af (.exit 8)) .nil)))))) (keep:=[0,1,6,7,9]) (by kernel_rfl) aG
theorem QX(H H1 af:I)(B N ic q ver off m oc:Nat)(oo:Option aO)(sv dr:J)(rest weight a b l w:Int)(ai:bx→a6→I→Prop)(aG:ad B (H.next) (some (J.bool (decide ((m:Int)>0)))=some (J.bool true)∧ad B (H.next+3) (ad B (H.next+5) (aR Tryz.prog aq B 279 (Code.loop (aY Tryz.prog 95 3)) [(0,.slice (some ⟨q,ver,off,0,5⟩) N ic),(1,sv),(6,.int .i64 rest),(7,.int .i64 weight),(9,.slice oo m oc),(15,.int .i64 0),(16,.int .i64 0),(92,.slice oo m oc),(93,.int .i64 (m:Int)),(94,.int .i64 0)] (I.mk (H.next+5+3) (I.aj (I.mk (H.next+3+2) (I.aj (I.mk (H.next+3) (I.aj H)))))) (.exit 6) [(0,.slice (some ⟨q,ver,off,0,5⟩) N ic),(1,sv),(6,.int .i64 rest),(7,.int .i64 weight),(9,.slice oo m oc),(15,.int .i64 a),(16,.int .i64 b)] H1∧ad B (H1.next) (some (J.bool (a == 0))=some (J.bool true)∧some (J.bool (b == 0))=some (J.bool false)∧ad B (H1.next+6) (ad B (H1.next+7) (ad B (H1.next+11) (aR Tryz.prog aq B 279 (Code.loop (aY Tryz.prog 95 4)) [(0,.slice (some ⟨q,ver,off,0,5⟩) N ic),(1,sv),(6,.int .i64 rest),(7,.int .i64 weight),(15,.int .i64 a),(16,.int .i64 b),(20,.slice none 0 0),(21,.int .i64 rest),(22,.int .i64 weight),(138,.slice oo m oc),(139,.int .i64 (m:Int)),(140,.int .i64 0)] (I.mk (H1.next+11+3) (I.aj (I.mk (H1.next+7+4) (I.aj (I.mk (H1.next+6+1) (I.aj (I.mk (H1.next+6) (I.aj H1)))))))) (.exit 8) [(0,.slice (some ⟨q,ver,off,0,5⟩) N ic),(1,sv),(20,dr),(21,.int .i64 l),(22,.int .i64 w)] af∧ad B (af.next) (ai .normal [(0,.slice (some ⟨q,ver,off,0,5⟩) N ic),(1,sv),(6,.int .i64 l),(7,.int .i64 w),(9,dr)] (I.mk (af.next+6) (I.aj af))))))))))) :
 ∃e ah U,aR Tryz.prog aq B 279 (aY Tryz.prog 95 2) [(0,.slice (some ⟨q,ver,off,0,5⟩) N ic),(1,sv),(6,.int .i64 rest),(7,.int .i64 weight),(9,.slice oo m oc)] H e ah U∧ai e ah U :=
 b0 bg mixed bq (hs:= .aa (.val 19002 (.bool true)) (.aa (.keep [0,1,6,7,9,15,16,92,93,94]) (.aa (.loop [(0,.slice (some ⟨q,ver,off,0,5⟩) N ic),(1,sv),(6,.int .i64 rest),(7,.int .i64 weight),(9,.slice oo m oc),(15,.int .i64 a),(16,.int .i64 b)] H1 (.exit 6)) (.aa (.val 28001 (.bool true)) (.aa (.val 28004 (.bool false)) (.aa (.keep [0,1,6,7,15,16,20,21,22,138,139,140]) (.aa (.loop [(0,.slice (some ⟨q,ver,off,0,5⟩) N ic),(1,sv),(20,dr),(21,.int .i64 l),(22,.int .i64 w)] af (.exit 8)) .nil))))))) (keep:=[0,1,6,7,9]) (by kernel_rfl) aG
theorem QY(H H1 af:I)(B N ic q ver off m oc:Nat)(oo:Option aO)(sv dr:J)(rest weight a b l w:Int)(ai:bx→a6→I→Prop)(aG:ad B (H.next) (some (J.bool (decide ((m:Int)>0)))=some (J.bool true)∧ad B (H.next+3) (ad B (H.next+5) (aR Tryz.prog aq B 279 (Code.loop (aY Tryz.prog 95 3)) [(0,.slice (some ⟨q,ver,off,0,5⟩) N ic),(1,sv),(6,.int .i64 rest),(7,.int .i64 weight),(9,.slice oo m oc),(15,.int .i64 0),(16,.int .i64 0),(92,.slice oo m oc),(93,.int .i64 (m:Int)),(94,.int .i64 0)] (I.mk (H.next+5+3) (I.aj (I.mk (H.next+3+2) (I.aj (I.mk (H.next+3) (I.aj H)))))) (.exit 6) [(0,.slice (some ⟨q,ver,off,0,5⟩) N ic),(1,sv),(6,.int .i64 rest),(7,.int .i64 weight),(9,.slice oo m oc),(15,.int .i64 a),(16,.int .i64 b)] H1∧ad B (H1.next) (some (J.bool (a == 0))=some (J.bool true)∧some (J.bool (b == 0))=some (J.bool true)∧ai (.exit 4) [(0,.slice (some ⟨q,ver,off,0,5⟩) N ic),(1,sv),(6,.int .i64 rest),(7,.int .i64 weight),(9,.slice oo m oc)] (I.mk (H1.next+6) (I.aj H1))))))) :
 ∃e ah U,aR Tryz.prog aq B 279 (aY Tryz.prog 95 2) [(0,.slice (some ⟨q,ver,off,0,5⟩) N ic),(1,sv),(6,.int .i64 rest),(7,.int .i64 weight),(9,.slice oo m oc)] H e ah U∧ai e ah U :=
 b0 bg mixed bq (hs:= .aa (.val 19002 (.bool true)) (.aa (.keep [0,1,6,7,9,15,16,92,93,94]) (.aa (.loop [(0,.slice (some ⟨q,ver,off,0,5⟩) N ic),(1,sv),(6,.int .i64 rest),(7,.int .i64 weight),(9,.slice oo m oc),(15,.int .i64 a),(16,.int .i64 b)] H1 (.exit 6)) (.aa (.val 28001 (.bool true)) (.aa (.val 28004 (.bool true)) .nil))))) (keep:=[0,1,6,7,9]) (by kernel_rfl) aG
theorem QZ(H H1 af:I)(B N ic q ver off m oc:Nat)(oo:Option aO)(sv dr:J)(rest weight a b l w:Int)(ai:bx→a6→I→Prop)(aG:ad B (H.next) (some (J.bool (decide ((m:Int)>0)))=some (J.bool false)∧ai (.exit 4) [(0,.slice (some ⟨q,ver,off,0,5⟩) N ic),(1,sv),(6,.int .i64 rest),(7,.int .i64 weight),(9,.slice oo m oc)] (I.mk (H.next+3) (I.aj H)))) :
 ∃e ah U,aR Tryz.prog aq B 279 (aY Tryz.prog 95 2) [(0,.slice (some ⟨q,ver,off,0,5⟩) N ic),(1,sv),(6,.int .i64 rest),(7,.int .i64 weight),(9,.slice oo m oc)] H e ah U∧ai e ah U :=
 b0 bg mixed bq (hs:= .aa (.val 19002 (.bool false)) .nil) (keep:=[0,1,6,7,9]) (by kernel_rfl) aG
theorem Q0(H H1 af:I)(B N ic q ver off m oc i j:Nat)(oo:Option aO)(sv av bv:J)(rest weight n x y:Int)(p bu bS:aO)(ai:bx→a6→I→Prop)(aG:ad B (I.next H) (some (J.bool (decide ((↑i:Int)<(↑m:Int))))=some (J.bool true)∧ad B (I.next H+1) (bb (bh.D env) 28 (J.slice oo m oc) (J.int IntKind.i64 (↑i:Int))=some (J.ptr (some p))∧aQ (bh.D env) 3 p (I.mk (I.next H+6) (H.2))=some (J.int IntKind.i64 (↑j:Int))∧ad B (I.next H+6) (bb (bh.D env) 27 (J.slice (some ⟨q,ver,off,0,5⟩) N ic) (J.int IntKind.i64 (↑j:Int))=some (J.ptr (some ⟨q,ver,off+j,0,5⟩))∧aQ (bh.D env) 3 ⟨q,ver,off+j,1,5⟩ (I.mk (I.next H+19) (H.2))=some (J.int IntKind.i64 n)∧(-9223372036854775808≤rest*n∧rest*n≤9223372036854775807)∧Decidable.rec (fun h=>(fun x=>some (J.int IntKind.i64 (IntKind.wrap IntKind.i64 (Int.tdiv (rest*n) weight)))) h) (fun h=>(fun x=>none) h) (Int.instDecidableEq weight 0)=some (J.int IntKind.i64 x)∧bb (bh.D env) 28 av (J.int IntKind.i64 (↑i:Int))=some (J.ptr (some bu))∧aV env bz (I.next H+18) (a1 [(240,J.ptr (some bu)),(239,J.int IntKind.i64 x)]) (I.mk (I.next H+19) (H.2)) (Op.store 3 (Operand.tmp 240) (Operand.tmp 239))=some (J.tuple [],H1)∧ad B (I.next H1) (bb (bh.D env) 27 (J.slice (some ⟨q,ver,off,0,5⟩) N ic) (J.int IntKind.i64 (↑j:Int))=some (J.ptr (some ⟨q,ver,off+j,0,5⟩))∧aQ (bh.D env) 3 ⟨q,ver,off+j,1,5⟩ (I.mk (I.next H1+13) (H1.2))=some (J.int IntKind.i64 n)∧(-9223372036854775808≤rest*n∧rest*n≤9223372036854775807)∧Decidable.rec (fun h=>(fun x=>some (J.int IntKind.i64 (Int.tmod (rest*n) weight))) h) (fun h=>(fun x=>none) h) (Int.instDecidableEq weight 0)=some (J.int IntKind.i64 y)∧bb (bh.D env) 28 bv (J.int IntKind.i64 (↑i:Int))=some (J.ptr (some bS))∧aV env bz (I.next H1+12) (a1 [(252,J.ptr (some bS)),(251,J.int IntKind.i64 y)]) (I.mk (I.next H1+13) (H1.2)) (Op.store 3 (Operand.tmp 252) (Operand.tmp 251))=some (J.tuple [],af)∧ad B (I.next af) ((-9223372036854775808≤(↑i:Int)+1∧(↑i:Int)+1≤9223372036854775807)∧ai bx.normal [(0,J.slice (some ⟨q,ver,off,0,5⟩) N ic),(1,sv),(6,J.int IntKind.i64 rest),(7,J.int IntKind.i64 weight),(9,J.slice oo m oc),(26,av),(27,bv),(222,J.slice oo m oc),(223,J.int IntKind.i64 (↑m:Int)),(224,J.int IntKind.i64 ((↑i:Int)+1))] (I.mk (I.next af+2) (I.aj af)))))))) :
 ∃e ah U,aR Tryz.prog aq B 279 (aY Tryz.prog 95 5) [(0,.slice (some ⟨q,ver,off,0,5⟩) N ic),(1,sv),(6,.int .i64 rest),(7,.int .i64 weight),(9,.slice oo m oc),(26,av),(27,bv),(222,.slice oo m oc),(223,.int .i64 m),(224,.int .i64 i)] H e ah U∧ai e ah U :=
 b0 bg mixed bq (hs:= .aa (.val 46000 (J.bool true)) (.aa (.val 47001 (J.ptr (some p))) (.aa (.val 47002 (J.int IntKind.i64 (↑j:Int))) (.aa (.val 48005 (J.ptr (some ⟨q,ver,off+j,0,5⟩))) (.aa (.val 48007 (J.int IntKind.i64 n)) (.aa (.go 48008) (.aa (.val 48010 (J.int IntKind.i64 x)) (.aa (.val 48011 (J.ptr (some bu))) (.aa (.act 48012 (J.tuple []) fun x=>H1) (.aa (.val 49005 (J.ptr (some ⟨q,ver,off+j,0,5⟩))) (.aa (.val 49007 (J.int IntKind.i64 n)) (.aa (.go 49008) (.aa (.val 49010 (J.int IntKind.i64 y)) (.aa (.val 49011 (J.ptr (some bS))) (.aa (.act 49012 (J.tuple []) fun x=>af) (.aa (.go 50000) .nil)))))))))))))))) (keep:=[0,1,6,7,9,26,27,222,223,224]) (by kernel_rfl) aG
theorem HU(H H1 af:I)(B N ic q ver off m oc i j:Nat)(oo:Option aO)(sv av bv:J)(rest weight n x y:Int)(p bu bS:aO)(ai:bx→a6→I→Prop)(aG:ad B (H.next) (some (J.bool (decide ((i:Int)<(m:Int))))=some (J.bool false)∧ai (.exit 10) [(0,.slice (some ⟨q,ver,off,0,5⟩) N ic),(1,sv),(6,.int .i64 rest),(7,.int .i64 weight),(9,.slice oo m oc),(26,av),(27,bv),(222,.slice oo m oc),(223,.int .i64 (m:Int)),(224,.int .i64 (i:Int))] (I.mk (H.next+1) (I.aj H)))) :
 ∃e ah U,aR Tryz.prog aq B 279 (aY Tryz.prog 95 5) [(0,.slice (some ⟨q,ver,off,0,5⟩) N ic),(1,sv),(6,.int .i64 rest),(7,.int .i64 weight),(9,.slice oo m oc),(26,av),(27,bv),(222,.slice oo m oc),(223,.int .i64 m),(224,.int .i64 i)] H e ah U∧ai e ah U :=
 b0 bg mixed bq (hs:= .aa (.val 46000 (.bool false)) .nil) (keep:=[0,1,6,7,9,26,27,222,223,224]) (by kernel_rfl) aG
theorem Q1(H H1:I)(B m oc i j:Nat)(oo:Option aO)(sv av:J)(x:Int)(p bu bS:aO)(ai:bx→a6→I→Prop)(aG:ad B (H.next) (some (J.bool (decide ((i:Int)<(m:Int))))=some (J.bool true)∧ad B (H.next+1) (bb env.D 28 (.slice oo m oc) (.int .i64 (i:Int))=some (J.ptr (some p))∧aQ env.D 3 p (I.mk (H.next+6) (H.2))=some (.int .i64 (j:Int))∧ad B (H.next+6) (bb env.D 28 av (.int .i64 (i:Int))=some (J.ptr (some bu))∧aQ env.D 3 bu (I.mk (H.next+14) (H.2))=some (.int .i64 x)∧bb env.D 28 sv (.int .i64 (j:Int))=some (J.ptr (some bS))∧aV env bz (H.next+13) (a1 [(277,.ptr (some bS)),(276,.int .i64 x)]) (I.mk (H.next+14) (H.2)) (Op.store 3 (Operand.tmp 277) (Operand.tmp 276))=some (J.tuple [],H1)∧ad B (H1.next) ((-9223372036854775808≤(i:Int)+1∧(i:Int)+1≤9223372036854775807)∧ai .normal [(1,sv),(26,av),(264,.slice oo m oc),(265,.int .i64 (m:Int)),(266,.int .i64 ((i:Int)+1))] (I.mk (H1.next+2) (I.aj H1))))))) :
 ∃e ah U,aR Tryz.prog aq B 279 (aY Tryz.prog 95 6) [(1,sv),(26,av),(264,.slice oo m oc),(265,.int .i64 m),(266,.int .i64 i)] H e ah U∧ai e ah U :=
 b0 bg mixed bq (hs:= .aa (.val 54000 (.bool true)) (.aa (.val 55001 (.ptr (some p))) (.aa (.val 55002 (.int .i64 (j:Int))) (.aa (.val 56004 (.ptr (some bu))) (.aa (.val 56005 (.int .i64 x)) (.aa (.val 56006 (.ptr (some bS))) (.aa (.act 56007 (.tuple []) fun x=>H1) (an 57000 .nil)))))))) (keep:=[1,26,264,265,266]) (by kernel_rfl) aG
theorem HV(H H1:I)(B m oc i j:Nat)(oo:Option aO)(sv av:J)(x:Int)(p bu bS:aO)(ai:bx→a6→I→Prop)(aG:ad B (H.next) (some (J.bool (decide ((i:Int)<(m:Int))))=some (J.bool false)∧ai (.exit 12) [(1,sv),(26,av),(264,.slice oo m oc),(265,.int .i64 (m:Int)),(266,.int .i64 (i:Int))] (I.mk (H.next+1) (I.aj H)))) :
 ∃e ah U,aR Tryz.prog aq B 279 (aY Tryz.prog 95 6) [(1,sv),(26,av),(264,.slice oo m oc),(265,.int .i64 m),(266,.int .i64 i)] H e ah U∧ai e ah U :=
 b0 bg mixed bq (hs:= .aa (.val 54000 (.bool false)) .nil) (keep:=[1,26,264,265,266]) (by kernel_rfl) aG
theorem Q2(H H1 af ax au aU bc b3 db:I)(N ic q ver off m oc m0 wc a c:Nat)(oo wo:Option aO)(sv:J)(room rest weight dH c9 cJ s:Int)(ai:J→I→Prop)(aG:ad (H.next) (H.next) (ad (H.next) (H.next+4) (ad (H.next) (H.next+5) (ad (H.next) (H.next+6) (aR Tryz.prog aq (H.next) 279 (Code.loop (aY Tryz.prog 95 0)) [(0,.slice (some ⟨q,ver,off,0,5⟩) N ic),(1,sv),(6,.int .i64 room),(7,.int .i64 0),(8,.int .i64 0),(9,.slice none 0 0),(10,.bool true),(33,.slice (some ⟨q,ver,off,0,5⟩) N ic),(34,.int .i64 (N:Int)),(35,.int .i64 0)] (I.mk (H.next+6+3) (I.aj (I.mk (H.next+5+1) (I.aj (I.mk (H.next+4+1) (I.aj (I.mk (H.next+4) (I.aj H)))))))) (.exit 0) [(0,.slice (some ⟨q,ver,off,0,5⟩) N ic),(1,sv),(6,.int .i64 rest),(7,.int .i64 weight),(8,.int .i64 dH),(9,.slice wo m0 wc),(10,.bool true)] H1∧ad (H.next) (H1.next) (some (J.bool (decide (dH≤rest)))=some (J.bool true)∧ad (H.next) (H1.next+6) (aR Tryz.prog aq (H.next) 279 (Code.loop (aY Tryz.prog 95 1)) [(0,.slice (some ⟨q,ver,off,0,5⟩) N ic),(1,sv),(74,.slice wo m0 wc),(75,.int .i64 (m0:Int)),(76,.int .i64 0)] (I.mk (H1.next+6+3) (I.aj (I.mk (H1.next+6) (I.aj H1)))) (.exit 2) [] af∧cW (H.next) (af.next) (ai (.tuple []) af)))))))) :
 ∃v U,aZ Tryz.prog aq 95 [.slice (some ⟨q,ver,off,0,5⟩) N ic,sv,.int .i64 room] H v U∧ai v U :=
 cE bg mixed bq (hs:= .aa (.keep [0,1,6,7,8,9,10,33,34,35]) (.aa (.loop [(0,.slice (some ⟨q,ver,off,0,5⟩) N ic),(1,sv),(6,.int .i64 rest),(7,.int .i64 weight),(8,.int .i64 dH),(9,.slice wo m0 wc),(10,.bool true)] H1 (.exit 0)) (.aa (.val 13004 (.bool true)) (.aa (.keep [0,1,74,75,76]) (.aa (.loop [] af (.exit 2)) .nil))))) (by kernel_rfl) aG
abbrev fW(m:Nat)(a:Nat):J:=J.slice (some ⟨a,0,0,0,1⟩) m m
abbrev hx(m:Nat)(c:Nat):J:=J.slice (some ⟨c,0,0,0,1⟩) m m
theorem Q3(H H1 af ax au aU bc b3 db:I)(N ic q ver off m oc m0 wc a c:Nat)(oo wo:Option aO)(sv:J)(room rest weight dH c9 cJ s:Int)(ai:J→I→Prop)(aG:ad (H.next) (H.next) (ad (H.next) (H.next+4) (ad (H.next) (H.next+5) (ad (H.next) (H.next+6) (aR Tryz.prog aq (H.next) 279 (Code.loop (aY Tryz.prog 95 0)) [(0,.slice (some ⟨q,ver,off,0,5⟩) N ic),(1,sv),(6,.int .i64 room),(7,.int .i64 0),(8,.int .i64 0),(9,.slice none 0 0),(10,.bool true),(33,.slice (some ⟨q,ver,off,0,5⟩) N ic),(34,.int .i64 (N:Int)),(35,.int .i64 0)] (I.mk (H.next+6+3) (I.aj (I.mk (H.next+5+1) (I.aj (I.mk (H.next+4+1) (I.aj (I.mk (H.next+4) (I.aj H)))))))) (.exit 0) [(0,.slice (some ⟨q,ver,off,0,5⟩) N ic),(1,sv),(6,.int .i64 rest),(7,.int .i64 weight),(8,.int .i64 dH),(9,.slice wo m0 wc),(10,.bool true)] H1∧ad (H.next) (H1.next) (some (J.bool (decide (dH≤rest)))=some (J.bool false)∧aR Tryz.prog aq (H.next) 279 (Code.loop (aY Tryz.prog 95 2)) [(0,.slice (some ⟨q,ver,off,0,5⟩) N ic),(1,sv),(6,.int .i64 rest),(7,.int .i64 weight),(9,.slice wo m0 wc)] (I.mk (H1.next+6) (I.aj H1)) (.exit 4) [(0,.slice (some ⟨q,ver,off,0,5⟩) N ic),(1,sv),(6,.int .i64 c9),(7,.int .i64 cJ),(9,.slice oo m oc)] af∧ad (H.next) (af.next) (aV env bz (af.next+2) (a1 [(217,.int .i64 (m:Int))]) (I.mk (af.next+8) (af.2)) (Op.makeSlice 28 (Operand.tmp 217) (Operand.tmp 217))=some ((fW m a),ax)∧aV env bz (af.next+5) (a1 [(220,.int .i64 (m:Int))]) ax (Op.makeSlice 28 (Operand.tmp 220) (Operand.tmp 220))=some ((hx m c),au)∧ad (H.next) (au.next) (aR Tryz.prog aq (H.next) 279 (Code.loop (aY Tryz.prog 95 5)) [(0,.slice (some ⟨q,ver,off,0,5⟩) N ic),(1,sv),(6,.int .i64 c9),(7,.int .i64 cJ),(9,.slice oo m oc),(26,(fW m a)),(27,(hx m c)),(222,.slice oo m oc),(223,.int .i64 (m:Int)),(224,.int .i64 0)] (I.mk (au.next+3) (I.aj au)) (.exit 10) [(1,sv),(6,.int .i64 c9),(9,.slice oo m oc),(26,(fW m a)),(27,(hx m c))] aU∧ad (H.next) (aU.next) (some (J.bool (decide ((m:Int)>0)))=some (J.bool true)∧ad (H.next) (aU.next+3) (bY Tryz.prog aq 93 [(fW m a)] (I.mk (aU.next+10) (aU.2)) (.int .i64 s) bc∧(-9223372036854775808≤c9-s∧c9-s≤9223372036854775807)∧bY Tryz.prog aq 144 [(fW m a),(hx m c),.int .i64 (c9-s)] bc (.tuple []) b3∧ad (H.next) (b3.next) (aR Tryz.prog aq (H.next) 279 (Code.loop (aY Tryz.prog 95 6)) [(1,sv),(26,(fW m a)),(264,.slice oo m oc),(265,.int .i64 (m:Int)),(266,.int .i64 0)] (I.mk (b3.next+3) (I.aj b3)) (.exit 12) [] db∧cW (H.next) (db.next) (ai (.tuple []) db)))))))))))) :
 ∃v U,aZ Tryz.prog aq 95 [.slice (some ⟨q,ver,off,0,5⟩) N ic,sv,.int .i64 room] H v U∧ai v U :=
 cE bg mixed bq (hs:= .aa (.keep [0,1,6,7,8,9,10,33,34,35]) (.aa (.loop [(0,.slice (some ⟨q,ver,off,0,5⟩) N ic),(1,sv),(6,.int .i64 rest),(7,.int .i64 weight),(8,.int .i64 dH),(9,.slice wo m0 wc),(10,.bool true)] H1 (.exit 0)) (.aa (.val 13004 (.bool false)) (.aa (.keep [0,1,6,7,9]) (.aa (.loop [(0,.slice (some ⟨q,ver,off,0,5⟩) N ic),(1,sv),(6,.int .i64 c9),(7,.int .i64 cJ),(9,.slice oo m oc)] af (.exit 4)) (.aa (.act 44002 ((fW m a)) fun x=>ax) (.aa (.act 44005 ((hx m c)) fun x=>au) (.aa (.keep [0,1,6,7,9,26,27,222,223,224]) (.aa (.loop [(1,sv),(6,.int .i64 c9),(9,.slice oo m oc),(26,(fW m a)),(27,(hx m c))] aU (.exit 10)) (.aa (.val 51002 (.bool true)) (.aa (.act 52004 (.int .i64 s) fun x=>bc) (an 52005 (.aa (.act 52006 (.tuple []) fun x=>b3) (.aa (.keep [1,26,264,265,266]) (.aa (.loop [] db (.exit 12)) .nil))))))))))))))) (by kernel_rfl) aG
theorem Q4(H H1 af ax au aU bc b3 db:I)(N ic q ver off m oc m0 wc a c:Nat)(oo wo:Option aO)(sv:J)(room rest weight dH c9 cJ s:Int)(ai:J→I→Prop)(aG:ad (H.next) (H.next) (ad (H.next) (H.next+4) (ad (H.next) (H.next+5) (ad (H.next) (H.next+6) (aR Tryz.prog aq (H.next) 279 (Code.loop (aY Tryz.prog 95 0)) [(0,.slice (some ⟨q,ver,off,0,5⟩) N ic),(1,sv),(6,.int .i64 room),(7,.int .i64 0),(8,.int .i64 0),(9,.slice none 0 0),(10,.bool true),(33,.slice (some ⟨q,ver,off,0,5⟩) N ic),(34,.int .i64 (N:Int)),(35,.int .i64 0)] (I.mk (H.next+6+3) (I.aj (I.mk (H.next+5+1) (I.aj (I.mk (H.next+4+1) (I.aj (I.mk (H.next+4) (I.aj H)))))))) (.exit 0) [(0,.slice (some ⟨q,ver,off,0,5⟩) N ic),(1,sv),(6,.int .i64 rest),(7,.int .i64 weight),(8,.int .i64 dH),(9,.slice wo m0 wc),(10,.bool true)] H1∧ad (H.next) (H1.next) (some (J.bool (decide (dH≤rest)))=some (J.bool false)∧aR Tryz.prog aq (H.next) 279 (Code.loop (aY Tryz.prog 95 2)) [(0,.slice (some ⟨q,ver,off,0,5⟩) N ic),(1,sv),(6,.int .i64 rest),(7,.int .i64 weight),(9,.slice wo m0 wc)] (I.mk (H1.next+6) (I.aj H1)) (.exit 4) [(0,.slice (some ⟨q,ver,off,0,5⟩) N ic),(1,sv),(6,.int .i64 c9),(7,.int .i64 cJ),(9,.slice oo m oc)] af∧ad (H.next) (af.next) (aV env bz (af.next+2) (a1 [(217,.int .i64 (m:Int))]) (I.mk (af.next+8) (af.2)) (Op.makeSlice 28 (Operand.tmp 217) (Operand.tmp 217))=some ((fW m a),ax)∧aV env bz (af.next+5) (a1 [(220,.int .i64 (m:Int))]) ax (Op.makeSlice 28 (Operand.tmp 220) (Operand.tmp 220))=some ((hx m c),au)∧ad (H.next) (au.next) (aR Tryz.prog aq (H.next) 279 (Code.loop (aY Tryz.prog 95 5)) [(0,.slice (some ⟨q,ver,off,0,5⟩) N ic),(1,sv),(6,.int .i64 c9),(7,.int .i64 cJ),(9,.slice oo m oc),(26,(fW m a)),(27,(hx m c)),(222,.slice oo m oc),(223,.int .i64 (m:Int)),(224,.int .i64 0)] (I.mk (au.next+3) (I.aj au)) (.exit 10) [(1,sv),(6,.int .i64 c9),(9,.slice oo m oc),(26,(fW m a)),(27,(hx m c))] aU∧ad (H.next) (aU.next) (some (J.bool (decide ((m:Int)>0)))=some (J.bool false)∧ad (H.next) (aU.next+3) (aR Tryz.prog aq (H.next) 279 (Code.loop (aY Tryz.prog 95 6)) [(1,sv),(26,(fW m a)),(264,.slice oo m oc),(265,.int .i64 (m:Int)),(266,.int .i64 0)] (I.mk (aU.next+3+3) (I.aj (I.mk (aU.next+3) (I.aj aU)))) (.exit 12) [] db∧cW (H.next) (db.next) (ai (.tuple []) db))))))))))) :
 ∃v U,aZ Tryz.prog aq 95 [.slice (some ⟨q,ver,off,0,5⟩) N ic,sv,.int .i64 room] H v U∧ai v U :=
 cE bg mixed bq (hs:= .aa (.keep [0,1,6,7,8,9,10,33,34,35]) (.aa (.loop [(0,.slice (some ⟨q,ver,off,0,5⟩) N ic),(1,sv),(6,.int .i64 rest),(7,.int .i64 weight),(8,.int .i64 dH),(9,.slice wo m0 wc),(10,.bool true)] H1 (.exit 0)) (.aa (.val 13004 (.bool false)) (.aa (.keep [0,1,6,7,9]) (.aa (.loop [(0,.slice (some ⟨q,ver,off,0,5⟩) N ic),(1,sv),(6,.int .i64 c9),(7,.int .i64 cJ),(9,.slice oo m oc)] af (.exit 4)) (.aa (.act 44002 ((fW m a)) fun x=>ax) (.aa (.act 44005 ((hx m c)) fun x=>au) (.aa (.keep [0,1,6,7,9,26,27,222,223,224]) (.aa (.loop [(1,sv),(6,.int .i64 c9),(9,.slice oo m oc),(26,(fW m a)),(27,(hx m c))] aU (.exit 10)) (.aa (.val 51002 (.bool false)) (.aa (.keep [1,26,264,265,266]) (.aa (.loop [] db (.exit 12)) .nil)))))))))))) (by kernel_rfl) aG
theorem Q5(H H1 af ax au aU bc b3 db:I)(N ic q ver off m oc m0 wc a c:Nat)(oo wo:Option aO)(sv:J)(room rest weight dH c9 cJ s:Int)(ai:J→I→Prop)(aG:ad (H.next) (H.next) (ad (H.next) (H.next+4) (ad (H.next) (H.next+5) (ad (H.next) (H.next+6) (aR Tryz.prog aq (H.next) 279 (Code.loop (aY Tryz.prog 95 0)) [(0,.slice (some ⟨q,ver,off,0,5⟩) N ic),(1,sv),(6,.int .i64 room),(7,.int .i64 0),(8,.int .i64 0),(9,.slice none 0 0),(10,.bool true),(33,.slice (some ⟨q,ver,off,0,5⟩) N ic),(34,.int .i64 (N:Int)),(35,.int .i64 0)] (I.mk (H.next+6+3) (I.aj (I.mk (H.next+5+1) (I.aj (I.mk (H.next+4+1) (I.aj (I.mk (H.next+4) (I.aj H)))))))) (.exit 0) [(0,.slice (some ⟨q,ver,off,0,5⟩) N ic),(1,sv),(6,.int .i64 rest),(7,.int .i64 weight),(8,.int .i64 dH),(9,.slice wo m0 wc),(10,.bool false)] H1∧ad (H.next) (H1.next) (aR Tryz.prog aq (H.next) 279 (Code.loop (aY Tryz.prog 95 2)) [(0,.slice (some ⟨q,ver,off,0,5⟩) N ic),(1,sv),(6,.int .i64 rest),(7,.int .i64 weight),(9,.slice wo m0 wc)] (I.mk (H1.next+6) (I.aj H1)) (.exit 4) [(0,.slice (some ⟨q,ver,off,0,5⟩) N ic),(1,sv),(6,.int .i64 c9),(7,.int .i64 cJ),(9,.slice oo m oc)] af∧ad (H.next) (af.next) (aV env bz (af.next+2) (a1 [(217,.int .i64 (m:Int))]) (I.mk (af.next+8) (af.2)) (Op.makeSlice 28 (Operand.tmp 217) (Operand.tmp 217))=some ((fW m a),ax)∧aV env bz (af.next+5) (a1 [(220,.int .i64 (m:Int))]) ax (Op.makeSlice 28 (Operand.tmp 220) (Operand.tmp 220))=some ((hx m c),au)∧ad (H.next) (au.next) (aR Tryz.prog aq (H.next) 279 (Code.loop (aY Tryz.prog 95 5)) [(0,.slice (some ⟨q,ver,off,0,5⟩) N ic),(1,sv),(6,.int .i64 c9),(7,.int .i64 cJ),(9,.slice oo m oc),(26,(fW m a)),(27,(hx m c)),(222,.slice oo m oc),(223,.int .i64 (m:Int)),(224,.int .i64 0)] (I.mk (au.next+3) (I.aj au)) (.exit 10) [(1,sv),(6,.int .i64 c9),(9,.slice oo m oc),(26,(fW m a)),(27,(hx m c))] aU∧ad (H.next) (aU.next) (some (J.bool (decide ((m:Int)>0)))=some (J.bool true)∧ad (H.next) (aU.next+3) (bY Tryz.prog aq 93 [(fW m a)] (I.mk (aU.next+10) (aU.2)) (.int .i64 s) bc∧(-9223372036854775808≤c9-s∧c9-s≤9223372036854775807)∧bY Tryz.prog aq 144 [(fW m a),(hx m c),.int .i64 (c9-s)] bc (.tuple []) b3∧ad (H.next) (b3.next) (aR Tryz.prog aq (H.next) 279 (Code.loop (aY Tryz.prog 95 6)) [(1,sv),(26,(fW m a)),(264,.slice oo m oc),(265,.int .i64 (m:Int)),(266,.int .i64 0)] (I.mk (b3.next+3) (I.aj b3)) (.exit 12) [] db∧cW (H.next) (db.next) (ai (.tuple []) db)))))))))))) :
 ∃v U,aZ Tryz.prog aq 95 [.slice (some ⟨q,ver,off,0,5⟩) N ic,sv,.int .i64 room] H v U∧ai v U :=
 cE bg mixed bq (hs:= .aa (.keep [0,1,6,7,8,9,10,33,34,35]) (.aa (.loop [(0,.slice (some ⟨q,ver,off,0,5⟩) N ic),(1,sv),(6,.int .i64 rest),(7,.int .i64 weight),(8,.int .i64 dH),(9,.slice wo m0 wc),(10,.bool false)] H1 (.exit 0)) (.aa (.keep [0,1,6,7,9]) (.aa (.loop [(0,.slice (some ⟨q,ver,off,0,5⟩) N ic),(1,sv),(6,.int .i64 c9),(7,.int .i64 cJ),(9,.slice oo m oc)] af (.exit 4)) (.aa (.act 44002 ((fW m a)) fun x=>ax) (.aa (.act 44005 ((hx m c)) fun x=>au) (.aa (.keep [0,1,6,7,9,26,27,222,223,224]) (.aa (.loop [(1,sv),(6,.int .i64 c9),(9,.slice oo m oc),(26,(fW m a)),(27,(hx m c))] aU (.exit 10)) (.aa (.val 51002 (.bool true)) (.aa (.act 52004 (.int .i64 s) fun x=>bc) (an 52005 (.aa (.act 52006 (.tuple []) fun x=>b3) (.aa (.keep [1,26,264,265,266]) (.aa (.loop [] db (.exit 12)) .nil)))))))))))))) (by kernel_rfl) aG
theorem Q6(H H1 af ax au aU bc b3 db:I)(N ic q ver off m oc m0 wc a c:Nat)(oo wo:Option aO)(sv:J)(room rest weight dH c9 cJ s:Int)(ai:J→I→Prop)(aG:ad (H.next) (H.next) (ad (H.next) (H.next+4) (ad (H.next) (H.next+5) (ad (H.next) (H.next+6) (aR Tryz.prog aq (H.next) 279 (Code.loop (aY Tryz.prog 95 0)) [(0,.slice (some ⟨q,ver,off,0,5⟩) N ic),(1,sv),(6,.int .i64 room),(7,.int .i64 0),(8,.int .i64 0),(9,.slice none 0 0),(10,.bool true),(33,.slice (some ⟨q,ver,off,0,5⟩) N ic),(34,.int .i64 (N:Int)),(35,.int .i64 0)] (I.mk (H.next+6+3) (I.aj (I.mk (H.next+5+1) (I.aj (I.mk (H.next+4+1) (I.aj (I.mk (H.next+4) (I.aj H)))))))) (.exit 0) [(0,.slice (some ⟨q,ver,off,0,5⟩) N ic),(1,sv),(6,.int .i64 rest),(7,.int .i64 weight),(8,.int .i64 dH),(9,.slice wo m0 wc),(10,.bool false)] H1∧ad (H.next) (H1.next) (aR Tryz.prog aq (H.next) 279 (Code.loop (aY Tryz.prog 95 2)) [(0,.slice (some ⟨q,ver,off,0,5⟩) N ic),(1,sv),(6,.int .i64 rest),(7,.int .i64 weight),(9,.slice wo m0 wc)] (I.mk (H1.next+6) (I.aj H1)) (.exit 4) [(0,.slice (some ⟨q,ver,off,0,5⟩) N ic),(1,sv),(6,.int .i64 c9),(7,.int .i64 cJ),(9,.slice oo m oc)] af∧ad (H.next) (af.next) (aV env bz (af.next+2) (a1 [(217,.int .i64 (m:Int))]) (I.mk (af.next+8) (af.2)) (Op.makeSlice 28 (Operand.tmp 217) (Operand.tmp 217))=some ((fW m a),ax)∧aV env bz (af.next+5) (a1 [(220,.int .i64 (m:Int))]) ax (Op.makeSlice 28 (Operand.tmp 220) (Operand.tmp 220))=some ((hx m c),au)∧ad (H.next) (au.next) (aR Tryz.prog aq (H.next) 279 (Code.loop (aY Tryz.prog 95 5)) [(0,.slice (some ⟨q,ver,off,0,5⟩) N ic),(1,sv),(6,.int .i64 c9),(7,.int .i64 cJ),(9,.slice oo m oc),(26,(fW m a)),(27,(hx m c)),(222,.slice oo m oc),(223,.int .i64 (m:Int)),(224,.int .i64 0)] (I.mk (au.next+3) (I.aj au)) (.exit 10) [(1,sv),(6,.int .i64 c9),(9,.slice oo m oc),(26,(fW m a)),(27,(hx m c))] aU∧ad (H.next) (aU.next) (some (J.bool (decide ((m:Int)>0)))=some (J.bool false)∧ad (H.next) (aU.next+3) (aR Tryz.prog aq (H.next) 279 (Code.loop (aY Tryz.prog 95 6)) [(1,sv),(26,(fW m a)),(264,.slice oo m oc),(265,.int .i64 (m:Int)),(266,.int .i64 0)] (I.mk (aU.next+3+3) (I.aj (I.mk (aU.next+3) (I.aj aU)))) (.exit 12) [] db∧cW (H.next) (db.next) (ai (.tuple []) db))))))))))) :
 ∃v U,aZ Tryz.prog aq 95 [.slice (some ⟨q,ver,off,0,5⟩) N ic,sv,.int .i64 room] H v U∧ai v U :=
 cE bg mixed bq (hs:= .aa (.keep [0,1,6,7,8,9,10,33,34,35]) (.aa (.loop [(0,.slice (some ⟨q,ver,off,0,5⟩) N ic),(1,sv),(6,.int .i64 rest),(7,.int .i64 weight),(8,.int .i64 dH),(9,.slice wo m0 wc),(10,.bool false)] H1 (.exit 0)) (.aa (.keep [0,1,6,7,9]) (.aa (.loop [(0,.slice (some ⟨q,ver,off,0,5⟩) N ic),(1,sv),(6,.int .i64 c9),(7,.int .i64 cJ),(9,.slice oo m oc)] af (.exit 4)) (.aa (.act 44002 ((fW m a)) fun x=>ax) (.aa (.act 44005 ((hx m c)) fun x=>au) (.aa (.keep [0,1,6,7,9,26,27,222,223,224]) (.aa (.loop [(1,sv),(6,.int .i64 c9),(9,.slice oo m oc),(26,(fW m a)),(27,(hx m c))] aU (.exit 10)) (.aa (.val 51002 (.bool false)) (.aa (.keep [1,26,264,265,266]) (.aa (.loop [] db (.exit 12)) .nil))))))))))) (by kernel_rfl) aG
end Go.Proofs.YtjpfnbihopoeeaaGreatDoor
namespace Go.Proofs.YtjpfnbihopoeeaaGreatDoor
open Go.ba
theorem Q7(H:I)(N q i a b:Nat)(y r:Int)(ai:J→I→Prop)(aG:ad (H.next) (H.next) (ad (H.next) (H.next+1) (aQ env.D 204 ⟨a,0,0,0,1⟩ (I.mk (H.next+9) (H.2))=some (J.slice (some ⟨q,0,0,0,2⟩) N N)∧a<H.next+1∧bb env.D 204 (.slice (some ⟨q,0,0,0,2⟩) N N) (.int .i64 (i:Int))=some (J.ptr (some ⟨q,0,0+i,0,2⟩))∧aQ env.D 21 ⟨q,0,0+i,1,2⟩ (I.mk (H.next+9) (H.2))=some (.int .i32 y)∧q<H.next+1∧aQ env.D 21 ⟨b,0,0,0,1⟩ (I.mk (H.next+9) (H.2))=some (.int .i32 r)∧b<H.next+1∧(r≤y→cW (H.next) (H.next+9) (ai (.bool true) (u2 H)))∧(¬r≤y→cW (H.next) (H.next+9) (ai (.bool false) (u2 H)))))) :
 ∃v U,aZ Tryz.prog aq 216 [.int .i64 i,(.ptr (some ⟨a,0,0,0,1⟩)),(.ptr (some ⟨b,0,0,0,1⟩))] H v U∧ai v U :=
 cE bg mixed bq (hs:= .aa (.cI 1000 (.slice (some ⟨q,0,0,0,2⟩) N N)) (.aa (.val 1002 (.ptr (some ⟨q,0,0+i,0,2⟩))) (.aa (.cI 1004 (.int .i32 y)) (.aa (.cI 1005 (.int .i32 r)) (.bP 1006 .nil .nil))))) (by kernel_rfl) aG
theorem Q8(H H1:I)(B i j c:Nat)(g:FuncId)(cs:List J)(ai:bx→a6→I→Prop)(aG:ad B (H.next) (some (J.bool (decide ((i:Int)<(j:Int))))=some (J.bool true)∧ad B (H.next+3) ((-9223372036854775808≤(i:Int)+(j:Int)∧(i:Int)+(j:Int)≤9223372036854775807)∧(0≤(i:Int)+(j:Int)∧(i:Int)+(j:Int)≤18446744073709551615)∧Int.NonNeg (1-0)∧aV env bz (H.next+8) (a1 [(16,.int .u64 (bE IntKind.u64 ((i:Int)+(j:Int)) (1)))]) (I.mk (H.next+10) (H.2)) (Op.convert 108 3 (Operand.tmp 16))=some (.int .i64 (c:Int),(I.mk (H.next+10) (H.2)))∧ad B (H.next+10) (bY Tryz.prog aq g (.int .i64 (c:Int)::cs) (I.mk (H.next+14) (H.2)) (.bool true) H1∧ad B (H1.next) (ai .normal [(1,.func (.func g) [] cs),(5,.int .i64 (i:Int)),(6,.int .i64 (c:Int))] (I.mk (H1.next+2) (I.aj H1))))))) :
 ∃e ah U,aR Tryz.prog aq B 26 (aY Tryz.prog 215 0) [(1,.func (.func g) [] cs),(5,.int .i64 i),(6,.int .i64 j)] H e ah U∧ai e ah U :=
 b0 bg mixed bq (hs:= .aa (.val 2002 (.bool true)) (an 3002 (an 3003 (an 3004 (.aa (.val 3005 (.int .i64 (c:Int))) (.aa (.act 4002 (.bool true) fun x=>H1) .nil)))))) (keep:=[1,5,6]) (by kernel_rfl) aG
theorem Q9(H H1:I)(B i j c:Nat)(g:FuncId)(cs:List J)(ai:bx→a6→I→Prop)(aG:ad B (H.next) (some (J.bool (decide ((i:Int)<(j:Int))))=some (J.bool true)∧ad B (H.next+3) ((-9223372036854775808≤(i:Int)+(j:Int)∧(i:Int)+(j:Int)≤9223372036854775807)∧(0≤(i:Int)+(j:Int)∧(i:Int)+(j:Int)≤18446744073709551615)∧Int.NonNeg (1-0)∧aV env bz (H.next+8) (a1 [(16,.int .u64 (bE IntKind.u64 ((i:Int)+(j:Int)) (1)))]) (I.mk (H.next+10) (H.2)) (Op.convert 108 3 (Operand.tmp 16))=some (.int .i64 (c:Int),(I.mk (H.next+10) (H.2)))∧ad B (H.next+10) (bY Tryz.prog aq g (.int .i64 (c:Int)::cs) (I.mk (H.next+14) (H.2)) (.bool false) H1∧ad B (H1.next) ((-9223372036854775808≤(c:Int)+1∧(c:Int)+1≤9223372036854775807)∧ai .normal [(1,.func (.func g) [] cs),(5,.int .i64 ((c:Int)+1)),(6,.int .i64 (j:Int))] (I.mk (H1.next+3) (I.aj H1))))))) :
 ∃e ah U,aR Tryz.prog aq B 26 (aY Tryz.prog 215 0) [(1,.func (.func g) [] cs),(5,.int .i64 i),(6,.int .i64 j)] H e ah U∧ai e ah U :=
 b0 bg mixed bq (hs:= .aa (.val 2002 (.bool true)) (an 3002 (an 3003 (an 3004 (.aa (.val 3005 (.int .i64 (c:Int))) (.aa (.act 4002 (.bool false) fun x=>H1) (an 5001 .nil))))))) (keep:=[1,5,6]) (by kernel_rfl) aG
theorem Q'(H:I)(B i j:Nat)(bk:J)(ai:bx→a6→I→Prop)(aG:ad B (H.next) (some (J.bool (decide ((i:Int)<(j:Int))))=some (J.bool false)∧ai (.exit 0) [(1,bk),(5,.int .i64 (i:Int)),(6,.int .i64 (j:Int))] (I.mk (H.next+3) (I.aj H)))) :
 ∃e ah U,aR Tryz.prog aq B 26 (aY Tryz.prog 215 0) [(1,bk),(5,.int .i64 i),(6,.int .i64 j)] H e ah U∧ai e ah U :=
 b0 bg mixed bq (hs:= .aa (.val 2002 (.bool false)) .nil) (keep:=[1,5,6]) (by kernel_rfl) aG
theorem Ra(H H1:I)(N x:Nat)(bk:J)(ai:J→I→Prop)(aG:ad (H.next) (H.next) (ad (H.next) (H.next+1) (aR Tryz.prog aq (H.next) 26 (Code.loop (aY Tryz.prog 215 0)) [(1,bk),(5,.int .i64 0),(6,.int .i64 (N:Int))] (I.mk (H.next+1+3) (I.aj (I.mk (H.next+1) (I.aj H)))) (.exit 0) [(5,.int .i64 (x:Int))] H1∧ad (H.next) (H1.next) (cW (H.next) (H1.next+2) (ai (.int .i64 (x:Int)) (I.mk (H1.next+2) (I.aj H1))))))) :
 ∃v U,aZ Tryz.prog aq 215 [.int .i64 N,bk] H v U∧ai v U :=
 cE bg mixed bq (hs:= .aa (.keep [1,5,6]) (.aa (.loop [(5,.int .i64 (x:Int))] H1 (.exit 0)) .nil)) (by kernel_rfl) aG
abbrev iC(N:Nat)(q:Nat):J:=J.slice (some ⟨q,0,0,0,2⟩) N N
theorem Rb(H H1 af ax:I)(N q a b x:Nat)(r aB:Int)(ai:J→I→Prop)(aG:ad (H.next) (H.next) (aV env bz (H.next+0) (a1 [(0,(iC N q))]) (I.mk (H.next+3) (H.2)) (Op.box 204 (Operand.tmp 0))=some (J.ptr (some ⟨a,0,0,0,1⟩),H1)∧aV env bz (H.next+1) (a1 [(1,.int .i32 r)]) H1 (Op.box 21 (Operand.tmp 1))=some (J.ptr (some ⟨b,0,0,0,1⟩),af)∧ad (H.next) (af.next) (aQ env.D 204 ⟨a,0,0,0,1⟩ (I.mk (af.next+5) (af.2))=some ((iC N q))∧bY Tryz.prog aq 215 [.int .i64 (N:Int),.func (.func 216) [] [.ptr (some ⟨a,0,0,0,1⟩),.ptr (some ⟨b,0,0,0,1⟩)]] (I.mk (af.next+5) (af.2)) (.int .i64 (x:Int)) ax∧ad (H.next) (ax.next) (aQ env.D 204 ⟨a,0,0,0,1⟩ (I.mk (ax.next+14) (ax.2))=some ((iC N q))∧a<ax.next∧some (J.bool (decide ((x:Int)<(N:Int))))=some (J.bool true)∧aQ env.D 204 ⟨a,0,0,0,1⟩ (I.mk (ax.next+14) (ax.2))=some ((iC N q))∧a<ax.next∧bb env.D 204 ((iC N q)) (.int .i64 (x:Int))=some (J.ptr (some ⟨q,0,0+x,0,2⟩))∧aQ env.D 21 ⟨q,0,0+x,0,2⟩ (I.mk (ax.next+14) (ax.2))=some (.int .i32 aB)∧q<ax.next∧aQ env.D 21 ⟨b,0,0,0,1⟩ (I.mk (ax.next+14) (ax.2))=some (.int .i32 r)∧b<ax.next∧(aB≤r→cW (H.next) (ax.next+14) (ai (.bool true) (I.mk (ax.next+14) (I.aj ax))))∧(¬aB≤r→cW (H.next) (ax.next+14) (ai (.bool false) (I.mk (ax.next+14) (I.aj ax)))))))) :
 ∃v U,aZ Tryz.prog aq 181 [(.slice (some ⟨q,0,0,0,2⟩) N N),(.int .i32 r)] H v U∧ai v U :=
 cE bg mixed bq (hs:= .aa (.act 0 (.ptr (some ⟨a,0,0,0,1⟩)) fun x=>H1) (.aa (.act 1 (.ptr (some ⟨b,0,0,0,1⟩)) fun x=>af) (.aa (.val 1000 ((iC N q))) (.aa (.act 1003 (.int .i64 (x:Int)) fun x=>ax) (.aa (.cI 2001 ((iC N q))) (.aa (.val 2003 (.bool true)) (.aa (.cI 2005 ((iC N q))) (.aa (.val 2007 (.ptr (some ⟨q,0,0+x,0,2⟩))) (.aa (.cI 2009 (.int .i32 aB)) (.aa (.cI 2010 (.int .i32 r)) (.bP 2011 .nil .nil))))))))))) (by kernel_rfl) aG
theorem Rc(H H1 af ax:I)(N q a b x:Nat)(r aB:Int)(ai:J→I→Prop)(aG:ad (H.next) (H.next) (aV env bz (H.next+0) (a1 [(0,(iC N q))]) (I.mk (H.next+3) (H.2)) (Op.box 204 (Operand.tmp 0))=some (J.ptr (some ⟨a,0,0,0,1⟩),H1)∧aV env bz (H.next+1) (a1 [(1,.int .i32 r)]) H1 (Op.box 21 (Operand.tmp 1))=some (J.ptr (some ⟨b,0,0,0,1⟩),af)∧ad (H.next) (af.next) (aQ env.D 204 ⟨a,0,0,0,1⟩ (I.mk (af.next+5) (af.2))=some ((iC N q))∧bY Tryz.prog aq 215 [.int .i64 (N:Int),.func (.func 216) [] [.ptr (some ⟨a,0,0,0,1⟩),.ptr (some ⟨b,0,0,0,1⟩)]] (I.mk (af.next+5) (af.2)) (.int .i64 (x:Int)) ax∧ad (H.next) (ax.next) (aQ env.D 204 ⟨a,0,0,0,1⟩ (I.mk (ax.next+14) (ax.2))=some ((iC N q))∧a<ax.next∧some (J.bool (decide ((x:Int)<(N:Int))))=some (J.bool false)∧cW (H.next) (ax.next+14) (ai (.bool false) (I.mk (ax.next+14) (I.aj ax))))))) :
 ∃v U,aZ Tryz.prog aq 181 [(.slice (some ⟨q,0,0,0,2⟩) N N),(.int .i32 r)] H v U∧ai v U :=
 cE bg mixed bq (hs:= .aa (.act 0 (.ptr (some ⟨a,0,0,0,1⟩)) fun x=>H1) (.aa (.act 1 (.ptr (some ⟨b,0,0,0,1⟩)) fun x=>af) (.aa (.val 1000 ((iC N q))) (.aa (.act 1003 (.int .i64 (x:Int)) fun x=>ax) (.aa (.cI 2001 ((iC N q))) (.aa (.val 2003 (.bool false)) .nil)))))) (by kernel_rfl) aG
theorem Rd(H H1 af:I)(B N q c:Nat)(r:Int)(ai:bx→a6→I→Prop)(aG:ad B (H.next) (some (J.bool (decide ((c:Int)<9)))=some (J.bool true)∧ad B (H.next+1) (ad B (H.next+3) (bY Tryz.prog aq 182 [.int .i8 (c:Int)] (I.mk (H.next+7) (H.2)) ((iC N q)) H1∧bY Tryz.prog aq 181 [(iC N q),.int .i32 r] H1 (.bool true) af∧ad B (af.next) (ai .ret [(2,.int .i8 (c:Int))] (I.mk (af.next+2) (I.aj af))))))) :
 ∃e ah U,aR Tryz.prog aq B 19 (aY Tryz.prog 140 0) [(0,(.int .i32 r)),(10,.int .i8 c)] H e ah U∧ai e ah U :=
 b0 bg mixed bq (hs:= .aa (.val 4000 (.bool true)) (.aa (.act 6001 ((iC N q)) fun x=>H1) (.aa (.act 6003 (.bool true) fun x=>af) .nil))) (keep:=[2]) (by kernel_rfl) aG
theorem Re(H H1 af:I)(B N q c:Nat)(r:Int)(ai:bx→a6→I→Prop)(aG:ad B (H.next) (some (J.bool (decide ((c:Int)<9)))=some (J.bool true)∧ad B (H.next+1) (ad B (H.next+3) (bY Tryz.prog aq 182 [.int .i8 (c:Int)] (I.mk (H.next+7) (H.2)) ((iC N q)) H1∧bY Tryz.prog aq 181 [(iC N q),.int .i32 r] H1 (.bool false) af∧ad B (af.next) ((-128≤(c:Int)+1∧(c:Int)+1≤127)∧ai .normal [(0,.int .i32 r),(10,.int .i8 ((c:Int)+1))] (I.mk (af.next+2) (I.aj af))))))) :
 ∃e ah U,aR Tryz.prog aq B 19 (aY Tryz.prog 140 0) [(0,(.int .i32 r)),(10,.int .i8 c)] H e ah U∧ai e ah U :=
 b0 bg mixed bq (hs:= .aa (.val 4000 (.bool true)) (.aa (.act 6001 ((iC N q)) fun x=>H1) (.aa (.act 6003 (.bool false) fun x=>af) (an 8000 .nil)))) (keep:=[0,10]) (by kernel_rfl) aG
theorem Rf(H:I)(B c:Nat)(r:Int)(ai:bx→a6→I→Prop)(aG:ad B (H.next) (some (J.bool (decide ((c:Int)<9)))=some (J.bool false)∧ai (.exit 0) [(0,.int .i32 r),(10,.int .i8 (c:Int))] (I.mk (H.next+1) (I.aj H)))) :
 ∃e ah U,aR Tryz.prog aq B 19 (aY Tryz.prog 140 0) [(0,(.int .i32 r)),(10,.int .i8 c)] H e ah U∧ai e ah U :=
 b0 bg mixed bq (hs:= .aa (.val 4000 (.bool false)) .nil) (keep:=[0,10]) (by kernel_rfl) aG
theorem Rg(r:Int)(ai:J→I→Prop)(aG:some (J.bool (decide (r<0)))=some (J.bool true)∧ai (.int .i8 0) (I.bI 8 [])) :
 ∃v U,aZ Tryz.prog aq 140 [(.int .i32 r)] (⟨0,.nil⟩) v U∧ai v U :=
 cE bg mixed bq (hs:= .aa (.val 1001 (.bool true)) .nil) (by kernel_rfl) aG
theorem Rh(r c:Int)(ak:I)(ai:J→I→Prop)(aG:some (J.bool (decide (r<0)))=some (J.bool false)∧some (J.bool (decide (r>1114111)))=some (J.bool false)∧aR Tryz.prog aq 0 19 (Code.loop (aY Tryz.prog 140 0)) [(0,.int .i32 r),(10,.int .i8 0)] (I.bI 8 []) .ret [(2,.int .i8 c)] ak∧ai (.int .i8 c) ak) :
 ∃v U,aZ Tryz.prog aq 140 [(.int .i32 r)] (⟨0,.nil⟩) v U∧ai v U :=
 cE bg mixed bq (hs:= .aa (.val 1001 (.bool false)) (.aa (.val 1004 (.bool false)) (.aa (.keep [0,10]) (.aa (.loop [(2,.int .i8 c)] ak .ret) .nil)))) (by kernel_rfl) aG
theorem Ri(r c:Int)(ak:I)(ai:J→I→Prop)(aG:some (J.bool (decide (r<0)))=some (J.bool false)∧some (J.bool (decide (r>1114111)))=some (J.bool false)∧aR Tryz.prog aq 0 19 (Code.loop (aY Tryz.prog 140 0)) [(0,.int .i32 r),(10,.int .i8 0)] (I.bI 8 []) (.exit 0) [] ak∧ai (.int .i8 9) (I.mk (ak.next+1) (I.aj ak))) :
 ∃v U,aZ Tryz.prog aq 140 [(.int .i32 r)] (⟨0,.nil⟩) v U∧ai v U :=
 cE bg mixed bq (hs:= .aa (.val 1001 (.bool false)) (.aa (.val 1004 (.bool false)) (.aa (.keep [0,10]) (.aa (.loop [] ak (.exit 0)) .nil)))) (by kernel_rfl) aG
theorem Rj(r:Int)(ai:J→I→Prop)(aG:some (J.bool (decide (r<0)))=some (J.bool false)∧some (J.bool (decide (r>1114111)))=some (J.bool true)∧ai (.int .i8 0) (I.bI 8 [])) :
 ∃v U,aZ Tryz.prog aq 140 [(.int .i32 r)] (⟨0,.nil⟩) v U∧ai v U :=
 cE bg mixed bq (hs:= .aa (.val 1001 (.bool false)) (.aa (.val 1004 (.bool true)) .nil)) (by kernel_rfl) aG
end Go.Proofs.YtjpfnbihopoeeaaGreatDoor
namespace Go.Proofs.YtjpfnbihopoeeaaGreatDoor
open Go.ba
abbrev vy(x:Int×Int):J:= .agg [.int .i32 x.1,.int .i32 x.2]
def mM(H:I)(q:Nat)(ps:List (Int×Int)):Prop:=q<H.next∧∃b,H.get q=some b∧b.ver=0∧b.a'=ps.map vy
abbrev oQ(q N:Nat):J:= .slice (some ⟨q,0,0,0,2⟩) N N
theorem mM.aI{H H':I}{q:Nat}{ps:List (Int×Int)}{L:List Nat}(h:mM H q ps)(m:Fr H H' L)(aw:q ∉ L):mM H' q ps:=by obtain⟨U,b,ak,aP⟩:=h;exact⟨Nat.lt_of_lt_of_le U m.next,b,(m.get q U aw).trans ak,aP⟩
theorem HW:∃ez yK gl,env.D 204=some ez∧ez.kind=.slice 243∧env.D 243=some yK∧yK.size=2∧env.D 21=some gl∧gl.kind.isAgg=false:=by obtain⟨ez,cM,a2⟩:=Option.map_eq_some_iff.1 (show(env.D 204).map (fun x=>x.kind)=some (.slice 243)by kernel_rfl);obtain⟨jJ,aT,bw⟩:=Option.map_eq_some_iff.1 (show(env.D 243).map (fun x=>x.size)=some 2 by kernel_rfl);obtain⟨gl,bU,b8⟩:=Option.map_eq_some_iff.1 (show(env.D 21).map (fun x=>x.kind.isAgg)=some false by kernel_rfl);exact⟨ez,jJ,gl,cM,a2,aT,bw,bU,b8⟩
theorem mM.ca{q N i:Nat}(ac:i<N):bb (bh.D env) 204 (oQ q N) (.int .i64 (i:Nat))=some (.ptr (some ⟨q,0,0+i,0,2⟩)):=by obtain⟨ez,yK,gl,cM,a2,aT,bw,bU,b8⟩:=HW;unfold bb;simp only [cM,a2,aT];rw [if_pos ⟨by omega,by omega,by rw [bw],trivial⟩];simp
theorem mM.fk{H:I}{q i:Nat}{ps:List (Int×Int)}(h:mM H q ps)(ac:i<ps.length)(n:Nat):aQ (bh.D env) 21 ⟨q,0,0+i,0,2⟩ ⟨n,H.aj⟩=some (.int .i32 ps[i].1)∧aQ (bh.D env) 21 ⟨q,0,0+i,1,2⟩ ⟨n,H.aj⟩=some (.int .i32 ps[i].2):=by
 obtain⟨U,b,ak,aP,bQ⟩:=h;obtain⟨ez,yK,gl,cM,a2,aT,bw,bU,b8⟩:=HW;have g:I.get ⟨n,H.aj⟩ q=some b:=ak
 have e:b.elem? 0 (0+i)=some (vy ps[i]):=by unfold aJ.elem? aJ.cj;rw [if_pos aP.symm,bQ,if_pos (by simp;omega)];simp [ac]
 constructor
 ·unfold aQ;simp only [bU,g,e,b8];rfl
 ·unfold aQ;simp only [bU,g,e,b8];rfl
noncomputable def vz(e:J):Option (Int×Int):=match e with|.agg [.int .i32 a,.int .i32 b]=>some (a,b)|_=>none
theorem Rk{e:J}{x:Int×Int}(h:vz e=some x):e=vy x:=by
 unfold vz at h;split at h
 ·simp only [Option.some.injEq]at h;subst h;rfl
 ·cases h
noncomputable def HX(c:Nat):Bool :=
 match mu Tryz.prog env 400 182 [.int .i8 c] ⟨0,.nil⟩with
 |some (.slice (some ⟨j,0,0,0,2⟩) N M,h)=>decide (N=M)&&decide (j<h.next)&&match h.get j with
  |some b=>decide (b.ver=0)&&decide (b.a'.length=N)&&decide (N<2^20)&&b.a'.all fun e=>(vz e).isSome
  |none=>false
 |_=>false
theorem Rl:((List.range 9).all fun c=>HX c)=true:=by decide+kernel
theorem Rm(c:Nat)(ar:c<9)(H:I):∃q ps H',aZ Tryz.prog aq 182 [.int .i8 c] H (oQ q ps.length) H'∧mM H' q ps∧ps.length<2^20∧Fr H H' []:=by
 have h:=List.all_eq_true.1 Rl c (List.mem_range.2 ar);unfold HX at h;split at h
 ·rename_i j N M h' e;simp only [Bool.and_eq_true,decide_eq_true_eq]at h;obtain⟨⟨rfl,WA⟩,ak⟩:=h;split at ak
  ·rename_i b ao;simp only [Bool.and_eq_true,decide_eq_true_eq]at ak;obtain⟨⟨⟨aP,bQ⟩,cL⟩,ct⟩:=ak;rw [sr]at e;have Rn:aZ Tryz.prog aq 182 [.int .i8 c] (I.of []) (oQ j N) h':=aZ.xQ bg mixed e
   obtain⟨ps,CO⟩:∃ps:List (Int×Int),b.a'=ps.map vy:=by refine⟨b.a'.map fun e=>(vz e).getD (0,0),?_⟩;rw [List.map_map];refine(List.map_id _).symm.trans (List.map_congr_left fun e he=> ?_);obtain⟨x,ab⟩:=Option.isSome_iff_exists.1 (List.all_eq_true.1 ct e he);show e=vy ((vz e).getD (0,0));rw [ab];exact Rk ab
   obtain⟨H',D,bK,g1,g2⟩:=aZ.place Rn (Nat.zero_le _) (fun b ao=>by cases ao) (by exact⟨trivial,trivial⟩) (H:=H) [] List.nodup_nil (fun j ay=>by cases ay) rfl (fun i b h=>by simp at h);have aF:ps.length=N:=by rw [←bQ,CO,List.length_map]
   have fr:b.bF (eg [] H.next)=b:=by
    have:jg b:=fun e he=>by rw [CO]at he;obtain⟨x,_,rfl⟩:=List.mem_map.1 he;exact ey.agg (by simp [ey.int])
    exact this.bF _
   have k1:=g1 j b ao;rw [fr]at k1;have sI:eg [] H.next j=H.next+j:=by rw [rb (by simp)];simp
   rw [sI]at k1;refine⟨H.next+j,ps,H',?_,⟨by rw [bK];simp;omega,b,k1,aP,CO⟩,by omega,⟨by omega,fun x ab _=>g2 x ab (by simp)⟩⟩;have bO:J.bF (eg [] H.next) (oQ j N)=oQ (H.next+j) ps.length:=by rw [←sI,aF];rfl
   rw [←bO];exact D
  ·cases ak
 ·cases h
end Go.Proofs.YtjpfnbihopoeeaaGreatDoor
namespace Go.Proofs.YtjpfnbihopoeeaaGreatDoor
open Go.ba
theorem HY{t:TypeId}(bl:(bh.D env t).map (fun d=>(d.kind.isAgg,d.size))=some (false,1)){F:a6}{k nid:Nat}{x:J}{H:I}(dT:a1 F (.tmp k)=x)(ab:jG x):∃b,aV env bz nid (a1 F) H (Op.box t (Operand.tmp k))=some (.ptr (some ⟨nid,0,0,0,1⟩),H.set nid b)∧∀(G:I),G.get nid=some b→ ∀n,aQ (bh.D env) t ⟨nid,0,0,0,1⟩ ⟨n,G.aj⟩=some x:=by
 obtain⟨d,d1,d2⟩:=Option.map_eq_some_iff.1 bl;have he:env.D t=some d:=d1;simp only [Prod.mk.injEq]at d2
 have aS:x.fits d.kind.isAgg d.size=true:=by rw [d2.1,d2.2];cases x<;>first|rfl|cases ab
 refine⟨.made [x] 1 true (some (t,1)),?_,fun G an n=> ?_⟩
 ·simp only [aV,he,dT];rw [if_pos (by rw [aS,d2.2];rfl),d2.2]
 ·unfold aQ;have sP:I.get ⟨n,G.aj⟩ nid=some (.made [x] 1 true (some (t,1))):=an;simp only [d1,sP,d2.1,d2.2];exact yf ab
structure rr(H:I)(q a b:Nat)(ps:List (Int×Int))(r:Int):Prop where
 o9:mM H q ps
 HZ:a<H.next
 bn:b<H.next
 av:∀n,aQ (bh.D env) 204 ⟨a,0,0,0,1⟩ ⟨n,H.aj⟩=some (oQ q ps.length)
 bv:∀n,aQ (bh.D env) 21 ⟨b,0,0,0,1⟩ ⟨n,H.aj⟩=some (.int .i32 r)
theorem Ro{H:I}{q a b i:Nat}{ps:List (Int×Int)}{r:Int}(h:rr H q a b ps r)(ac:i<ps.length) :
 ∃t,aZ Tryz.prog aq 216 [.int .i64 (i:Nat),.ptr (some ⟨a,0,0,0,1⟩),.ptr (some ⟨b,0,0,0,1⟩)] H (.bool t) (up H 9):=by
 have U:=h.o9.1;have ak:=h.HZ;have aP:=h.bn
 obtain⟨v,h',D,⟨t,rfl⟩,rfl⟩:=Q7 H ps.length q i a b ps[i].2 r (fun v U=>(∃t,v=.bool t)∧U=up H 9)
  (ae (Nat.le_refl _) (ae (by omega) ⟨h.av _,by omega,mM.ca ac,(h.o9.fk ac _).2,by omega,h.bv _,by omega,fun _=>df (by omega) ⟨⟨_,rfl⟩,rfl⟩,fun _=>df (by omega) ⟨⟨_,rfl⟩,rfl⟩⟩))
 exact⟨t,D⟩
theorem rr.up{H:I}{q a b:Nat}{ps:List (Int×Int)}{r:Int}(h:rr H q a b ps r)(n:Nat)(be:H.next≤n):rr ⟨n,H.aj⟩ q a b ps r :=
 ⟨h.o9.aI (Fr.aj be) (by simp),Nat.lt_of_lt_of_le h.HZ be,Nat.lt_of_lt_of_le h.bn be,h.av,h.bv⟩
abbrev ru(a b:Nat):J:= .func (.func 216) [] [.ptr (some ⟨a,0,0,0,1⟩),.ptr (some ⟨b,0,0,0,1⟩)]
theorem Rp{B q a b:Nat}{ps:List (Int×Int)}{r:Int}(bA:ps.length<2^40):∀(f i j:Nat)(H:I),j-i≤f→i≤j→j≤ps.length→B≤H.next→rr H q a b ps r →
 ∃x n,x≤ps.length∧H.next≤n∧bf Tryz.prog aq B 26 (aY Tryz.prog 215 0) [(1,ru a b),(5,.int .i64 (i:Nat)),(6,.int .i64 (j:Nat))] H (.exit 0) [(5,.int .i64 (x:Nat))] ⟨n,H.aj⟩:=by
 intro f;induction f with
 |zero =>
  intro i j H U ak aP aX w;obtain⟨e,ah,U,aC,rfl,rfl,rfl⟩:=Q' H B i j (ru a b) (fun e ah U=>e=.exit 0∧ah=[(1,ru a b),(5,.int .i64 (i:Nat)),(6,.int .i64 (j:Nat))]∧U=up H 3) (ae aX ⟨b7 (by omega),rfl,rfl,rfl⟩);exact⟨i,H.next+3,by omega,by omega,(bf.last (by simp) aC).post (bL.facts (ed [5] (by kernel_rfl)))⟩
 |succ f ih =>
  intro i j H U ak aP aX w;by_cases eO:i<j
  ·obtain⟨t,D⟩:=Ro (i:=(i+j)/2) (w.up (H.next+14) (by omega)) (by omega);have H2:IntKind.wrap .i64 (bE .u64 ((i:Int)+(j:Int)) 1)=(((i+j)/2:Nat):Int):=OD rfl (by omega);cases t with
   |true =>
    obtain⟨x,n,cf,cu,L⟩:=ih i ((i+j)/2) ⟨H.next+25,H.aj⟩ (by omega) (by omega) (by omega) (by show B≤H.next+25;omega) (w.up _ (by omega));have cu:H.next+25≤n:=cu
    obtain⟨e,ah,U,aC,rfl,rfl,rfl⟩:=Q8 H (up (up H 14) 9) B i j ((i+j)/2) _ _ (fun e ah U=>e=.normal∧ah=[(1,ru a b),(5,.int .i64 (i:Nat)),(6,.int .i64 (((i+j)/2:Nat):Int))]∧U=⟨H.next+25,H.aj⟩)
     (ae aX ⟨bB (by omega),ae (by omega) ⟨⟨by omega,by omega⟩,⟨by omega,by omega⟩,.mk 1,Hg rfl H2,ae (by omega) ⟨⟨D⟩,ae (by show B≤H.next+14+9;omega) ⟨rfl,rfl,rfl⟩⟩⟩⟩)
    exact⟨x,n,cf,by omega,bf.round aC (bL.refl _ _ _ _) L⟩
   |false =>
    obtain⟨x,n,cf,cu,L⟩:=ih ((i+j)/2+1) j ⟨H.next+26,H.aj⟩ (by omega) (by omega) (by omega) (by show B≤H.next+26;omega) (w.up _ (by omega));have cu:H.next+26≤n:=cu
    obtain⟨e,ah,U,aC,rfl,rfl,rfl⟩:=Q9 H (up (up H 14) 9) B i j ((i+j)/2) _ _ (fun e ah U=>e=.normal∧ah=[(1,ru a b),(5,.int .i64 (((i+j)/2+1:Nat):Int)),(6,.int .i64 (j:Nat))]∧U=⟨H.next+26,H.aj⟩)
     (ae aX ⟨bB (by omega),ae (by omega) ⟨⟨by omega,by omega⟩,⟨by omega,by omega⟩,.mk 1,Hg rfl H2,ae (by omega) ⟨⟨D⟩,ae (by show B≤H.next+14+9;omega) ⟨⟨by omega,by omega⟩,rfl,by rw [dx],rfl⟩⟩⟩⟩)
    exact⟨x,n,cf,by omega,bf.round aC (bL.refl _ _ _ _) L⟩
  ·exact ih i j H (by omega) ak aP aX w
theorem Rq{H:I}{q a b:Nat}{ps:List (Int×Int)}{r:Int}(bA:ps.length<2^40)(w:rr H q a b ps r) :
 ∃x n,x≤ps.length∧H.next≤n∧aZ Tryz.prog aq 215 [.int .i64 (ps.length:Nat),ru a b] H (.int .i64 (x:Nat)) ⟨n,H.aj⟩:=by
 obtain⟨x,n,cf,cu,L⟩:=Rp (B:=H.next) bA ps.length 0 ps.length (up H 4) (by omega) (by omega) (by omega) (by show H.next≤H.next+4;omega) (w.up (H.next+4) (by omega));have cu:H.next+4≤n:=cu
 obtain⟨v,U,aM,rfl,rfl⟩:=Ra H ⟨n,H.aj⟩ ps.length x (ru a b) (fun v U=>v=.int .i64 (x:Nat)∧U=⟨n+2,H.aj⟩)
  (ae (Nat.le_refl _) (ae (by omega) ⟨aR.cx L,ae (by show H.next≤n;omega) (df (by show H.next≤n+2;omega) ⟨rfl,rfl⟩)⟩))
 exact⟨x,n+2,cf,by omega,aM⟩
theorem Rr{H:I}{q:Nat}{ps:List (Int×Int)}{r:Int}(bA:ps.length<2^40)(w:mM H q ps) :
 ∃t H',aZ Tryz.prog aq 181 [oQ q ps.length,.int .i32 r] H (.bool t) H'∧Fr H H' []:=by
 obtain⟨aT,bo,dt⟩:=HY (t:=204) (by kernel_rfl) (F:=[(0,oQ q ps.length),(1,J.int .i32 r)]) (k:=0) (nid:=H.next+0) (H:=up H 3) rfl rfl
 let H1:I:=(up H 3).set (H.next+0) aT
 obtain⟨bw,bO,bX⟩:=HY (t:=21) (by kernel_rfl) (F:=[(2,J.ptr (some ⟨H.next+0,0,0,0,1⟩)),(0,oQ q ps.length),(1,J.int .i32 r)]) (k:=1) (nid:=H.next+1) (H:=H1) rfl rfl
 let af:I:=H1.set (H.next+1) bw
 have n2:af.next=H.next+3:=rfl
 have f1:Fr H H1 []:=(Fr.up H 3 []).more (Fr.set (L:=[H.next+0]) (up H 3) _ _ (by simp)) (by simp);have f2:Fr H af []:=f1.more (Fr.set (L:=[H.next+1]) H1 _ _ (by simp)) (by simp);have Rs:af.get (H.next+0)=some aT:=(I.hX _ _ (by omega)).trans (I.eG _ _ _);have Rt:af.get (H.next+1)=some bw:=I.eG _ _ _;have cJ:rr af q (H.next+0) (H.next+1) ps r:=⟨w.aI f2 (by simp),by omega,by omega,dt af Rs,bX af Rt⟩
 obtain⟨x,n,cf,cu,D⟩:=Rq bA (cJ.up (H.next+3+5) (by omega));have cu:H.next+3+5≤n:=cu
 have f3:Fr H ⟨n+14,af.aj⟩ []:=f2.more (Fr.aj (by omega)) (by simp);have aw:=w.1;by_cases ab:x<ps.length
 ·obtain⟨v,h',aM,⟨t,rfl⟩,rfl⟩:=Rb H H1 af ⟨n,af.aj⟩ ps.length q (H.next+0) (H.next+1) x r ps[x].1 (fun v U=>(∃t,v=.bool t)∧U=⟨n+14,af.aj⟩)
   (ae (Nat.le_refl _) ⟨bo,bO,ae (by omega) ⟨cJ.av _,⟨D⟩,ae (by show H.next≤n;omega) ⟨cJ.av _,by show H.next+0<n;omega,bB (by omega),cJ.av _,by show H.next+0<n;omega,mM.ca ab,(cJ.o9.fk ab _).1,by show q<n;omega,cJ.bv _,by show H.next+1<n;omega,fun _=>df (by show H.next≤n+14;omega) ⟨⟨_,rfl⟩,rfl⟩,fun _=>df (by show H.next≤n+14;omega) ⟨⟨_,rfl⟩,rfl⟩⟩⟩⟩)
  exact⟨t,_,aM,f3⟩
 ·obtain⟨v,h',aM,⟨t,rfl⟩,rfl⟩:=Rc H H1 af ⟨n,af.aj⟩ ps.length q (H.next+0) (H.next+1) x r 0 (fun v U=>(∃t,v=.bool t)∧U=⟨n+14,af.aj⟩)
   (ae (Nat.le_refl _) ⟨bo,bO,ae (by omega) ⟨cJ.av _,⟨D⟩,ae (by show H.next≤n;omega) ⟨cJ.av _,by show H.next+0<n;omega,b7 (by omega),df (by show H.next≤n+14;omega) ⟨⟨_,rfl⟩,rfl⟩⟩⟩⟩)
  exact⟨t,_,aM,f3⟩
theorem Ru{B:Nat}(r:Int):∀(f c:Nat)(H:I),c+f=9→B≤H.next →
 (∃(k:Int)(H':I),bf Tryz.prog aq B 19 (aY Tryz.prog 140 0) [(0,.int .i32 r),(10,.int .i8 (c:Nat))] H .ret [(2,.int .i8 k)] H') ∨
 (∃H':I,bf Tryz.prog aq B 19 (aY Tryz.prog 140 0) [(0,.int .i32 r),(10,.int .i8 (c:Nat))] H (.exit 0) [] H'):=by
 intro f;induction f with
 |zero =>
  intro c H ar aX;obtain rfl:c=9:=by omega
  obtain⟨e,ah,U,aC,rfl,rfl,rfl⟩:=Rf H B 9 r (fun e ah U=>e=.exit 0∧ah=[(0,.int .i32 r),(10,.int .i8 ((9:Nat):Int))]∧U=up H 1) (ae aX ⟨b7 (by omega),rfl,rfl,rfl⟩);exact .inr ⟨_,(bf.last (by simp) aC).post (bL.facts (ed [] (by kernel_rfl)))⟩
 |succ f ih =>
  intro c H ar aX;obtain⟨q,ps,H1,gg,b9,aF,f1⟩:=Rm c (by omega) (up H 7);obtain⟨t,af,sW,f2⟩:=Rr (r:=r) (by omega) b9;have bK:=f1.next
  have bK:H.next+7≤H1.next:=bK
  have n2:=f2.next
  cases t with
  |true =>
   obtain⟨e,ah,U,aC,rfl,rfl,rfl⟩:=Rd H H1 af B ps.length q c r (fun e ah U=>e=.ret∧ah=[(2,.int .i8 (c:Nat))]∧U=up af 2)
    (ae aX ⟨bB (by omega),ae (by omega) (ae (by omega) ⟨⟨gg⟩,⟨sW⟩,ae (by omega) ⟨rfl,rfl,rfl⟩⟩)⟩)
   exact .inl ⟨_,_,bf.last (by simp) aC⟩
  |false =>
   obtain⟨e,ah,U,aC,rfl,rfl,rfl⟩:=Re H H1 af B ps.length q c r (fun e ah U=>e=.normal∧ah=[(0,.int .i32 r),(10,.int .i8 ((c+1:Nat):Int))]∧U=up af 2)
    (ae aX ⟨bB (by omega),ae (by omega) (ae (by omega) ⟨⟨gg⟩,⟨sW⟩,ae (by omega) ⟨⟨by omega,by omega⟩,rfl,by rw [dx],rfl⟩⟩)⟩)
   rcases ih (c+1) (up af 2) (by omega) (by show B≤af.next+2;omega)with ⟨k,H',L⟩|⟨H',L⟩
   ·exact .inl ⟨k,H',bf.round aC (bL.refl _ _ _ _) L⟩
   ·exact .inr ⟨H',bf.round aC (bL.refl _ _ _ _) L⟩
theorem H3(r:Int):∃k:Int,∀H,aZ Tryz.prog aq 140 [.int .i32 r] H (.int .i8 k) H:=by
 by_cases U:r<0
 ·exact⟨0,fun H=>aZ.gm (Rg r (fun v _=>v=.int .i8 0) ⟨bB U,rfl⟩) rfl rfl H⟩
 by_cases ak:r>1114111
 ·exact⟨0,fun H=>aZ.gm (Rj r (fun v _=>v=.int .i8 0) ⟨b7 U,bB ak,rfl⟩) rfl rfl H⟩
 rcases Ru (B:=0) r 9 0 (I.bI 8 []) rfl (Nat.zero_le _)with ⟨k,H',L⟩|⟨H',L⟩
 ·exact⟨k,fun H=>aZ.gm (Rh r k H' (fun v _=>v=.int .i8 k) ⟨b7 U,b7 ak,aR.cx L,rfl⟩) rfl rfl H⟩
 ·exact⟨9,fun H=>aZ.gm (Ri r 0 H' (fun v _=>v=.int .i8 9) ⟨b7 U,b7 ak,aR.cx L,rfl⟩) rfl rfl H⟩
noncomputable def cT(r:Int):Int:=(H3 r).choose
theorem Rv(r:Int)(H:I):aZ Tryz.prog aq 140 [.int .i32 r] H (.int .i8 (cT r)) H:=(H3 r).choose_spec H
end Go.Proofs.YtjpfnbihopoeeaaGreatDoor
namespace Go.Keys
abbrev Bytes:=List UInt8
def lead(b:Nat):Nat×Nat×Nat :=
 if b<128 then(1,0,0)
 else if 194≤b∧b≤223 then(2,128,191)
 else if b=224 then(3,160,191)
 else if b=237 then(3,128,159)
 else if 225≤b∧b≤239 then(3,128,191)
 else if b=240 then(4,144,191)
 else if 241≤b∧b≤243 then(4,128,191)
 else if b=244 then(4,128,143)
 else(0,0,0)
def tail:Nat→Nat→Nat→Nat→Nat→Bytes→Nat×Nat×Bool
 |0,i,_,_,v,_=>(v,i,false)
 |_+1,i,_,_,_,[]=>(65533,i,true)
 |k+1,i,aB,ac,v,c::r=>if c.toNat<aB∨ac<c.toNat then(65533,i,false)else tail k (i+1) 128 191 (v*64+c.toNat%64) r
def first:Bytes→Nat×Nat×Bool
 |[]=>(0,0,false)
 |b::r =>
  if(lead b.toNat).1=0 then(65533,1,false)
  else if(lead b.toNat).1=1 then(b.toNat,1,false)
  else tail ((lead b.toNat).1-1) 1 (lead b.toNat).2.1 (lead b.toNat).2.2 (b.toNat%2^(7- (lead b.toNat).1)) r
theorem Rw(b:Nat):(lead b).1≤4:=by
 unfold lead
 repeat' split
 all_goals simp
end Go.Keys
namespace Go.Keys
def nN:Nat→Bytes→List Nat
 |0,_=> []
 |_+1,[]=> []
 |k+1,s=>(first s).1::nN k (s.drop (first s).2.1)
def ew(s:Bytes):List Nat:=nN s.length s
def u8(n:Nat):UInt8:=UInt8.ofNat n
def put(r:Nat):Bytes :=
 let r:=if 55296≤r∧r≤57343∨1114111<r then 65533 else r
 if r<128 then [u8 r]
 else if r<2048 then [u8 (192+r/64),u8 (128+r%64)]
 else if r<65536 then [u8 (224+r/4096),u8 (128+r/64%64),u8 (128+r%64)]
 else [u8 (240+r/262144),u8 (128+r/4096%64),u8 (128+r/64%64),u8 (128+r%64)]
def g'(l:List Nat):Bytes:=l.flatMap put
end Go.Keys
namespace Go.ba
theorem Rx:∀n:Fin 256,bV .i32 (n.val:Int) 31=(n.val%32:Nat):=by decide+kernel
theorem Ry:∀n:Fin 256,bV .i32 (n.val:Int) 15=(n.val%16:Nat):=by decide+kernel
theorem Rz:∀n:Fin 256,bV .i32 (n.val:Int) 7=(n.val%8:Nat):=by decide+kernel
theorem RA:∀n:Fin 256,bV .u8 (n.val:Int) 63=(n.val%64:Nat):=by decide+kernel
theorem RB(b:UInt8):bV .i32 (b.toNat:Int) 31=(b.toNat%32:Nat):=Rx ⟨b.toNat,b.toNat_lt⟩
theorem RC(b:UInt8):bV .i32 (b.toNat:Int) 15=(b.toNat%16:Nat):=Ry ⟨b.toNat,b.toNat_lt⟩
theorem RD(b:UInt8):bV .i32 (b.toNat:Int) 7=(b.toNat%8:Nat):=Rz ⟨b.toNat,b.toNat_lt⟩
theorem rv(b:UInt8):bV .u8 (b.toNat:Int) 63=(b.toNat%64:Nat):=RA ⟨b.toNat,b.toNat_lt⟩
theorem sX(a:Nat)(h:a<33554432):j1 .i32 (a:Int) 6=(a*64:Nat):=by unfold j1;rw [show min (Int.toNat 6) (IntKind.bits .i32)=6 by decide];rw [show((a:Int)*2^6)=(a*64:Nat)by push_cast;rfl];exact oB (k:= .i32) (by simp only [mz];omega)
theorem sY(a x:Nat)(h:a<16777216)(ab:x<64):dn .i32 ((a*64:Nat):Int) (x:Int)=(a*64+x:Nat):=by
 unfold dn
 have e:(BitVec.ofInt (IntKind.bits .i32) ((a*64:Nat):Int) ||| BitVec.ofInt (IntKind.bits .i32) (x:Int)).toNat=a*64+x:=by rw [show IntKind.bits .i32=32 by rfl,BitVec.ofInt_natCast,BitVec.ofInt_natCast,BitVec.toNat_or,BitVec.toNat_ofNat,BitVec.toNat_ofNat,Nat.mod_eq_of_lt (by omega),Nat.mod_eq_of_lt (by omega)];rw [show a*64=2^6*a by omega,←Nat.two_pow_add_eq_or_of_lt (by omega) a]
 rw [e];exact oB (k:= .i32) (by simp only [mz];omega)
end Go.ba
namespace Go.Proofs.YtjpfnbihopoeeaaGreatDoor
open Go.ba Go.Keys
theorem RE(b:Int)(ai:J→I→Prop)(aG:(b<128→ai (J.tuple [J.int IntKind.i64 (1),J.int IntKind.u8 (0),J.int IntKind.u8 (0)]) (I.bI 9 []))∧(¬b<128→(194≤b→(b≤223→ai (J.tuple [J.int IntKind.i64 (2),J.int IntKind.u8 (128),J.int IntKind.u8 (191)]) (I.bI 16 []))∧(¬b≤223→(b=224→ai (J.tuple [J.int IntKind.i64 (3),J.int IntKind.u8 (160),J.int IntKind.u8 (191)]) (I.bI 19 []))∧(¬b=224→(b=237→ai (J.tuple [J.int IntKind.i64 (3),J.int IntKind.u8 (128),J.int IntKind.u8 (159)]) (I.bI 22 []))∧(¬b=237→(225≤b→(b≤239→ai (J.tuple [J.int IntKind.i64 (3),J.int IntKind.u8 (128),J.int IntKind.u8 (191)]) (I.bI 29 []))∧(¬b≤239→(b=240→ai (J.tuple [J.int IntKind.i64 (4),J.int IntKind.u8 (144),J.int IntKind.u8 (191)]) (I.bI 32 []))∧(¬b=240→(241≤b→(b≤243→ai (J.tuple [J.int IntKind.i64 (4),J.int IntKind.u8 (128),J.int IntKind.u8 (191)]) (I.bI 39 []))∧(¬b≤243→(b=244→ai (J.tuple [J.int IntKind.i64 (4),J.int IntKind.u8 (128),J.int IntKind.u8 (143)]) (I.bI 42 []))∧(¬b=244→ai (J.tuple [J.int IntKind.i64 (0),J.int IntKind.u8 (0),J.int IntKind.u8 (0)]) (I.bI 42 []))))∧(¬241≤b→(b=244→ai (J.tuple [J.int IntKind.i64 (4),J.int IntKind.u8 (128),J.int IntKind.u8 (143)]) (I.bI 42 []))∧(¬b=244→ai (J.tuple [J.int IntKind.i64 (0),J.int IntKind.u8 (0),J.int IntKind.u8 (0)]) (I.bI 42 []))))))∧(¬225≤b→(b=240→ai (J.tuple [J.int IntKind.i64 (4),J.int IntKind.u8 (144),J.int IntKind.u8 (191)]) (I.bI 32 []))∧(¬b=240→(241≤b→(b≤243→ai (J.tuple [J.int IntKind.i64 (4),J.int IntKind.u8 (128),J.int IntKind.u8 (191)]) (I.bI 39 []))∧(¬b≤243→(b=244→ai (J.tuple [J.int IntKind.i64 (4),J.int IntKind.u8 (128),J.int IntKind.u8 (143)]) (I.bI 42 []))∧(¬b=244→ai (J.tuple [J.int IntKind.i64 (0),J.int IntKind.u8 (0),J.int IntKind.u8 (0)]) (I.bI 42 []))))∧(¬241≤b→(b=244→ai (J.tuple [J.int IntKind.i64 (4),J.int IntKind.u8 (128),J.int IntKind.u8 (143)]) (I.bI 42 []))∧(¬b=244→ai (J.tuple [J.int IntKind.i64 (0),J.int IntKind.u8 (0),J.int IntKind.u8 (0)]) (I.bI 42 [])))))))))∧(¬194≤b→(b=224→ai (J.tuple [J.int IntKind.i64 (3),J.int IntKind.u8 (160),J.int IntKind.u8 (191)]) (I.bI 19 []))∧(¬b=224→(b=237→ai (J.tuple [J.int IntKind.i64 (3),J.int IntKind.u8 (128),J.int IntKind.u8 (159)]) (I.bI 22 []))∧(¬b=237→(225≤b→(b≤239→ai (J.tuple [J.int IntKind.i64 (3),J.int IntKind.u8 (128),J.int IntKind.u8 (191)]) (I.bI 29 []))∧(¬b≤239→(b=240→ai (J.tuple [J.int IntKind.i64 (4),J.int IntKind.u8 (144),J.int IntKind.u8 (191)]) (I.bI 32 []))∧(¬b=240→(241≤b→(b≤243→ai (J.tuple [J.int IntKind.i64 (4),J.int IntKind.u8 (128),J.int IntKind.u8 (191)]) (I.bI 39 []))∧(¬b≤243→(b=244→ai (J.tuple [J.int IntKind.i64 (4),J.int IntKind.u8 (128),J.int IntKind.u8 (143)]) (I.bI 42 []))∧(¬b=244→ai (J.tuple [J.int IntKind.i64 (0),J.int IntKind.u8 (0),J.int IntKind.u8 (0)]) (I.bI 42 []))))∧(¬241≤b→(b=244→ai (J.tuple [J.int IntKind.i64 (4),J.int IntKind.u8 (128),J.int IntKind.u8 (143)]) (I.bI 42 []))∧(¬b=244→ai (J.tuple [J.int IntKind.i64 (0),J.int IntKind.u8 (0),J.int IntKind.u8 (0)]) (I.bI 42 []))))))∧(¬225≤b→(b=240→ai (J.tuple [J.int IntKind.i64 (4),J.int IntKind.u8 (144),J.int IntKind.u8 (191)]) (I.bI 32 []))∧(¬b=240→(241≤b→(b≤243→ai (J.tuple [J.int IntKind.i64 (4),J.int IntKind.u8 (128),J.int IntKind.u8 (191)]) (I.bI 39 []))∧(¬b≤243→(b=244→ai (J.tuple [J.int IntKind.i64 (4),J.int IntKind.u8 (128),J.int IntKind.u8 (143)]) (I.bI 42 []))∧(¬b=244→ai (J.tuple [J.int IntKind.i64 (0),J.int IntKind.u8 (0),J.int IntKind.u8 (0)]) (I.bI 42 []))))∧(¬241≤b→(b=244→ai (J.tuple [J.int IntKind.i64 (4),J.int IntKind.u8 (128),J.int IntKind.u8 (143)]) (I.bI 42 []))∧(¬b=244→ai (J.tuple [J.int IntKind.i64 (0),J.int IntKind.u8 (0),J.int IntKind.u8 (0)]) (I.bI 42 [])))))))))) :
 ∃v U,aZ Tryz.prog aq 222 [.int .u8 b] (⟨0,.nil⟩) v U∧ai v U :=
 cE bg mixed bq (hs:= .bP 1001 .nil (.bP 3001 (.bP 3004 .nil (.bP 5001 .nil (.bP 7001 .nil (.bP 9001 (.bP 9004 .nil (.bP 11001 .nil (.bP 13001 (.bP 13004 .nil (.bP 15001 .nil .nil)) (.bP 15001 .nil .nil)))) (.bP 11001 .nil (.bP 13001 (.bP 13004 .nil (.bP 15001 .nil .nil)) (.bP 15001 .nil .nil))))))) (.bP 5001 .nil (.bP 7001 .nil (.bP 9001 (.bP 9004 .nil (.bP 11001 .nil (.bP 13001 (.bP 13004 .nil (.bP 15001 .nil .nil)) (.bP 15001 .nil .nil)))) (.bP 11001 .nil (.bP 13001 (.bP 13004 .nil (.bP 15001 .nil .nil)) (.bP 15001 .nil .nil)))))))) (by kernel_rfl) aG
def fw(b:Int):Int×Int×Int :=
 if b<128 then(1,0,0)else if 194≤b∧b≤223 then(2,128,191)else if b=224 then(3,160,191)else if b=237 then(3,128,159)else if 225≤b∧b≤239 then(3,128,191)
 else if b=240 then(4,144,191)else if 241≤b∧b≤243 then(4,128,191)else if b=244 then(4,128,143)else(0,0,0)
def vA(b:Int):J:= .tuple [.int .i64 (fw b).1,.int .u8 (fw b).2.1,.int .u8 (fw b).2.2]
theorem RF(b x y z:Int)(h:fw b=(x,y,z)):J.tuple [.int .i64 x,.int .u8 y,.int .u8 z]=vA b:=by unfold vA;rw [h]
theorem H4(b:Int)(H:I):aZ Tryz.prog aq 222 [.int .u8 b] H (vA b) H:=by
 refine aZ.gm (RE b (fun v _=>v=vA b) ?_) rfl rfl H
 repeat' (first|apply And.intro|intro _)
 all_goals (refine RF _ _ _ _ ?_;unfold fw;repeat' split)
 all_goals first|rfl|omega
theorem RG(b:Int):(fw b).1=0∨(fw b).1=1∨(fw b).1=2∨(fw b).1=3∨(fw b).1=4:=by
 unfold fw
 repeat' split
 all_goals simp
def CP:List J→I→Option j5:=fun a h =>
 match a with
 |[.int .u8 b]=>some (.or ((fw b).1=0) (.one (.tuple [.int .i64 0,.int .u8 (fw b).2.1,.int .u8 (fw b).2.2]) h []) (.or ((fw b).1=1) (.one (.tuple [.int .i64 1,.int .u8 (fw b).2.1,.int .u8 (fw b).2.2]) h [])
  (.or ((fw b).1=2) (.one (.tuple [.int .i64 2,.int .u8 (fw b).2.1,.int .u8 (fw b).2.2]) h []) (.or ((fw b).1=3) (.one (.tuple [.int .i64 3,.int .u8 (fw b).2.1,.int .u8 (fw b).2.2]) h []) (.one (.tuple [.int .i64 4,.int .u8 (fw b).2.1,.int .u8 (fw b).2.2]) h [])))))
 |_=>none
theorem RH:∀args h a,CP args h=some a→a.dG Tryz.prog aq 222 args h:=by
 intro args h a e;unfold CP at e;split at e<;>first|(cases e;done)|skip
 rename_i b;simp only [Option.some.injEq]at e;subst e;have go:∀n,(fw b).1=n→aZ Tryz.prog aq 222 [.int .u8 b] h (.tuple [.int .i64 n,.int .u8 (fw b).2.1,.int .u8 (fw b).2.2]) h:=fun n be=>by rw [←be];exact H4 b h
 exact⟨fun e _=>go _ e,fun aD=>⟨fun e _=>go _ e,fun bK=>⟨fun e _=>go _ e,fun n2=>⟨fun e _=>go _ e,fun b2 _=>go _ (by have:=RG b;omega)⟩⟩⟩⟩
def H5:lR:=B8.add 222 CP
theorem jK:iz Tryz.prog aq H5:=bq.add RH
def RI(x:Nat×Nat×Nat):Int×Int×Int:=((x.1:Int),(x.2.1:Int),(x.2.2:Int))
theorem RJ(n:Nat):fw (n:Int)=RI (lead n):=by
 have cM:((n:Int)<128)=(n<128):=propext (by omega);have a2:(194≤(n:Int)∧(n:Int)≤223)=(194≤n∧n≤223):=propext (by omega);have a3:((n:Int)=224)=(n=224):=propext (by omega);have a4:((n:Int)=237)=(n=237):=propext (by omega);have a5:(225≤(n:Int)∧(n:Int)≤239)=(225≤n∧n≤239):=propext (by omega);have iO:((n:Int)=240)=(n=240):=propext (by omega);have mN:(241≤(n:Int)∧(n:Int)≤243)=(241≤n∧n≤243):=propext (by omega);have RL:((n:Int)=244)=(n=244):=propext (by omega);unfold fw lead;simp only [cM,a2,a3,a4,a5,iO,mN,RL];by_cases bU:n<128
 ·simp only [if_pos bU];rfl
 by_cases b8:194≤n∧n≤223
 ·simp only [if_neg bU,if_pos b8];rfl
 by_cases dj:n=224
 ·simp only [if_neg bU,if_neg b8,if_pos dj];rfl
 by_cases eJ:n=237
 ·simp only [if_neg bU,if_neg b8,if_neg dj,if_pos eJ];rfl
 by_cases fB:225≤n∧n≤239
 ·simp only [if_neg bU,if_neg b8,if_neg dj,if_neg eJ,if_pos fB];rfl
 by_cases fS:n=240
 ·simp only [if_neg bU,if_neg b8,if_neg dj,if_neg eJ,if_neg fB,if_pos fS];rfl
 by_cases iu:241≤n∧n≤243
 ·simp only [if_neg bU,if_neg b8,if_neg dj,if_neg eJ,if_neg fB,if_neg fS,if_pos iu];rfl
 by_cases iK:n=244
 ·simp only [if_neg bU,if_neg b8,if_neg dj,if_neg eJ,if_neg fB,if_neg fS,if_neg iu,if_pos iK];rfl
 ·simp only [if_neg bU,if_neg b8,if_neg dj,if_neg eJ,if_neg fB,if_neg fS,if_neg iu,if_neg iK];rfl
theorem RM(n:Nat):fw (n:Int)=(((lead n).1:Int),((lead n).2.1:Int),((lead n).2.2:Int)):=RJ n
theorem RN(n:Nat):(lead n).1=0∨(lead n).1=1∨(lead n).1=2∨(lead n).1=3∨(lead n).1=4:=by
 unfold lead
 repeat' split
 all_goals simp
theorem nO(b:UInt8): -2147483648≤(b.toNat:Int)∧(b.toNat:Int)≤2147483647:=by have:=b.toNat_lt;omega
theorem nP(b:UInt8): -2147483648≤bV .u8 (b.toNat:Int) 63∧bV .u8 (b.toNat:Int) 63≤2147483647:=by rw [rv];omega
theorem oR(b:UInt8)(r:List UInt8)(n:Nat)(h:(lead b.toNat).1=n+2):first (b::r)=tail (n+1) 1 (lead b.toNat).2.1 (lead b.toNat).2.2 (b.toNat%2^(7- (n+2))) r:=by simp only [first,h];rw [if_neg (by omega),if_neg (by omega)];rfl
theorem lV:Int.NonNeg (6-0):=(show(0:Int)≤6 by decide)
theorem RO(ai:J→I→Prop)(aG:ai (.tuple [.int .i32 0,.int .i64 0]) (I.bI 7 [(0,aJ.made [.str []] 1 true (some (9,1)))])) :
 ∃v U,aZ Tryz.prog aq 162 [.str []] (⟨0,.nil⟩) v U∧ai v U :=
 cE bg mixed jK (hs:= .nil) (by kernel_rfl) aG
theorem RP(aL:UInt8)(r:List UInt8)(aB ac:Int)(ai:J→I→Prop)(aG:bY Tryz.prog aq 222 [.int .u8 (↑(UInt8.toNat aL):Int)] (I.bI 36 [(0,aJ.made [.str (aL::r)] 1 true (some (9,1)))]) (.tuple [.int .i64 0,.int .u8 aB,.int .u8 ac]) (I.bI 36 [(0,aJ.made [.str (aL::r)] 1 true (some (9,1)))])∧ai (.tuple [.int .i32 65533,.int .i64 1]) (I.bI 45 [(0,aJ.made [.str (aL::r)] 1 true (some (9,1)))])) :
 ∃v U,aZ Tryz.prog aq 162 [.str (aL::r)] (⟨0,.nil⟩) v U∧ai v U :=
 cE bg mixed jK (hs:=he 3003 (he 1001 (.aa (.val 2001 (.tuple [.int .i64 0,.int .u8 aB,.int .u8 ac])) .nil))) (by kernel_rfl) aG
theorem RQ(aL:UInt8)(r:List UInt8)(aB ac:Int)(ai:J→I→Prop)(aG:bY Tryz.prog aq 222 [.int .u8 (↑(UInt8.toNat aL):Int)] (I.bI 36 [(0,aJ.made [.str (aL::r)] 1 true (some (9,1)))]) (.tuple [.int .i64 1,.int .u8 aB,.int .u8 ac]) (I.bI 36 [(0,aJ.made [.str (aL::r)] 1 true (some (9,1)))])∧(-2147483648≤(↑(UInt8.toNat aL):Int)∧(↑(UInt8.toNat aL):Int)≤2147483647)∧ai (.tuple [.int .i32 (↑(UInt8.toNat aL):Int),.int .i64 1]) (I.bI 49 [(0,aJ.made [.str (aL::r)] 1 true (some (9,1)))])) :
 ∃v U,aZ Tryz.prog aq 162 [.str (aL::r)] (⟨0,.nil⟩) v U∧ai v U :=
 cE bg mixed jK (hs:=he 3003 (he 1001 (.aa (.val 2001 (.tuple [.int .i64 1,.int .u8 aB,.int .u8 ac])) (an 6001 .nil)))) (by kernel_rfl) aG
theorem RR(aL:UInt8)(aB ac:Int)(ai:J→I→Prop)(aG:bY Tryz.prog aq 222 [.int .u8 (↑(UInt8.toNat aL):Int)] (I.bI 36 [(0,aJ.made [.str [aL]] 1 true (some (9,1)))]) (.tuple [.int .i64 2,.int .u8 aB,.int .u8 ac]) (I.bI 36 [(0,aJ.made [.str [aL]] 1 true (some (9,1)))])∧(-2147483648≤(↑(UInt8.toNat aL):Int)∧(↑(UInt8.toNat aL):Int)≤2147483647)∧True∧ai (.tuple [.int .i32 65533,.int .i64 1]) (I.bI 61 [(0,aJ.made [.str [aL]] 1 true (some (9,1)))])) :
 ∃v U,aZ Tryz.prog aq 162 [.str ([aL])] (⟨0,.nil⟩) v U∧ai v U :=
 cE bg mixed jK (hs:=he 3003 (he 1001 (.aa (.val 2001 (.tuple [.int .i64 2,.int .u8 aB,.int .u8 ac])) (an 7001 (an 7004 (.aa (.rounds 300) .nil)))))) (by kernel_rfl) aG
theorem RS(aL aT:UInt8)(r:List UInt8)(aB ac:Int)(ai:J→I→Prop)(aG:bY Tryz.prog aq 222 [.int .u8 (↑(UInt8.toNat aL):Int)] (I.bI 36 [(0,aJ.made [.str (aL::aT::r)] 1 true (some (9,1)))]) (.tuple [.int .i64 2,.int .u8 aB,.int .u8 ac]) (I.bI 36 [(0,aJ.made [.str (aL::aT::r)] 1 true (some (9,1)))])∧(-2147483648≤(↑(UInt8.toNat aL):Int)∧(↑(UInt8.toNat aL):Int)≤2147483647)∧True∧((↑(UInt8.toNat aT):Int)<aB→ai (.tuple [.int .i32 65533,.int .i64 1]) (I.bI 78 [(0,aJ.made [.str (aL::aT::r)] 1 true (some (9,1)))]))∧(¬(↑(UInt8.toNat aT):Int)<aB→(ac<(↑(UInt8.toNat aT):Int)→ai (.tuple [.int .i32 65533,.int .i64 1]) (I.bI 78 [(0,aJ.made [.str (aL::aT::r)] 1 true (some (9,1)))]))∧(¬ac<(↑(UInt8.toNat aT):Int)→Int.NonNeg (6-0)∧True∧(-2147483648≤bV IntKind.u8 (↑(UInt8.toNat aT):Int) (63)∧bV IntKind.u8 (↑(UInt8.toNat aT):Int) (63)≤2147483647)∧True∧ai (.tuple [.int .i32 (dn IntKind.i32 (j1 IntKind.i32 (bV IntKind.i32 (↑(UInt8.toNat aL):Int) (31)) (6)) (bV IntKind.u8 (↑(UInt8.toNat aT):Int) (63))),.int .i64 2]) (I.bI 94 [(0,aJ.made [.str (aL::aT::r)] 1 true (some (9,1)))])))) :
 ∃v U,aZ Tryz.prog aq 162 [.str (aL::aT::r)] (⟨0,.nil⟩) v U∧ai v U :=
 cE bg mixed jK (hs:=he 3003 (he 1001 (.aa (.val 2001 (.tuple [.int .i64 2,.int .u8 aB,.int .u8 ac])) (an 7001 (an 7004 (.aa (.rounds 300) (he 13002 (.bP 14002 .nil (.bP 14006 .nil (an 17001 (an 17003 (an 17004 (an 17005 .nil))))))))))))) (by kernel_rfl) aG
theorem RT(aL:UInt8)(aB ac:Int)(ai:J→I→Prop)(aG:bY Tryz.prog aq 222 [.int .u8 (↑(UInt8.toNat aL):Int)] (I.bI 36 [(0,aJ.made [.str [aL]] 1 true (some (9,1)))]) (.tuple [.int .i64 3,.int .u8 aB,.int .u8 ac]) (I.bI 36 [(0,aJ.made [.str [aL]] 1 true (some (9,1)))])∧(-2147483648≤(↑(UInt8.toNat aL):Int)∧(↑(UInt8.toNat aL):Int)≤2147483647)∧True∧ai (.tuple [.int .i32 65533,.int .i64 1]) (I.bI 61 [(0,aJ.made [.str [aL]] 1 true (some (9,1)))])) :
 ∃v U,aZ Tryz.prog aq 162 [.str ([aL])] (⟨0,.nil⟩) v U∧ai v U :=
 cE bg mixed jK (hs:=he 3003 (he 1001 (.aa (.val 2001 (.tuple [.int .i64 3,.int .u8 aB,.int .u8 ac])) (an 7001 (an 7004 (.aa (.rounds 300) .nil)))))) (by kernel_rfl) aG
theorem RU(aL aT:UInt8)(aB ac:Int)(ai:J→I→Prop)(aG:bY Tryz.prog aq 222 [.int .u8 (↑(UInt8.toNat aL):Int)] (I.bI 36 [(0,aJ.made [.str [aL,aT]] 1 true (some (9,1)))]) (.tuple [.int .i64 3,.int .u8 aB,.int .u8 ac]) (I.bI 36 [(0,aJ.made [.str [aL,aT]] 1 true (some (9,1)))])∧(-2147483648≤(↑(UInt8.toNat aL):Int)∧(↑(UInt8.toNat aL):Int)≤2147483647)∧True∧((↑(UInt8.toNat aT):Int)<aB→ai (.tuple [.int .i32 65533,.int .i64 1]) (I.bI 78 [(0,aJ.made [.str [aL,aT]] 1 true (some (9,1)))]))∧(¬(↑(UInt8.toNat aT):Int)<aB→(ac<(↑(UInt8.toNat aT):Int)→ai (.tuple [.int .i32 65533,.int .i64 1]) (I.bI 78 [(0,aJ.made [.str [aL,aT]] 1 true (some (9,1)))]))∧(¬ac<(↑(UInt8.toNat aT):Int)→Int.NonNeg (6-0)∧True∧(-2147483648≤bV IntKind.u8 (↑(UInt8.toNat aT):Int) (63)∧bV IntKind.u8 (↑(UInt8.toNat aT):Int) (63)≤2147483647)∧True∧ai (.tuple [.int .i32 65533,.int .i64 2]) (I.bI 96 [(0,aJ.made [.str [aL,aT]] 1 true (some (9,1)))])))) :
 ∃v U,aZ Tryz.prog aq 162 [.str ([aL,aT])] (⟨0,.nil⟩) v U∧ai v U :=
 cE bg mixed jK (hs:=he 3003 (he 1001 (.aa (.val 2001 (.tuple [.int .i64 3,.int .u8 aB,.int .u8 ac])) (an 7001 (an 7004 (.aa (.rounds 300) (he 13002 (.bP 14002 .nil (.bP 14006 .nil (an 17001 (an 17003 (an 17004 (an 17005 .nil))))))))))))) (by kernel_rfl) aG
theorem RV(aL aT bw:UInt8)(r:List UInt8)(aB ac:Int)(ai:J→I→Prop)(aG:bY Tryz.prog aq 222 [.int .u8 (↑(UInt8.toNat aL):Int)] (I.bI 36 [(0,aJ.made [.str (aL::aT::bw::r)] 1 true (some (9,1)))]) (.tuple [.int .i64 3,.int .u8 aB,.int .u8 ac]) (I.bI 36 [(0,aJ.made [.str (aL::aT::bw::r)] 1 true (some (9,1)))])∧(-2147483648≤(↑(UInt8.toNat aL):Int)∧(↑(UInt8.toNat aL):Int)≤2147483647)∧True∧((↑(UInt8.toNat aT):Int)<aB→ai (.tuple [.int .i32 65533,.int .i64 1]) (I.bI 78 [(0,aJ.made [.str (aL::aT::bw::r)] 1 true (some (9,1)))]))∧(¬(↑(UInt8.toNat aT):Int)<aB→(ac<(↑(UInt8.toNat aT):Int)→ai (.tuple [.int .i32 65533,.int .i64 1]) (I.bI 78 [(0,aJ.made [.str (aL::aT::bw::r)] 1 true (some (9,1)))]))∧(¬ac<(↑(UInt8.toNat aT):Int)→Int.NonNeg (6-0)∧True∧(-2147483648≤bV IntKind.u8 (↑(UInt8.toNat aT):Int) (63)∧bV IntKind.u8 (↑(UInt8.toNat aT):Int) (63)≤2147483647)∧True∧((↑(UInt8.toNat bw):Int)<128→ai (.tuple [.int .i32 65533,.int .i64 2]) (I.bI 113 [(0,aJ.made [.str (aL::aT::bw::r)] 1 true (some (9,1)))]))∧(¬(↑(UInt8.toNat bw):Int)<128→(191<(↑(UInt8.toNat bw):Int)→ai (.tuple [.int .i32 65533,.int .i64 2]) (I.bI 113 [(0,aJ.made [.str (aL::aT::bw::r)] 1 true (some (9,1)))]))∧(¬191<(↑(UInt8.toNat bw):Int)→Int.NonNeg (6-0)∧True∧(-2147483648≤bV IntKind.u8 (↑(UInt8.toNat bw):Int) (63)∧bV IntKind.u8 (↑(UInt8.toNat bw):Int) (63)≤2147483647)∧True∧ai (.tuple [.int .i32 (dn IntKind.i32 (j1 IntKind.i32 (dn IntKind.i32 (j1 IntKind.i32 (bV IntKind.i32 (↑(UInt8.toNat aL):Int) (15)) (6)) (bV IntKind.u8 (↑(UInt8.toNat aT):Int) (63))) (6)) (bV IntKind.u8 (↑(UInt8.toNat bw):Int) (63))),.int .i64 3]) (I.bI 129 [(0,aJ.made [.str (aL::aT::bw::r)] 1 true (some (9,1)))])))))) :
 ∃v U,aZ Tryz.prog aq 162 [.str (aL::aT::bw::r)] (⟨0,.nil⟩) v U∧ai v U :=
 cE bg mixed jK (hs:=he 3003 (he 1001 (.aa (.val 2001 (.tuple [.int .i64 3,.int .u8 aB,.int .u8 ac])) (an 7001 (an 7004 (.aa (.rounds 300) (he 13002 (.bP 14002 .nil (.bP 14006 .nil (an 17001 (an 17003 (an 17004 (an 17005 (he 13002 (.bP 14002 .nil (.bP 14006 .nil (an 17001 (an 17003 (an 17004 (an 17005 .nil)))))))))))))))))))) (by kernel_rfl) aG
theorem RW(aL:UInt8)(aB ac:Int)(ai:J→I→Prop)(aG:bY Tryz.prog aq 222 [.int .u8 (↑(UInt8.toNat aL):Int)] (I.bI 36 [(0,aJ.made [.str [aL]] 1 true (some (9,1)))]) (.tuple [.int .i64 4,.int .u8 aB,.int .u8 ac]) (I.bI 36 [(0,aJ.made [.str [aL]] 1 true (some (9,1)))])∧(-2147483648≤(↑(UInt8.toNat aL):Int)∧(↑(UInt8.toNat aL):Int)≤2147483647)∧True∧ai (.tuple [.int .i32 65533,.int .i64 1]) (I.bI 61 [(0,aJ.made [.str [aL]] 1 true (some (9,1)))])) :
 ∃v U,aZ Tryz.prog aq 162 [.str ([aL])] (⟨0,.nil⟩) v U∧ai v U :=
 cE bg mixed jK (hs:=he 3003 (he 1001 (.aa (.val 2001 (.tuple [.int .i64 4,.int .u8 aB,.int .u8 ac])) (an 7001 (an 7004 (.aa (.rounds 300) .nil)))))) (by kernel_rfl) aG
theorem RX(aL aT:UInt8)(aB ac:Int)(ai:J→I→Prop)(aG:bY Tryz.prog aq 222 [.int .u8 (↑(UInt8.toNat aL):Int)] (I.bI 36 [(0,aJ.made [.str [aL,aT]] 1 true (some (9,1)))]) (.tuple [.int .i64 4,.int .u8 aB,.int .u8 ac]) (I.bI 36 [(0,aJ.made [.str [aL,aT]] 1 true (some (9,1)))])∧(-2147483648≤(↑(UInt8.toNat aL):Int)∧(↑(UInt8.toNat aL):Int)≤2147483647)∧True∧((↑(UInt8.toNat aT):Int)<aB→ai (.tuple [.int .i32 65533,.int .i64 1]) (I.bI 78 [(0,aJ.made [.str [aL,aT]] 1 true (some (9,1)))]))∧(¬(↑(UInt8.toNat aT):Int)<aB→(ac<(↑(UInt8.toNat aT):Int)→ai (.tuple [.int .i32 65533,.int .i64 1]) (I.bI 78 [(0,aJ.made [.str [aL,aT]] 1 true (some (9,1)))]))∧(¬ac<(↑(UInt8.toNat aT):Int)→Int.NonNeg (6-0)∧True∧(-2147483648≤bV IntKind.u8 (↑(UInt8.toNat aT):Int) (63)∧bV IntKind.u8 (↑(UInt8.toNat aT):Int) (63)≤2147483647)∧True∧ai (.tuple [.int .i32 65533,.int .i64 2]) (I.bI 96 [(0,aJ.made [.str [aL,aT]] 1 true (some (9,1)))])))) :
 ∃v U,aZ Tryz.prog aq 162 [.str ([aL,aT])] (⟨0,.nil⟩) v U∧ai v U :=
 cE bg mixed jK (hs:=he 3003 (he 1001 (.aa (.val 2001 (.tuple [.int .i64 4,.int .u8 aB,.int .u8 ac])) (an 7001 (an 7004 (.aa (.rounds 300) (he 13002 (.bP 14002 .nil (.bP 14006 .nil (an 17001 (an 17003 (an 17004 (an 17005 .nil))))))))))))) (by kernel_rfl) aG
theorem RY(aL aT bw:UInt8)(aB ac:Int)(ai:J→I→Prop)(aG:bY Tryz.prog aq 222 [.int .u8 (↑(UInt8.toNat aL):Int)] (I.bI 36 [(0,aJ.made [.str [aL,aT,bw]] 1 true (some (9,1)))]) (.tuple [.int .i64 4,.int .u8 aB,.int .u8 ac]) (I.bI 36 [(0,aJ.made [.str [aL,aT,bw]] 1 true (some (9,1)))])∧(-2147483648≤(↑(UInt8.toNat aL):Int)∧(↑(UInt8.toNat aL):Int)≤2147483647)∧True∧((↑(UInt8.toNat aT):Int)<aB→ai (.tuple [.int .i32 65533,.int .i64 1]) (I.bI 78 [(0,aJ.made [.str [aL,aT,bw]] 1 true (some (9,1)))]))∧(¬(↑(UInt8.toNat aT):Int)<aB→(ac<(↑(UInt8.toNat aT):Int)→ai (.tuple [.int .i32 65533,.int .i64 1]) (I.bI 78 [(0,aJ.made [.str [aL,aT,bw]] 1 true (some (9,1)))]))∧(¬ac<(↑(UInt8.toNat aT):Int)→Int.NonNeg (6-0)∧True∧(-2147483648≤bV IntKind.u8 (↑(UInt8.toNat aT):Int) (63)∧bV IntKind.u8 (↑(UInt8.toNat aT):Int) (63)≤2147483647)∧True∧((↑(UInt8.toNat bw):Int)<128→ai (.tuple [.int .i32 65533,.int .i64 2]) (I.bI 113 [(0,aJ.made [.str [aL,aT,bw]] 1 true (some (9,1)))]))∧(¬(↑(UInt8.toNat bw):Int)<128→(191<(↑(UInt8.toNat bw):Int)→ai (.tuple [.int .i32 65533,.int .i64 2]) (I.bI 113 [(0,aJ.made [.str [aL,aT,bw]] 1 true (some (9,1)))]))∧(¬191<(↑(UInt8.toNat bw):Int)→Int.NonNeg (6-0)∧True∧(-2147483648≤bV IntKind.u8 (↑(UInt8.toNat bw):Int) (63)∧bV IntKind.u8 (↑(UInt8.toNat bw):Int) (63)≤2147483647)∧True∧ai (.tuple [.int .i32 65533,.int .i64 3]) (I.bI 131 [(0,aJ.made [.str [aL,aT,bw]] 1 true (some (9,1)))])))))) :
 ∃v U,aZ Tryz.prog aq 162 [.str ([aL,aT,bw])] (⟨0,.nil⟩) v U∧ai v U :=
 cE bg mixed jK (hs:=he 3003 (he 1001 (.aa (.val 2001 (.tuple [.int .i64 4,.int .u8 aB,.int .u8 ac])) (an 7001 (an 7004 (.aa (.rounds 300) (he 13002 (.bP 14002 .nil (.bP 14006 .nil (an 17001 (an 17003 (an 17004 (an 17005 (he 13002 (.bP 14002 .nil (.bP 14006 .nil (an 17001 (an 17003 (an 17004 (an 17005 .nil)))))))))))))))))))) (by kernel_rfl) aG
theorem RZ(aL aT bw cy:UInt8)(r:List UInt8)(aB ac:Int)(ai:J→I→Prop)(aG:bY Tryz.prog aq 222 [.int .u8 (↑(UInt8.toNat aL):Int)] (I.bI 36 [(0,aJ.made [.str (aL::aT::bw::cy::r)] 1 true (some (9,1)))]) (.tuple [.int .i64 4,.int .u8 aB,.int .u8 ac]) (I.bI 36 [(0,aJ.made [.str (aL::aT::bw::cy::r)] 1 true (some (9,1)))])∧(-2147483648≤(↑(UInt8.toNat aL):Int)∧(↑(UInt8.toNat aL):Int)≤2147483647)∧True∧((↑(UInt8.toNat aT):Int)<aB→ai (.tuple [.int .i32 65533,.int .i64 1]) (I.bI 78 [(0,aJ.made [.str (aL::aT::bw::cy::r)] 1 true (some (9,1)))]))∧(¬(↑(UInt8.toNat aT):Int)<aB→(ac<(↑(UInt8.toNat aT):Int)→ai (.tuple [.int .i32 65533,.int .i64 1]) (I.bI 78 [(0,aJ.made [.str (aL::aT::bw::cy::r)] 1 true (some (9,1)))]))∧(¬ac<(↑(UInt8.toNat aT):Int)→Int.NonNeg (6-0)∧True∧(-2147483648≤bV IntKind.u8 (↑(UInt8.toNat aT):Int) (63)∧bV IntKind.u8 (↑(UInt8.toNat aT):Int) (63)≤2147483647)∧True∧((↑(UInt8.toNat bw):Int)<128→ai (.tuple [.int .i32 65533,.int .i64 2]) (I.bI 113 [(0,aJ.made [.str (aL::aT::bw::cy::r)] 1 true (some (9,1)))]))∧(¬(↑(UInt8.toNat bw):Int)<128→(191<(↑(UInt8.toNat bw):Int)→ai (.tuple [.int .i32 65533,.int .i64 2]) (I.bI 113 [(0,aJ.made [.str (aL::aT::bw::cy::r)] 1 true (some (9,1)))]))∧(¬191<(↑(UInt8.toNat bw):Int)→Int.NonNeg (6-0)∧True∧(-2147483648≤bV IntKind.u8 (↑(UInt8.toNat bw):Int) (63)∧bV IntKind.u8 (↑(UInt8.toNat bw):Int) (63)≤2147483647)∧True∧((↑(UInt8.toNat cy):Int)<128→ai (.tuple [.int .i32 65533,.int .i64 3]) (I.bI 148 [(0,aJ.made [.str (aL::aT::bw::cy::r)] 1 true (some (9,1)))]))∧(¬(↑(UInt8.toNat cy):Int)<128→(191<(↑(UInt8.toNat cy):Int)→ai (.tuple [.int .i32 65533,.int .i64 3]) (I.bI 148 [(0,aJ.made [.str (aL::aT::bw::cy::r)] 1 true (some (9,1)))]))∧(¬191<(↑(UInt8.toNat cy):Int)→Int.NonNeg (6-0)∧True∧(-2147483648≤bV IntKind.u8 (↑(UInt8.toNat cy):Int) (63)∧bV IntKind.u8 (↑(UInt8.toNat cy):Int) (63)≤2147483647)∧True∧ai (.tuple [.int .i32 (dn IntKind.i32 (j1 IntKind.i32 (dn IntKind.i32 (j1 IntKind.i32 (dn IntKind.i32 (j1 IntKind.i32 (bV IntKind.i32 (↑(UInt8.toNat aL):Int) (7)) (6)) (bV IntKind.u8 (↑(UInt8.toNat aT):Int) (63))) (6)) (bV IntKind.u8 (↑(UInt8.toNat bw):Int) (63))) (6)) (bV IntKind.u8 (↑(UInt8.toNat cy):Int) (63))),.int .i64 4]) (I.bI 164 [(0,aJ.made [.str (aL::aT::bw::cy::r)] 1 true (some (9,1)))])))))))) :
 ∃v U,aZ Tryz.prog aq 162 [.str (aL::aT::bw::cy::r)] (⟨0,.nil⟩) v U∧ai v U :=
 cE bg mixed jK (hs:=he 3003 (he 1001 (.aa (.val 2001 (.tuple [.int .i64 4,.int .u8 aB,.int .u8 ac])) (an 7001 (an 7004 (.aa (.rounds 300) (he 13002 (.bP 14002 .nil (.bP 14006 .nil (an 17001 (an 17003 (an 17004 (an 17005 (he 13002 (.bP 14002 .nil (.bP 14006 .nil (an 17001 (an 17003 (an 17004 (an 17005 (he 13002 (.bP 14002 .nil (.bP 14006 .nil (an 17001 (an 17003 (an 17004 (an 17005 .nil))))))))))))))))))))))))))) (by kernel_rfl) aG
def fX(s:List UInt8):J:= .tuple [.int .i32 ((first s).1:Int),.int .i64 ((first s).2.1:Int)]
theorem fx{s:List UInt8}{a k:Nat}{x:Bool}(h:first s=(a,k,x)){bN k':Int}(aW:bN=a)(az:k'=k):J.tuple [.int .i32 bN,.int .i64 k']=fX s:=by unfold fX;rw [h,aW,az]
theorem R0(H:I):aZ Tryz.prog aq 162 [.str []] H (fX []) H:=aZ.gm (RO (fun v _=>v=fX []) rfl) rfl rfl H
theorem mO(b:UInt8)(n:Nat)(h:(lead b.toNat).1=n)(H:I):aZ Tryz.prog aq 222 [.int .u8 (b.toNat:Int)] H (.tuple [.int .i64 (n:Int),.int .u8 ((lead b.toNat).2.1:Int),.int .u8 ((lead b.toNat).2.2:Int)]) H:=by have k:=H4 b.toNat H;simp only [vA,RM,h]at k;exact k
theorem R1(aL:UInt8)(r:List UInt8)(aF:(lead aL.toNat).1=0)(H:I):aZ Tryz.prog aq 162 [.str (aL::r)] H (fX (aL::r)) H:=by refine aZ.gm (RP aL r (lead aL.toNat).2.1 (lead aL.toNat).2.2 (fun v _=>v=fX (aL::r)) ?_) rfl rfl H;exact⟨⟨mO aL 0 aF _⟩,fx (show first (aL::r)=(65533,1,false)by simp [first,aF]) rfl rfl⟩
theorem R2(aL:UInt8)(r:List UInt8)(aF:(lead aL.toNat).1=1)(H:I):aZ Tryz.prog aq 162 [.str (aL::r)] H (fX (aL::r)) H:=by refine aZ.gm (RQ aL r (lead aL.toNat).2.1 (lead aL.toNat).2.2 (fun v _=>v=fX (aL::r)) ?_) rfl rfl H;exact⟨⟨mO aL 1 aF _⟩,nO aL,fx (show first (aL::r)=(aL.toNat,1,false)by simp [first,aF]) rfl rfl⟩
theorem R3(aL:UInt8)(aF:(lead aL.toNat).1=2)(H:I):aZ Tryz.prog aq 162 [.str (aL:: [])] H (fX (aL:: [])) H:=by
 refine aZ.gm (RR aL (lead aL.toNat).2.1 (lead aL.toNat).2.2 (fun v _=>v=fX (aL:: [])) ?_) rfl rfl H;have aS:∀r,first (aL::r)=tail 1 1 (lead aL.toNat).2.1 (lead aL.toNat).2.2 (aL.toNat%2^(7-2)) r:=fun r=>oR aL r 0 aF
 have jo:first (aL:: [])=(65533,1,true):=by rw [aS];rfl
 exact⟨⟨mO aL 2 aF _⟩,nO aL,trivial,fx jo rfl rfl⟩
theorem R4(aL aT:UInt8)(r:List UInt8)(aF:(lead aL.toNat).1=2)(H:I):aZ Tryz.prog aq 162 [.str (aL::aT::r)] H (fX (aL::aT::r)) H:=by
 refine aZ.gm (RS aL aT r (lead aL.toNat).2.1 (lead aL.toNat).2.2 (fun v _=>v=fX (aL::aT::r)) ?_) rfl rfl H;have aS:∀r,first (aL::r)=tail 1 1 (lead aL.toNat).2.1 (lead aL.toNat).2.2 (aL.toNat%2^(7-2)) r:=fun r=>oR aL r 0 aF
 have jp:∀(ar:aT.toNat<(lead aL.toNat).2.1∨(lead aL.toNat).2.2<aT.toNat),first (aL::aT::r)=(65533,1,false):=fun ar=>by rw [aS];simp only [tail];rw [if_pos ar]
 have jo:∀(U:¬(aT.toNat<(lead aL.toNat).2.1∨(lead aL.toNat).2.2<aT.toNat)),first (aL::aT::r)=((aL.toNat%32)*64+aT.toNat%64,2,false):=fun U=>by rw [aS];simp only [tail];rw [if_neg U]
 have a7:dn .i32 (j1 .i32 (bV .i32 (aL.toNat:Int) 31) 6) (bV .u8 (aT.toNat:Int) 63)=(((aL.toNat%32)*64+aT.toNat%64:Nat):Int):=by rw [RB,rv aT,sX _ (by omega),sY _ _ (by omega) (by omega)]
 exact⟨⟨mO aL 2 aF _⟩,nO aL,trivial,⟨fun cM=>fx (jp (by omega)) rfl rfl,fun vB=>⟨fun bU=>fx (jp (by omega)) rfl rfl,fun d1=>⟨lV,trivial,nP aT,trivial,fx (jo (by omega)) a7 rfl⟩⟩⟩⟩
theorem R5(aL:UInt8)(aF:(lead aL.toNat).1=3)(H:I):aZ Tryz.prog aq 162 [.str (aL:: [])] H (fX (aL:: [])) H:=by
 refine aZ.gm (RT aL (lead aL.toNat).2.1 (lead aL.toNat).2.2 (fun v _=>v=fX (aL:: [])) ?_) rfl rfl H;have aS:∀r,first (aL::r)=tail 2 1 (lead aL.toNat).2.1 (lead aL.toNat).2.2 (aL.toNat%2^(7-3)) r:=fun r=>oR aL r 1 aF
 have jo:first (aL:: [])=(65533,1,true):=by rw [aS];rfl
 exact⟨⟨mO aL 3 aF _⟩,nO aL,trivial,fx jo rfl rfl⟩
theorem R6(aL aT:UInt8)(aF:(lead aL.toNat).1=3)(H:I):aZ Tryz.prog aq 162 [.str (aL::aT:: [])] H (fX (aL::aT:: [])) H:=by
 refine aZ.gm (RU aL aT (lead aL.toNat).2.1 (lead aL.toNat).2.2 (fun v _=>v=fX (aL::aT:: [])) ?_) rfl rfl H;have aS:∀r,first (aL::r)=tail 2 1 (lead aL.toNat).2.1 (lead aL.toNat).2.2 (aL.toNat%2^(7-3)) r:=fun r=>oR aL r 1 aF
 have jp:∀(ar:aT.toNat<(lead aL.toNat).2.1∨(lead aL.toNat).2.2<aT.toNat),first (aL::aT:: [])=(65533,1,false):=fun ar=>by rw [aS];simp only [tail];rw [if_pos ar]
 have jo:∀(U:¬(aT.toNat<(lead aL.toNat).2.1∨(lead aL.toNat).2.2<aT.toNat)),first (aL::aT:: [])=(65533,2,true):=fun U=>by rw [aS];simp only [tail];rw [if_neg U]
 exact⟨⟨mO aL 3 aF _⟩,nO aL,trivial,⟨fun cM=>fx (jp (by omega)) rfl rfl,fun vB=>⟨fun bU=>fx (jp (by omega)) rfl rfl,fun d1=>⟨lV,trivial,nP aT,trivial,fx (jo (by omega)) rfl rfl⟩⟩⟩⟩
theorem R7(aL aT bw:UInt8)(r:List UInt8)(aF:(lead aL.toNat).1=3)(H:I):aZ Tryz.prog aq 162 [.str (aL::aT::bw::r)] H (fX (aL::aT::bw::r)) H:=by
 refine aZ.gm (RV aL aT bw r (lead aL.toNat).2.1 (lead aL.toNat).2.2 (fun v _=>v=fX (aL::aT::bw::r)) ?_) rfl rfl H;have aS:∀r,first (aL::r)=tail 2 1 (lead aL.toNat).2.1 (lead aL.toNat).2.2 (aL.toNat%2^(7-3)) r:=fun r=>oR aL r 1 aF
 have jp:∀(ar:aT.toNat<(lead aL.toNat).2.1∨(lead aL.toNat).2.2<aT.toNat),first (aL::aT::bw::r)=(65533,1,false):=fun ar=>by rw [aS];simp only [tail];rw [if_pos ar]
 have p1:∀(U:¬(aT.toNat<(lead aL.toNat).2.1∨(lead aL.toNat).2.2<aT.toNat)) (ar:bw.toNat<128∨191<bw.toNat),first (aL::aT::bw::r)=(65533,2,false):=fun U ar=>by rw [aS];simp only [tail];rw [if_neg U,if_pos ar]
 have jo:∀(U:¬(aT.toNat<(lead aL.toNat).2.1∨(lead aL.toNat).2.2<aT.toNat)) (ak:¬(bw.toNat<128∨191<bw.toNat)),first (aL::aT::bw::r)=(((aL.toNat%16)*64+aT.toNat%64)*64+bw.toNat%64,3,false):=fun U ak=>by rw [aS];simp only [tail];rw [if_neg U,if_neg ak]
 have a7:dn .i32 (j1 .i32 (dn .i32 (j1 .i32 (bV .i32 (aL.toNat:Int) 15) 6) (bV .u8 (aT.toNat:Int) 63)) 6) (bV .u8 (bw.toNat:Int) 63)=((((aL.toNat%16)*64+aT.toNat%64)*64+bw.toNat%64:Nat):Int):=by rw [RC,rv aT,rv bw,sX _ (by omega),sY _ _ (by omega) (by omega),sX _ (by omega),sY _ _ (by omega) (by omega)]
 exact⟨⟨mO aL 3 aF _⟩,nO aL,trivial,⟨fun cM=>fx (jp (by omega)) rfl rfl,fun vB=>⟨fun bU=>fx (jp (by omega)) rfl rfl,fun d1=>⟨lV,trivial,nP aT,trivial,⟨fun a2=>fx (p1 (by omega) (by omega)) rfl rfl,fun H6=>⟨fun b8=>fx (p1 (by omega) (by omega)) rfl rfl,fun d2=>⟨lV,trivial,nP bw,trivial,fx (jo (by omega) (by omega)) a7 rfl⟩⟩⟩⟩⟩⟩⟩
theorem R8(aL:UInt8)(aF:(lead aL.toNat).1=4)(H:I):aZ Tryz.prog aq 162 [.str (aL:: [])] H (fX (aL:: [])) H:=by
 refine aZ.gm (RW aL (lead aL.toNat).2.1 (lead aL.toNat).2.2 (fun v _=>v=fX (aL:: [])) ?_) rfl rfl H;have aS:∀r,first (aL::r)=tail 3 1 (lead aL.toNat).2.1 (lead aL.toNat).2.2 (aL.toNat%2^(7-4)) r:=fun r=>oR aL r 2 aF
 have jo:first (aL:: [])=(65533,1,true):=by rw [aS];rfl
 exact⟨⟨mO aL 4 aF _⟩,nO aL,trivial,fx jo rfl rfl⟩
theorem R9(aL aT:UInt8)(aF:(lead aL.toNat).1=4)(H:I):aZ Tryz.prog aq 162 [.str (aL::aT:: [])] H (fX (aL::aT:: [])) H:=by
 refine aZ.gm (RX aL aT (lead aL.toNat).2.1 (lead aL.toNat).2.2 (fun v _=>v=fX (aL::aT:: [])) ?_) rfl rfl H;have aS:∀r,first (aL::r)=tail 3 1 (lead aL.toNat).2.1 (lead aL.toNat).2.2 (aL.toNat%2^(7-4)) r:=fun r=>oR aL r 2 aF
 have jp:∀(ar:aT.toNat<(lead aL.toNat).2.1∨(lead aL.toNat).2.2<aT.toNat),first (aL::aT:: [])=(65533,1,false):=fun ar=>by rw [aS];simp only [tail];rw [if_pos ar]
 have jo:∀(U:¬(aT.toNat<(lead aL.toNat).2.1∨(lead aL.toNat).2.2<aT.toNat)),first (aL::aT:: [])=(65533,2,true):=fun U=>by rw [aS];simp only [tail];rw [if_neg U]
 exact⟨⟨mO aL 4 aF _⟩,nO aL,trivial,⟨fun cM=>fx (jp (by omega)) rfl rfl,fun vB=>⟨fun bU=>fx (jp (by omega)) rfl rfl,fun d1=>⟨lV,trivial,nP aT,trivial,fx (jo (by omega)) rfl rfl⟩⟩⟩⟩
theorem R'(aL aT bw:UInt8)(aF:(lead aL.toNat).1=4)(H:I):aZ Tryz.prog aq 162 [.str (aL::aT::bw:: [])] H (fX (aL::aT::bw:: [])) H:=by
 refine aZ.gm (RY aL aT bw (lead aL.toNat).2.1 (lead aL.toNat).2.2 (fun v _=>v=fX (aL::aT::bw:: [])) ?_) rfl rfl H;have aS:∀r,first (aL::r)=tail 3 1 (lead aL.toNat).2.1 (lead aL.toNat).2.2 (aL.toNat%2^(7-4)) r:=fun r=>oR aL r 2 aF
 have jp:∀(ar:aT.toNat<(lead aL.toNat).2.1∨(lead aL.toNat).2.2<aT.toNat),first (aL::aT::bw:: [])=(65533,1,false):=fun ar=>by rw [aS];simp only [tail];rw [if_pos ar]
 have p1:∀(U:¬(aT.toNat<(lead aL.toNat).2.1∨(lead aL.toNat).2.2<aT.toNat)) (ar:bw.toNat<128∨191<bw.toNat),first (aL::aT::bw:: [])=(65533,2,false):=fun U ar=>by rw [aS];simp only [tail];rw [if_neg U,if_pos ar]
 have jo:∀(U:¬(aT.toNat<(lead aL.toNat).2.1∨(lead aL.toNat).2.2<aT.toNat)) (ak:¬(bw.toNat<128∨191<bw.toNat)),first (aL::aT::bw:: [])=(65533,3,true):=fun U ak=>by rw [aS];simp only [tail];rw [if_neg U,if_neg ak]
 exact⟨⟨mO aL 4 aF _⟩,nO aL,trivial,⟨fun cM=>fx (jp (by omega)) rfl rfl,fun vB=>⟨fun bU=>fx (jp (by omega)) rfl rfl,fun d1=>⟨lV,trivial,nP aT,trivial,⟨fun a2=>fx (p1 (by omega) (by omega)) rfl rfl,fun H6=>⟨fun b8=>fx (p1 (by omega) (by omega)) rfl rfl,fun d2=>⟨lV,trivial,nP bw,trivial,fx (jo (by omega) (by omega)) rfl rfl⟩⟩⟩⟩⟩⟩⟩
theorem Sa(aL aT bw cy:UInt8)(r:List UInt8)(aF:(lead aL.toNat).1=4)(H:I):aZ Tryz.prog aq 162 [.str (aL::aT::bw::cy::r)] H (fX (aL::aT::bw::cy::r)) H:=by
 refine aZ.gm (RZ aL aT bw cy r (lead aL.toNat).2.1 (lead aL.toNat).2.2 (fun v _=>v=fX (aL::aT::bw::cy::r)) ?_) rfl rfl H;have aS:∀r,first (aL::r)=tail 3 1 (lead aL.toNat).2.1 (lead aL.toNat).2.2 (aL.toNat%2^(7-4)) r:=fun r=>oR aL r 2 aF
 have jp:∀(ar:aT.toNat<(lead aL.toNat).2.1∨(lead aL.toNat).2.2<aT.toNat),first (aL::aT::bw::cy::r)=(65533,1,false):=fun ar=>by rw [aS];simp only [tail];rw [if_pos ar]
 have p1:∀(U:¬(aT.toNat<(lead aL.toNat).2.1∨(lead aL.toNat).2.2<aT.toNat)) (ar:bw.toNat<128∨191<bw.toNat),first (aL::aT::bw::cy::r)=(65533,2,false):=fun U ar=>by rw [aS];simp only [tail];rw [if_neg U,if_pos ar]
 have H7:∀(U:¬(aT.toNat<(lead aL.toNat).2.1∨(lead aL.toNat).2.2<aT.toNat)) (ak:¬(bw.toNat<128∨191<bw.toNat)) (ar:cy.toNat<128∨191<cy.toNat),first (aL::aT::bw::cy::r)=(65533,3,false):=fun U ak ar=>by rw [aS];simp only [tail];rw [if_neg U,if_neg ak,if_pos ar]
 have jo:∀(U:¬(aT.toNat<(lead aL.toNat).2.1∨(lead aL.toNat).2.2<aT.toNat)) (ak:¬(bw.toNat<128∨191<bw.toNat)) (aP:¬(cy.toNat<128∨191<cy.toNat)),first (aL::aT::bw::cy::r)=((((aL.toNat%8)*64+aT.toNat%64)*64+bw.toNat%64)*64+cy.toNat%64,4,false):=fun U ak aP=>by rw [aS];simp only [tail];rw [if_neg U,if_neg ak,if_neg aP]
 have a7:dn .i32 (j1 .i32 (dn .i32 (j1 .i32 (dn .i32 (j1 .i32 (bV .i32 (aL.toNat:Int) 7) 6) (bV .u8 (aT.toNat:Int) 63)) 6) (bV .u8 (bw.toNat:Int) 63)) 6) (bV .u8 (cy.toNat:Int) 63)=(((((aL.toNat%8)*64+aT.toNat%64)*64+bw.toNat%64)*64+cy.toNat%64:Nat):Int):=by rw [RD,rv aT,rv bw,rv cy,sX _ (by omega),sY _ _ (by omega) (by omega),sX _ (by omega),sY _ _ (by omega) (by omega),sX _ (by omega),sY _ _ (by omega) (by omega)]
 exact⟨⟨mO aL 4 aF _⟩,nO aL,trivial,⟨fun cM=>fx (jp (by omega)) rfl rfl,fun vB=>⟨fun bU=>fx (jp (by omega)) rfl rfl,fun d1=>⟨lV,trivial,nP aT,trivial,⟨fun a2=>fx (p1 (by omega) (by omega)) rfl rfl,fun H6=>⟨fun b8=>fx (p1 (by omega) (by omega)) rfl rfl,fun d2=>⟨lV,trivial,nP bw,trivial,⟨fun a3=>fx (H7 (by omega) (by omega) (by omega)) rfl rfl,fun WB=>⟨fun dj=>fx (H7 (by omega) (by omega) (by omega)) rfl rfl,fun d3=>⟨lV,trivial,nP cy,trivial,fx (jo (by omega) (by omega) (by omega)) a7 rfl⟩⟩⟩⟩⟩⟩⟩⟩⟩⟩
theorem Sb(s:List UInt8)(H:I):aZ Tryz.prog aq 162 [.str s] H (fX s) H:=by
 match s with
 |[]=>exact R0 H
 |aL::t =>
  rcases RN aL.toNat with h|h|h|h|h
  ·exact R1 aL t h H
  ·exact R2 aL t h H
  ·match t with
   |[]=>exact R3 aL h H
   |aT::r=>exact R4 aL aT r h H
  ·match t with
   |[]=>exact R5 aL h H
   |[aT]=>exact R6 aL aT h H
   |aT::bw::r=>exact R7 aL aT bw r h H
  ·match t with
   |[]=>exact R8 aL h H
   |[aT]=>exact R9 aL aT h H
   |[aT,bw]=>exact R' aL aT bw h H
   |aT::bw::cy::r=>exact Sa aL aT bw cy r h H
def H8:List J→I→Option j5:=u0 fun a=>match a with | [.str s]=>some (fX s,[])|_=>none
theorem Sc:∀args h a,H8 args h=some a→a.dG Tryz.prog aq 162 args h:=by
 refine Cj ?_;intro args v ps e ag H;split at e<;>first|(cases e;done)|skip
 simp only [Option.some.injEq,Prod.mk.injEq]at e;obtain⟨rfl,rfl⟩:=e;exact Sb _ H
abbrev CQ(l:List J)(v f:Nat):aJ:= {a':=l,es:=1,exact:=false,ro:=false,ver:=v,eD:=0,hU:=f,ty:=some (21,0)}
noncomputable def Sd:lR:=H5.add 162 H8
theorem CR:iz Tryz.prog aq Sd:=jK.add Sc
theorem H9(s:List UInt8)(ai:bx→a6→I→Prop)(aG:(0<(↑(List.length s):Int)→(-9223372036854775808≤0+(↑(Prod.fst (Prod.snd (first (List.drop 0 (List.take (List.length s) s))))):Int)∧0+(↑(Prod.fst (Prod.snd (first (List.drop 0 (List.take (List.length s) s))))):Int)≤9223372036854775807)∧ai .normal [(0,.str s),(3,.slice (some ⟨16,0,0,0,1⟩) 1 1),(4,.int .i64 (0+(↑(Prod.fst (Prod.snd (first (List.drop 0 (List.take (List.length s) s))))):Int)))] (I.bI 22 [(15,aJ.made [.int .i32 (↑(Prod.fst (first (List.drop 0 (List.take (List.length s) s)))):Int)] 1 true),(16,aJ.made [.int .i32 (↑(Prod.fst (first (List.drop 0 (List.take (List.length s) s)))):Int)] 1 false (some (21,0)))]))∧(¬0<(↑(List.length s):Int)→ai (.exit 0) [(0,.str s),(3,.slice none 0 0),(4,.int .i64 0)] (I.bI 4 []))) :
 ∃e ah U,aR Tryz.prog aq 0 26 (aY Tryz.prog 123 0) [(0,.str s),(3,.slice none 0 0),(4,.int .i64 0)] (⟨0,.nil⟩) e ah U∧ai e ah U :=
 b0 bg mixed CR (hs:= .bP 3003 (an 6002 .nil) .nil) (keep:=[0,3,4]) (by kernel_rfl) aG
theorem CS(s:List UInt8)(i v f n:Nat)(l:List J)(ai:bx→a6→I→Prop)(aG:((i:Int)<(↑(List.length s):Int)→(0≤(i:Int)∧(i:Int)≤(↑(List.length s):Int))∧(v=v∧0+n=List.length l∧n<n+1∧(n+1+(n+1)/4+512)*4≤281474976710656∧n+1<4611686018427387904)∧(-9223372036854775808≤(i:Int)+(↑(Prod.fst (Prod.snd (first (List.drop i s)))):Int)∧(i:Int)+(↑(Prod.fst (Prod.snd (first (List.drop i s)))):Int)≤9223372036854775807)∧ai .normal [(0,.str s),(3,.slice (some {id:=16,ver:=v+1,idx:=0,fld:=0,es:=1}) (n+1) (n+1)),(4,.int .i64 ((i:Int)+(↑(Prod.fst (Prod.snd (first (List.drop i s)))):Int)))] (I.bI 42 [(16,⟨l++[.int .i32 (↑(Prod.fst (first (List.drop i s))):Int)],1,false,false,v+1,0,if 0=v then List.length l else min f (List.length l),some (21,0)⟩),(35,aJ.made [.int .i32 (↑(Prod.fst (first (List.drop i s))):Int)] 1 true)]))∧(¬(i:Int)<(↑(List.length s):Int)→ai (.exit 0) [(0,.str s),(3,.slice (some ⟨16,v,0,0,1⟩) n n),(4,.int .i64 (i:Int))] (I.bI 24 [(16,⟨l,1,false,false,v,0,f,some (21,0)⟩)]))) :
 ∃e ah U,aR Tryz.prog aq 0 26 (aY Tryz.prog 123 0) [(0,.str s),(3,.slice (some ⟨16,v,0,0,1⟩) n n),(4,.int .i64 i)] (I.rows 20 [(16,CQ l v f)]) e ah U∧ai e ah U :=
 b0 bg mixed CR (hs:= .bP 3003 (an 4002 (an 5003 (an 6002 .nil))) .nil) (keep:=[0,3,4]) (by kernel_rfl) aG
theorem Ia(s:List UInt8)(pI Ib:J)(h':I)(ai:J→I→Prop)(aG:aR Tryz.prog aq 0 26 (Code.loop (aY Tryz.prog 123 0)) [(0,.str s),(3,.slice none 0 0),(4,.int .i64 0)] (I.bI 3 []) (.exit 0) [(0,.str s),(3,pI),(4,Ib)] h'∧ai pI (I.mk (h'.next+2) (I.aj h'))) :
 ∃v U,aZ Tryz.prog aq 123 [.str s] (⟨0,.nil⟩) v U∧ai v U :=
 cE bg mixed CR (hs:= .aa (.keep [0,3,4]) (.aa (.loop [(0,.str s),(3,pI),(4,Ib)] h' (.exit 0)) .nil)) (by kernel_rfl) aG
end Go.Proofs.YtjpfnbihopoeeaaGreatDoor
namespace Go.Keys
theorem Ic:∀(k i aB ac v:Nat)(l:List UInt8),i≤(tail k i aB ac v l).2.1∧(tail k i aB ac v l).2.1≤i+l.length
 |0,i,aB,ac,v,l=>by simp [tail]
 |k+1,i,aB,ac,v,[]=>by simp [tail]
 |k +1,i,aB,ac,v,c::r=>by
  simp only [tail];split
  ·simp
  ·have:=Ic k (i+1) 128 191 (v*64+c.toNat%64) r;simp only [List.length_cons];omega
theorem vC{s:List UInt8}(h:s≠[]):1≤(first s).2.1∧(first s).2.1≤s.length:=by
 cases s with
 |nil=>exact absurd rfl h
 |cons b r =>
  simp only [first];split
  ·simp
  ·split
   ·simp
   ·have:=Ic ((lead b.toNat).1-1) 1 (lead b.toNat).2.1 (lead b.toNat).2.2 (b.toNat%2^(7- (lead b.toNat).1)) r;simp only [List.length_cons];omega
theorem Ie:∀(k k':Nat)(s:List UInt8),s.length≤k→s.length≤k'→nN k s=nN k' s
 |0,0,s,_,_=>rfl
 |0,k'+1,[],_,_=>rfl
 |0,k'+1,b::r,h,_=>by simp at h
 |k+1,0,[],_,_=>rfl
 |k+1,0,b::r,_,h=>by simp at h
 |k+1,k'+1,[],_,_=>rfl
 |k+1,k'+1,b::r,h,h'=>by simp only [nN];have:=(vC (s:=b::r) (by simp)).1;rw [Ie k k' _ (by simp only [List.length_drop,List.length_cons]at *; omega) (by simp only [List.length_drop,List.length_cons]at *; omega)]
theorem sZ:ew []=[]:=rfl
theorem yL{s:List UInt8}(h:s≠[]):ew s=(first s).1::ew (s.drop (first s).2.1):=by
 cases s with
 |nil=>exact absurd rfl h
 |cons b r =>
  have:=(vC (s:=b::r) (by simp)).1;unfold ew;simp only [List.length_cons,nN];rw [Ie r.length _ _ (by simp only [List.length_drop,List.length_cons];omega) (Nat.le_refl _)]
theorem CT:∀(n:Nat)(s:List UInt8),s.length≤n→(ew s).length≤s.length
 |0,s,h=>by have:s=[]:=List.eq_nil_of_length_eq_zero (by omega);subst this;simp [sZ]
 |n +1,s,h=>by
  by_cases hs:s=[]
  ·subst hs;simp [sZ]
  ·rw [yL hs];have aS:=vC hs;have:=CT n (s.drop (first s).2.1) (by simp only [List.length_drop];omega);simp only [List.length_cons];simp only [List.length_drop]at this;omega
end Go.Keys
namespace Go.Proofs.YtjpfnbihopoeeaaGreatDoor
open Go.ba Go.Keys
def rs(l:List Nat):List J:=l.map fun(n:Nat)=>J.int .i32 n
theorem oS(l:List Nat):(rs l).length=l.length:=by simp [rs]
def ry(n:Nat):Nat:=if n=1 then 0 else 1
abbrev kd(l:List Nat):aJ:=CQ (rs l) (l.length-1) (ry l.length)
abbrev mP(s:List UInt8)(l i:Nat):a6:=[(0,.str s),(3,.slice (some ⟨16,l-1,0,0,1⟩) l l),(4,.int .i64 (i:Nat))]
theorem Se{n l c:Nat} :cw (Go.ba.lQ [16]) (.slice (some ⟨16,n,0,0,1⟩) l c):=(by show(16:Nat)∈ [16];simp)
theorem yM(l:List Nat):∀e∈rs l,ey e:=ey.ints l .i32 fun(n:Nat)=>(n:Int)
theorem If(s:List UInt8)(l i:Nat)(h:I)(b:aJ)(ao:jg b)(an:h.get 16=some b):bL 0 26 (mP s l i) h (mP s l i) (I.rows 20 [(16,b)]) :=
 bL.drop (K:=20) (l:=[(16,b)]) (by simp [an]) rfl rfl (by rfl) (by
  refine cG.cons trivial (cG.cons Se (cG.cons trivial cG.nil))) (by
  refine cG.cons (fun e he=>(ao e he).ox _) cG.nil)
theorem Sf(s:List UInt8)(hs:s.length<2^40):∀(k i:Nat)(L:List Nat),s.length-i≤k→i≤s.length→1≤L.length→L.length≤i→ ∃h',
 bf Tryz.prog aq 0 26 (aY Tryz.prog 123 0) (mP s L.length i) (I.rows 20 [(16,kd L)]) (.exit 0) (mP s (L++ew (s.drop i)).length s.length) h'∧h'.get 16=some (kd (L++ew (s.drop i))):=by
 intro k;induction k with
 |zero =>
  intro i L az ac U de;obtain⟨e,ah,U,aC,rfl,rfl,rfl⟩:=CS s i (L.length-1) (ry L.length) L.length (rs L) (fun e ah U=>e=.exit 0∧ah=mP s L.length i∧U=I.bI 24 [(16,kd L)]) ⟨fun h=>by omega,fun _=>⟨rfl,rfl,rfl⟩⟩;have:i=s.length:=by omega
  subst this;rw [List.drop_length,sZ,List.append_nil];exact⟨_,bf.last (by simp) aC,by kernel_rfl⟩
 |succ k ih =>
  intro i L az ac U de;by_cases ar:i<s.length
  ·have cg:s.drop i≠[]:=by rw [Ne,List.drop_eq_nil_iff];omega
   have aS:=vC cg;rw [List.length_drop]at aS
   obtain⟨e,ah,ak,aC,rfl,rfl,an⟩:=CS s i (L.length-1) (ry L.length) L.length (rs L) (fun e ah ak=>e=.normal∧ah=mP s (L.length+1) (i+(first (s.drop i)).2.1)∧ak.get 16=some (kd (L++[(first (s.drop i)).1]))) (by
    refine⟨fun _=>⟨⟨by omega,by omega⟩,⟨rfl,by rw [oS];omega,by omega,by omega,by omega⟩,⟨by omega,by omega⟩,rfl,?_,?_⟩,fun h=>by omega⟩
    ·unfold mP;rw [show L.length+1-1=L.length-1+1 by omega];rfl
    ·have bo:rs (L++[(first (s.drop i)).1])=rs L++[J.int .i32 ((first (s.drop i)).1:Int)]:=by simp [rs]
     have bO:(L++[(first (s.drop i)).1]).length-1=L.length-1+1:=by simp;omega
     have fR:ry (L++[(first (s.drop i)).1]).length=if 0=L.length-1 then(rs L).length else min (ry L.length) (rs L).length:=by
      rw [oS];unfold ry;simp only [List.length_append,List.length_cons,List.length_nil];by_cases bU:L.length=1
      ·rw [if_neg (by omega),if_pos (by omega)];omega
      ·rw [if_neg (by omega),if_neg (by omega),if_neg bU];omega
     show some _=some (CQ _ _ _)
     rw [bo,bO,fR])
   obtain⟨h',aF,sP⟩:=ih (i+(first (s.drop i)).2.1) (L++[(first (s.drop i)).1]) (by omega) (by omega) (by simp) (by simp;omega)
   have jV:(L++[(first (s.drop i)).1])++ew (s.drop (i+(first (s.drop i)).2.1))=L++ew (s.drop i):=by rw [yL cg,List.drop_drop];simp
   rw [jV]at aF sP;have qZ:(L++[(first (s.drop i)).1]).length=L.length+1:=by simp
   rw [show mP s (L++[(first (s.drop i)).1]).length (i+(first (s.drop i)).2.1)=mP s (L.length+1) (i+(first (s.drop i)).2.1)by rw [qZ]]at aF;exact⟨h',bf.round aC (If s _ _ _ (kd (L++[(first (s.drop i)).1])) (yM _) an) aF,sP⟩
  ·obtain⟨e,ah,U,aC,rfl,rfl,rfl⟩:=CS s i (L.length-1) (ry L.length) L.length (rs L) (fun e ah U=>e=.exit 0∧ah=mP s L.length i∧U=I.bI 24 [(16,kd L)]) ⟨fun h=>by omega,fun _=>⟨rfl,rfl,rfl⟩⟩;have:i=s.length:=by omega
   subst this;rw [List.drop_length,sZ,List.append_nil];exact⟨_,bf.last (by simp) aC,by kernel_rfl⟩
theorem Ig(H:I):aZ Tryz.prog aq 123 [.str []] H (.slice none 0 0) H:=by refine aZ.gm (Ia [] (.slice none 0 0) (.int .i64 0) (I.bI 4 []) (fun v _=>v=.slice none 0 0) ⟨?_,rfl⟩) rfl rfl H;refine aR.cx ?_;obtain⟨e,ah,U,aC,rfl,rfl,rfl⟩:=H9 [] (fun e ah U=>e=.exit 0∧ah=[(0,J.str []),(3,J.slice none 0 0),(4,J.int IntKind.i64 0)]∧U=I.bI 4 []) ⟨fun h=>by simp at h,fun _=>⟨rfl,rfl,rfl⟩⟩;exact(bf.last (by simp) aC).pre (bL.drop (K:=0) (l:=[]) rfl (by decide) (by decide) (by rfl) (cG.cons trivial (cG.cons trivial (cG.cons trivial cG.nil))) cG.nil)
theorem Ih(s:List UInt8)(hs:s.length<2^40)(bt:s≠[])(H:I):aZ Tryz.prog aq 123 [.str s] H (.slice (some ⟨H.next,(ew s).length-1,0,0,1⟩) (ew s).length (ew s).length) (H.uU [] [kd (ew s)]):=by
 have aS:=vC bt;have jA:0<s.length:=List.length_pos_iff.2 bt;have e0:List.drop 0 (List.take s.length s)=s:=by simp
 obtain⟨e,ah,U,aC,rfl,rfl,Sg⟩:=H9 s (fun e ah U=>e=.normal∧ah=mP s 1 (first s).2.1∧U.get 16=some (kd [(first s).1])) (by
  rw [e0]
  exact⟨fun _=>⟨⟨by omega,by omega⟩,rfl,by rw [show(0:Int)+((first s).2.1:Int)=(((first s).2.1:Nat):Int)by omega],rfl⟩,fun h=>by omega⟩)
 obtain⟨h',aF,an⟩:=Sf s hs s.length (first s).2.1 [(first s).1] (by omega) aS.2 (by simp) (by simpa using aS.1);rw [show [(first s).1]++ew (s.drop (first s).2.1)=ew s from(yL bt).symm]at aF an;have de:=(bf.round aC (If s 1 (first s).2.1 U (kd [(first s).1]) (yM _) Sg) aF).pre (bL.drop (h:=I.bI 3 []) (K:=0) (l:=[]) rfl (by decide) (by decide) (by rfl) (cG.cons trivial (cG.cons trivial (cG.cons trivial cG.nil))) cG.nil);obtain⟨v,ak,aM,rfl,CU⟩:=Ia s (.slice (some ⟨16,(ew s).length-1,0,0,1⟩) (ew s).length (ew s).length) (.int .i64 (s.length:Nat)) h' (fun v ak=>v=.slice (some ⟨16,(ew s).length-1,0,0,1⟩) (ew s).length (ew s).length∧ak.get 16=some (kd (ew s))) ⟨aR.cx de,rfl,an⟩;exact aZ.NO (l:=[]) (bn:=kd (ew s)) aM (fun b ao=>by cases ao) (yM _) rfl CU (by simp) (by exact⟨trivial,trivial⟩) [] List.nodup_nil (fun j ay=>by cases ay) rfl
end Go.Proofs.YtjpfnbihopoeeaaGreatDoor
