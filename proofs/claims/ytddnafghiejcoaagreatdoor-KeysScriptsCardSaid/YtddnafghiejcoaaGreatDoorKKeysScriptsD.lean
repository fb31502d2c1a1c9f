/-
  Parts of the proof of KeysScripts.
-/
import Derived.Test.YtddnafghiejcoaaGreatDoorKKeysScriptsC
set_option linter.unusedVariables false
set_option linter.unusedSimpArgs false
namespace Go.Keys
theorem Dq:∀(k i aD ah v:Nat)(l:Bytes),i<=(tail k i aD ah v l).2.1/\(tail k i aD ah v l).2.1<=i+l.length
 |0,i,aD,ah,v,l=>by simp [tail]
 |k+1,i,aD,ah,v,[]=>by simp [tail]
 |k +1,i,aD,ah,v,c::r=>by
  simp only [tail];split
  .simp
  .have:=Dq k (i+1) 128 191 (v*64+c.toNat%64) r;simp only [b'];omega
theorem rY{s:Bytes}(h:s≠[]):1<=(first s).2.1/\(first s).2.1<=s.length:=by
 cases s with
 |nil=>exact absurd rfl h
 |cons b r =>
  simp only [first];split
  .simp
  .split
   .simp
   .have:=Dq ((lead b.toNat).1-1) 1 (lead b.toNat).2.1 (lead b.toNat).2.2 (b.toNat%2^(7- (lead b.toNat).1)) r;simp only [b'];omega
theorem Dr:∀(k k':Nat)(s:Bytes),s.length<=k->s.length<=k'->gI k s=gI k' s
 |0,0,s,_,_=>rfl
 |0,k'+1,[],_,_=>rfl
 |0,k'+1,b::r,h,_=>by simp at h
 |k+1,0,[],_,_=>rfl
 |k+1,0,b::r,_,h=>by simp at h
 |k+1,k'+1,[],_,_=>rfl
 |k+1,k'+1,b::r,h,ad=>by simp only [gI];have:=(rY (s:=b::r) an).1;rw [Dr k k' _ (by simp only [ep,b']at *; omega) (by simp only [ep,b']at *; omega)]
theorem va:dn []=[]:=rfl
theorem vb{s:Bytes}(h:s≠[]):dn s=(first s).1::dn (s.drop (first s).2.1):=by
 cases s with
 |nil=>exact absurd rfl h
 |cons b r =>
  have:=(rY (s:=b::r) an).1;unfold dn;simp only [b',gI];rw [Dr r.length _ _ (by simp only [ep,b'];omega) (Nat.le_refl _)]
theorem Ds:∀(n:Nat)(s:Bytes),s.length<=n->(dn s).length<=s.length
 |0,s,h=>by have:s=[]:=mI V;subst this;simp [va]
 |n +1,s,h=>by
  by_cases hs:s=[]
  .subst hs;simp [va]
  .rw [vb hs];have a:=rY hs;have:=Ds n (s.drop (first s).2.1) (by simp only [ep];omega);simp only [b'];simp only [ep]at this;omega
end Go.Keys
namespace Go.Proofs.YtddnafghiejcoaaGreatDoor
open Go.bh Go.Keys
set_option maxRecDepth 1000000
def cW(l:List Nat):List J:=l.map fun(n:Nat)=>J.int .i32 n
theorem Dt(l:List Nat):(cW l).length=l.length:=by simp [cW]
def hr(n:Nat):Nat:=if n=1 then 0 else 1
abbrev jT(l:List Nat):ac:=fl (cW l) (l.length-1) (hr l.length)
abbrev kA(s:Bytes)(l i:Nat):a8:=[(0,.str s),(3,.slice (some ⟨16,l-1,0,0,1⟩) l l),(4,.int .i64 (i:Nat))]
theorem L'{n l c:Nat} :bQ (Go.bh.bO [16]) (.slice (some ⟨16,n,0,0,1⟩) l c):=(by show(16:Nat)∈ [16];simp)
theorem nu(l:List Nat):∀e∈cW l,ci e:=ci.ints l .i32 fun(n:Nat)=>(n:Int)
theorem Du(s:Bytes)(l i:Nat)(h:T)(b:ac)(a:cj b)(ag:h.get 16=some b):b5 0 26 (kA s l i) h (kA s l i) (T.rows 20 [(16,b)]) :=
 b5.drop (K:=20) (l:=[(16,b)]) (by simp [ag]) rfl rfl (by rfl) (by
  refine a7.cons trivial (a7.cons L' (a7.cons trivial a7.nil))) (by
  refine a7.cons (λe he=>(a e he).dh _) a7.nil)
theorem Ma(s:Bytes)(hs:s.length<2^40):∀(k i:Nat)(L:List Nat),s.length-i<=k->i<=s.length->1<=L.length->L.length<=i-> ∃ad,
 dl 0 26 (br 150 0) (kA s L.length i) (T.rows 20 [(16,jT L)]) (.exit 0) (kA s (L++dn (s.drop i)).length s.length) ad/\ad.get 16=some (jT (L++dn (s.drop i))):=by
 intro k;induction k with
 |zero =>
  intro i L o ah aa m;obtain⟨e,a,aa,b,rfl,rfl,rfl⟩:=yS s i (L.length-1) (hr L.length) L.length (cW L) (λe a aa=>e=.exit 0/\a=kA s L.length i/\aa=T.af 24 [(16,jT L)]) ⟨λh=> V,λ_=>⟨rfl,rfl,rfl⟩⟩;have:i=s.length:= V;subst this;rw [lO,va,fV];exact⟨_,bX.last an b,ar⟩
 |succ k ih =>
  intro i L o ah aa m;by_cases al:i<s.length
  .have f:s.drop i≠[]:=by rw [Ne,tA];omega
   have n:=rY f;rw [ep]at n
   obtain⟨e,a,h2,b,rfl,rfl,ag⟩:=yS s i (L.length-1) (hr L.length) L.length (cW L) (λe a h2=>e=.normal/\a=kA s (L.length+1) (i+(first (s.drop i)).2.1)/\h2.get 16=some (jT (L++[(first (s.drop i)).1]))) (by
    refine⟨λ_=>⟨⟨V,V⟩,⟨rfl,by rw [Dt];omega,V,V,V⟩,⟨V,V⟩,rfl,?_,?_⟩,λh=> V⟩
    .unfold kA;rw [show L.length+1-1=L.length-1+1 by omega];rfl
    .have aI:cW (L++[(first (s.drop i)).1])=cW L++[J.int .i32 ((first (s.drop i)).1:Int)]:=by simp [cW]
     have aO:(L++[(first (s.drop i)).1]).length-1=L.length-1+1:=by simp;omega
     have g:hr (L++[(first (s.drop i)).1]).length=if 0=L.length-1 then(cW L).length else min (hr L.length) (cW L).length:=by
      rw [Dt];unfold hr;simp only [dt,b',dx];by_cases cs:L.length=1
      .rw [ap V,aE V];omega
      .rw [ap V,ap V,ap cs];omega
     show some _=some (fl _ _ _)
     rw [aI,aO,g])
   obtain⟨ad,c,d⟩:=ih (i+(first (s.drop i)).2.1) (L++[(first (s.drop i)).1]) V V an (by simp;omega)
   have j:(L++[(first (s.drop i)).1])++dn (s.drop (i+(first (s.drop i)).2.1))=L++dn (s.drop i):=by rw [vb f,pj];simp
   rw [j]at c d;have l:(L++[(first (s.drop i)).1]).length=L.length+1:= an;rw [show kA s (L++[(first (s.drop i)).1]).length (i+(first (s.drop i)).2.1)=kA s (L.length+1) (i+(first (s.drop i)).2.1)by rw [l]]at c;exact⟨ad,bX.round b (Du s _ _ _ (jT (L++[(first (s.drop i)).1])) (nu _) ag) c,d⟩
  .obtain⟨e,a,aa,b,rfl,rfl,rfl⟩:=yS s i (L.length-1) (hr L.length) L.length (cW L) (λe a aa=>e=.exit 0/\a=kA s L.length i/\aa=T.af 24 [(16,jT L)]) ⟨λh=> V,λ_=>⟨rfl,rfl,rfl⟩⟩;have:i=s.length:= V;subst this;rw [lO,va,fV];exact⟨_,bX.last an b,ar⟩
theorem Mb(H:T):bu 150 [.str []] H (.slice none 0 0) H:=by refine bl.cm (Dp [] (.slice none 0 0) (.int .i64 0) (T.af 4 []) (λv _=>v=.slice none 0 0) ⟨?_,rfl⟩) rfl rfl H;refine cZ.dJ ?_;obtain⟨e,a,aa,b,rfl,rfl,rfl⟩:=Dn [] (λe a aa=>e=.exit 0/\a=[(0,J.str []),(3,J.slice none 0 0),(4,J.int .i64 0)]/\aa=T.af 4 []) ⟨λh=>by simp at h,λ_=>⟨rfl,rfl,rfl⟩⟩;exact(bX.last an b).pre (b5.drop (K:=0) (l:=[]) rfl aA aA (by rfl) (a7.cons trivial (a7.cons trivial (a7.cons trivial a7.nil))) a7.nil)
theorem Mc(s:Bytes)(hs:s.length<2^40)(aN:s≠[])(H:T):bu 150 [.str s] H (.slice (some ⟨H.Y,(dn s).length-1,0,0,1⟩) (dn s).length (dn s).length) (H.dO [] [jT (dn s)]):=by
 have c:=rY aN;have p:0<s.length:=fS.2 aN;have e0:List.drop 0 (List.take s.length s)=s:= an
 obtain⟨e,a,aa,o,rfl,rfl,k⟩:=Dn s (λe a aa=>e=.normal/\a=kA s 1 (first s).2.1/\aa.get 16=some (jT [(first s).1])) (by
  rw [e0]
  exact⟨λ_=>⟨⟨V,V⟩,rfl,by rw [show(0:Int)+((first s).2.1:Int)=(((first s).2.1:Nat):Int)by omega],rfl⟩,λh=> V⟩)
 obtain⟨ad,d,ag⟩:=Ma s hs s.length (first s).2.1 [(first s).1] V c.2 an (by simpa using c.1);rw [show [(first s).1]++dn (s.drop (first s).2.1)=dn s from(vb aN).symm]at d ag;have f:=(bX.round o (Du s 1 (first s).2.1 aa (jT [(first s).1]) (nu _) k) d).pre (b5.drop (h:=T.af 3 []) (K:=0) (l:=[]) rfl aA aA (by rfl) (a7.cons trivial (a7.cons trivial (a7.cons trivial a7.nil))) a7.nil);obtain⟨v,h2,i,rfl,m⟩:=Dp s (.slice (some ⟨16,(dn s).length-1,0,0,1⟩) (dn s).length (dn s).length) (.int .i64 (s.length:Nat)) ad (λv h2=>v=.slice (some ⟨16,(dn s).length-1,0,0,1⟩) (dn s).length (dn s).length/\h2.get 16=some (jT (dn s))) ⟨cZ.dJ f,rfl,ag⟩;exact bl.yj (l:=[]) (bn:=jT (dn s)) i (λb g=>by cases g) (nu _) rfl m an (by exact⟨trivial,trivial⟩) [] lN (λj n=>by cases n) rfl
abbrev jU(l:List J)(v f:Nat):ac:= {aQ:=l,es:=1,exact:=false,ro:=false,ab:=v,eb:=0,eS:=f,ty:=some (5,0)}
abbrev gK(b a:Nat):J:=J.slice (some ⟨0,b,0,0,1⟩) a a
abbrev vc:J:=J.slice (cX 68) 3 3
abbrev Md:ch:=(ag 21001 (ag 21005 (ag 6000 .nil)))
abbrev ht(c a:Nat)(b:List J):ac:=⟨b,1,false,false,c,0,a,some (21,0)⟩
abbrev yT:J:=J.agg [.int .u8 239,.int .u8 191,.int .u8 189,.int .u8 0]
abbrev vd(a:Nat)(b:List J):J:=J.agg [.int .u8 (cf .u8 (bz .i32 (aL b (0+Int.toNat (a:Int))) (6)) (192)),.int .u8 (cf .u8 (128) (be .i32 (aL b (0+Int.toNat (a:Int))) (63))),.int .u8 0,.int .u8 0]
abbrev ve(a:Nat)(b:List J):J:=J.agg [.int .u8 (cf .u8 (bz .i32 (bz .i32 (aL b (0+Int.toNat (a:Int))) (6)) (6)) (224)),.int .u8 (cf .u8 (128) (be .i32 (bz .i32 (aL b (0+Int.toNat (a:Int))) (6)) (63))),.int .u8 (cf .u8 (128) (be .i32 (aL b (0+Int.toNat (a:Int))) (63))),.int .u8 0]
abbrev p'(a:Nat)(b:List J):J:=J.agg [.int .u8 (cf .u8 (bz .i32 (bz .i32 (bz .i32 (aL b (0+Int.toNat (a:Int))) (6)) (6)) (6)) (240)),.int .u8 (cf .u8 (128) (be .i32 (bz .i32 (bz .i32 (aL b (0+Int.toNat (a:Int))) (6)) (6)) (63))),.int .u8 (cf .u8 (128) (be .i32 (bz .i32 (aL b (0+Int.toNat (a:Int))) (6)) (63))),.int .u8 (cf .u8 (128) (be .i32 (aL b (0+Int.toNat (a:Int))) (63)))]
abbrev qa:ac:=(ac.aj ([yT]) 4 true (some (95,4)))
abbrev Dv:ch:=(ag 19002 (ag 19003 (ag 20001 Md)))
abbrev Dw(b d c:Nat)(a:List J):T:=(T.af 34 [(0,(ht d c a)),(29,ac.aj [.int .u8 (aL a (0+Int.toNat (b:Int)))] 1 true),(30,ac.aj [.int .u8 (aL a (0+Int.toNat (b:Int)))] 1 false (some (5,0)))])
abbrev Dx(b d c:Nat)(a:List J):T:=(T.af 63 [(0,(ht d c a)),(31,(ac.aj ([(vd b a)]) 4 true (some (95,4)))),(59,ac.aj [.int .u8 (cf .u8 (bz .i32 (aL a (0+Int.toNat (b:Int))) (6)) (192)),.int .u8 (cf .u8 (128) (be .i32 (aL a (0+Int.toNat (b:Int))) (63)))] 1 false (some (5,0)))])
abbrev Dy(b d c:Nat)(a:List J):T:=(T.af 71 [(0,(ht d c a)),(32,(ac.aj ([(ve b a)]) 4 true (some (95,4)))),(67,ac.aj [.int .u8 (cf .u8 (bz .i32 (bz .i32 (aL a (0+Int.toNat (b:Int))) (6)) (6)) (224)),.int .u8 (cf .u8 (128) (be .i32 (bz .i32 (aL a (0+Int.toNat (b:Int))) (6)) (63))),.int .u8 (cf .u8 (128) (be .i32 (aL a (0+Int.toNat (b:Int))) (63)))] 1 false (some (5,0)))])
abbrev Dz(b d c:Nat)(a:List J):T:=(T.af 78 [(0,(ht d c a)),(32,(ac.aj ([(p' b a)]) 4 true (some (95,4)))),(74,ac.aj [.int .u8 (cf .u8 (bz .i32 (bz .i32 (bz .i32 (aL a (0+Int.toNat (b:Int))) (6)) (6)) (6)) (240)),.int .u8 (cf .u8 (128) (be .i32 (bz .i32 (bz .i32 (aL a (0+Int.toNat (b:Int))) (6)) (6)) (63))),.int .u8 (cf .u8 (128) (be .i32 (bz .i32 (aL a (0+Int.toNat (b:Int))) (6)) (63))),.int .u8 (cf .u8 (128) (be .i32 (aL a (0+Int.toNat (b:Int))) (63)))] 1 false (some (5,0)))])
abbrev DA(b d c:Nat)(a:List J):T:=(T.af 79 [(0,(ht d c a)),(33,(ac.aj ([(p' b a)]) 4 true (some (95,4)))),(75,ac.aj [.int .u8 (cf .u8 (bz .i32 (bz .i32 (bz .i32 (aL a (0+Int.toNat (b:Int))) (6)) (6)) (6)) (240)),.int .u8 (cf .u8 (128) (be .i32 (bz .i32 (bz .i32 (aL a (0+Int.toNat (b:Int))) (6)) (6)) (63))),.int .u8 (cf .u8 (128) (be .i32 (bz .i32 (aL a (0+Int.toNat (b:Int))) (6)) (63))),.int .u8 (cf .u8 (128) (be .i32 (aL a (0+Int.toNat (b:Int))) (63)))] 1 false (some (5,0)))])
abbrev DB:ch:=(ag 17003 (ag 18001 (ag 19001 Dv)))
abbrev vf(c a:Nat)(b:List J):T:=(T.af 72 [(0,(ht c a b)),(33,qa),(68,ac.aj [.int .u8 239,.int .u8 191,.int .u8 189] 1 false (some (5,0)))])
abbrev yU(a d f c:Nat)(b:List J)(e:bW->a8->T->Prop):Prop:=(aL b (0+Int.toNat (a:Int))<128->(0<=aL b (0+Int.toNat (a:Int))/\aL b (0+Int.toNat (a:Int))<=255)/\(-9223372036854775808<=(a:Int)+1/\(a:Int)+1<=9223372036854775807)/\e .normal [(3,.slice (cX 30) 1 1),(6,(gK d c)),(7,.int .i64 (c:Int)),(8,.int .i64 ((a:Int)+1))] (Dw a d f b))
abbrev yV(a d f c:Nat)(b:List J)(e:bW->a8->T->Prop):Prop:=(¬65536<=aL b (0+Int.toNat (a:Int))->True/\(0<=be .i32 (aL b (0+Int.toNat (a:Int))) (63)/\be .i32 (aL b (0+Int.toNat (a:Int))) (63)<=255)/\True/\Int.NonNeg (6-0)/\(0<=bz .i32 (aL b (0+Int.toNat (a:Int))) (6)/\bz .i32 (aL b (0+Int.toNat (a:Int))) (6)<=255)/\True/\(-9223372036854775808<=(a:Int)+1/\(a:Int)+1<=9223372036854775807)/\e .normal [(3,.slice (cX 59) 2 2),(6,(gK d c)),(7,.int .i64 (c:Int)),(8,.int .i64 ((a:Int)+1))] (Dx a d f b))
abbrev yW(a d f c:Nat)(b:List J)(e:bW->a8->T->Prop):Prop:=(¬65536<=aL b (0+Int.toNat (a:Int))->True/\(0<=be .i32 (aL b (0+Int.toNat (a:Int))) (63)/\be .i32 (aL b (0+Int.toNat (a:Int))) (63)<=255)/\True/\Int.NonNeg (6-0)/\True/\(0<=be .i32 (bz .i32 (aL b (0+Int.toNat (a:Int))) (6)) (63)/\be .i32 (bz .i32 (aL b (0+Int.toNat (a:Int))) (6)) (63)<=255)/\True/\Int.NonNeg (6-0)/\(0<=bz .i32 (bz .i32 (aL b (0+Int.toNat (a:Int))) (6)) (6)/\bz .i32 (bz .i32 (aL b (0+Int.toNat (a:Int))) (6)) (6)<=255)/\True/\(-9223372036854775808<=(a:Int)+1/\(a:Int)+1<=9223372036854775807)/\e .normal [(3,.slice (cX 67) 3 3),(6,(gK d c)),(7,.int .i64 (c:Int)),(8,.int .i64 ((a:Int)+1))] (Dy a d f b))
abbrev yX(a d f c:Nat)(b:List J)(e:bW->a8->T->Prop):Prop:=(65536<=aL b (0+Int.toNat (a:Int))->True/\(0<=be .i32 (aL b (0+Int.toNat (a:Int))) (63)/\be .i32 (aL b (0+Int.toNat (a:Int))) (63)<=255)/\True/\Int.NonNeg (6-0)/\True/\(0<=be .i32 (bz .i32 (aL b (0+Int.toNat (a:Int))) (6)) (63)/\be .i32 (bz .i32 (aL b (0+Int.toNat (a:Int))) (6)) (63)<=255)/\True/\Int.NonNeg (6-0)/\True/\(0<=be .i32 (bz .i32 (bz .i32 (aL b (0+Int.toNat (a:Int))) (6)) (6)) (63)/\be .i32 (bz .i32 (bz .i32 (aL b (0+Int.toNat (a:Int))) (6)) (6)) (63)<=255)/\True/\Int.NonNeg (6-0)/\(0<=bz .i32 (bz .i32 (bz .i32 (aL b (0+Int.toNat (a:Int))) (6)) (6)) (6)/\bz .i32 (bz .i32 (bz .i32 (aL b (0+Int.toNat (a:Int))) (6)) (6)) (6)<=255)/\True/\(-9223372036854775808<=(a:Int)+1/\(a:Int)+1<=9223372036854775807)/\e .normal [(3,.slice (cX 74) 4 4),(6,(gK d c)),(7,.int .i64 (c:Int)),(8,.int .i64 ((a:Int)+1))] (Dz a d f b))
abbrev yY(a d f c:Nat)(b:List J)(e:bW->a8->T->Prop):Prop:=(65536<=aL b (0+Int.toNat (a:Int))->True/\(0<=be .i32 (aL b (0+Int.toNat (a:Int))) (63)/\be .i32 (aL b (0+Int.toNat (a:Int))) (63)<=255)/\True/\Int.NonNeg (6-0)/\True/\(0<=be .i32 (bz .i32 (aL b (0+Int.toNat (a:Int))) (6)) (63)/\be .i32 (bz .i32 (aL b (0+Int.toNat (a:Int))) (6)) (63)<=255)/\True/\Int.NonNeg (6-0)/\True/\(0<=be .i32 (bz .i32 (bz .i32 (aL b (0+Int.toNat (a:Int))) (6)) (6)) (63)/\be .i32 (bz .i32 (bz .i32 (aL b (0+Int.toNat (a:Int))) (6)) (6)) (63)<=255)/\True/\Int.NonNeg (6-0)/\(0<=bz .i32 (bz .i32 (bz .i32 (aL b (0+Int.toNat (a:Int))) (6)) (6)) (6)/\bz .i32 (bz .i32 (bz .i32 (aL b (0+Int.toNat (a:Int))) (6)) (6)) (6)<=255)/\True/\(-9223372036854775808<=(a:Int)+1/\(a:Int)+1<=9223372036854775807)/\e .normal [(3,.slice (cX 75) 4 4),(6,(gK d c)),(7,.int .i64 (c:Int)),(8,.int .i64 ((a:Int)+1))] (DA a d f b))
abbrev Me:ch:=(ag 16001 (ag 17001 (ag 17002 DB)))
abbrev yZ(a d f c:Nat)(b:List J)(e:bW->a8->T->Prop):Prop:=(1114111<aL b (0+Int.toNat (a:Int))->(-9223372036854775808<=(a:Int)+1/\(a:Int)+1<=9223372036854775807)/\e .normal [(3,vc),(6,(gK d c)),(7,.int .i64 (c:Int)),(8,.int .i64 ((a:Int)+1))] (vf d f b))
abbrev DC:ch:=(ag 15001 (ag 15002 (ag 15003 Me)))
abbrev DD:ch:=(.aq 6001 (.aq 8001 DC (ag 17001 (ag 17002 DB))) (.aq 8001 DC (ag 19001 Dv)))
theorem Mf(a d g c:Nat)(b:List J)(f:bW->a8->T->Prop)(i:((a:Int)<(c:Int)->(0<=(a:Int)/\(a:Int)<(c:Int))/\d=d/\b[0+Int.toNat (a:Int)]? =some (.int .i32 (aL b (0+Int.toNat (a:Int))))/\(aL b (0+Int.toNat (a:Int))<0->(-9223372036854775808<=(a:Int)+1/\(a:Int)+1<=9223372036854775807)/\f .normal [(3,vc),(6,(gK d c)),(7,.int .i64 (c:Int)),(8,.int .i64 ((a:Int)+1))] (vf d g b))/\(¬aL b (0+Int.toNat (a:Int))<0->(55296<=aL b (0+Int.toNat (a:Int))->(aL b (0+Int.toNat (a:Int))<=57343->(-9223372036854775808<=(a:Int)+1/\(a:Int)+1<=9223372036854775807)/\f .normal [(3,vc),(6,(gK d c)),(7,.int .i64 (c:Int)),(8,.int .i64 ((a:Int)+1))] (vf d g b))/\(¬aL b (0+Int.toNat (a:Int))<=57343->(yZ a d g c b f)/\(¬1114111<aL b (0+Int.toNat (a:Int))->(yU a d g c b f)/\(¬aL b (0+Int.toNat (a:Int))<128->(2048<=aL b (0+Int.toNat (a:Int))->(yY a d g c b f)/\(yW a d g c b f))/\(¬2048<=aL b (0+Int.toNat (a:Int))->(yX a d g c b f)/\(yV a d g c b f))))))/\(¬55296<=aL b (0+Int.toNat (a:Int))->(yZ a d g c b f)/\(¬1114111<aL b (0+Int.toNat (a:Int))->(yU a d g c b f)/\(¬aL b (0+Int.toNat (a:Int))<128->(2048<=aL b (0+Int.toNat (a:Int))->(yY a d g c b f)/\(yW a d g c b f))/\(¬2048<=aL b (0+Int.toNat (a:Int))->(yX a d g c b f)/\(yV a d g c b f)))))))/\(¬(a:Int)<(c:Int)->f (.exit 0) [(3,.slice none 0 0),(6,(gK d c)),(7,.int .i64 (c:Int)),(8,.int .i64 (a:Int))] (T.af 2 [(0,(ht d g b))]))) :
 ∃e h aa,bR 1 18 (br 51 0) [(3,.slice none 0 0),(6,.slice (some ⟨0,d,0,0,1⟩) c c),(7,.int .i64 c),(8,.int .i64 a)] (T.rows 1 [(0,fl b d g)]) e h aa/\f e h aa :=
 di cP mixed dP (hs:= .aq 3000 (ag 4000 (ag 4001 (he 5002 (.aq 1001 (.skip 6000 (ag 6000 .nil)) (.aq 1004 (.aq 1007 (.skip 6000 (ag 6000 .nil)) (.aq 1012 (.skip 6000 (ag 6000 .nil)) (.aq 3001 (ag 4002 (ag 6000 .nil)) DD))) (.aq 1012 (.skip 6000 (ag 6000 .nil)) (.aq 3001 (ag 4002 (ag 6000 .nil)) DD))))))) .nil) (keep:=[3,6,7,8]) ar i
abbrev Mg:ch:=(ag 21005 (ag 22003 (ag 6000 .nil)))
abbrev rZ(b a:Nat):J:=J.slice (some {id:=50,ab:=b+1,idx:=0,fld:=0,es:=1}) (a+3) (a+3)
abbrev y0(b a:Nat):J:=J.slice (some {id:=50,ab:=b+1,idx:=0,fld:=0,es:=1}) (a+4) (a+4)
abbrev DE(d b c:Nat)(e a:List J):ac:=⟨a++[.int .u8 (aL e (0+Int.toNat (d:Int)))],1,false,false,b+1,0,if 0=b then List.length a else min c (List.length a),some (5,0)⟩
abbrev vg(b c:Nat)(a:List J):ac:=⟨a++[.int .u8 239,.int .u8 191,.int .u8 189],1,false,false,b+1,0,if 0=b then List.length a else min c (List.length a),some (5,0)⟩
abbrev DF(b d e:Nat)(c a:List J):ac:=⟨a++[.int .u8 (cf .u8 (bz .i32 (aL c (0+Int.toNat (b:Int))) (6)) (192)),.int .u8 (cf .u8 (128) (be .i32 (aL c (0+Int.toNat (b:Int))) (63)))],1,false,false,d+1,0,if 0=d then List.length a else min e (List.length a),some (5,0)⟩
abbrev DG(a d e:Nat)(b c:List J):ac:=⟨c++[.int .u8 (cf .u8 (bz .i32 (bz .i32 (aL b (0+Int.toNat (a:Int))) (6)) (6)) (224)),.int .u8 (cf .u8 (128) (be .i32 (bz .i32 (aL b (0+Int.toNat (a:Int))) (6)) (63))),.int .u8 (cf .u8 (128) (be .i32 (aL b (0+Int.toNat (a:Int))) (63)))],1,false,false,d+1,0,if 0=d then List.length c else min e (List.length c),some (5,0)⟩
abbrev y1(a d e:Nat)(b c:List J):ac:=⟨c++[.int .u8 (cf .u8 (bz .i32 (bz .i32 (bz .i32 (aL b (0+Int.toNat (a:Int))) (6)) (6)) (6)) (240)),.int .u8 (cf .u8 (128) (be .i32 (bz .i32 (bz .i32 (aL b (0+Int.toNat (a:Int))) (6)) (6)) (63))),.int .u8 (cf .u8 (128) (be .i32 (bz .i32 (aL b (0+Int.toNat (a:Int))) (6)) (63))),.int .u8 (cf .u8 (128) (be .i32 (aL b (0+Int.toNat (a:Int))) (63)))],1,false,false,d+1,0,if 0=d then List.length c else min e (List.length c),some (5,0)⟩
abbrev DH:ch:=(ag 19003 (ag 20001 (ag 21001 Mg)))
abbrev y2(a g i f d j b:Nat)(c e:List J)(h:bW->a8->T->Prop):Prop:=(aL c (0+Int.toNat (a:Int))<128->(0<=aL c (0+Int.toNat (a:Int))/\aL c (0+Int.toNat (a:Int))<=255)/\(d=d/\0+b=List.length e/\b<b+1/\(b+1+(b+1)/4+512)*1<=281474976710656/\b+1<4611686018427387904)/\(-9223372036854775808<=(a:Int)+1/\(a:Int)+1<=9223372036854775807)/\h .normal [(3,.slice (some {id:=50,ab:=d+1,idx:=0,fld:=0,es:=1}) (b+1) (b+1)),(6,(gK g f)),(7,.int .i64 (f:Int)),(8,.int .i64 ((a:Int)+1))] (T.af 93 [(0,(ht g i c)),(50,(DE a d j c e)),(88,ac.aj [.int .u8 (aL c (0+Int.toNat (a:Int)))] 1 true)]))
abbrev y3(a g i f d j c:Nat)(b e:List J)(h:bW->a8->T->Prop):Prop:=(¬65536<=aL b (0+Int.toNat (a:Int))->True/\(0<=be .i32 (aL b (0+Int.toNat (a:Int))) (63)/\be .i32 (aL b (0+Int.toNat (a:Int))) (63)<=255)/\True/\Int.NonNeg (6-0)/\(0<=bz .i32 (aL b (0+Int.toNat (a:Int))) (6)/\bz .i32 (aL b (0+Int.toNat (a:Int))) (6)<=255)/\True/\(d=d/\0+c=List.length e/\c<c+2/\(c+2+(c+2)/4+512)*1<=281474976710656/\c+2<4611686018427387904)/\(-9223372036854775808<=(a:Int)+1/\(a:Int)+1<=9223372036854775807)/\h .normal [(3,.slice (some {id:=50,ab:=d+1,idx:=0,fld:=0,es:=1}) (c+2) (c+2)),(6,(gK g f)),(7,.int .i64 (f:Int)),(8,.int .i64 ((a:Int)+1))] (T.af 122 [(0,(ht g i b)),(50,(DF a d j b e)),(90,(ac.aj ([(vd a b)]) 4 true (some (95,4))))]))
abbrev y4(a g i f d j c:Nat)(b e:List J)(h:bW->a8->T->Prop):Prop:=(¬65536<=aL b (0+Int.toNat (a:Int))->True/\(0<=be .i32 (aL b (0+Int.toNat (a:Int))) (63)/\be .i32 (aL b (0+Int.toNat (a:Int))) (63)<=255)/\True/\Int.NonNeg (6-0)/\True/\(0<=be .i32 (bz .i32 (aL b (0+Int.toNat (a:Int))) (6)) (63)/\be .i32 (bz .i32 (aL b (0+Int.toNat (a:Int))) (6)) (63)<=255)/\True/\Int.NonNeg (6-0)/\(0<=bz .i32 (bz .i32 (aL b (0+Int.toNat (a:Int))) (6)) (6)/\bz .i32 (bz .i32 (aL b (0+Int.toNat (a:Int))) (6)) (6)<=255)/\True/\(d=d/\0+c=List.length e/\c<c+3/\(c+3+(c+3)/4+512)*1<=281474976710656/\c+3<4611686018427387904)/\(-9223372036854775808<=(a:Int)+1/\(a:Int)+1<=9223372036854775807)/\h .normal [(3,(rZ d c)),(6,(gK g f)),(7,.int .i64 (f:Int)),(8,.int .i64 ((a:Int)+1))] (T.af 130 [(0,(ht g i b)),(50,(DG a d j b e)),(91,(ac.aj ([(ve a b)]) 4 true (some (95,4))))]))
abbrev y5(a g i f d j c:Nat)(b e:List J)(h:bW->a8->T->Prop):Prop:=(65536<=aL b (0+Int.toNat (a:Int))->True/\(0<=be .i32 (aL b (0+Int.toNat (a:Int))) (63)/\be .i32 (aL b (0+Int.toNat (a:Int))) (63)<=255)/\True/\Int.NonNeg (6-0)/\True/\(0<=be .i32 (bz .i32 (aL b (0+Int.toNat (a:Int))) (6)) (63)/\be .i32 (bz .i32 (aL b (0+Int.toNat (a:Int))) (6)) (63)<=255)/\True/\Int.NonNeg (6-0)/\True/\(0<=be .i32 (bz .i32 (bz .i32 (aL b (0+Int.toNat (a:Int))) (6)) (6)) (63)/\be .i32 (bz .i32 (bz .i32 (aL b (0+Int.toNat (a:Int))) (6)) (6)) (63)<=255)/\True/\Int.NonNeg (6-0)/\(0<=bz .i32 (bz .i32 (bz .i32 (aL b (0+Int.toNat (a:Int))) (6)) (6)) (6)/\bz .i32 (bz .i32 (bz .i32 (aL b (0+Int.toNat (a:Int))) (6)) (6)) (6)<=255)/\True/\(d=d/\0+c=List.length e/\c<c+4/\(c+4+(c+4)/4+512)*1<=281474976710656/\c+4<4611686018427387904)/\(-9223372036854775808<=(a:Int)+1/\(a:Int)+1<=9223372036854775807)/\h .normal [(3,(y0 d c)),(6,(gK g f)),(7,.int .i64 (f:Int)),(8,.int .i64 ((a:Int)+1))] (T.af 137 [(0,(ht g i b)),(50,(y1 a d j b e)),(91,(ac.aj ([(p' a b)]) 4 true (some (95,4))))]))
abbrev y6(a g i f d j c:Nat)(b e:List J)(h:bW->a8->T->Prop):Prop:=(65536<=aL b (0+Int.toNat (a:Int))->True/\(0<=be .i32 (aL b (0+Int.toNat (a:Int))) (63)/\be .i32 (aL b (0+Int.toNat (a:Int))) (63)<=255)/\True/\Int.NonNeg (6-0)/\True/\(0<=be .i32 (bz .i32 (aL b (0+Int.toNat (a:Int))) (6)) (63)/\be .i32 (bz .i32 (aL b (0+Int.toNat (a:Int))) (6)) (63)<=255)/\True/\Int.NonNeg (6-0)/\True/\(0<=be .i32 (bz .i32 (bz .i32 (aL b (0+Int.toNat (a:Int))) (6)) (6)) (63)/\be .i32 (bz .i32 (bz .i32 (aL b (0+Int.toNat (a:Int))) (6)) (6)) (63)<=255)/\True/\Int.NonNeg (6-0)/\(0<=bz .i32 (bz .i32 (bz .i32 (aL b (0+Int.toNat (a:Int))) (6)) (6)) (6)/\bz .i32 (bz .i32 (bz .i32 (aL b (0+Int.toNat (a:Int))) (6)) (6)) (6)<=255)/\True/\(d=d/\0+c=List.length e/\c<c+4/\(c+4+(c+4)/4+512)*1<=281474976710656/\c+4<4611686018427387904)/\(-9223372036854775808<=(a:Int)+1/\(a:Int)+1<=9223372036854775807)/\h .normal [(3,(y0 d c)),(6,(gK g f)),(7,.int .i64 (f:Int)),(8,.int .i64 ((a:Int)+1))] (T.af 138 [(0,(ht g i b)),(50,(y1 a d j b e)),(92,(ac.aj ([(p' a b)]) 4 true (some (95,4))))]))
abbrev Mh:ch:=(ag 18001 (ag 19001 (ag 19002 DH)))
abbrev y7(b g i f c j a:Nat)(d e:List J)(h:bW->a8->T->Prop):Prop:=(1114111<aL d (0+Int.toNat (b:Int))->(c=c/\0+a=List.length e/\a<a+3/\(a+3+(a+3)/4+512)*1<=281474976710656/\a+3<4611686018427387904)/\(-9223372036854775808<=(b:Int)+1/\(b:Int)+1<=9223372036854775807)/\h .normal [(3,(rZ c a)),(6,(gK g f)),(7,.int .i64 (f:Int)),(8,.int .i64 ((b:Int)+1))] (T.af 131 [(0,(ht g i d)),(50,(vg c j e)),(92,qa)]))
abbrev DI:ch:=(ag 17001 (ag 17002 (ag 17003 Mh)))
abbrev DJ:ch:=(ag 15002 (ag 15003 (ag 16001 DI)))
abbrev DK:ch:=(.aq 6001 (.aq 8001 (ag 15001 DJ) DI) (.aq 8001 (ag 15001 DJ) (ag 19001 (ag 19002 DH))))
theorem DL(a g j d f k c:Nat)(b h:List J)(i:bW->a8->T->Prop)(m:((a:Int)<(d:Int)->(0<=(a:Int)/\(a:Int)<(d:Int))/\g=g/\b[0+Int.toNat (a:Int)]? =some (.int .i32 (aL b (0+Int.toNat (a:Int))))/\(aL b (0+Int.toNat (a:Int))<0->(f=f/\0+c=h.length/\c<c+3/\(c+3+(c+3)/4+512)*1<=281474976710656/\c+3<4611686018427387904)/\(-9223372036854775808<=(a:Int)+1/\(a:Int)+1<=9223372036854775807)/\i .normal [(3,(rZ f c)),(6,(gK g d)),(7,.int .i64 (d:Int)),(8,.int .i64 ((a:Int)+1))] (T.af 131 [(0,(ht g j b)),(50,(vg f k h)),(92,qa)]))/\(¬aL b (0+Int.toNat (a:Int))<0->(55296<=aL b (0+Int.toNat (a:Int))->(aL b (0+Int.toNat (a:Int))<=57343->(f=f/\0+c=h.length/\c<c+3/\(c+3+(c+3)/4+512)*1<=281474976710656/\c+3<4611686018427387904)/\(-9223372036854775808<=(a:Int)+1/\(a:Int)+1<=9223372036854775807)/\i .normal [(3,(rZ f c)),(6,(gK g d)),(7,.int .i64 (d:Int)),(8,.int .i64 ((a:Int)+1))] (T.af 131 [(0,(ht g j b)),(50,(vg f k h)),(92,qa)]))/\(¬aL b (0+Int.toNat (a:Int))<=57343->(y7 a g j d f k c b h i)/\(¬1114111<aL b (0+Int.toNat (a:Int))->(y2 a g j d f k c b h i)/\(¬aL b (0+Int.toNat (a:Int))<128->(2048<=aL b (0+Int.toNat (a:Int))->(y6 a g j d f k c b h i)/\(y4 a g j d f k c b h i))/\(¬2048<=aL b (0+Int.toNat (a:Int))->(y5 a g j d f k c b h i)/\(y3 a g j d f k c b h i))))))/\(¬55296<=aL b (0+Int.toNat (a:Int))->(y7 a g j d f k c b h i)/\(¬1114111<aL b (0+Int.toNat (a:Int))->(y2 a g j d f k c b h i)/\(¬aL b (0+Int.toNat (a:Int))<128->(2048<=aL b (0+Int.toNat (a:Int))->(y6 a g j d f k c b h i)/\(y4 a g j d f k c b h i))/\(¬2048<=aL b (0+Int.toNat (a:Int))->(y5 a g j d f k c b h i)/\(y3 a g j d f k c b h i)))))))/\(¬(a:Int)<(d:Int)->i (.exit 0) [(3,.slice (some ⟨50,f,0,0,1⟩) c c),(6,(gK g d)),(7,.int .i64 (d:Int)),(8,.int .i64 (a:Int))] (T.af 61 [(0,(ht g j b)),(50,⟨h,1,false,false,f,0,k,some (5,0)⟩)]))) :
 ∃e l aa,bR 1 18 (br 51 0) [(3,.slice (some ⟨50,f,0,0,1⟩) c c),(6,.slice (some ⟨0,g,0,0,1⟩) d d),(7,.int .i64 d),(8,.int .i64 a)] (T.rows 60 [(0,fl b g j),(50,jU h f k)]) e l aa/\i e l aa :=
 di cP mixed dP (hs:= .aq 3000 (ag 4000 (ag 4001 (he 5002 (.aq 1001 (ag 22003 (ag 6000 .nil)) (.aq 1004 (.aq 1007 (ag 22003 (ag 6000 .nil)) (.aq 1012 (ag 22003 (ag 6000 .nil)) (.aq 3001 (ag 4002 (ag 4004 (ag 6000 .nil))) DK))) (.aq 1012 (ag 22003 (ag 6000 .nil)) (.aq 3001 (ag 4002 (ag 4004 (ag 6000 .nil))) DK))))))) .nil) (keep:=[3,6,7,8]) ar m
end Go.Proofs.YtddnafghiejcoaaGreatDoor
namespace Go.bh
theorem l7(x:Nat)(h:x<2^31):be .i32 (x:Int) 63=((x%64:Nat):Int):=by
 unfold be;rw [BitVec.toNat_and]
 have a:(BitVec.ofInt IntKind.i32.bits (x:Int)).toNat=x:=by show(BitVec.ofInt 32 (x:Int)).toNat=x;rw [BitVec.toNat_ofInt];omega
 have b:(BitVec.ofInt IntKind.i32.bits 63).toNat=63:= aA;rw [a,b,show x &&& 63=x%64 from tB x 6];exact lX (k:= .i32) (by simp only [jM];omega)
theorem ia(x:Nat):bz .i32 (x:Int) 6=((x/64:Nat):Int):=by unfold bz;show Int.fdiv (x:Int) 64=_;rw [Int.fdiv_eq_ediv_of_nonneg _ aA];rfl
theorem qb:∀m:Fin 64,cf .u8 128 (m.val:Int)=((128+m.val:Nat):Int):=by decide+kernel
theorem Mi:∀m:Fin 32,cf .u8 (m.val:Int) 192=((192+m.val:Nat):Int):=by decide+kernel
theorem Mj:∀m:Fin 16,cf .u8 (m.val:Int) 224=((224+m.val:Nat):Int):=by decide+kernel
theorem Mk:∀m:Fin 8,cf .u8 (m.val:Int) 240=((240+m.val:Nat):Int):=by decide+kernel
end Go.bh
namespace Go.Proofs.YtddnafghiejcoaaGreatDoor
open Go.bh Go.Keys
set_option maxRecDepth 1000000
theorem ld{n:Nat}(h:n<256):((u8 n).toNat:Int)=n:=by
 have:(u8 n).toNat=n%256:=by unfold u8;simp [po]
 rw [this];omega
theorem vh{x:Nat}(h:¬(55296<=x/\x<=57343\/1114111<x)):put x=if x<128 then [u8 x]else if x<2048 then [u8 (192+x/64),u8 (128+x%64)]else if x<65536 then [u8 (224+x/4096),u8 (128+x/64%64),u8 (128+x%64)]else [u8 (240+x/262144),u8 (128+x/4096%64),u8 (128+x/64%64),u8 (128+x%64)]:=by unfold put;simp only [ap h]
theorem l8{x:Nat}(h:x<128): [J.int .u8 (x:Int)]=aG (put x):=by rw [vh V,aE h];simp only [aG,eF,jE,ld (show x<256 by omega)]
theorem qc{x:Nat}(h:128<=x)(h2:x<2048): [J.int .u8 (cf .u8 (bz .i32 (x:Int) 6) 192),J.int .u8 (cf .u8 128 (be .i32 (x:Int) 63))]=aG (put x):=by rw [vh V,ap V,aE h2];simp only [aG,eF,jE,ld (show 192+x/64<256 by omega),ld (show 128+x%64<256 by omega)];rw [l7 x V,ia,Mi ⟨x/64,V⟩,qb ⟨x%64,V⟩]
theorem qd{x:Nat}(h:2048<=x)(h2:x<65536)(a:¬(55296<=x/\x<=57343)): [J.int .u8 (cf .u8 (bz .i32 (bz .i32 (x:Int) 6) 6) 224),J.int .u8 (cf .u8 128 (be .i32 (bz .i32 (x:Int) 6) 63)),J.int .u8 (cf .u8 128 (be .i32 (x:Int) 63))]=aG (put x):=by rw [vh V,ap V,ap V,aE h2];simp only [aG,eF,jE,ld (show 224+x/4096<256 by omega),ld (show 128+x/64%64<256 by omega),ld (show 128+x%64<256 by omega)];rw [l7 x V,ia,ia,l7 (x/64) V,Mj ⟨x/64/64,V⟩,qb ⟨x%64,V⟩,qb ⟨x/64%64,V⟩];simp only [show x/64/64=x/4096 by omega]
theorem qe{x:Nat}(h:65536<=x)(h2:x<=1114111): [J.int .u8 (cf .u8 (bz .i32 (bz .i32 (bz .i32 (x:Int) 6) 6) 6) 240),J.int .u8 (cf .u8 128 (be .i32 (bz .i32 (bz .i32 (x:Int) 6) 6) 63)),J.int .u8 (cf .u8 128 (be .i32 (bz .i32 (x:Int) 6) 63)),J.int .u8 (cf .u8 128 (be .i32 (x:Int) 63))]=aG (put x):=by rw [vh V,ap V,ap V,ap V];simp only [aG,eF,jE,ld (show 240+x/262144<256 by omega),ld (show 128+x/4096%64<256 by omega),ld (show 128+x/64%64<256 by omega),ld (show 128+x%64<256 by omega)];rw [l7 x V,ia,ia,ia,l7 (x/64) V,l7 (x/64/64) V,Mk ⟨x/64/64/64,V⟩,qb ⟨x%64,V⟩,qb ⟨x/64%64,V⟩,qb ⟨x/64/64%64,V⟩];simp only [show x/64/64=x/4096 by omega,show x/4096/64=x/262144 by omega]
theorem DM{x:Nat}(h:(55296<=x/\x<=57343)\/1114111<x): [J.int .u8 239,J.int .u8 191,J.int .u8 189]=aG (put x):=by unfold put;simp only;rw [aE h];rfl
theorem vi{x:Nat}(h:x<2^31):0<=be .i32 (x:Int) 63/\be .i32 (x:Int) 63<=255:=by rw [l7 x h];omega
theorem vj{x:Nat}(h:x<2^31):0<=be .i32 (bz .i32 (x:Int) 6) 63/\be .i32 (bz .i32 (x:Int) 6) 63<=255:=by rw [ia,l7 _ V];omega
theorem vk{x:Nat}(h:x<2^31):0<=be .i32 (bz .i32 (bz .i32 (x:Int) 6) 6) 63/\be .i32 (bz .i32 (bz .i32 (x:Int) 6) 6) 63<=255:=by rw [ia,ia,l7 _ V];omega
theorem vl{x:Nat}(h:x<2048):0<=bz .i32 (x:Int) 6/\bz .i32 (x:Int) 6<=255:=by rw [ia];omega
theorem vm{x:Nat}(h:x<65536):0<=bz .i32 (bz .i32 (x:Int) 6) 6/\bz .i32 (bz .i32 (x:Int) 6) 6<=255:=by rw [ia,ia];omega
theorem vn{x:Nat}(h:x<=1114111):0<=bz .i32 (bz .i32 (bz .i32 (x:Int) 6) 6) 6/\bz .i32 (bz .i32 (bz .i32 (x:Int) 6) 6) 6<=255:=by rw [ia,ia,ia];omega
theorem y8{L:List Nat}{i:Nat}(h:i<L.length):(cW L)[i]? =some (.int .i32 (L[i]:Nat)):=by simp [cW,h]
theorem DN{L:List Nat}{i:Nat}(h:i<L.length):aL (cW L) i=(L[i]:Nat):=by unfold aL;rw [y8 h]
theorem e1(l:Bytes):(aG l).length=l.length:=by simp [aG]
theorem Ml(a b:Bytes):aG (a++b)=aG a++aG b:=by simp [aG]
abbrev kB(v n i v2 n2 j:Nat):a8:=[(3,.slice (some ⟨j,v2,0,0,1⟩) n2 n2),(6,.slice (some ⟨0,v,0,0,1⟩) n n),(7,.int .i64 (n:Nat)),(8,.int .i64 (i:Nat))]
def r0(v f n i v2:Nat)(R:ac)(acc:Bytes)(x b:Nat)(e:bW)(a:a8)(aa:T):Prop :=
 ∃j,1<=j/\e=.normal/\a=kB v n (i+1) v2 (acc.length+(put x).length) j/\aa.get 0=some R/\aa.get j=some (jU (aG (acc++put x)) v2 b)
theorem lf{v f n i v2 x a j n2:Nat}{R:ac}{acc:Bytes}{aU:List J}{aa:T}{i1:Int}(b:aU=aG (put x))(c:1<=j)(d:n2=acc.length+aU.length)(ah:i1=((i+1:Nat):Int))(aN:aa.get 0=some R)(ag:aa.get j=some (jU (aG acc++aU) v2 a)) :
 r0 v f n i v2 R acc x a .normal [(3,.slice (some ⟨j,v2,0,0,1⟩) n2 n2),(6,.slice (some ⟨0,v,0,0,1⟩) n n),(7,.int .i64 (n:Nat)),(8,.int .i64 i1)] aa:=by
 subst b ah d;rw [e1];exact⟨j,c,rfl,rfl,aN,by rw [Ml];exact ag⟩
theorem Mm(L:List Nat)(v f i:Nat)(ah:i<L.length)(d:L.length<2^41)(a:L[i]<2^31):∃e c aa,bR 1 18 (br 51 0) [(3,.slice none 0 0),(6,.slice (some ⟨0,v,0,0,1⟩) L.length L.length),(7,.int .i64 L.length),(8,.int .i64 i)] (T.rows 1 [(0,fl (cW L) v f)]) e c aa/\r0 v f L.length i 0 (fl (cW L) v f) [] L[i] 0 e c aa:=by
 refine Mf i v f L.length (cW L) (r0 v f L.length i 0 (fl (cW L) v f) [] L[i] 0) ?_
 delta ht gK yV Dx vd yX Dz p' yW Dy ve yY DA yU Dw yZ vf qa yT vc
 rw [show 0+Int.toNat (i:Int)=i by simp,DN ah,y8 ah];generalize L[i]=x at a;have b:((i:Int)+1)=((i+1:Nat):Int):= V;refine⟨λ_=>⟨⟨V,V⟩,rfl,rfl,?_⟩,λh=> V⟩
 repeat' (first|exact True.intro|apply And.intro|intro _)
 all_goals first
  |omega
  |(exfalso;omega)
  |exact gn
  |exact(vi a).1|exact(vi a).2|exact(vj a).1|exact(vj a).2|exact(vk a).1|exact(vk a).2
  |exact(vl V).1|exact(vl V).2|exact(vm V).1|exact(vm V).2|exact(vn V).1|exact(vn V).2
  |exact lf (acc:=[]) (l8 V) aA rfl b rfl rfl
  |exact lf (acc:=[]) (qc V V) aA rfl b rfl rfl
  |exact lf (acc:=[]) (DM V) aA rfl b rfl rfl
  |exact lf (acc:=[]) (qd V V V) aA rfl b rfl rfl
  |exact lf (acc:=[]) (qe V V) aA rfl b rfl rfl
theorem Mn(L:List Nat)(acc:Bytes)(v f i v2 f2:Nat)(ah:i<L.length)(g:L.length<2^41)(d:acc.length<2^44)(a:L[i]<2^31):∃e c aa,bR 1 18 (br 51 0) (kB v L.length i v2 acc.length 50) (T.rows 60 [(0,fl (cW L) v f),(50,jU (aG acc) v2 f2)]) e c aa /\
 r0 v f L.length i (v2+1) (fl (cW L) v f) acc L[i] (if 0=v2 then(aG acc).length else min f2 (aG acc).length) e c aa:=by
 refine DL i v f L.length v2 f2 acc.length (cW L) (aG acc) (r0 v f L.length i (v2+1) (fl (cW L) v f) acc L[i] (if 0=v2 then(aG acc).length else min f2 (aG acc).length)) ?_
 delta ht gK y3 vd DF y5 p' y1 y0 y4 ve DG rZ y6 y2 DE y7 qa yT vg
 rw [show 0+Int.toNat (i:Int)=i by simp,DN ah,y8 ah];generalize L[i]=x at a;have b:((i:Int)+1)=((i+1:Nat):Int):= V;have j:=e1 acc;refine⟨λ_=>⟨⟨V,V⟩,rfl,rfl,?_⟩,λh=> V⟩
 repeat' (first|exact True.intro|apply And.intro|intro _)
 all_goals first
  |omega
  |(exfalso;omega)
  |exact gn
  |exact(vi a).1|exact(vi a).2|exact(vj a).1|exact(vj a).2|exact(vk a).1|exact(vk a).2
  |exact(vl V).1|exact(vl V).2|exact(vm V).1|exact(vm V).2|exact(vn V).1|exact(vn V).2
  |exact lf (l8 V) aA rfl b rfl rfl
  |exact lf (qc V V) aA rfl b rfl rfl
  |exact lf (DM V) aA rfl b rfl rfl
  |exact lf (qd V V V) aA rfl b rfl rfl
  |exact lf (qe V V) aA rfl b rfl rfl
theorem Mo(a:bm)(b:a (.str []) (T.af 9 [])) :
 bC 51 [.slice none 0 0] (⟨0,.nil⟩) a :=
 bI dP (.ak (.rounds 300) .nil) b
theorem Mp(c f a b h g:Nat)(d e:List J)(i:bm)(j:bR 1 18 (Code.loop (br 51 0)) [(3,.slice none 0 0),(6,.slice (some ⟨0,c,0,0,1⟩) a a),(7,.int .i64 (a:Int)),(8,.int .i64 0)] (T.af 6 [(0,⟨d,1,false,false,c,0,f,some (21,0)⟩)]) (.exit 0) (kB c a a b g 50) (T.af 60 [(0,fl d c f),(50,jU e b h)])/\b=b/\0+g<=e.length/\(∃d,List.take g (List.drop (aT.idx ⟨50,b,0,0,1⟩) (ac.aQ ⟨e,1,false,false,b,0,h,some (5,0)⟩))=aG d)/\i (.str (strOf (List.take g e))) (T.af 63 [(0,⟨d,1,false,false,c,0,f,some (21,0)⟩),(50,⟨e,1,false,false,b,0,h,some (5,0)⟩)])) :
 bC 51 [.slice (some ⟨0,c,0,0,1⟩) a a] (T.of [fl d c f]) i :=
 bI dP (.ak (.keep [3,6,7,8]) (.ak (.loop (kB c a a b g 50) (T.af 60 [(0,fl d c f),(50,jU e b h)]) (.exit 0)) (ag 7001 .nil))) j
end Go.Proofs.YtddnafghiejcoaaGreatDoor
namespace Go.bh
noncomputable section
open Go.RowKit
theorem Mq{F:a8}{t:Nat}{v:J}(a:fh F t=some v):(t,v)∈F:=by
 induction F with
 |nil=>cases a
 |cons p r ih =>
  obtain⟨k,u⟩:=p;rw [gH]at a;split at a
  .rename_i e;simp only [a6]at a;subst e;subst a;simp
  .exact iR _ (ih a)
theorem Mr{F:a8}{g:J->J}{t:Nat}{v:J}(a:fh F t=some v):fh (F.map λp=>(p.1,g p.2)) t=some (g v):=by
 induction F with
 |nil=>cases a
 |cons p r ih =>
  obtain⟨k,u⟩:=p;rw [eF,gH];rw [gH]at a;split at a
  .rename_i e;simp only [a6]at a;subst a;rw [aE e]
  .rename_i e;rw [ap e];exact ih a
theorem b5.move{base n:Nat}{F d:a8}{h:T}{K:Nat}{l:List (Nat×ac)}(r:Nat->Nat)(z:l.map (λp=>h.get (r p.1))=l.map (λp=>some (p.2.aK r)))(u:l.all (λp=>Nat.blt p.1 K)=true)
 (B:((l.map (·.1)).map r).Nodup) (f:(List.range base).all (λi=>(l.map (·.1)).contains i&&Nat.beq (r i) i)=true) (A:l.all (λp=>Nat.blt p.1 base || Nat.ble base (r p.1))=true)
 (s:F=d.map λp=>(p.1,p.2.aK r)) (az:d.all (λp=>Nat.blt p.1 n)=true) (q:a7 (d.map λp=>bQ (bO (l.map (·.1))) p.2))
 (al:a7 (l.map λp=> ∀e∈p.2.aQ,bQ (bO (l.map (·.1))) e)):b5 base n F h d (T.rows K l):=by
 have g:∀i b,(T.rows K l).get i=some b->i<K/\h.get (r i)=some (b.aK r):=by intro i b k;have hm:=T.oD k;refine⟨eH.mp (dV.1 u _ hm),?_⟩;obtain⟨j,c,e⟩:=lK.1 hm;have aa:=dW (fun(x:List (Option ac))=>x[j]?) z;simp only [fc,c7 c,ev,e,a6]at aa;exact aa
 have m:∀{v:J},bQ (bO (l.map (·.1))) v->bQ (In (T.rows K l)) v:=bQ.mono λi ah=>T.pV ah
 subst s;refine b5.aK (r:=r) ⟨λi b k=>⟨by rw [T.uJ];exact(g i b k).1,(g i b k).2⟩,?_,?_⟩ ?_ ?_ ?_ ?_
 .intro i j ah c e;have ah:=T.pW ah;have c:=T.pW c;obtain⟨a,w,rfl⟩:=lK.1 ah;obtain⟨b,y,rfl⟩:=lK.1 c;have aa:((l.map (·.1)).map r)[a]'(by simpa using w)=((l.map (·.1)).map r)[b]'(by simpa using y):=by simpa using e
  have:=(q0 B).1 aa;subst this;rfl
 .intro i b k e he;have hm:=T.oD k;exact m (al _ (dz.2 ⟨_,hm,rfl⟩) e he)
 .intro t v o;have hm:=Mq o;exact⟨eH.mp (dV.1 az _ hm),Mr o,m (q _ (dz.2 ⟨_,hm,rfl⟩))⟩
 .intro i ah _;have:=dV.1 f i (dX.2 ah);simp only [cS]at this;exact T.pV (by simpa using this.1)
 .intro i ah _;have:=dV.1 f i (dX.2 ah);simp only [cS]at this;exact ij this.2
 .intro i ah C;have ah:=T.pW ah;obtain⟨p,hm,rfl⟩:=dz.1 ah;have:=dV.1 A p hm;simp only [fI]at this;rcases this with aa|aa
  .exact eH.mp aa
  .have:=hC aa;omega
end
end Go.bh
namespace Go.Keys
theorem DO(x:Nat)(l:List Nat):eK (x::l)=put x++eK l:=rfl
theorem Ms:eK []=[]:=rfl
theorem DP(r:Nat):(put r).length<=4:=by
 unfold put;simp only
 repeat' split
 all_goals simp
end Go.Keys
namespace Go.Proofs.YtddnafghiejcoaaGreatDoor
open Go.bh Go.Keys
set_option maxRecDepth 1000000
theorem Mt(l:Bytes):∀e∈aG l,ci e:=by intro e he;obtain⟨b,_,rfl⟩:=dz.1 he;exact ci.int _ _
theorem y9(acc:Bytes)(v f:Nat):cj (jU (aG acc) v f):=Mt acc
theorem Mu(a b:ac):T.rows 60 [(0,a),(50,b)]=T.af 60 [(0,a),(50,b)]:= ar
theorem Mv{n l c v:Nat} :bQ (Go.bh.bO [0,50]) (.slice (some ⟨0,v,0,0,1⟩) l c):=(by show(0:Nat)∈ [0,50];simp)
theorem Mw{n l c v:Nat} :bQ (Go.bh.bO [0,50]) (.slice (some ⟨50,v,0,0,1⟩) l c):=(by show(50:Nat)∈ [0,50];simp)
theorem y'{v n i v2 n2 j:Nat}{aa:T}{R B:ac}(c:1<=j)(b:cj R)(a:cj B)(aN:aa.get 0=some R)(ag:aa.get j=some B):b5 1 18 (kB v n i v2 n2 j) aa (kB v n i v2 n2 50) (T.rows 60 [(0,R),(50,B)]):=by
 refine b5.move (K:=60) (l:=[(0,R),(50,B)]) (λk=>if k=0 then 0 else j) ?_ rfl ?_ rfl ?_ ?_ rfl ?_ ?_
 .simp [aN,ag,b.aK,a.aK]
 .simp;omega
 .simp;exact c
 .simp [J.aK,aT.aK]
 .exact a7.cons (Mw (n:=0)) (a7.cons (Mv (n:=0)) (a7.cons trivial (a7.cons trivial a7.nil)))
 .exact a7.cons (λe he=>(b e he).dh _) (a7.cons (λe he=>(a e he).dh _) a7.nil)
theorem Mx(L:List Nat)(v f:Nat)(m:L.length<2^41)(n:∀x∈L,x<2^31):∀(k i:Nat)(acc:Bytes)(v2 f2:Nat),L.length-i<=k->i<=L.length->acc.length<=4*i-> ∃v3 f3,
 dl 1 18 (br 51 0) (kB v L.length i v2 acc.length 50) (T.rows 60 [(0,fl (cW L) v f),(50,jU (aG acc) v2 f2)]) (.exit 0) (kB v L.length L.length v3 (acc++eK (L.drop i)).length 50)
  (T.rows 60 [(0,fl (cW L) v f),(50,jU (aG (acc++eK (L.drop i))) v3 f3)]):=by
 intro k
 have fin:∀(acc:Bytes)(v2 f2:Nat),∃v3 f3,dl 1 18 (br 51 0) (kB v L.length L.length v2 acc.length 50) (T.rows 60 [(0,fl (cW L) v f),(50,jU (aG acc) v2 f2)]) (.exit 0) (kB v L.length L.length v3 (acc++eK (L.drop L.length)).length 50)
  (T.rows 60 [(0,fl (cW L) v f),(50,jU (aG (acc++eK (L.drop L.length))) v3 f3)]):=by
  intro acc v2 f2;obtain⟨e,a,aa,b,rfl,rfl,aN,ag⟩:=DL L.length v f L.length v2 f2 acc.length (cW L) (aG acc) (λe a aa=>e=.exit 0/\a=kB v L.length L.length v2 acc.length 50/\aa.get 0=some (fl (cW L) v f)/\aa.get 50=some (jU (aG acc) v2 f2)) ⟨λh=> V,λ_=>⟨rfl,rfl,rfl,rfl⟩⟩;refine⟨v2,f2,?_⟩;rw [lO,Ms,fV];exact(bX.last an b).post (y' (R:=fl (cW L) v f) aA (nu L) (y9 _ _ _) aN ag)
 induction k with
 |zero =>
  intro i acc v2 f2 l ah d;obtain rfl:i=L.length:= V;exact fin acc v2 f2
 |succ k ih =>
  intro i acc v2 f2 l ah d;by_cases al:i<L.length
  .obtain⟨e,a,aa,b,j,g,rfl,rfl,aN,ag⟩:=Mn L acc v f i v2 f2 al m V (n _ (gw al));have ae:=DP L[i];obtain⟨v3,f3,c⟩:=ih (i+1) (acc++put L[i]) (v2+1) _ V V (by rw [dt];omega)
   have aI:(acc++put L[i])++eK (L.drop (i+1))=acc++eK (L.drop i):=by rw [iS al,DO,ik]
   rw [aI]at c;refine⟨v3,f3,bX.step (b.post ?_) c⟩;rw [dt];exact y' (R:=fl (cW L) v f) g (nu L) (y9 _ _ _) aN ag
  .obtain rfl:i=L.length:= V;exact fin acc v2 f2
theorem My(H:T):bu 51 [.slice none 0 0] H (.str []) H:=bl.cm (Mo (λv _=>v=.str []) rfl) rfl rfl H
theorem Mz{L:List Nat}{v f:Nat}(o:L.length<2^41)(q:∀x∈L,x<2^31)(aN:L≠[]){H:T}{id:Nat}(hid:id<H.Y)(ag:H.get id=some (fl (cW L) v f)) :
 bu 51 [.slice (some ⟨id,v,0,0,1⟩) L.length L.length] H (.str (eK L)) H:=by
 have c:0<L.length:=fS.2 aN;obtain⟨e,y,aa,p,j,a,rfl,rfl,u,w⟩:=Mm L v f 0 c o (q _ (gw c));obtain⟨v3,f3,d⟩:=Mx L v f o q L.length 1 ([]++put L[0]) 0 0 V V (by have:=DP L[0];simp only [eg];omega)
 have aI:([]++put L[0])++eK (L.drop 1)=eK L:=by
  have:L=L[0]::L.drop 1:=by rw [<-iS c,oa]
  conv=>rhs;rw [this,DO]
  rfl
 rw [aI]at d;have m:=y' (R:=fl (cW L) v f) (v:=v) (n:=L.length) (i:=0+1) (v2:=0) (n2:=([]:Bytes).length+(put L[0]).length) a (nu L) (y9 _ _ _) u w;have aO:([]:Bytes).length+(put L[0]).length=([]++put L[0]:Bytes).length:= an;rw [aO]at m p;have g:=(bX.step (p.post m) d).pre (b5.drop (h:=T.af 6 [(0,fl (cW L) v f)]) (F:=[(3,J.slice none 0 0),(6,J.slice (some ⟨0,v,0,0,1⟩) L.length L.length),(7,J.int .i64 L.length),(8,J.int .i64 (0:Nat))]) (K:=1) (l:=[(0,fl (cW L) v f)]) rfl rfl rfl rfl (a7.cons trivial (a7.cons (show(0:Nat)∈ [0]by simp) (a7.cons trivial (a7.cons trivial a7.nil)))) (a7.cons (λe he=>((nu L) e he).dh _) a7.nil));rw [Mu]at g;have el:List.take (eK L).length (aG (eK L))=aG (eK L):=by rw [<-e1,jH]
 have k:=Mp v f L.length v3 f3 (eK L).length (cW L) (aG (eK L)) (λv1 h2=>v1=.str (eK L)/\h2.get 0=some (fl (cW L) v f)) ⟨cZ.dJ g,rfl,by rw [e1];omega,⟨eK L,by simpa using el⟩,by rw [el,hb],rfl⟩;obtain⟨v1,h2,s,rfl,t⟩:=k;have:=bl.pure (l:=[fl (cW L) v f]) s (λb r=>by rw [cC.1 r];exact nu L) (by show [h2.get 0]=_;rw [t];rfl) (ci.str _) (by exact⟨by show 0<1;decide,trivial⟩) (H:=H) [id] an (by intro j a;rw [cC.1 a];exact hid) (by simp [ag]);simpa [J.aK,aT.aK,cK]using this
noncomputable def za:List J->T->Option dm:=λargs h=>match args with
 |[.str s]=>some (.or (s=[]) (.one (.slice none 0 0) h []) (.one (.slice (some ⟨h.Y,(dn s).length-1,0,0,1⟩) (dn s).length (dn s).length) (h.dO [] [jT (dn s)]) [s.length<2^40]))
 |_=>none
theorem MA:∀args h a,za args h=some a->a.cx Tryz.prog ck 150 args h:=by
 intro args h a e;unfold za at e;split at e<;>first|(cases e;done)|skip
 simp only [a6]at e;subst e;refine⟨λaN _=> ?_,λaN ae=> ?_⟩
 .subst aN;exact Mb h
 .exact Mc _ ae.head aN h
noncomputable def MB:dB:=l0.add 150 za
theorem MC:dv Tryz.prog ck MB:=dP.add MA
abbrev vo(a:Bytes):ac:=⟨cW (dn a),1,false,false,List.length (dn a)-1,0,hr (List.length (dn a)),some (21,0)⟩
theorem MD(a:Bytes)(b:bm)(c:(a=[]->bM 51 [.slice none 0 0] (T.af 11 []) (.str (eK (dn a))) (T.af 11 [])/\(eK (dn a)=a->b (.bool true) (T.af 11 []))/\(¬eK (dn a)=a->b (.bool false) (T.af 11 [])))/\(¬a=[]->a.length<1099511627776/\bM 51 [.slice (some {id:=11,ab:=List.length (dn a)-1,idx:=0,fld:=0,es:=1}) (List.length (dn a)) (List.length (dn a))] (T.dO (T.af 11 []) [] [(vo a)]) (.str (eK (dn a))) (T.dO (T.af 11 []) [] [(vo a)])/\(eK (dn a)=a->b (.bool true) (T.dO (T.af 11 []) [] [(vo a)]))/\(¬eK (dn a)=a->b (.bool false) (T.dO (T.af 11 []) [] [(vo a)])))) :
 bC 109 [.str a] (⟨0,.nil⟩) b :=
 bI MC (he 1001 (.aq 1001 (.ak (.val 1002 (.str (eK (dn a)))) (.skip 1003 (.aq 1003 .nil .nil))) (.ak (.val 1002 (.str (eK (dn a)))) (.skip 1003 (.aq 1003 .nil .nil))))) c
end Go.Proofs.YtddnafghiejcoaaGreatDoor
namespace Go.Keys
theorem DQ:∀(k i aD ah v:Nat)(l:Bytes),(tail k i aD ah v l).1<(v+1)*64^k\/(tail k i aD ah v l).1=65533
 |0,i,aD,ah,v,l=>by simp [tail]
 |k+1,i,aD,ah,v,[]=>by simp [tail]
 |k + 1,i,aD,ah,v,c::r=>by
  simp only [tail];split
  .exact .inr rfl
  .rcases DQ k (i+1) 128 191 (v*64+c.toNat%64) r with h|h
   .refine .inl (iN h ?_);rw [Nat.pow_succ,<-Nat.mul_assoc,Nat.mul_right_comm];exact mF _ V
   .exact .inr h
theorem ME(s:Bytes):(first s).1<2^31:=by
 cases s with
 |nil=>simp [first]
 |cons b r =>
  simp only [first];have d:=b.toNat_lt;split
  .simp
  .split
   .simp only;omega
   .have az:(lead b.toNat).1<=4:=C4 _;rcases DQ ((lead b.toNat).1-1) 1 (lead b.toNat).2.1 (lead b.toNat).2.2 (b.toNat%2^(7- (lead b.toNat).1)) r with h|h
    .have aa:b.toNat%2^(7- (lead b.toNat).1)+1<=256:=by have:=Nat.mod_le b.toNat (2^(7- (lead b.toNat).1));omega
     have h2:64^((lead b.toNat).1-1)<=64^3:=tC aA V;have a:=Nat.mul_le_mul aa h2;have c:(256:Nat)*64^3<2^31:= aA;omega
    .rw [h];decide
theorem DR:∀(k:Nat)(s:Bytes),∀x∈gI k s,x<2^31
 |0,s,x,h=>by simp [gI]at h
 |k+1,[],x,h=>by simp [gI]at h
 |k+1,b::r,x,h=>by
  simp only [gI,cM]at h;rcases h with rfl|h
  .exact ME _
  .exact DR k _ x h
theorem MF(s:Bytes):∀x∈dn s,x<2^31:=DR _ s
theorem MG{s:Bytes}(h:s≠[]):dn s≠[]:=by rw [vb h];simp
end Go.Keys
namespace Go.Proofs.YtddnafghiejcoaaGreatDoor
open Go.bh Go.Keys
set_option maxRecDepth 1000000
theorem MH(s:Bytes)(hs:s.length<2^40)(H:T):bu 109 [.str s] H (.bool (valid s)) H:=by
 have b:eK (dn s)=s->valid s=true:=λh=>by unfold valid;rw [h];simp
 have a:¬eK (dn s)=s->valid s=false:=λh=>by unfold valid;rw [od];exact h
 refine bl.cm (MD s (λv _=>v=.bool (valid s)) ⟨λaN=>⟨⟨?_⟩,λh=>by rw [b h],λh=>by rw [a h]⟩,λaN=>⟨hs,⟨?_⟩,λh=>by rw [b h],λh=>by rw [a h]⟩⟩) rfl rfl H
 .subst aN;exact My _
 .have az:=Ds s.length s (Nat.le_refl _);exact Mz (id:=11) V (MF s) (MG aN) (by show 11<12;decide) rfl
def dk(k:Int):UInt8:=UInt8.ofNat k.toNat
def kC(a0 ao a2 a3 n:Int):Bytes:=([a0,ao,a2,a3].take n.toNat).map dk
def bD(a0 ao a2 a3 n c:Int):List Nat×Bytes:=bG (kC a0 ao a2 a3 n) (dk c)
structure gp(a0 ao a2 a3 n c:Int):Prop where
 az:0<=n/\n<=3
 au:0<n->0<=a0/\a0<=255
 aH:1<n->0<=ao/\ao<=255
 b2:2<n->0<=a2/\a2<=255
 al:0<=c/\c<=255
 op:n=0\/(first (kC a0 ao a2 a3 n)).2.2=true
noncomputable def r1:List J->T->Option dm:=λargs h =>
 match args with
 |[.ptr (some u),.slice (some b) e nv] =>
  match h.get u.id,h.get b.id with
  |some a,some d =>
   match a.aQ,d.aQ with
   |[.agg [.int .u8 a0,.int .u8 ao,.int .u8 a2,.int .u8 a3,.int .i64 n]],[.int .u8 c] =>
    cond (Nat.beq u.ab 0&&Nat.beq u.idx 0&&Nat.beq u.fld 0&&Nat.beq u.es 5&&Nat.beq b.ab 0&&Nat.beq b.idx 0&&Nat.beq b.fld 0&&Nat.beq b.es 1&&Nat.beq e 1&&Nat.beq nv 1
     && Nat.beq a.es 5&&a.exact&&!a.ro&&Nat.beq a.ab 0&&Nat.beq a.eb 0&&Nat.beq a.eS 0&&Nat.beq d.es 1&&d.exact&&!d.ro&&Nat.beq d.ab 0&&Nat.beq d.eb 0&&Nat.beq d.eS 0&&d.ty.isNone&&Nat.blt u.id h.Y&&Nat.blt b.id h.Y&&!(Nat.beq u.id b.id))
     (some (.or ((bD a0 ao a2 a3 n c).1=[])
      (.one (.slice none 0 0) (h.dO [u.id,b.id] [bJ (bD a0 ao a2 a3 n c).2 a0 ao a2 a3 a.ty,e8 c]) [gp a0 ao a2 a3 n c])
      (.or ((bD a0 ao a2 a3 n c).1.length=1)
       (.one (.slice (some ⟨h.Y,0,0,0,1⟩) 1 1) (h.dO [u.id,b.id] [bJ (bD a0 ao a2 a3 n c).2 a0 ao a2 a3 a.ty,e8 c,rV ((bD a0 ao a2 a3 n c).1.getD 0 0)]) [gp a0 ao a2 a3 n c])
       (.one (.slice (some ⟨h.Y,1,0,0,1⟩) 2 2) (h.dO [u.id,b.id] [bJ (bD a0 ao a2 a3 n c).2 a0 ao a2 a3 a.ty,e8 c,rW ((bD a0 ao a2 a3 n c).1.getD 0 0) ((bD a0 ao a2 a3 n c).1.getD 1 0)]) [gp a0 ao a2 a3 n c])))) none
   |_,_=>none
  |_,_=>none
 |_=>none
noncomputable def DS:List J->T->Option dm:=hN λa=>match a with | [.str s]=>some (.bool (valid s),[s.length<2^40])|_=>none
noncomputable def DT:dB:=(l0.add 107 r1).add 109 DS
theorem nw{c:Int}(h:0<=c/\c<=255):((dk c).toNat:Int)=c:=by
 unfold dk;have:(UInt8.ofNat c.toNat).toNat=c.toNat%256:=by simp [po]
 rw [this];omega
abbrev zb(v:J)(R:ac)(c:Int)(aa:T):Prop:=bu 107 [.ptr (some ⟨0,0,0,0,5⟩),.slice (some ⟨1,0,0,0,1⟩) 1 1] (T.of [R,e8 c]) v aa
theorem MI{a0 ao a2 a3 n c:Int}(p:gp a0 ao a2 a3 n c)(ty:bj):∃v aa,zb v (fk a0 ao a2 a3 n ty) c aa/\jS a0 ao a2 a3 c ty (bD a0 ao a2 a3 n c) v aa:=by
 have al:=nw p.al;obtain⟨k,l⟩:=p.az;have az:n=0\/n=1\/n=2\/n=3:= V;unfold bD;generalize dk c=C at al;subst al;rcases az with rfl|rfl|rfl|rfl
 .exact Ll C a0 ao a2 a3 ty
 .have e0:=nw (p.au aA);have op:=p.op.resolve_left aA;have f:kC a0 ao a2 a3 1=[dk a0]:=rfl;rw [f]at op⊢;generalize dk a0=a at e0 op;subst e0;obtain⟨b,r,e,j,g⟩:=oL op;simp only [fT]at e;obtain⟨rfl,rfl⟩:=e;rcases gF a.toNat with h|h|h|h|h
  .omega
  .omega
  .exact Ln a C ao a2 a3 ty h
  .exact Lo a C ao a2 a3 ty h
  .exact Lp a C ao a2 a3 ty h
 .have e0:=nw (p.au aA);have aI:=nw (p.aH aA);have op:=p.op.resolve_left aA;have f:kC a0 ao a2 a3 2=[dk a0,dk ao]:=rfl;rw [f]at op⊢;generalize dk a0=a at e0 op;generalize dk ao=d at aI op;subst e0 aI;obtain⟨b,r,e,j,g⟩:=oL op;simp only [fT]at e;obtain⟨rfl,rfl⟩:=e;rw [g]at op;rcases gF a.toNat with h|h|h|h|h
  .omega
  .omega
  .rw [h]at op;simp only [tail]at op;split at op<;>simp at op
  .have aa:¬(d.toNat<(lead a.toNat).2.1\/(lead a.toNat).2.2<d.toNat):=by intro q;rw [h]at op;simp only [tail]at op;rw [aE q]at op;simp at op
   exact Lq a d C a2 a3 ty h aa
  .have aa:¬(d.toNat<(lead a.toNat).2.1\/(lead a.toNat).2.2<d.toNat):=by intro q;rw [h]at op;simp only [tail]at op;rw [aE q]at op;simp at op
   exact Lr a d C a2 a3 ty h aa
 .have e0:=nw (p.au aA);have aI:=nw (p.aH aA);have aO:=nw (p.b2 aA);have op:=p.op.resolve_left aA;have f:kC a0 ao a2 a3 3=[dk a0,dk ao,dk a2]:=rfl;rw [f]at op⊢;generalize dk a0=a at e0 op;generalize dk ao=d at aI op;generalize dk a2=i at aO op;subst e0 aI aO;obtain⟨b,r,e,j,g⟩:=oL op;simp only [fT]at e;obtain⟨rfl,rfl⟩:=e;rw [g]at op
  have aa:¬(d.toNat<(lead a.toNat).2.1\/(lead a.toNat).2.2<d.toNat):=by
   intro q;obtain⟨m,hm⟩:∃m,(lead a.toNat).1-1=m+1:=⟨(lead a.toNat).1-2,V⟩
   rw [hm]at op;simp only [tail]at op;rw [aE q]at op;simp at op
  rcases gF a.toNat with h|h|h|h|h
  .omega
  .omega
  .rw [h]at op;simp only [tail]at op;rw [ap aa]at op;simp at op
  .rw [h]at op;simp only [tail]at op;rw [ap aa]at op;split at op<;>simp at op
  .have h2:¬(i.toNat<128\/191<i.toNat):=by intro q;rw [h]at op;simp only [tail]at op;rw [ap aa,aE q]at op;simp at op
   exact Ls a d i C a3 ty h aa h2
theorem qf(a b c d n:Int)(ty:bj):cj (fk a b c d n ty):=by intro e he;rw [cC.1 he];exact ci.of rfl
theorem DU(c:Int):cj (e8 c):=by intro e he;rw [cC.1 he];exact ci.int _ _
theorem MJ{a b:ac}(d:cj a)(e:cj b):∀x∈ [a,b],cj x:=by
 intro x c;simp only [cM,kU,ea]at c;rcases c with rfl|rfl
 .exact d
 .exact e
theorem MK(r:Nat):cj (rV r):=by intro e he;rw [cC.1 he];exact ci.int _ _
theorem ML(r s:Nat):cj (rW r s):=by intro e he;simp only [cM,kU,ea]at he;rcases he with rfl|rfl<;>exact ci.int _ _
theorem zc{R R':ac}{c:Int}{v v2:J}{aa:T}(k:zb v R c aa)(h:cj R)(m:cj R')(a:List Nat)(l:List ac)(r:∀x∈l,cj x)(p:l.length=a.length)(n:(List.range (l.length+2)).map (λi=>aa.get (eV 2 a i))=(R'::e8 c::l).map some)(w:v=v2.aK (eV 2 a))(y:bQ (λi=>i<l.length+2) v2)
 (q:a.all (λj=>Nat.ble 2 j)=true) (s:a.Nodup) {H:T} {u b:Nat} (t:u≠b) (hu:u<H.Y) (B:b<H.Y) (g:H.get u=some R) (f:H.get b=some (e8 c)) :
 bu 107 [.ptr (some ⟨u,0,0,0,5⟩),.slice (some ⟨b,0,0,0,1⟩) 1 1] H (v2.aK (cK [u,b] H.Y)) (H.dO [u,b] (R'::e8 c::l)):=by
 have e:∀x∈R'::e8 c::l,cj x:=by
  intro x d;rcases cM.1 d with rfl|d
  .exact m
  .rcases cM.1 d with rfl|d
   .exact DU c
   .exact r x d
 have z:=k.fin a (R'::e8 c::l) v2 e (by simp [p];omega) n w y q s;have A:=z.KD (MJ h (DU c)) e an (by exact⟨by show 0<2;decide,by show 1<2;decide,trivial⟩) (H:=H) [u,b] (by simp [t]) (by intro j o;simp at o;omega) (by simp [g,f]);simpa [J.aK,aT.aK,cK]using A
theorem DV:∀args h a,r1 args h=some a->a.cx Tryz.prog ck 107 args h:=by
 intro args H a e;unfold r1 at e;split at e<;>first|(cases e;done)|skip
 rename_i u b a9 nv;split at e<;>first|(cases e;done)|skip
 rename_i g f A q;split at e<;>first|(cases e;done)|skip
 rename_i a0 ao a2 a3 n c E F
 cases l:(Nat.beq u.ab 0&&Nat.beq u.idx 0&&Nat.beq u.fld 0&&Nat.beq u.es 5&&Nat.beq b.ab 0&&Nat.beq b.idx 0&&Nat.beq b.fld 0&&Nat.beq b.es 1&&Nat.beq a9 1&&Nat.beq nv 1
  && Nat.beq g.es 5&&g.exact&&!g.ro&&Nat.beq g.ab 0&&Nat.beq g.eb 0&&Nat.beq g.eS 0&&Nat.beq f.es 1&&f.exact&&!f.ro&&Nat.beq f.ab 0&&Nat.beq f.eb 0&&Nat.beq f.eS 0&&f.ty.isNone&&Nat.blt u.id H.Y&&Nat.blt b.id H.Y&&!(Nat.beq u.id b.id))with
 |false=>rw [l]at e;cases e
 |true =>
  rw [l,cond_true]at e;simp only [cS,iT,hi,eH,Option.isNone_iff_eq_none]at l;simp only [a6]at e;subst e;obtain⟨⟨⟨⟨⟨⟨⟨⟨⟨⟨⟨⟨⟨⟨⟨⟨⟨⟨⟨⟨⟨⟨⟨⟨⟨cq,cn⟩,ei⟩,hE⟩,lg⟩,Z⟩,am⟩,av⟩,a4⟩,G⟩,I⟩,K⟩,L⟩,M⟩,N⟩,O⟩,P⟩,Q⟩,R⟩,S⟩,U⟩,W⟩,X⟩,m⟩,o⟩,D⟩:=l;obtain⟨b2,d0,d1,dp,dg⟩:=u;obtain⟨a5,bv,ct,co,ce⟩:=b;obtain⟨c0,l2,c2,c3,c4,c5,c9,i⟩:=g;obtain⟨m1,m2,m3,m4,m5,m6,m7,m8⟩:=f;simp only at cq cn ei hE lg Z am av a4 G I K L M N O P Q R S U W X m o D E F;subst cq cn ei hE lg Z am av a4 G I K L M N O P Q R S U W X E F;have w:b2≠a5:=λh=>by rw [h]at D;simp at D
  have ok:gp a0 ao a2 a3 n c-> ∃v aa,zb v (fk a0 ao a2 a3 n i) c aa/\jS a0 ao a2 a3 c i (bD a0 ao a2 a3 n c) v aa:=λp=>MI p i
  refine⟨λaN ae=> ?_,λaN=>⟨λaa ae=> ?_,λaa ae=> ?_⟩⟩
  .obtain⟨v,aa,k,g0,g1,g2⟩:=ok ae.head;rw [aN]at g2;simp only at g2;have:=zc (v2:= .slice none 0 0) k (qf _ _ _ _ _ _) (qf _ _ _ _ _ _) [] [] (λx C=>by cases C) rfl (R':=bJ (bD a0 ao a2 a3 n c).2 a0 ao a2 a3 i) (by simp [eV,List.range_succ,g0,g1]) (by rw [g2];rfl) trivial rfl lN w m o A q;simpa [J.aK]using this
  .obtain⟨v,h2,k,g0,g1,g2⟩:=ok ae.head;cases d:(bD a0 ao a2 a3 n c).1 with
   |nil=>exact absurd d aN
   |cons r t =>
    cases t with
    |cons x y=>rw [d]at aa;simp at aa
    |nil =>
     rw [d]at g2;obtain⟨j,s,B,ag⟩:=g2;have:=zc (v2:= .slice (some ⟨2,0,0,0,1⟩) 1 1) k (qf _ _ _ _ _ _) (qf _ _ _ _ _ _) [j] [rV r] (λx C=>by rw [cC.1 C];exact MK r) rfl (R':=bJ (bD a0 ao a2 a3 n c).2 a0 ao a2 a3 i) (by simp [eV,List.range_succ,g0,g1,ag]) (by rw [B];simp [J.aK,aT.aK,eV]) (by show 2<3;decide) (by simp [s]) an w m o A q;simpa [J.aK,aT.aK,cK,d]using this
  .obtain⟨v,h2,k,g0,g1,g2⟩:=ok ae.head;cases d:(bD a0 ao a2 a3 n c).1 with
   |nil=>exact absurd d aN
   |cons r t =>
    cases t with
    |nil=>rw [d]at aa;simp at aa
    |cons x y =>
     cases y with
     |cons _ _=>rw [d]at g2;exact g2.elim
     |nil =>
      rw [d]at g2;obtain⟨j,s,B,ag⟩:=g2;have:=zc (v2:= .slice (some ⟨2,1,0,0,1⟩) 2 2) k (qf _ _ _ _ _ _) (qf _ _ _ _ _ _) [j] [rW r x] (λz bn=>by rw [cC.1 bn];exact ML r x) rfl (R':=bJ (bD a0 ao a2 a3 n c).2 a0 ao a2 a3 i) (by simp [eV,List.range_succ,g0,g1,ag]) (by rw [B];simp [J.aK,aT.aK,eV]) (by show 2<3;decide) (by simp [s]) an w m o A q;simpa [J.aK,aT.aK,cK,d]using this
theorem MM:∀args h a,DS args h=some a->a.cx Tryz.prog ck 109 args h:=by
 refine iz ?_;intro args v ps e ae H;split at e<;>first|(cases e;done)|skip
 simp only [a6,bo]at e;obtain⟨rfl,rfl⟩:=e;exact MH _ ae.head H
theorem MN:dv Tryz.prog ck DT:=(dP.add DV).add MM
def b1:gE->Nat
 |.ground=>30
 |.cH=>59
 |.cd=>90
 |.sequence=>87
 |.single=>88
 |.cb=>129
theorem MO{a b:gE}(h:b1 a=b1 b):a=b:=by cases a<;>cases b<;>first|rfl|(exact absurd h aA)
structure bO where
 u:Nat
 k:Nat
 p:Nat
 o:Nat
def bO.map(r:Nat->Nat)(I:bO):bO:=⟨r I.u,r I.k,r I.p,r I.o⟩
abbrev bB(d f u:Nat)(kv pv:J)(pas:Bool)(ov:J)(ty:bj):ac :=
 ac.aj [.agg [.func (.func f) [.ptr (some ⟨d,0,0,0,6⟩)] [],kv,pv,.bool pas,.ptr (some ⟨u,0,0,0,5⟩),ov]] 6 true ty
abbrev bL(l:List J)(es v m f:Nat)(ty:bj):ac:= {aQ:=l,es:=es,exact:=false,ro:=false,ab:=v,eb:=m,eS:=f,ty:=ty}
abbrev bZ:bj:=some (5,0)
abbrev ek:bj:=some (42,0)
inductive eE where
 |nil|one|grown (junk:Bytes)
def Grown(H:T)(k:Nat)(v:J)(l junk:Bytes):Prop :=
 ∃ab m f,v=.slice (some ⟨k,ab,junk.length,0,1⟩) l.length l.length/\H.get k=some (bL (aG (junk++l)) 1 ab m f bZ)
def gL(H:T)(d k:Nat)(v:J):eE->Bytes->Prop
 |.nil,l=>v=.slice none 0 0/\l=[]/\k=d
 |.one,l=>k≠d/\v=.slice (some ⟨k,0,0,0,1⟩) 1 1/\H.get k=some (ac.aj [.int .u8 27] 1 true)/\l=[27]
 |.grown junk,l=>k≠d/\Grown H k v l junk
def gM(H:T)(d p:Nat)(v:J)(l:Bytes):Prop :=
 (v=.slice none 0 0/\l=[]/\p=d)\/(p≠d/\l≠[]/\Grown H p v l [])
def gN(H:T)(d o:Nat)(v:J)(es:List aP):Prop :=
 (v=.slice none 0 0/\es=[]/\o=d)\/(o≠d/\es≠[]/\∃ab m f,v=.slice (some ⟨o,ab,0,0,6⟩) es.length es.length/\H.get o=some (bL (es.map bi) 6 ab m f ek))
structure cU(H:T)(d:Nat)(I:bO)(f:Nat)(pas:Bool)(ks:eE)(ai ax aw:Bytes)(es:List aP):Prop where
 ex:∃kv pv ov ty,H.get d=some (bB d f I.u kv pv pas ov ty)/\gL H d I.k kv ks ai/\gM H d I.p pv aw/\gN H d I.o ov es
 gB:∃j0 j1 j2 j3 ty,H.get I.u=some (bJ ax j0 j1 j2 j3 ty)
 lt:d<H.Y/\I.u<H.Y/\I.k<H.Y/\I.p<H.Y/\I.o<H.Y
 ne:I.k=d\/I.p=d\/I.k≠I.p
def l9:gE->eE->Bytes->Prop
 |.ground,.nil,_=>True
 |.cH,.one,_=>True
 |.cb,.nil,_=>True
 |.cb,.grown _,_=>True
 |.cd,.grown [],l=>l≠[]
 |.sequence,.grown [],l=>l≠[]
 |.single,.grown [],l=>l≠[]
 |_,_,_=>False
def bS(H:T)(d:Nat)(I:bO)(s:bq)(es:List aP):Prop:= ∃ks,cU H d I (b1 s.nx) (decide (s.nx=.cb)) ks s.ai s.ax s.aw es/\l9 s.nx ks s.ai
theorem MP{a b:Bytes}(h:aG a=aG b):a=b:=by
 have:=dW strOf h
 rwa [hb,hb]at this
theorem DW{a b:aP}(h:bi a=bi b):a=b:=by unfold bi at h;simp only [J.agg.injEq,fT,J.int.injEq,J.str.injEq,h0,true_and]at h;cases a;cases b;simp_all
theorem DX:∀{a b:List aP},a.map bi=b.map bi->a=b
 |[],[],_=>rfl
 |[],_::_,h=>by simp at h
 |_::_,[],h=>by simp at h
 |x::a,y::b,h=>by simp only [eF,fT]at h;rw [DW h.1,DX h.2]
theorem zd{H:T}{k b:Nat}{v:J}{l l2 j j2:Bytes}(h:Grown H k v l j)(h2:Grown H b v l2 j2):k=b/\l=l2/\j=j2:=by obtain⟨ab,m,f,e,g⟩:=h;obtain⟨d,m2,f2,aO,g2⟩:=h2;rw [e]at aO;simp only [J.slice.injEq,a6,aT.mk.injEq]at aO;obtain⟨⟨c,_,a,_⟩,_,_⟩:=aO;subst c;rw [g]at g2;simp only [a6,ac.mk.injEq]at g2;have:=MP g2.1;exact⟨rfl,(List.append_inj this a).2,(List.append_inj this a).1⟩
theorem MQ{H:T}{d k j:Nat}{v:J}{ks i:eE}{l l2:Bytes}(h:gL H d k v ks l)(h2:gL H d j v i l2):k=j/\l=l2/\ks=i:=by
 cases ks<;>cases i<;>simp only [gL]at h h2
 .exact⟨V,by rw [h.2.1,h2.2.1],rfl⟩
 .have:=h.1.symm.trans h2.2.1;simp at this
 .obtain⟨_,_,_,_,e,_⟩:=h2;rw [h.1]at e;simp at e
 .have:=h2.1.symm.trans h.2.1;simp at this
 .have:=h.2.1.symm.trans h2.2.1;exact⟨by simpa using this,by rw [h.2.2.2,h2.2.2.2],rfl⟩
 .obtain⟨_,_,_,_,e,g⟩:=h2;have:=h.2.1.symm.trans e;simp only [J.slice.injEq,a6,aT.mk.injEq]at this;obtain⟨⟨f,_⟩,_⟩:=this;rw [f,g]at h;simp [ac.aj]at h
 .obtain⟨_,_,_,_,e,_⟩:=h;rw [h2.1]at e;simp at e
 .obtain⟨_,_,_,_,e,g⟩:=h;have:=h2.2.1.symm.trans e;simp only [J.slice.injEq,a6,aT.mk.injEq]at this;obtain⟨⟨f,_⟩,_⟩:=this;rw [f,g]at h2;simp [ac.aj]at h2
 .obtain⟨a,b,c⟩:=zd h.2 h2.2;exact⟨a,b,by rw [c]⟩
theorem MR{H:T}{d k f:Nat}{v:J}{l l2:Bytes}(h:gM H d k v l)(h2:gM H d f v l2):k=f/\l=l2:=by
 rcases h with ⟨a,b,c⟩|⟨a,b,g⟩<;>rcases h2 with ⟨a2,b2,c2⟩|⟨a2,b2,g2⟩
 .exact⟨V,by rw [b,b2]⟩
 .obtain⟨_,_,_,e,_⟩:=g2;rw [a]at e;simp at e
 .obtain⟨_,_,_,e,_⟩:=g;rw [a2]at e;simp at e
 .exact⟨(zd g g2).1,(zd g g2).2.1⟩
theorem MS{H:T}{d k i:Nat}{v:J}{l l2:List aP}(h:gN H d k v l)(h2:gN H d i v l2):k=i/\l=l2:=by
 rcases h with ⟨a,b,c⟩|⟨a,b,ab,m,f,e,g⟩<;>rcases h2 with ⟨a2,b2,c2⟩|⟨a2,b2,n,m2,f2,aO,g2⟩
 .exact⟨V,by rw [b,b2]⟩
 .rw [a]at aO;simp at aO
 .rw [a2]at e;simp at e
 .rw [e]at aO;simp only [J.slice.injEq,a6,aT.mk.injEq]at aO;obtain⟨⟨j,_⟩,_⟩:=aO;subst j;rw [g]at g2;simp only [a6,ac.mk.injEq]at g2;exact⟨rfl,DX g2.1⟩
theorem MT{h h2:Bytes}{j0 j1 j2 j3 i0 i1 i2 i3:Int}{ty j:bj}(k:h.length<=4)(e:bJ h j0 j1 j2 j3 ty=bJ h2 i0 i1 i2 i3 j):h=h2:=by
 simp only [ac.aj,ac.mk.injEq,fT,J.agg.injEq,J.int.injEq,true_and,h0]at e;obtain⟨⟨e0,aI,aO,c,d⟩,_⟩:=e;have d:h.length=h2.length:= V;apply pn λi=> ?_
 by_cases ah:i<h.length
 .have cL:i<h2.length:= V
  have key:bF h i 0=bF h2 i 0:=by
   have:i=0\/i=1\/i=2\/i=3:= V;have g:∀(x:Bytes)(a b:Int),i<x.length->bF x i a=bF x i b:=λx a b f=>by simp [bF,c7 f]
   rcases this with rfl|rfl|rfl|rfl
   .rw [g h 0 j0 ah,g h2 0 i0 cL];exact e0
   .rw [g h 0 j1 ah,g h2 0 i1 cL];exact aI
   .rw [g h 0 j2 ah,g h2 0 i2 cL];exact aO
   .rw [g h 0 j3 ah,g h2 0 i3 cL];exact c
  simp only [bF,c7 ah,c7 cL]at key;rw [c7 ah,c7 cL]
  congr 1
  exact fq.1 V
 .rw [hV V,hV V]
theorem cU.na{H:T}{d:Nat}{I a:bO}{f f2:Nat}{pas j:Bool}{ks i:eE}{ai g ax c aw k:Bytes}{es b:List aP}(h:cU H d I f pas ks ai ax aw es)(h2:cU H d a f2 j i g c k b)(o:ax.length<=4) :
 I=a/\f=f2/\pas=j/\ks=i/\ai=g/\ax=c/\aw=k/\es=b:=by
 obtain⟨kv,pv,ov,ty,e,m,ae,p⟩:=h.ex;obtain⟨z,F,C,G,aO,n,r,q⟩:=h2.ex;rw [e]at aO;simp only [ac.aj,a6,ac.mk.injEq,fT,J.agg.injEq,J.func.injEq,Fn.func.injEq,J.ptr.injEq,aT.mk.injEq,J.bool.injEq,true_and,h0]at aO;obtain⟨⟨t,rfl,rfl,v,hu,rfl⟩,_⟩:=aO;obtain⟨j0,j1,j2,j3,uty,s⟩:=h.gB;obtain⟨i0,i1,i2,i3,K,l⟩:=h2.gB;rw [<-hu,s]at l;have u:=MT o (qT l);obtain⟨w,x,y⟩:=MQ m n;obtain⟨D,E⟩:=MR ae r;obtain⟨A,B⟩:=MS p q;cases I;cases a
 simp_all
theorem bS.na{H:T}{d:Nat}{I j:bO}{s s2:bq}{es k:List aP}(h:bS H d I s es)(h2:bS H d j s2 k)(l:s.ax.length<=4):I=j/\s=s2/\es=k:=by
 obtain⟨ks,g,_⟩:=h;obtain⟨m,g2,_⟩:=h2;obtain⟨a,b,c,d,e,f,g,i⟩:=g.na g2 l;have:=MO b;cases s;cases s2
 simp_all
theorem jV(l:Bytes):∀e∈aG l,ci e:=by intro e he;obtain⟨b,_,rfl⟩:=dz.1 he;exact ci.int _ _
theorem vp(e:aP):ci (bi e):=ci.of rfl
theorem DY(l:List aP):∀e∈l.map bi,ci e:=by intro e he;obtain⟨b,_,rfl⟩:=dz.1 he;exact vp b
theorem ny(a b c d n:Int)(ty:bj):cj (fk a b c d n ty):=by intro e he;rw [cC.1 he];exact ci.of rfl
theorem lh{l:List J}(h:∀e∈l,ci e)(es v m f:Nat)(ty:bj):cj (bL l es v m f ty):=h
theorem DZ:cj (ac.aj [.int .u8 27] 1 true):=by intro e he;rw [cC.1 he];exact ci.of rfl
theorem Grown.l'{ad H':T}{r:Nat->Nat}(a:∀i b,ad.get i=some b->H'.get (r i)=some (b.aK r)){k:Nat}{v:J}{l junk:Bytes}(g:Grown ad k v l junk):Grown H' (r k) (v.aK r) l junk:=by
 obtain⟨ab,m,f,rfl,ag⟩:=g;refine⟨ab,m,f,rfl,?_⟩;have:=a _ _ ag
 rwa [(lh (jV _) _ _ _ _ _).aK]at this
theorem cU.l'{ad H':T}{r:Nat->Nat}(c:∀i b,ad.get i=some b->H'.get (r i)=some (b.aK r))(l:∀i j,r i=r j->i=j)(n:∀i,i<ad.Y->r i<H'.Y){d:Nat}{I:bO}{f:Nat}{pas:Bool}{ks:eE}{ai ax aw:Bytes}{es:List aP}
 (g:cU ad d I f pas ks ai ax aw es):cU H' (r d) (I.map r) f pas ks ai ax aw es where
 ex := by
  obtain⟨kv,pv,ov,ty,e,a,ae,q⟩:=g.ex;refine⟨kv.aK r,pv.aK r,ov.aK r,ty,?_,?_,?_,?_⟩
  .rw [c _ _ e];simp [ac.aK,ac.aj,J.aK,J.fD,aT.aK,bO.map]
  .cases ks with
   |nil =>
    obtain⟨rfl,rfl,a⟩:=a;exact⟨rfl,rfl,by show r I.k=r d;rw [a]⟩
   |one =>
    obtain⟨u,rfl,a,rfl⟩:=a;refine⟨λe=>u (l _ _ e),rfl,?_,rfl⟩;have:=c _ _ a
    rwa [DZ.aK]at this
   |grown junk=>exact⟨λe=>a.1 (l _ _ e),a.2.l' c⟩
  .rcases ae with ⟨rfl,rfl,ae⟩|⟨aa,h2,t⟩
   .exact .inl ⟨rfl,rfl,by show r I.p=r d;rw [ae]⟩
   .exact .inr ⟨λe=>aa (l _ _ e),h2,t.l' c⟩
  .rcases q with ⟨rfl,rfl,q⟩|⟨aa,h2,ab,m,s,rfl,ag⟩
   .exact .inl ⟨rfl,rfl,by show r I.o=r d;rw [q]⟩
   .refine .inr ⟨λe=>aa (l _ _ e),h2,ab,m,s,rfl,?_⟩;have:=c _ _ ag
    rwa [(lh (DY _) _ _ _ _ _).aK]at this
 gB:=by
  obtain⟨j0,j1,j2,j3,ty,hu⟩:=g.gB;refine⟨j0,j1,j2,j3,ty,?_⟩;have:=c _ _ hu
  rwa [(ny _ _ _ _ _ _).aK]at this
 lt:=⟨n _ g.lt.1,n _ g.lt.2.1,n _ g.lt.2.2.1,n _ g.lt.2.2.2.1,n _ g.lt.2.2.2.2⟩
 ne:=by
  rcases g.ne with h|h|h
  .exact .inl (by show r I.k=r d;rw [h])
  .exact .inr (.inl (by show r I.p=r d;rw [h]))
  .exact .inr (.inr λe=>h (l _ _ e))
structure Fr(h ad:T)(d:Nat)(I aC:bO):Prop where
 Y:h.Y<=ad.Y
 get:∀j,j<h.Y->j≠d->j≠I.u->j≠I.k->j≠I.p->j≠I.o->ad.get j=h.get j
 ids:∀x,x=aC.u\/x=aC.k\/x=aC.p\/x=aC.o->x=d\/x=I.u\/x=I.k\/x=I.p\/x=I.o\/h.Y<=x
theorem Fr.trans{h aa h2:T}{d:Nat}{I c g:bO}(a:Fr h aa d I c)(b:Fr aa h2 d c g):Fr h h2 d I g where
 Y:=Nat.le_trans a.Y b.Y
 get j i aI aO l m n:=by
  have key:∀x,(x=c.u\/x=c.k\/x=c.p\/x=c.o)->j≠x:=by intro x f e;subst e;have:=a.ids _ f;omega
  rw [b.get j (iN i a.Y) aI (key _ (.inl rfl)) (key _ (.inr (.inl rfl))) (key _ (.inr (.inr (.inl rfl)))) (key _ (.inr (.inr (.inr rfl)))),a.get j i aI aO l m n]
 ids x f:=by
  rcases b.ids x f with h|h|h|h|h|h
  .exact .inl h
  .exact a.ids x (.inl h)
  .exact a.ids x (.inr (.inl h))
  .exact a.ids x (.inr (.inr (.inl h)))
  .exact a.ids x (.inr (.inr (.inr h)))
  .have:=a.Y;omega
def hJ:ac:=ac.aj [] 1 true
theorem ze:cj hJ:=by intro e he;cases he
noncomputable def qg(H:T):T:=⟨H.Y+3,(((H.set H.Y hJ).set (H.Y+1) hJ).set (H.Y+2) hJ).ay⟩
theorem vq(H:T)(j:Nat):(qg H).get j=if H.Y+2=j then some hJ else if H.Y+1=j then some hJ else if H.Y=j then some hJ else H.get j:=by show(((H.set H.Y hJ).set (H.Y+1) hJ).set (H.Y+2) hJ).get j=_;rw [T.h4,T.h4,T.h4]
theorem kD(H:T)(j:Nat)(h:j<H.Y):(qg H).get j=H.get j:=by rw [vq,ap V,ap V,ap V]
structure Part(H:T)(d x i MU:Nat)(v v0:J)(B:ac)(j iw es:Nat):Prop where
 bare:cj B
 aK:∀r:Nat->Nat,r i=j->v0.aK r=v
 dh:∀D:Nat->Prop,D i->bQ D v0
 row:(qg H).get j=some B
 at':(iw=0/\x=d/\j=H.Y+MU)\/(iw=i/\x=j/\j≠d/\j<H.Y/\B.es=es)
theorem MV{H:T}{d k:Nat}{v:J}{ks:eE}{l:Bytes}(h:gL H d k v ks l)(a:k<H.Y):∃v0 B j iw,Part H d k 2 0 v v0 B j iw 1/\∀aN:T,aN.get 2=some B->gL aN 0 iw v0 ks l:=by
 cases ks with
 |nil =>
  obtain⟨rfl,rfl,rfl⟩:=h;exact⟨.slice none 0 0,hJ,H.Y,0,⟨ze,λ_ _=>rfl,λ_ _=>trivial,by rw [vq,ap V,ap V,aE rfl],.inl ⟨rfl,rfl,rfl⟩⟩,λaN _=>⟨rfl,rfl,rfl⟩⟩
 |one =>
  obtain⟨c,rfl,ag,rfl⟩:=h;exact⟨.slice (some ⟨2,0,0,0,1⟩) 1 1,ac.aj [.int .u8 27] 1 true,k,2,⟨DZ,λr e=>by simp [J.aK,aT.aK,e],λD b=>b,by rw [kD _ _ a];exact ag,.inr ⟨rfl,rfl,c,a,rfl⟩⟩,λaN g0=>⟨aA,rfl,g0,rfl⟩⟩
 |grown junk =>
  obtain⟨c,ab,m,f,rfl,ag⟩:=h
  exact⟨.slice (some ⟨2,ab,junk.length,0,1⟩) l.length l.length,bL (aG (junk++l)) 1 ab m f bZ,k,2,⟨lh (jV _) _ _ _ _ _,λr e=>by simp [J.aK,aT.aK,e],λD b=>b,by rw [kD _ _ a];exact ag,.inr ⟨rfl,rfl,c,a,rfl⟩⟩,
   λaN g0=>⟨aA,ab,m,f,rfl,g0⟩⟩
theorem MW{H:T}{d k:Nat}{v:J}{l:Bytes}(h:gM H d k v l)(a:k<H.Y):∃v0 B j iw,Part H d k 3 1 v v0 B j iw 1/\∀aN:T,aN.get 3=some B->gM aN 0 iw v0 l:=by
 rcases h with ⟨rfl,rfl,rfl⟩|⟨e,c,ab,m,f,rfl,ag⟩
 .exact⟨.slice none 0 0,hJ,H.Y+1,0,⟨ze,λ_ _=>rfl,λ_ _=>trivial,by rw [vq,ap V,aE rfl],.inl ⟨rfl,rfl,rfl⟩⟩,λaN _=> .inl ⟨rfl,rfl,rfl⟩⟩
 .exact⟨.slice (some ⟨3,ab,0,0,1⟩) l.length l.length,bL (aG ([]++l)) 1 ab m f bZ,k,3,⟨lh (jV _) _ _ _ _ _,λr g=>by simp [J.aK,aT.aK,g],λD b=>b,by rw [kD _ _ a];exact ag,.inr ⟨rfl,rfl,e,a,rfl⟩⟩,
   λaN g0=> .inr ⟨aA,c,ab,m,f,rfl,g0⟩⟩
theorem MX{H:T}{d k:Nat}{v:J}{l:List aP}(h:gN H d k v l)(a:k<H.Y):∃v0 B j iw,Part H d k 4 2 v v0 B j iw 6/\(iw=4->B.exact=false)/\∀aN:T,aN.get 4=some B->gN aN 0 iw v0 l:=by
 rcases h with ⟨rfl,rfl,rfl⟩|⟨g,c,ab,m,f,rfl,ag⟩
 .exact⟨.slice none 0 0,hJ,H.Y+2,0,⟨ze,λ_ _=>rfl,λ_ _=>trivial,by rw [vq,aE rfl],.inl ⟨rfl,rfl,rfl⟩⟩,(λe=>by cases e),λaN _=> .inl ⟨rfl,rfl,rfl⟩⟩
 .exact⟨.slice (some ⟨4,ab,0,0,6⟩) l.length l.length,bL (l.map bi) 6 ab m f ek,k,4,⟨lh (DY _) _ _ _ _ _,λr i=>by simp [J.aK,aT.aK,i],λD b=>b,by rw [kD _ _ a];exact ag,.inr ⟨rfl,rfl,g,a,rfl⟩⟩,λ_=>rfl,
   λaN g0=> .inr ⟨aA,c,ab,m,f,rfl,g0⟩⟩
theorem cU.D0{H:T}{d:Nat}{I:bO}{f:Nat}{pas:Bool}{ks:eE}{ai ax aw:Bytes}{es:List aP}(g:cU H d I f pas ks ai ax aw es){fn:FuncId}{rest:List J}{v:J}(c0:∀a∈rest,ci a)(em:ci v)
 {Q:T->Nat->bO->Prop} (c9:∀(ad H':T)(r:Nat->Nat)(d:Nat)(I:bO),(∀i b,ad.get i=some b->H'.get (r i)=some (b.aK r))->(∀i j,r i=r j->i=j)->(∀i,i<ad.Y->r i<H'.Y)->Q ad d I->Q H' (r d) (I.map r))
 (small:∀kv pv ov ty uty j0 j1 j2 j3 K P O w,cU (T.of [bB 0 f 1 kv pv pas ov ty,bJ ax j0 j1 j2 j3 uty,K,P,O]) 0 w f pas ks ai ax aw es->(w.u=1/\(w.k=0\/w.k=2)/\(w.p=0\/w.p=3)/\(w.o=0\/w.o=4))->cj K->cj P->cj O ->
  ∃ad,bu fn (.ptr (some ⟨0,0,0,0,6⟩)::rest) (T.of [bB 0 f 1 kv pv pas ov ty,bJ ax j0 j1 j2 j3 uty,K,P,O]) v ad/\∃aC,Q ad 0 aC/\Fr (T.of [bB 0 f 1 kv pv pas ov ty,bJ ax j0 j1 j2 j3 uty,K,P,O]) ad 0 w aC) :
 ∃H',bu fn (.ptr (some ⟨d,0,0,0,6⟩)::rest) H v H'/\∃aC,Q H' d aC/\Fr H H' d I aC:=by
 obtain⟨kv,pv,ov,ty,e,d3,ae,d8⟩:=g.ex;obtain⟨j0,j1,j2,j3,uty,hu⟩:=g.gB;obtain⟨e0,l2,fd,fs,f0⟩:=g.lt;obtain⟨U,K,z,B,n,c4⟩:=MV d3 fd;obtain⟨X,P,A,C,pp,c5⟩:=MW ae fs;obtain⟨W,O,s,F,dE,f9,co⟩:=MX d8 f0;have c2:z<H.Y->H.get z=some K:=λh=>by rw [<-kD _ _ h];exact n.row
 have c3:A<H.Y->H.get A=some P:=λh=>by rw [<-kD _ _ h];exact pp.row
 have a9:s<H.Y->H.get s=some O:=λh=>by rw [<-kD _ _ h];exact dE.row
 have f1:d≠I.u:=by intro h;rw [<-h,e]at hu;simp [ac.aj]at hu
 have f4:z<H.Y->K.es=1->I.u≠z:=by intro aa h2 h;have:=c2 aa;rw [<-h,hu]at this;simp only [a6]at this;rw [<-this]at h2;simp [ac.aj]at h2
 have f6:A<H.Y->P.es=1->I.u≠A:=by intro aa h2 h;have:=c3 aa;rw [<-h,hu]at this;simp only [a6]at this;rw [<-this]at h2;simp [ac.aj]at h2
 have f5:s<H.Y->O.es=6->I.u≠s:=by intro aa h2 h;have:=a9 aa;rw [<-h,hu]at this;simp only [a6]at this;rw [<-this]at h2;simp [ac.aj]at h2
 have f2:z<H.Y->K.es=1->s<H.Y->O.es=6->z≠s:=by intro aa h2 M N h;have:=c2 aa;rw [h,a9 M]at this;simp only [a6]at this;rw [this]at N;omega
 have f3:A<H.Y->P.es=1->s<H.Y->O.es=6->A≠s:=by intro aa h2 M N h;have:=c3 aa;rw [h,a9 M]at this;simp only [a6]at this;rw [this]at N;omega
 let ids:=[d,I.u,z,A,s]
 let t:=qg H
 let r:=cK ids t.Y
 have gc:t.Y=H.Y+3:=rfl
 have ct:ids.Nodup:=by
  have ao:=n.at';have a2:=pp.at';have a3:=dE.at';have a4:=g.ne;simp only [ids,pr,cM,kU,ea,eR,lN,h0,kY];refine⟨⟨f1,?_,?_,?_⟩,⟨?_,?_,?_⟩,⟨?_,?_⟩,?_⟩
  .omega
  .omega
  .omega
  .rcases ao with ⟨_,_,h⟩|⟨_,_,_,h,ad⟩
   .omega
   .exact f4 h ad
  .rcases a2 with ⟨_,_,h⟩|⟨_,_,_,h,ad⟩
   .omega
   .exact f6 h ad
  .rcases a3 with ⟨_,_,h⟩|⟨_,_,_,h,ad⟩
   .omega
   .exact f5 h ad
  .omega
  .rcases ao with ⟨_,_,h⟩|⟨_,_,_,h,ad⟩<;>rcases a3 with ⟨_,_,q⟩|⟨_,_,_,q,Z⟩
   .omega
   .omega
   .omega
   .exact f2 h ad q Z
  .rcases a2 with ⟨_,_,h⟩|⟨_,_,_,h,ad⟩<;>rcases a3 with ⟨_,_,q⟩|⟨_,_,_,q,Z⟩
   .omega
   .omega
   .omega
   .exact f3 h ad q Z
 have R:∀j∈ids,j<t.Y:=by have ao:=n.at';have a2:=pp.at';have a3:=dE.at';intro j G;simp only [ids,cM,kU,ea]at G;rcases G with rfl|rfl|rfl|rfl|rfl<;>omega
 have D:r 0=d:=rfl;have am:r 1=I.u:=rfl;have av:r 2=z:=rfl;have a0:r 3=A:=rfl;have a5:r 4=s:=rfl
 let l:List ac:=[bB 0 f 1 U X pas W ty,bJ ax j0 j1 j2 j3 uty,K,P,O]
 have dp:∀b∈l,CZ (λi=>i<l.length) b:=by
  intro b m;simp only [l,cM,kU,ea]at m;rcases m with rfl|rfl|rfl|rfl|rfl
  .intro x S;rw [cC.1 S];simp only [bQ,dI,l,b',dx];exact⟨⟨⟨aA,trivial⟩,trivial⟩,n.dh _ aA,pp.dh _ aA,trivial,aA,dE.dh _ aA,trivial⟩
  .exact(ny _ _ _ _ _ _).dh _
  .exact n.bare.dh _
  .exact pp.bare.dh _
  .exact dE.bare.dh _
 have d4:∀i b,l[i]? =some b->t.get (r i)=some (b.aK r):=by
  intro i b m;have ah:=(dT.1 m).1;simp only [l,b',dx]at ah;have:i=0\/i=1\/i=2\/i=3\/i=4:= V;rcases this with rfl|rfl|rfl|rfl|rfl
  .simp only [l,fe,a6]at m;subst m;rw [D];show(qg H).get d=_;rw [kD _ _ e0,e];have aI:=n.aK r av;have aO:=pp.aK r a0;have bn:=dE.aK r a5;simp [ac.aK,ac.aj,J.aK,J.fD,aT.aK,aI,aO,bn,D,am]
  .simp only [l,fe,hj,a6]at m;subst m;rw [am,(ny _ _ _ _ _ _).aK];show(qg H).get I.u=_;rw [kD _ _ l2];exact hu
  .simp only [l,fe,hj,a6]at m;subst m;rw [av,n.bare.aK];exact n.row
  .simp only [l,fe,hj,a6]at m;subst m;rw [a0,pp.bare.aK];exact pp.row
  .simp only [l,fe,hj,a6]at m;subst m;rw [a5,dE.bare.aK];exact dE.row
 have gs:cU (T.of l) 0 ⟨1,B,C,F⟩ f pas ks ai ax aw es:=by
  refine⟨⟨U,X,W,ty,by rw [T.dG];rfl,c4 _ (by rw [T.dG];rfl),c5 _ (by rw [T.dG];rfl),co _ (by rw [T.dG];rfl)⟩,⟨j0,j1,j2,j3,uty,by rw [T.dG];rfl⟩,?_,?_⟩
  .have ao:=n.at';have a2:=pp.at';have a3:=dE.at';show 0<5/\1<5/\B<5/\C<5/\F<5;omega
  .have ao:=n.at';have a2:=pp.at';show B=0\/C=0\/B≠C;omega
 obtain⟨ad,d0,aC,el,b6⟩:=small U X W ty uty j0 j1 j2 j3 K P O _ gs (by have ao:=n.at';have a2:=pp.at';have a3:=dE.at';show 1=1/\(B=0\/B=2)/\(C=0\/C=3)/\(F=0\/F=4);omega) n.bare pp.bare dE.bare;have d6:5<=ad.Y:=b6.Y
 obtain⟨H',ce,L,d1,d9⟩:=d0.place (hn':=d6) dp (by
  refine rz.2 λa E=> ?_
  rcases cM.1 E with rfl|E
  .show 0<5;decide
  .exact(c0 a E).dh _) (H:=t) ids ct R rfl d4
 have dg:(J.ptr (some ⟨0,0,0,0,6⟩)::rest).map (J.aK (cK ids t.Y))=J.ptr (some ⟨d,0,0,0,6⟩)::rest:=by
  rw [eF]
  congr 1
  conv=>rhs;rw [<-List.map_id rest]
  exact jF λa E=>(c0 a E).1 _
 rw [dg,em.1]at ce;have d2:∀i j,r i=r j->i=j:=λi j h=>C3 ct R h
 have d5:∀i,i<ad.Y->r i<H'.Y:=by
  intro i ah;have L:H'.Y=H.Y+3+(ad.Y-5):=L;by_cases c:i<5
  .have bv:i<ids.length:=c;have:=R _ (gw bv);show cK ids t.Y i<_;rw [p0 bv];omega
  .show cK ids t.Y i<_;rw [la (show ids.length<=i by show 5<=i;omega)];show H.Y+3+(i-5)<_;omega
 refine⟨H',ce.less (by show H.Y<=H.Y+3;omega) (λi ah=>kD H i ah),aC.map r,c9 ad H' r 0 aC d1 d2 d5 el,?_,?_,?_⟩
 .have L:H'.Y=H.Y+3+(ad.Y-5):=L;omega
 .intro j G aI aO bn f7 f8
  have d7:j ∉ ids:=by have ao:=n.at';have a2:=pp.at';have a3:=dE.at';simp only [ids,cM,kU,ea,eR];refine⟨aI,aO,?_,?_,?_⟩<;>omega
  rw [d9 j (by show j<H.Y+3;omega) d7];exact kD H j G
 .intro x S
  have key:∀y,(y=aC.u\/y=aC.k\/y=aC.p\/y=aC.o)->r y=d\/r y=I.u\/r y=I.k\/r y=I.p\/r y=I.o\/H.Y<=r y:=by
   intro y eq;have ao:=n.at';have a2:=pp.at';have a3:=dE.at';rcases b6.ids y eq with h|h|h|h|h|h
   .left;rw [h];exact D
   .right;left;rw [h];exact am
   .have h:y=B:=h;rcases ao with ⟨aH,_,_⟩|⟨aH,b2,_⟩
    .left;rw [h,aH];exact D
    .right;right;left;rw [h,aH,av,b2]
   .have h:y=C:=h;rcases a2 with ⟨aH,_,_⟩|⟨aH,b2,_⟩
    .left;rw [h,aH];exact D
    .right;right;right;left;rw [h,aH,a0,b2]
   .have h:y=F:=h;rcases a3 with ⟨aH,_,_⟩|⟨aH,b2,_⟩
    .left;rw [h,aH];exact D
    .right;right;right;right;left;rw [h,aH,a5,b2]
   .right;right;right;right;right;have h:5<=y:=h;show H.Y<=cK ids t.Y y;rw [la (show ids.length<=y from h)];show H.Y<=H.Y+3+_;omega
  rcases S with h|h|h|h<;>(rw [h];exact key _ an)
theorem cU.lift{H:T}{d:Nat}{I:bO}{f:Nat}{pas:Bool}{ks:eE}{ai ax aw:Bytes}{es:List aP}(g:cU H d I f pas ks ai ax aw es){fn:FuncId}{rest:List J}{v:J}(l:∀a∈rest,ci a)(m:ci v)
 {Q:T->Nat->bO->Prop} (h:∀(ad H':T)(r:Nat->Nat)(d:Nat)(I:bO),(∀i b,ad.get i=some b->H'.get (r i)=some (b.aK r))->(∀i j,r i=r j->i=j)->(∀i,i<ad.Y->r i<H'.Y)->Q ad d I->Q H' (r d) (I.map r))
 (small:∀kv pv ov ty uty j0 j1 j2 j3 K P O c,cU (T.of [bB 0 f 1 kv pv pas ov ty,bJ ax j0 j1 j2 j3 uty,K,P,O]) 0 c f pas ks ai ax aw es->(c.u=1/\(c.k=0\/c.k=2)/\(c.p=0\/c.p=3)/\(c.o=0\/c.o=4)) ->
  ∃ad,bu fn (.ptr (some ⟨0,0,0,0,6⟩)::rest) (T.of [bB 0 f 1 kv pv pas ov ty,bJ ax j0 j1 j2 j3 uty,K,P,O]) v ad/\∃aC,Q ad 0 aC/\Fr (T.of [bB 0 f 1 kv pv pas ov ty,bJ ax j0 j1 j2 j3 uty,K,P,O]) ad 0 c aC) :
 ∃H',bu fn (.ptr (some ⟨d,0,0,0,6⟩)::rest) H v H'/\∃aC,Q H' d aC/\Fr H H' d I aC :=
 g.D0 l m h λkv pv ov ty uty j0 j1 j2 j3 K P O c gs e _ _ _=>small kv pv ov ty uty j0 j1 j2 j3 K P O c gs e
theorem gL.keep{H H':T}{d k:Nat}{v:J}{ks:eE}{l:Bytes}(h:gL H d k v ks l)(ag:k≠d->H'.get k=H.get k):gL H' d k v ks l:=by
 cases ks with
 |nil=>exact h
 |one=>exact⟨h.1,h.2.1,by rw [ag h.1];exact h.2.2.1,h.2.2.2⟩
 |grown junk =>
  obtain⟨aa,ab,m,f,e,g⟩:=h;exact⟨aa,ab,m,f,e,by rw [ag aa];exact g⟩
theorem gM.keep{H H':T}{d k:Nat}{v:J}{l:Bytes}(h:gM H d k v l)(ag:k≠d->H'.get k=H.get k):gM H' d k v l:=by
 rcases h with h|⟨aa,h2,ab,m,f,e,g⟩
 .exact .inl h
 .exact .inr ⟨aa,h2,ab,m,f,e,by rw [ag aa];exact g⟩
theorem gN.keep{H H':T}{d k:Nat}{v:J}{l:List aP}(h:gN H d k v l)(ag:k≠d->H'.get k=H.get k):gN H' d k v l:=by
 rcases h with h|⟨aa,h2,ab,m,f,e,g⟩
 .exact .inl h
 .exact .inr ⟨aa,h2,ab,m,f,e,by rw [ag aa];exact g⟩
abbrev nz(b a c e f:Int)(d:Bytes):J:=J.agg [.int .i8 b,.int .i32 a,.int .u8 c,.int .i64 e,.int .i64 f,.str d]
theorem MY(o:Nat)(p n:J)(m:Bool)(l:bj)(k g j i:ac)(b a c e f:Int)(d:Bytes)(h:bm)(q:h (.tuple []) (T.af 27 [(0,⟨[.agg [.func (.func 30) [.ptr (ba 0)] [],.slice none 0 0,n,.bool m,.ptr (some ⟨1,0,0,0,5⟩),.slice (ba 13) 1 1]],6,true,false,0,0,0,l⟩),(1,k),(2,g),(3,j),(4,i),(5,ac.aj [(nz b a c e f d)] 6 true (some (42,6))),(12,ac.aj [(nz b a c e f d)] 6 true),(13,ac.aj [(nz b a c e f d)] 6 false (some (42,0)))])) :
 bC 58 [.ptr (ba 0),bi ⟨b,a,c,e,f,d⟩] (T.of [bB 0 o 1 p n m (.slice none 0 0) l,k,g,j,i]) h :=
 bI bT (.nil) q
theorem MZ(q:Nat)(r p:J)(o:Bool)(m:bj)(l i k:ac)(c b d f g:Int)(e:Bytes)(es:List J)(ab h n a:Nat)(j:bm)(s:(ab=ab/\0+a=es.length/\a<a+1/\(a+1+(a+1)/4+512)*48<=281474976710656/\a+1<4611686018427387904)/\j (.tuple []) (T.af 27 [(0,{aQ:=[.agg [.func (.func 30) [.ptr (ba 0)] [],.slice none 0 0,p,.bool o,.ptr (some ⟨1,0,0,0,5⟩),.slice (some {id:=4,ab:=ab+1,idx:=0,fld:=0,es:=6}) (a+1) (a+1)]],es:=6,exact:=true,ro:=false,ab:=0,eb:=0,eS:=0,ty:=m}),(1,l),(2,i),(3,k),(4,⟨es++[(nz c b d f g e)],6,false,false,ab+1,h,if h=ab then es.length else min n es.length,some (42,0)⟩),(5,ac.aj [(nz c b d f g e)] 6 true (some (42,6))),(12,ac.aj [(nz c b d f g e)] 6 true)])) :
 bC 58 [.ptr (ba 0),bi ⟨c,b,d,f,g,e⟩] (T.of [bB 0 q 1 r p o (.slice (some ⟨4,ab,0,0,6⟩) a a) m,l,i,k,bL es 6 ab h n ek]) j :=
 bI bT (ag 1007 .nil) s
theorem D1{H:T}{d:Nat}{I:bO}{f:Nat}{pas:Bool}{ks:eE}{ai ax aw:Bytes}{es:List aP}(g:cU H d I f pas ks ai ax aw es)(e:aP)(G:es.length<2^30) :
 ∃H',bu 58 [.ptr (some ⟨d,0,0,0,6⟩),bi e] H (.tuple []) H'/\∃aC,cU H' d aC (b1 .ground) pas .nil [] ax aw (es++[e])/\Fr H H' d I aC:=by
 refine g.lift (Q:=λh d I=>cU h d I (b1 .ground) pas .nil [] ax aw (es++[e])) (λa B=>by rw [cC.1 B];exact vp e) (ci.of rfl) (λad H' r d I E C D q=>q.l' E C D) ?_;intro kv pv ov ty uty j0 j1 j2 j3 K P O b gs A;obtain⟨S,W,U,X,e0,L,ae,z⟩:=gs.ex;rw [T.dG]at e0;simp only [fe,a6,ac.aj,ac.mk.injEq,fT,J.agg.injEq,J.func.injEq,J.ptr.injEq,aT.mk.injEq,true_and,h0]at e0;obtain⟨⟨rfl,rfl,hu,rfl⟩,rfl⟩:=e0;obtain⟨i0,R,ip,w⟩:=A
 have fin:∀(v:J)(ad:T)(x:Nat),v=.tuple []/\(∃aC,cU ad 0 aC (b1 .ground) pas .nil [] ax aw (es++[e])/\Fr (T.of [bB 0 f 1 kv pv pas ov ty,bJ ax j0 j1 j2 j3 uty,K,P,O]) ad 0 b aC) ->
  bu 58 [.ptr (some ⟨0,0,0,0,6⟩),bi e] (T.of [bB 0 f 1 kv pv pas ov ty,bJ ax j0 j1 j2 j3 uty,K,P,O]) v ad ->
  ∃ad,bu 58 [.ptr (some ⟨0,0,0,0,6⟩),bi e] (T.of [bB 0 f 1 kv pv pas ov ty,bJ ax j0 j1 j2 j3 uty,K,P,O]) (.tuple []) ad/\∃aC,cU ad 0 aC (b1 .ground) pas .nil [] ax aw (es++[e])/\Fr (T.of [bB 0 f 1 kv pv pas ov ty,bJ ax j0 j1 j2 j3 uty,K,P,O]) ad 0 b aC:=by
  rintro v ad x ⟨rfl,q⟩ c;exact⟨ad,c,q⟩
 rcases z with ⟨rfl,rfl,z⟩|⟨M,N,ab,m,n,rfl,t⟩
 .obtain⟨v,ad,c,q⟩:=MY f kv pv pas ty (bJ ax j0 j1 j2 j3 uty) K P O e.kind e.code e.eJ e.x e.y e.text (λv ad=>v=.tuple []/\∃aC,cU ad 0 aC (b1 .ground) pas .nil [] ax aw [e]/\Fr (T.of [bB 0 f 1 kv pv pas (.slice none 0 0) ty,bJ ax j0 j1 j2 j3 uty,K,P,O]) ad 0 b aC) (by
   delta nz
   refine⟨rfl,⟨1,0,b.p,13⟩,⟨⟨.slice none 0 0,pv,.slice (some ⟨13,0,0,0,6⟩) 1 1,ty,ar,⟨rfl,rfl,rfl⟩,ae.keep ?_,.inr ⟨by show 13≠0;decide,an,0,0,0,rfl,?_⟩⟩,⟨j0,j1,j2,j3,uty,ar⟩,?_,.inl rfl⟩,⟨?_,?_,?_⟩⟩
   rotate_left
   .kernel_rfl
   rotate_right
   .intro s;rw [T.dG];rcases ip with ip|ip
    .exact absurd ip s
    .rw [ip];kernel_rfl
   .show 0<27/\1<27/\0<27/\b.p<27/\13<27;omega
   .show 5<=27;decide
   .intro j i aI aO _ _ _;have i:j<5:=i;have:j=2\/j=3\/j=4:= V;rw [T.dG];rcases this with rfl|rfl|rfl<;>(show _=_;kernel_rfl)
   .intro x l;show x=0\/x=b.u\/x=b.k\/x=b.p\/x=b.o\/5<=x;have l:x=1\/x=0\/x=b.p\/x=13:=l
    omega)
  exact fin v ad 0 q c
 .have w:b.o=4:= V;rw [w,T.dG]at t;simp only [fe,hj,a6]at t;subst t
  obtain⟨v,ad,c,q⟩:=MZ f kv pv pas ty (bJ ax j0 j1 j2 j3 uty) K P e.kind e.code e.eJ e.x e.y e.text (es.map bi) ab m n es.length (λv ad=>v=.tuple []/\∃aC,cU ad 0 aC (b1 .ground) pas .nil [] ax aw (es++[e])/\Fr (T.of [bB 0 f 1 kv pv pas (.slice (some ⟨4,ab,0,0,6⟩) es.length es.length) ty,bJ ax j0 j1 j2 j3 uty,K,P,bL (es.map bi) 6 ab m n ek]) ad 0 b aC) (by
   delta nz
   refine⟨⟨rfl,an,V,V,V⟩,rfl,⟨1,0,b.p,4⟩,⟨⟨.slice none 0 0,pv,.slice (some ⟨4,ab+1,0,0,6⟩) (es.length+1) (es.length+1),ty,ar,⟨rfl,rfl,rfl⟩,ae.keep ?_,.inr ⟨by show 4≠0;decide,an,ab+1,m,if m=ab then(es.map bi).length else min n (es.map bi).length,an,?_⟩⟩,⟨j0,j1,j2,j3,uty,ar⟩,?_,.inl rfl⟩,⟨?_,?_,?_⟩⟩
   rotate_left
   .rw [kj];kernel_rfl
   rotate_right
   .intro s;rw [T.dG];rcases ip with ip|ip
    .exact absurd ip s
    .rw [ip];kernel_rfl
   .show 0<27/\1<27/\0<27/\b.p<27/\4<27;omega
   .show 5<=27;decide
   .intro j i aI aO _ _ F;have i:j<5:=i;have:j=2\/j=3:= V;rw [T.dG];rcases this with rfl|rfl<;>(show _=_;kernel_rfl)
   .intro x l;show x=0\/x=b.u\/x=b.k\/x=b.p\/x=b.o\/5<=x;have l:x=1\/x=0\/x=b.p\/x=4:=l
    omega)
  rw [w]at fin⊢;exact fin v ad 0 q c
structure bU(h:T)(a:aT)(b3:J):Prop where
 at':a=⟨a.id,0,0,0,6⟩
 ex:∃I f pas ks ai ax aw es e,b3=bi e/\cU h a.id I f pas ks ai ax aw es/\es.length<2^30/\ax.length<=4
structure bV(h:T)(a:aT)(b3:J)(ad:T):Prop where
 all:∀I f pas ks ai ax aw es e,b3=bi e->cU h a.id I f pas ks ai ax aw es->ax.length<=4-> ∃aC,cU ad a.id aC (b1 .ground) pas .nil [] ax aw (es++[e])/\Fr h ad a.id I aC
 Y:h.Y<=ad.Y
def zf:List J->T->Option dm:=λargs h =>
 match args with
 |[.ptr (some a),.agg aX]=>some (.some (.tuple []) [bU h a (.agg aX)] (bV h a (.agg aX)))
 |_=>none
theorem M0:∀args h a,zf args h=some a->a.cx Tryz.prog ck 58 args h:=by
 intro args h a e;unfold zf at e;split at e<;>first|(cases e;done)|skip
 rename_i a aX;simp only [a6]at e;subst e;intro ae;have d:=ae.head.at';obtain⟨I,f,pas,ks,ai,ax,aw,es,e,he,g,j,k⟩:=ae.head.ex;obtain⟨ad,b,aC,c,b6⟩:=D1 g e j;rw [<-d,<-he]at b;refine⟨ad,b,⟨?_,b6.Y⟩⟩;intro l f2 r q p o s m aO i g2 n;obtain⟨rfl,rfl,rfl,rfl,rfl,rfl,rfl,rfl⟩:=g.na g2 k;have:=DW (he.symm.trans i);subst this;exact⟨aC,c,b6⟩
structure cF(N:Nat)(R:bq->UInt8->Prop)(h:T)(a:aT)(c:Int):Prop where
 at':a=⟨a.id,0,0,0,6⟩
 ex:∃I s es,bS h a.id I s es/\es.length<N/\s.ax.length<=4/\R s (dk c)
 c:0<=c/\c<=255
structure cG(F:bq->UInt8->bq×List aP)(h:T)(a:aT)(c:Int)(ad:T):Prop where
 all:∀I s es,bS h a.id I s es->s.ax.length<=4-> ∃aC,bS ad a.id aC (F s (dk c)).1 (es++(F s (dk c)).2)/\Fr h ad a.id I aC
 Y:h.Y<=ad.Y
def hv(N:Nat)(R:bq->UInt8->Prop)(F:bq->UInt8->bq×List aP):List J->T->Option dm:=λargs h =>
 match args with
 |[.ptr (some a),.int .u8 c]=>some (.some (.tuple []) [cF N R h a c] (cG F h a c))
 |_=>none
theorem qh(c:UInt8):dk (c.toNat:Int)=c:=by unfold dk;simp
theorem D2{c:Int}(h:0<=c/\c<=255):((dk c).toNat:Int)=c:=by
 unfold dk;have:(UInt8.ofNat c.toNat).toNat=c.toNat%256:=by simp [po]
 rw [this];omega
theorem nA{N:Nat}{f:FuncId}{R:bq->UInt8->Prop}{F:bq->UInt8->bq×List aP}(k:∀H d I s es c,bS H d I s es->es.length<N->s.ax.length<=4->R s c-> ∃H',bu f [.ptr (some ⟨d,0,0,0,6⟩),.int .u8 (c:UInt8).toNat] H (.tuple []) H'/\∃aC,bS H' d aC (F s c).1 (es++(F s c).2)/\Fr H H' d I aC) :
 ∀args h a,hv N R F args h=some a->a.cx Tryz.prog ck f args h:=by
 intro args h a e;unfold hv at e;split at e<;>first|(cases e;done)|skip
 rename_i a c;simp only [a6]at e;subst e;intro ae;have m:=ae.head.at';obtain⟨_,⟨I,s,es,g,n,i,l⟩,al⟩:=ae.head;obtain⟨ad,b,aC,j,b6⟩:=k h a.id I s es (dk c) g n i l;rw [<-m,D2 al]at b;refine⟨ad,b,⟨?_,b6.Y⟩⟩;intro o s2 p g2 q;obtain⟨rfl,rfl,rfl⟩:=g.na g2 i;exact⟨aC,j,b6⟩
noncomputable def vr:dB:=DT.add 58 zf
theorem r2:dv Tryz.prog ck vr:=MN.add M0
theorem M1{h:T}{f:Nat}{kv pv ov:J}{pas:Bool}{ty uty:bj}{ax ai aw:Bytes}{j0 j1 j2 j3:Int}{D aV K P O:ac}{ks:eE}{es:List aP}{k p o:Nat}
 (e0:h.get 0=some (bB 0 f 1 kv pv pas ov ty)) (aI:h.get 1=some (bJ ax j0 j1 j2 j3 uty)) (a:h.get 3=some P) (b:h.get 4=some O) (c:gL h 0 k kv ks ai) (i:k<h.Y) (g:5<=h.Y)
 (ae:gM (T.of [D,aV,K,P,O]) 0 p pv aw) (d:gN (T.of [D,aV,K,P,O]) 0 o ov es) (ip:p=0\/p=3) (e:o=0\/o=4) (j:k=0\/k=2\/5<=k):cU h 0 ⟨1,k,p,o⟩ f pas ks ai ax aw es where
 ex :=by
  refine⟨kv,pv,ov,ty,e0,c,ae.keep λaz=> ?_,d.keep λaz=> ?_⟩
  .rcases ip with rfl|rfl
   .exact absurd rfl az
   .rw [a,T.dG];rfl
  .rcases e with rfl|rfl
   .exact absurd rfl az
   .rw [b,T.dG];rfl
 gB:=⟨j0,j1,j2,j3,uty,aI⟩
 lt:=by show 0<h.Y/\1<h.Y/\k<h.Y/\p<h.Y/\o<h.Y;omega
 ne:=by show k=0\/p=0\/k≠p;omega
theorem M2{h:T}{D aV K P O:ac}{a:bO}{k:Nat}(l:a.u=1/\(a.k=0\/a.k=2)/\(a.p=0\/a.p=3)/\(a.o=0\/a.o=4))(aO:h.get 2=some K\/a.k=2)(f:h.get 3=some P)(g:h.get 4=some O)(i:5<=h.Y)(c:k=0\/5<=k\/(k=2/\a.k=2)) :
 Fr (T.of [D,aV,K,P,O]) h 0 a ⟨1,k,a.p,a.o⟩ where
 Y:=i
 get j b m n2 n q r:=by
  have b:j<5:=b;have:(j=2/\a.k≠2)\/j=3\/j=4:= V;rw [T.dG];rcases this with ⟨rfl,c⟩|rfl|rfl
  .rcases aO with e|e
   .exact e
   .exact absurd e c
  .exact f
  .exact g
 ids x d:=by show x=0\/x=a.u\/x=a.k\/x=a.p\/x=a.o\/5<=x;have d:x=1\/x=k\/x=a.p\/x=a.o:=d;omega
theorem gq{h:T}{f:Nat}{kv pv ov:J}{pas:Bool}{ty uty:bj}{ax ai aw:Bytes}{j0 j1 j2 j3:Int}{D aV K P O:ac}{ks:eE}{es:List aP}{a:bO}{k n:Nat}(az:h.Y=n)(j:5<=n)
 (e0:h.get 0=some (bB 0 f 1 kv pv pas ov ty)) (aI:h.get 1=some (bJ ax j0 j1 j2 j3 uty)) (aO:h.get 2=some K\/a.k=2) (c:h.get 3=some P) (d:h.get 4=some O) (e:gL h 0 k kv ks ai) (l:k<n)
 (ae:gM (T.of [D,aV,K,P,O]) 0 a.p pv aw) (i:gN (T.of [D,aV,K,P,O]) 0 a.o ov es) (b:a.u=1/\(a.k=0\/a.k=2)/\(a.p=0\/a.p=3)/\(a.o=0\/a.o=4)) (g:k=0\/5<=k\/(k=2/\a.k=2)) :
 cU h 0 ⟨1,k,a.p,a.o⟩ f pas ks ai ax aw es/\Fr (T.of [D,aV,K,P,O]) h 0 a ⟨1,k,a.p,a.o⟩ :=
 ⟨M1 e0 aI c d e V V ae i b.2.2.1 b.2.2.2 V,M2 b aO c d V g⟩
theorem vt(h:T):gL h 0 0 (.slice none 0 0) .nil []:=⟨rfl,rfl,rfl⟩
theorem kE{h:T}{k ab m f n:Nat}{l:Bytes}{es:List J}(a:k≠0)(az:n=l.length)(he:es=aG l)(e:h.get k=some (bL es 1 ab m f bZ)):gL h 0 k (.slice (some ⟨k,ab,0,0,1⟩) n n) (.grown []) l:=by subst az;subst he;exact⟨a,ab,m,f,rfl,e⟩
theorem zg{l h ad:T}{b3:J}{e:aP}{a I:bO}{f:Nat}{pas:Bool}{ks:eE}{ai ax aw:Bytes}{es:List aP}(t:bV h ⟨0,0,0,0,6⟩ b3 ad)(g:cU h 0 I f pas ks ai ax aw es)(b6:Fr l h 0 a I)(he:b3=bi e)(d:ax.length<=4) :
 ∃aC,cU ad 0 aC (b1 .ground) pas .nil [] ax aw (es++[e])/\Fr l ad 0 a aC:=by
 obtain⟨aC,c,b⟩:=t.all I f pas ks ai ax aw es e he g d;exact⟨aC,c,b6.trans b⟩
theorem zh{h:T}{b3:J}{e:aP}{I:bO}{f:Nat}{pas:Bool}{ks:eE}{ai ax aw:Bytes}{es:List aP}(g:cU h 0 I f pas ks ai ax aw es)(he:b3=bi e)(a:es.length<2^30)(b:ax.length<=4):bU h ⟨0,0,0,0,6⟩ b3 :=
 ⟨rfl,I,f,pas,ks,ai,ax,aw,es,e,he,g,a,b⟩
theorem e2{a b:Nat}{p:Prop}(h:a<=b)(k:p):_root_.cond (Nat.ble a b) p False:=by rw [Nat.ble_eq.mpr h];exact k
abbrev D3(a:Int):J:=J.str [UInt8.ofNat (Int.toNat a)]
abbrev D4:J:=J.slice (cX 98) 1 1
abbrev dw(a:Nat):J:= .func (.func a) [.ptr (ba 0)] []
abbrev nB:J:= .func (.func 90) [.ptr (ba 0)] []
abbrev qi:ch:=(.aq 6024 (.aq 9001 .nil .nil) (he 12004 (.aq 1007 .nil .nil)))
abbrev hd(a b c d f e:Int):ac:=(ac.aj ([.int .i32 (↑(List.getD (Prod.fst (bD a b c d f e)) 0 0):Int)]) 1 false (some (21,0)))
abbrev zi(a b c d e:Int):J:=J.agg [.int .u8 a,.int .u8 b,.int .u8 c,.int .u8 d,.int .i64 e]
abbrev et(a b c d f e:Int):J:=J.agg [.int .i8 1,.int .i32 (↑(List.getD (Prod.fst (bD a b c d f e)) 0 0):Int),.int .u8 0,.int .i64 0,.int .i64 0,.str []]
abbrev qj(a b c d f e:Int):ac:=⟨[.int .i32 (↑(List.getD (Prod.fst (bD a b c d f e)) 0 0):Int),.int .i32 (↑(List.getD (Prod.fst (bD a b c d f e)) 1 0):Int)],1,false,false,1,0,1,some (21,0)⟩
abbrev qk(a:Int):J:=J.agg [.int .i8 (aP.kind (Keys.control (Int.toNat a))),.int .i32 (aP.code (Keys.control (Int.toNat a))),.int .u8 (aP.eJ (Keys.control (Int.toNat a))),.int .i64 (aP.x (Keys.control (Int.toNat a))),.int .i64 (aP.y (Keys.control (Int.toNat a))),.str (Keys.control (Int.toNat a)).6]
abbrev oM(a b c d f e:Int):J:=J.agg [.int .u8 (bF (Prod.snd (bD a b c d f e)) 0 a),.int .u8 (bF (Prod.snd (bD a b c d f e)) 1 b),.int .u8 (bF (Prod.snd (bD a b c d f e)) 2 c),.int .u8 (bF (Prod.snd (bD a b c d f e)) 3 d),.int .i64 (↑(List.length (Prod.snd (bD a b c d f e))):Int)]
abbrev r3(a:Int):ac:=(ac.aj ([(qk a)]) 6 true (some (42,6)))
abbrev D5(b a:J):J:=J.agg [nB,D4,b,.bool false,.ptr (some ⟨1,0,0,0,5⟩),a]
abbrev zj(a:Nat)(c b:J):J:=J.agg [(dw a),.slice none 0 0,c,.bool false,.ptr (some ⟨1,0,0,0,5⟩),b]
abbrev oN(f:bj)(a b c d e:Int):ac:=⟨[(zi a b c d e)],5,true,false,0,0,0,f⟩
abbrev ib(g:bj)(a b c d f e:Int):ac:=⟨[(oM a b c d f e)],5,true,false,0,0,0,g⟩
abbrev kF(a:Int):J:=J.agg [.int .i8 7,.int .i32 0,.int .u8 0,.int .i64 0,.int .i64 0,(D3 a)]
abbrev zk(c b:J)(a:bj):ac:=⟨[.agg [nB,.slice (cX 97) 1 1,c,.bool false,.ptr (some ⟨1,0,0,0,5⟩),b]],6,true,false,0,0,0,a⟩
abbrev r4(c b:J)(a:bj):ac:=⟨[(D5 c b)],6,true,false,0,0,0,a⟩
abbrev nC(b:Nat)(d c:J)(a:bj):ac:=⟨[(zj b d c)],6,true,false,0,0,0,a⟩
abbrev r5(l k:J)(j m:bj)(g i h:ac)(b c d e f a:Int):T:=(T.af 119 [(0,(r4 l k j)),(1,(ib m b c d e f a)),(2,g),(3,i),(4,h),(42,(cl a)),(45,(hd b c d e f a)),(97,ac.aj [.int .u8 a] 1 true),(98,ac.aj [.int .u8 a] 1 false (some (5,0)))])
abbrev r6(l k:J)(j m:bj)(g i h:ac)(b c d e f a:Int):T:=(T.af 120 [(0,(r4 l k j)),(1,(ib m b c d e f a)),(2,g),(3,i),(4,h),(42,(cl a)),(45,(hd b c d e f a)),(97,ac.aj [.int .u8 a] 1 true),(98,ac.aj [.int .u8 a] 1 false (some (5,0)))])
abbrev r7(l k:J)(j m:bj)(g i h:ac)(b c d e f a:Int):T:=(T.af 119 [(0,(r4 l k j)),(1,(ib m b c d e f a)),(2,g),(3,i),(4,h),(42,(cl a)),(45,(qj b c d e f a)),(86,ac.aj [.int .u8 a] 1 true),(97,ac.aj [.int .u8 a] 1 true),(98,ac.aj [.int .u8 a] 1 false (some (5,0)))])
abbrev r8(l k:J)(j m:bj)(g i h:ac)(b c d e f a:Int):T:=(T.af 120 [(0,(r4 l k j)),(1,(ib m b c d e f a)),(2,g),(3,i),(4,h),(42,(cl a)),(45,(qj b c d e f a)),(86,ac.aj [.int .u8 a] 1 true),(97,ac.aj [.int .u8 a] 1 true),(98,ac.aj [.int .u8 a] 1 false (some (5,0)))])
theorem M3(r:Nat)(m l:J)(j n:bj)(g i h:ac)(b c d e f a:Int)(p:bm)(s:(a<32->(0<=a/\(a<32\/a=127))/\(a=27->False)/\bU (T.af 24 [(0,(nC r m l j)),(1,(oN n b c d e f)),(2,g),(3,i),(4,h),(13,(r3 a))]) ⟨0,0,0,0,6⟩ ((qk a))/\∀(q:T),bV (T.af 24 [(0,(nC r m l j)),(1,(oN n b c d e f)),(2,g),(3,i),(4,h),(13,(r3 a))]) ⟨0,0,0,0,6⟩ ((qk a)) q->bk 5 (q.Y) (p (.tuple []) q))/\(¬a<32->(a=127->(0<=a/\(a<32\/a=127))/\(a=27->False)/\bU (T.af 24 [(0,(nC r m l j)),(1,(oN n b c d e f)),(2,g),(3,i),(4,h),(13,(r3 a))]) ⟨0,0,0,0,6⟩ ((qk a))/\∀(q:T),bV (T.af 24 [(0,(nC r m l j)),(1,(oN n b c d e f)),(2,g),(3,i),(4,h),(13,(r3 a))]) ⟨0,0,0,0,6⟩ ((qk a)) q->bk 5 (q.Y) (p (.tuple []) q))/\(¬a=127->((bD b c d e f a).1=[]->gp b c d e f a/\(0<(↑(List.length (Prod.snd (bD b c d e f a))):Int)->p (.tuple []) (T.af 75 [(0,⟨[.agg [nB,.slice (cX 71) 1 1,m,.bool false,.ptr (some ⟨1,0,0,0,5⟩),l]],6,true,false,0,0,0,j⟩),(1,(ib n b c d e f a)),(2,g),(3,i),(4,h),(42,(cl a)),(70,ac.aj [.int .u8 a] 1 true),(71,ac.aj [.int .u8 a] 1 false (some (5,0)))]))/\(¬0<(↑(List.length (Prod.snd (bD b c d e f a))):Int)->1<1099511627776/\(valid [UInt8.ofNat (Int.toNat a)]=true->1<1099511627776/\(valid [UInt8.ofNat (Int.toNat a)]=true->False)/\(valid [UInt8.ofNat (Int.toNat a)]=false->bU (T.af 119 [(0,(zk m l j)),(1,(ib n b c d e f a)),(2,g),(3,i),(4,h),(42,(cl a)),(85,ac.aj [.int .u8 a] 1 true),(96,ac.aj [.int .u8 a] 1 true),(97,ac.aj [.int .u8 a] 1 false (some (5,0)))]) ⟨0,0,0,0,6⟩ ((kF a))/\∀(k:T),bV (T.af 119 [(0,(zk m l j)),(1,(ib n b c d e f a)),(2,g),(3,i),(4,h),(42,(cl a)),(85,ac.aj [.int .u8 a] 1 true),(96,ac.aj [.int .u8 a] 1 true),(97,ac.aj [.int .u8 a] 1 false (some (5,0)))]) ⟨0,0,0,0,6⟩ ((kF a)) k->bk 20 (k.Y) (bk 5 (k.Y) (p (.tuple []) k))))/\(valid [UInt8.ofNat (Int.toNat a)]=false->((↑(List.length (Prod.snd (bD b c d e f a))):Int)=0->False)/\(¬(↑(List.length (Prod.snd (bD b c d e f a))):Int)=0->False))))/\(¬(bD b c d e f a).1=[]->(List.length (Prod.fst (bD b c d e f a))=1->gp b c d e f a/\(0<(↑(List.length (Prod.snd (bD b c d e f a))):Int)->1<1099511627776/\(valid [UInt8.ofNat (Int.toNat a)]=true->bU (r5 m l j n g i h b c d e f a) ⟨0,0,0,0,6⟩ ((et b c d e f a))/\∀(o:T),bV (r5 m l j n g i h b c d e f a) ⟨0,0,0,0,6⟩ ((et b c d e f a)) o->bk 20 (o.Y) (bk 5 (o.Y) (p (.tuple []) o)))/\(valid [UInt8.ofNat (Int.toNat a)]=false->bU (r6 m l j n g i h b c d e f a) ⟨0,0,0,0,6⟩ ((kF a))/\∀(k:T),bV (r6 m l j n g i h b c d e f a) ⟨0,0,0,0,6⟩ ((kF a)) k->bk 20 (k.Y) (bk 5 (k.Y) (p (.tuple []) k))))/\(¬0<(↑(List.length (Prod.snd (bD b c d e f a))):Int)->1<1099511627776/\(valid [UInt8.ofNat (Int.toNat a)]=true->bU (r5 m l j n g i h b c d e f a) ⟨0,0,0,0,6⟩ ((et b c d e f a))/\∀(o:T),bV (r5 m l j n g i h b c d e f a) ⟨0,0,0,0,6⟩ ((et b c d e f a)) o->bk 20 (o.Y) (bk 5 (o.Y) (p (.tuple []) o)))/\(valid [UInt8.ofNat (Int.toNat a)]=false->bU (r6 m l j n g i h b c d e f a) ⟨0,0,0,0,6⟩ ((kF a))/\∀(k:T),bV (r6 m l j n g i h b c d e f a) ⟨0,0,0,0,6⟩ ((kF a)) k->bk 20 (k.Y) (bk 5 (k.Y) (p (.tuple []) k)))))/\(¬List.length (Prod.fst (bD b c d e f a))=1->gp b c d e f a/\(0<(↑(List.length (Prod.snd (bD b c d e f a))):Int)->1<1099511627776/\(valid [UInt8.ofNat (Int.toNat a)]=true->1<1099511627776/\(valid [UInt8.ofNat (Int.toNat a)]=true->bU (r7 m l j n g i h b c d e f a) ⟨0,0,0,0,6⟩ ((et b c d e f a))/\∀(o:T),bV (r7 m l j n g i h b c d e f a) ⟨0,0,0,0,6⟩ ((et b c d e f a)) o->bk 20 (o.Y) (bk 5 (o.Y) (p (.tuple []) o)))/\(valid [UInt8.ofNat (Int.toNat a)]=false->bU (r8 m l j n g i h b c d e f a) ⟨0,0,0,0,6⟩ ((kF a))/\∀(k:T),bV (r8 m l j n g i h b c d e f a) ⟨0,0,0,0,6⟩ ((kF a)) k->bk 20 (k.Y) (bk 5 (k.Y) (p (.tuple []) k))))/\(valid [UInt8.ofNat (Int.toNat a)]=false->((↑(List.length (Prod.snd (bD b c d e f a))):Int)=0->False)/\(¬(↑(List.length (Prod.snd (bD b c d e f a))):Int)=0->False)))/\(¬0<(↑(List.length (Prod.snd (bD b c d e f a))):Int)->1<1099511627776/\(valid [UInt8.ofNat (Int.toNat a)]=true->1<1099511627776/\(valid [UInt8.ofNat (Int.toNat a)]=true->bU (r7 m l j n g i h b c d e f a) ⟨0,0,0,0,6⟩ ((et b c d e f a))/\∀(o:T),bV (r7 m l j n g i h b c d e f a) ⟨0,0,0,0,6⟩ ((et b c d e f a)) o->bk 20 (o.Y) (bk 5 (o.Y) (p (.tuple []) o)))/\(valid [UInt8.ofNat (Int.toNat a)]=false->bU (r8 m l j n g i h b c d e f a) ⟨0,0,0,0,6⟩ ((kF a))/\∀(k:T),bV (r8 m l j n g i h b c d e f a) ⟨0,0,0,0,6⟩ ((kF a)) k->bk 20 (k.Y) (bk 5 (k.Y) (p (.tuple []) k))))/\(valid [UInt8.ofNat (Int.toNat a)]=false->((↑(List.length (Prod.snd (bD b c d e f a))):Int)=0->False)/\(¬(↑(List.length (Prod.snd (bD b c d e f a))):Int)=0->False)))))))) :
 bC 60 [.ptr (ba 0),.int .u8 a] (T.of [bB 0 r 1 (.slice none 0 0) m false l j,fk b c d e f n,g,i,h]) p :=
 bI r2 (.aq 1 .nil (.aq 4 .nil (he 6002 (.aq 3006 (he 4004 (.aq 4005 .nil qi)) (.aq 3006 (he 4004 (.aq 4005 (.aq 9001 .nil .nil) (.aq 9001 .nil .nil))) (he 4004 (.aq 4005 qi qi))))))) s
abbrev zl:J:=J.slice (cX 2) 1 1
abbrev D6:J:=J.slice (cX 100) 2 2
abbrev D7(a:Int):J:=J.str [{toBitVec:= {toFin:=⟨27,Nat.mod_lt (Int.toNat (27)) (BitVec.ofNat._proof_1 8)⟩}},UInt8.ofNat (Int.toNat a)]
abbrev f'(a b c d f e:Int):J:=J.agg [.int .i8 1,.int .i32 (↑(List.getD (Prod.fst (bD a b c d f e)) 0 0):Int),.int .u8 2,.int .i64 0,.int .i64 0,.str []]
abbrev ql(a:Int):J:=J.agg [.int .i8 (aP.kind (Keys.control (Int.toNat a))),.int .i32 (aP.code (Keys.control (Int.toNat a))),.int .u8 (cf .u8 (aP.eJ (Keys.control (Int.toNat a))) (2)),.int .i64 (aP.x (Keys.control (Int.toNat a))),.int .i64 (aP.y (Keys.control (Int.toNat a))),.str (Keys.control (Int.toNat a)).6]
abbrev D8(a:Int):ac:=(ac.aj ([(ql a)]) 6 true (some (42,6)))
abbrev D9(b a:J):J:=J.agg [nB,D6,b,.bool false,.ptr (some ⟨1,0,0,0,5⟩),a]
abbrev zm(a:Nat)(c b:J):J:=J.agg [(dw a),zl,c,.bool false,.ptr (some ⟨1,0,0,0,5⟩),b]
abbrev kG(a:Int):J:=J.agg [.int .i8 7,.int .i32 0,.int .u8 0,.int .i64 0,.int .i64 0,(D7 a)]
abbrev D'(c b:J)(a:bj):ac:=⟨[.agg [nB,.slice (cX 99) 2 2,c,.bool false,.ptr (some ⟨1,0,0,0,5⟩),b]],6,true,false,0,0,0,a⟩
abbrev r9(c b:J)(a:bj):ac:=⟨[(D9 c b)],6,true,false,0,0,0,a⟩
abbrev oO(b:Nat)(d c:J)(a:bj):ac:=⟨[(zm b d c)],6,true,false,0,0,0,a⟩
abbrev zn(k j:J)(h l:bj)(c b:ac)(d e f g i a:Int):T:=(T.af 121 [(0,(D' k j h)),(1,(ib l d e f g i a)),(2,ac.aj [.int .u8 27] 1 true),(3,c),(4,b),(44,(cl a)),(87,ac.aj [.int .u8 a] 1 true),(98,ac.aj [.int .u8 a] 1 true),(99,ac.aj [.int .u8 27,.int .u8 a] 1 false (some (5,0)))])
abbrev r'(i:Nat)(l k:J)(h m:bj)(b a:ac)(c d e f j g:Int):T:=(T.af 29 [(0,(oO i l k h)),(1,(oN m c d e f j)),(2,ac.aj [.int .u8 27] 1 true),(3,b),(4,a),(13,(D8 g))])
abbrev sa(k j:J)(i l:bj)(h g:ac)(b c d e f a:Int):T:=(T.af 121 [(0,(r9 k j i)),(1,(ib l b c d e f a)),(2,ac.aj [.int .u8 27] 1 true),(3,h),(4,g),(44,(cl a)),(47,(hd b c d e f a)),(99,ac.aj [.int .u8 a] 1 true),(100,ac.aj [.int .u8 27,.int .u8 a] 1 false (some (5,0)))])
abbrev sb(k j:J)(i l:bj)(h g:ac)(b c d e f a:Int):T:=(T.af 122 [(0,(r9 k j i)),(1,(ib l b c d e f a)),(2,ac.aj [.int .u8 27] 1 true),(3,h),(4,g),(44,(cl a)),(47,(hd b c d e f a)),(99,ac.aj [.int .u8 a] 1 true),(100,ac.aj [.int .u8 27,.int .u8 a] 1 false (some (5,0)))])
abbrev sc(k j:J)(i l:bj)(h g:ac)(b c d e f a:Int):T:=(T.af 121 [(0,(r9 k j i)),(1,(ib l b c d e f a)),(2,ac.aj [.int .u8 27] 1 true),(3,h),(4,g),(44,(cl a)),(47,(qj b c d e f a)),(88,ac.aj [.int .u8 a] 1 true),(99,ac.aj [.int .u8 a] 1 true),(100,ac.aj [.int .u8 27,.int .u8 a] 1 false (some (5,0)))])
abbrev sd(k j:J)(i l:bj)(h g:ac)(b c d e f a:Int):T:=(T.af 122 [(0,(r9 k j i)),(1,(ib l b c d e f a)),(2,ac.aj [.int .u8 27] 1 true),(3,h),(4,g),(44,(cl a)),(47,(qj b c d e f a)),(88,ac.aj [.int .u8 a] 1 true),(99,ac.aj [.int .u8 a] 1 true),(100,ac.aj [.int .u8 27,.int .u8 a] 1 false (some (5,0)))])
theorem M4(q:Nat)(l k:J)(i m:bj)(h g:ac)(b c d e f a:Int)(o:bm)(r:(a<32->(0<=a/\(a<32\/a=127))/\(a=27->False)/\True/\bU (r' q l k i m h g b c d e f a) ⟨0,0,0,0,6⟩ ((ql a))/\∀(p:T),bV (r' q l k i m h g b c d e f a) ⟨0,0,0,0,6⟩ ((ql a)) p->bk 5 (p.Y) (o (.tuple []) p))/\(¬a<32->(a=127->(0<=a/\(a<32\/a=127))/\(a=27->False)/\True/\bU (r' q l k i m h g b c d e f a) ⟨0,0,0,0,6⟩ ((ql a))/\∀(p:T),bV (r' q l k i m h g b c d e f a) ⟨0,0,0,0,6⟩ ((ql a)) p->bk 5 (p.Y) (o (.tuple []) p))/\(¬a=127->((bD b c d e f a).1=[]->gp b c d e f a/\(0<(↑(List.length (Prod.snd (bD b c d e f a))):Int)->o (.tuple []) (T.af 77 [(0,⟨[.agg [nB,.slice (cX 73) 2 2,l,.bool false,.ptr (some ⟨1,0,0,0,5⟩),k]],6,true,false,0,0,0,i⟩),(1,(ib m b c d e f a)),(2,ac.aj [.int .u8 27] 1 true),(3,h),(4,g),(44,(cl a)),(72,ac.aj [.int .u8 a] 1 true),(73,ac.aj [.int .u8 27,.int .u8 a] 1 false (some (5,0)))]))/\(¬0<(↑(List.length (Prod.snd (bD b c d e f a))):Int)->1<1099511627776/\(valid [UInt8.ofNat (Int.toNat a)]=true->1<1099511627776/\(valid [UInt8.ofNat (Int.toNat a)]=true->False)/\(valid [UInt8.ofNat (Int.toNat a)]=false->bU (zn l k i m h g b c d e f a) ⟨0,0,0,0,6⟩ ((kG a))/\∀(j:T),bV (zn l k i m h g b c d e f a) ⟨0,0,0,0,6⟩ ((kG a)) j->bk 20 (j.Y) (bk 5 (j.Y) (o (.tuple []) j))))/\(valid [UInt8.ofNat (Int.toNat a)]=false->((↑(List.length (Prod.snd (bD b c d e f a))):Int)=0->False)/\(¬(↑(List.length (Prod.snd (bD b c d e f a))):Int)=0->False))))/\(¬(bD b c d e f a).1=[]->(List.length (Prod.fst (bD b c d e f a))=1->gp b c d e f a/\(0<(↑(List.length (Prod.snd (bD b c d e f a))):Int)->1<1099511627776/\(valid [UInt8.ofNat (Int.toNat a)]=true->bU (sa l k i m h g b c d e f a) ⟨0,0,0,0,6⟩ ((f' b c d e f a))/\∀(n:T),bV (sa l k i m h g b c d e f a) ⟨0,0,0,0,6⟩ ((f' b c d e f a)) n->bk 20 (n.Y) (bk 5 (n.Y) (o (.tuple []) n)))/\(valid [UInt8.ofNat (Int.toNat a)]=false->bU (sb l k i m h g b c d e f a) ⟨0,0,0,0,6⟩ ((kG a))/\∀(j:T),bV (sb l k i m h g b c d e f a) ⟨0,0,0,0,6⟩ ((kG a)) j->bk 20 (j.Y) (bk 5 (j.Y) (o (.tuple []) j))))/\(¬0<(↑(List.length (Prod.snd (bD b c d e f a))):Int)->1<1099511627776/\(valid [UInt8.ofNat (Int.toNat a)]=true->bU (sa l k i m h g b c d e f a) ⟨0,0,0,0,6⟩ ((f' b c d e f a))/\∀(n:T),bV (sa l k i m h g b c d e f a) ⟨0,0,0,0,6⟩ ((f' b c d e f a)) n->bk 20 (n.Y) (bk 5 (n.Y) (o (.tuple []) n)))/\(valid [UInt8.ofNat (Int.toNat a)]=false->bU (sb l k i m h g b c d e f a) ⟨0,0,0,0,6⟩ ((kG a))/\∀(j:T),bV (sb l k i m h g b c d e f a) ⟨0,0,0,0,6⟩ ((kG a)) j->bk 20 (j.Y) (bk 5 (j.Y) (o (.tuple []) j)))))/\(¬List.length (Prod.fst (bD b c d e f a))=1->gp b c d e f a/\(0<(↑(List.length (Prod.snd (bD b c d e f a))):Int)->1<1099511627776/\(valid [UInt8.ofNat (Int.toNat a)]=true->1<1099511627776/\(valid [UInt8.ofNat (Int.toNat a)]=true->bU (sc l k i m h g b c d e f a) ⟨0,0,0,0,6⟩ ((f' b c d e f a))/\∀(n:T),bV (sc l k i m h g b c d e f a) ⟨0,0,0,0,6⟩ ((f' b c d e f a)) n->bk 20 (n.Y) (bk 5 (n.Y) (o (.tuple []) n)))/\(valid [UInt8.ofNat (Int.toNat a)]=false->bU (sd l k i m h g b c d e f a) ⟨0,0,0,0,6⟩ ((kG a))/\∀(j:T),bV (sd l k i m h g b c d e f a) ⟨0,0,0,0,6⟩ ((kG a)) j->bk 20 (j.Y) (bk 5 (j.Y) (o (.tuple []) j))))/\(valid [UInt8.ofNat (Int.toNat a)]=false->((↑(List.length (Prod.snd (bD b c d e f a))):Int)=0->False)/\(¬(↑(List.length (Prod.snd (bD b c d e f a))):Int)=0->False)))/\(¬0<(↑(List.length (Prod.snd (bD b c d e f a))):Int)->1<1099511627776/\(valid [UInt8.ofNat (Int.toNat a)]=true->1<1099511627776/\(valid [UInt8.ofNat (Int.toNat a)]=true->bU (sc l k i m h g b c d e f a) ⟨0,0,0,0,6⟩ ((f' b c d e f a))/\∀(n:T),bV (sc l k i m h g b c d e f a) ⟨0,0,0,0,6⟩ ((f' b c d e f a)) n->bk 20 (n.Y) (bk 5 (n.Y) (o (.tuple []) n)))/\(valid [UInt8.ofNat (Int.toNat a)]=false->bU (sd l k i m h g b c d e f a) ⟨0,0,0,0,6⟩ ((kG a))/\∀(j:T),bV (sd l k i m h g b c d e f a) ⟨0,0,0,0,6⟩ ((kG a)) j->bk 20 (j.Y) (bk 5 (j.Y) (o (.tuple []) j))))/\(valid [UInt8.ofNat (Int.toNat a)]=false->((↑(List.length (Prod.snd (bD b c d e f a))):Int)=0->False)/\(¬(↑(List.length (Prod.snd (bD b c d e f a))):Int)=0->False)))))))) :
 bC 60 [.ptr (ba 0),.int .u8 a] (T.of [bB 0 q 1 (.slice (cX 2) 1 1) l false k i,fk b c d e f m,ac.aj [.int .u8 27] 1 true,h,g]) o :=
 bI r2 (.aq 1 (ag 3002 .nil) (.aq 4 (ag 3002 .nil) (he 6002 (.aq 3006 (he 4004 (.aq 4005 .nil qi)) (.aq 3006 (he 4004 (.aq 4005 (.aq 9001 .nil .nil) (.aq 9001 .nil .nil))) (he 4004 (.aq 4005 qi qi))))))) r
theorem kH{f b:Nat}{kv pv ov:J}{pas e:Bool}{ty:bj}{aV K P O:ac}{a:bO}{ks:eE}{ai ax aw:Bytes}{es:List aP}(gs:cU (T.of [bB 0 f 1 kv pv pas ov ty,aV,K,P,O]) 0 a b e ks ai ax aw es) :
 gL (T.of [bB 0 f 1 kv pv pas ov ty,aV,K,P,O]) 0 a.k kv ks ai/\gM (T.of [bB 0 f 1 kv pv pas ov ty,aV,K,P,O]) 0 a.p pv aw/\gN (T.of [bB 0 f 1 kv pv pas ov ty,aV,K,P,O]) 0 a.o ov es:=by
 obtain⟨g,i,h,j,e0,c,ae,d⟩:=gs.ex;rw [T.dG]at e0;simp only [fe,a6,ac.aj,ac.mk.injEq,fT,J.agg.injEq,J.func.injEq,J.ptr.injEq,aT.mk.injEq,true_and,h0]at e0;obtain⟨⟨_,rfl,rfl,_,_,rfl⟩,rfl⟩:=e0;exact⟨c,ae,d⟩
theorem Ea{l h:T}{b3:J}{e:aP}{b I:bO}{f:Nat}{pas:Bool}{ks:eE}{ai ax aw:Bytes}{es:List aP}{n aH b2:Nat}(az:h.Y=n)(k:aH<=n)(m:b2<=n)(a:cU h 0 I f pas ks ai ax aw es/\Fr l h 0 b I)(he:b3=bi e)(j:es.length<2^30)(c:ax.length<=4)
 {R:T->Prop} (i:∀ad aC,cU ad 0 aC (b1 .ground) pas .nil [] ax aw (es++[e])->Fr l ad 0 b aC->R ad):bU h ⟨0,0,0,0,6⟩ b3/\∀ad,bV h ⟨0,0,0,0,6⟩ b3 ad->_root_.cond (Nat.ble aH ad.Y) (_root_.cond (Nat.ble b2 ad.Y) (R ad) False) False:=by
 refine⟨zh a.1 he j c,λad t=> ?_⟩;have:=t.Y;obtain⟨aC,g,d⟩:=zg t a.1 a.2 he c;exact e2 V (e2 V (i ad aC g d))
theorem oP{l h:T}{b3:J}{e:aP}{b I:bO}{f:Nat}{pas:Bool}{ks:eE}{ai ax aw:Bytes}{es:List aP}{n aH:Nat}(az:h.Y=n)(k:aH<=n)(a:cU h 0 I f pas ks ai ax aw es/\Fr l h 0 b I)(he:b3=bi e)(j:es.length<2^30)(c:ax.length<=4)
 {R:T->Prop} (i:∀ad aC,cU ad 0 aC (b1 .ground) pas .nil [] ax aw (es++[e])->Fr l ad 0 b aC->R ad):bU h ⟨0,0,0,0,6⟩ b3/\∀ad,bV h ⟨0,0,0,0,6⟩ b3 ad->_root_.cond (Nat.ble aH ad.Y) (R ad) False:=by
 refine⟨zh a.1 he j c,λad t=> ?_⟩;have:=t.Y;obtain⟨aC,g,d⟩:=zg t a.1 a.2 he c;exact e2 V (i ad aC g d)
theorem li{l h:T}{a I:bO}{s:bq}{ks:eE}{es:List aP}(b:cU h 0 I (b1 s.nx) (decide (s.nx=.cb)) ks s.ai s.ax s.aw es/\Fr l h 0 a I)(c:l9 s.nx ks s.ai):∃aC,bS h 0 aC s es/\Fr l h 0 a aC:=⟨I,⟨ks,b.1,c⟩,b.2⟩
theorem se{h:T}{I:bO}{ax aw:Bytes}{es:List aP}(g:cU h 0 I (b1 .ground) false .nil [] ax aw es):bS h 0 I ⟨.ground,[],ax,aw⟩ es:=⟨.nil,g,trivial⟩
theorem Eb{c:UInt8}(h:c≠27):c.toNat≠27:=λe=>h (fq.1 e)
theorem M5(aw:Bytes){c:UInt8}(a:c≠27)(h:c.toNat<32\/c.toNat=127):Keys.ground ⟨.ground,[],[],aw⟩ c=(⟨.ground,[],[],aw⟩,[control c.toNat]):=by simp [Keys.ground,a,hH,h,tell]
theorem M6(aw:Bytes){c:UInt8}(a:c≠27)(h:¬(c.toNat<32\/c.toNat=127))(b:bG [] c=([],[c])):Keys.ground ⟨.ground,[],[],aw⟩ c=(⟨.cd,[c],[c],aw⟩,[]):=by simp [Keys.ground,a,hH,h,eZ,b]
theorem M7(aw:Bytes){c:UInt8}(a:c≠27)(h:¬(c.toNat<32\/c.toNat=127)){r:Nat}(b:bG [] c=([r],[])):Keys.ground ⟨.ground,[],[],aw⟩ c=(⟨.ground,[],[],aw⟩,[if valid [c]=true then dq r else cQ [c]]):=by by_cases d:valid [c]=true<;>simp [Keys.ground,a,hH,h,eZ,b,at',d,tell]
theorem Ec(c:UInt8):bG [] c=([],[c])\/ ∃r,bG [] c=([r],[]):=by
 rcases gF c.toNat with h|h|h|h|h
 .exact .inr ⟨_,iB c h⟩
 .exact .inr ⟨_,iC c h⟩
 .exact .inl (dK c 0 h)
 .exact .inl (dK c 1 h)
 .exact .inl (dK c 2 h)
theorem Ed(j0 j1 j2 j3:Int)(c:UInt8):bD j0 j1 j2 j3 0 c.toNat=bG [] c:=by unfold bD kC;rw [qh];rfl
theorem Ee(j0 j1 j2 j3:Int)(c:UInt8):gp j0 j1 j2 j3 0 c.toNat :=
 ⟨V,V,V,V,by have:=c.toNat_lt;omega,.inl rfl⟩
theorem Ef:1<1099511627776:= aA
theorem lj(c:UInt8):UInt8.ofNat (Int.toNat (c.toNat:Int))=c:= an
theorem M8{f:Nat}{pv ov:J}{ty uty:bj}{K P O:ac}{a:bO}{aw:Bytes}{es:List aP}{j0 j1 j2 j3:Int}(gs:cU (T.of [bB 0 f 1 (.slice none 0 0) pv false ov ty,bJ [] j0 j1 j2 j3 uty,K,P,O]) 0 a f false .nil [] [] aw es)
 (g:a.u=1/\(a.k=0\/a.k=2)/\(a.p=0\/a.p=3)/\(a.o=0\/a.o=4)) (c:UInt8) (d:c≠27) (w:es.length<2^30) :
 ∃ad,bu 60 [.ptr (some ⟨0,0,0,0,6⟩),.int .u8 c.toNat] (T.of [bB 0 f 1 (.slice none 0 0) pv false ov ty,bJ [] j0 j1 j2 j3 uty,K,P,O]) (.tuple []) ad /\
  ∃aC,bS ad 0 aC (Keys.ground ⟨.ground,[],[],aw⟩ c).1 (es++(Keys.ground ⟨.ground,[],[],aw⟩ c).2)/\Fr (T.of [bB 0 f 1 (.slice none 0 0) pv false ov ty,bJ [] j0 j1 j2 j3 uty,K,P,O]) ad 0 a aC:=by
 obtain⟨L,ae,i⟩:=kH gs;have al:=c.toNat_lt;have az:=Eb d
 obtain ⟨v,ad,F,rfl,q⟩:=M3 f pv ov ty uty K P O j0 j1 j2 j3 0 c.toNat (λv ad=>v=.tuple []/\∃aC,bS ad 0 aC (Keys.ground ⟨.ground,[],[],aw⟩ c).1 (es++(Keys.ground ⟨.ground,[],[],aw⟩ c).2)/\Fr (T.of [bB 0 f 1 (.slice none 0 0) pv false ov ty,bJ [] j0 j1 j2 j3 uty,K,P,O]) ad 0 a aC) (by
  delta kF D3 r8 qj cl ib oM r4 D5 D4 nB et r7 r6 hd r5 zk qk r3 oN zi nC zj dw
  have y:(c.toNat<32\/c.toNat=127)-> ∀ad aC,cU ad 0 aC (b1 .ground) false .nil [] [] aw (es++[control c.toNat])->Fr (T.of [bB 0 f 1 (.slice none 0 0) pv false ov ty,bJ [] j0 j1 j2 j3 uty,K,P,O]) ad 0 a aC->J.tuple []=.tuple []/\∃aC,bS ad 0 aC (Keys.ground ⟨.ground,[],[],aw⟩ c).1 (es++(Keys.ground ⟨.ground,[],[],aw⟩ c).2)/\Fr (T.of [bB 0 f 1 (.slice none 0 0) pv false ov ty,bJ [] j0 j1 j2 j3 uty,K,P,O]) ad 0 a aC :=
   λE ad aC t j=>⟨rfl,aC,by rw [M5 aw d E];exact se t,j⟩
  refine⟨λaa=>⟨V,V,?_⟩,λaa=>⟨λh2=>⟨V,V,?_⟩,λh2=> ?_⟩⟩
  .exact oP (n:=24) (e:=control c.toNat) (I:=⟨1,0,a.p,a.o⟩) (f:=f) (pas:=false) (ks:= .nil) (ai:=[]) (ax:=[]) rfl aA (gq (n:=24) (j0:=j0) (j1:=j1) (j2:=j2) (j3:=j3) (kv:= .slice none 0 0) (pv:=pv) (ov:=ov) (ty:=ty) (uty:=uty) rfl aA ar ar (.inl ar) ar ar (vt _) aA ae i g (.inl rfl)) (by rw [fU];rfl) w aA (y V)
  .exact oP (n:=24) (e:=control c.toNat) (I:=⟨1,0,a.p,a.o⟩) (f:=f) (pas:=false) (ks:= .nil) (ai:=[]) (ax:=[]) rfl aA (gq (n:=24) (j0:=j0) (j1:=j1) (j2:=j2) (j3:=j3) (kv:= .slice none 0 0) (pv:=pv) (ov:=ov) (ty:=ty) (uty:=uty) rfl aA ar ar (.inl ar) ar ar (vt _) aA ae i g (.inl rfl)) (by rw [fU];rfl) w aA (y V)
  .have z:¬(c.toNat<32\/c.toNat=127):= V;rw [Ed,lj];have pre:=Ee j0 j1 j2 j3 c;rcases Ec c with b|⟨r,b⟩
   .rw [b];refine⟨λ_=>⟨pre,λ_=>⟨rfl,?_⟩,λe=>absurd an e⟩,λe=>absurd rfl e⟩;rw [M6 aw d z b,fV]
    exact li (s:=⟨.cd,[c],[c],aw⟩) (gq (n:=75) (k:=71) (j0:=j0) (j1:=j1) (j2:=j2) (j3:=j3) (kv:= .slice (some ⟨71,0,0,0,1⟩) 1 1) (pv:=pv) (ov:=ov) (ty:=ty) (uty:=uty) rfl aA ar ar (.inl ar) ar ar
     (kE (es:=[.int .u8 c.toNat]) (ab:=0) (m:=0) (f:=0) aA rfl rfl ar) aA ae i g (.inr (.inl aA))) (by simp [l9])
   .rw [b]
    have one:∀(n:Nat)(h:T)(b3:J)(e:aP),h.Y=n->75<=n->h.get 0=some (bB 0 90 1 (.slice (some ⟨98,0,0,0,1⟩) 1 1) pv false ov ty)->h.get 1=some (bJ [] j0 j1 j2 j3 uty)->h.get 2=some K->h.get 3=some P->h.get 4=some O->h.get 98=some (ac.aj [.int .u8 c.toNat] 1 false bZ)->98<n->b3=bi e ->
     (if valid [c]=true then dq r else cQ [c])=e ->
     bU h ⟨0,0,0,0,6⟩ b3/\∀ad,bV h ⟨0,0,0,0,6⟩ b3 ad->_root_.cond (Nat.ble 20 ad.Y) (_root_.cond (Nat.ble 5 ad.Y) (J.tuple []=.tuple []/\∃aC,bS ad 0 aC (Keys.ground ⟨.ground,[],[],aw⟩ c).1 (es++(Keys.ground ⟨.ground,[],[],aw⟩ c).2)/\Fr (T.of [bB 0 f 1 (.slice none 0 0) pv false ov ty,bJ [] j0 j1 j2 j3 uty,K,P,O]) ad 0 a aC) False) False:=by
     intro n h b3 e az H e0 aI aO A B C D he G;rw [M7 aw d z b,G];exact Ea az V V (gq (k:=98) az V e0 aI (.inl aO) A B (kE (l:=[c]) aA rfl rfl C) D ae i g (.inr (.inl aA))) he w aA λad aC t j=>⟨rfl,li (s:=⟨.ground,[],[],aw⟩) ⟨t,j⟩ trivial⟩
    refine⟨λe=>absurd e an,λ_=>⟨λ_=>⟨pre,λe=>absurd e an,λ_=>⟨Ef,λx=> ?_,λx=> ?_⟩⟩,λe=>absurd rfl e⟩⟩
    .exact one 119 _ _ (dq r) rfl aA ar ar ar ar ar ar aA rfl (by rw [aE x])
    .exact one 120 _ _ (cQ [c]) rfl aA ar ar ar ar ar ar aA rfl (by rw [ap (by rw [x];decide)]))
 exact⟨ad,F,q⟩
def oQ(e:aP):aP:= {e with eJ:=e.eJ+2}
theorem M9(n:Nat):(control n).eJ=0\/(control n).eJ=4:=by
 unfold Keys.control
 repeat' split
 all_goals simp [cY,dq]
theorem Eg(n:Nat):J.agg [.int .i8 (control n).kind,.int .i32 (control n).code,.int .u8 (cf .u8 (control n).eJ 2),.int .i64 (control n).x,.int .i64 (control n).y,.str (control n).text]=bi (oQ (control n)):=by unfold bi oQ;rcases M9 n with h|h<;>rw [h]<;>rfl
theorem M'(aw:Bytes){c:UInt8}(h:c.toNat<32\/c.toNat=127):Keys.plain ⟨.cH,[27],[],aw⟩ c=(⟨.ground,[],[],aw⟩,[oQ (control c.toNat)]):=by simp [Keys.plain,hH,h,tell,oQ]
theorem Na(aw:Bytes){c:UInt8}(h:¬(c.toNat<32\/c.toNat=127))(a:bG [] c=([],[c])):Keys.plain ⟨.cH,[27],[],aw⟩ c=(⟨.cd,[27,c],[c],aw⟩,[]):=by simp [Keys.plain,hH,h,eZ,a]
theorem Nb(aw:Bytes){c:UInt8}(h:¬(c.toNat<32\/c.toNat=127)){r:Nat}(a:bG [] c=([r],[])):Keys.plain ⟨.cH,[27],[],aw⟩ c=(⟨.ground,[],[],aw⟩,[if valid [c]=true then dq r 2 else cQ [27,c]]):=by by_cases b:valid [c]=true<;>simp [Keys.plain,hH,h,eZ,a,at',b,tell]
theorem Nc{f:Nat}{pv ov:J}{ty uty:bj}{P O:ac}{a:bO}{aw:Bytes}{es:List aP}{j0 j1 j2 j3:Int}(gs:cU (T.of [bB 0 f 1 (.slice (some ⟨2,0,0,0,1⟩) 1 1) pv false ov ty,bJ [] j0 j1 j2 j3 uty,ac.aj [.int .u8 27] 1 true,P,O]) 0 a f false .one [27] [] aw es)
 (d:a.u=1/\(a.k=0\/a.k=2)/\(a.p=0\/a.p=3)/\(a.o=0\/a.o=4)) (c:UInt8) (E:c≠27) (t:es.length<2^30) :
 ∃ad,bu 60 [.ptr (some ⟨0,0,0,0,6⟩),.int .u8 c.toNat] (T.of [bB 0 f 1 (.slice (some ⟨2,0,0,0,1⟩) 1 1) pv false ov ty,bJ [] j0 j1 j2 j3 uty,ac.aj [.int .u8 27] 1 true,P,O]) (.tuple []) ad /\
  ∃aC,bS ad 0 aC (Keys.plain ⟨.cH,[27],[],aw⟩ c).1 (es++(Keys.plain ⟨.cH,[27],[],aw⟩ c).2)/\Fr (T.of [bB 0 f 1 (.slice (some ⟨2,0,0,0,1⟩) 1 1) pv false ov ty,bJ [] j0 j1 j2 j3 uty,ac.aj [.int .u8 27] 1 true,P,O]) ad 0 a aC:=by
 obtain⟨K,ae,g⟩:=kH gs;have y:a.k=2:=by have:=K.1;omega
 have al:=c.toNat_lt;have az:=Eb E
 obtain ⟨v,ad,G,rfl,q⟩:=M4 f pv ov ty uty P O j0 j1 j2 j3 0 c.toNat (λv ad=>v=.tuple []/\∃aC,bS ad 0 aC (Keys.plain ⟨.cH,[27],[],aw⟩ c).1 (es++(Keys.plain ⟨.cH,[27],[],aw⟩ c).2)/\Fr (T.of [bB 0 f 1 (.slice (some ⟨2,0,0,0,1⟩) 1 1) pv false ov ty,bJ [] j0 j1 j2 j3 uty,ac.aj [.int .u8 27] 1 true,P,O]) ad 0 a aC) (by
  delta kG D7 sd qj cl ib oM r9 D9 D6 nB f' sc sb hd sa zn D' ql r' D8 oN zi oO zm zl dw
  have x:(c.toNat<32\/c.toNat=127)-> ∀ad aC,cU ad 0 aC (b1 .ground) false .nil [] [] aw (es++[oQ (control c.toNat)])->Fr (T.of [bB 0 f 1 (.slice (some ⟨2,0,0,0,1⟩) 1 1) pv false ov ty,bJ [] j0 j1 j2 j3 uty,ac.aj [.int .u8 27] 1 true,P,O]) ad 0 a aC->J.tuple []=.tuple []/\∃aC,bS ad 0 aC (Keys.plain ⟨.cH,[27],[],aw⟩ c).1 (es++(Keys.plain ⟨.cH,[27],[],aw⟩ c).2)/\Fr (T.of [bB 0 f 1 (.slice (some ⟨2,0,0,0,1⟩) 1 1) pv false ov ty,bJ [] j0 j1 j2 j3 uty,ac.aj [.int .u8 27] 1 true,P,O]) ad 0 a aC :=
   λF ad aC j i=>⟨rfl,aC,by rw [M' aw F];exact se j,i⟩
  refine⟨λaa=>⟨V,V,trivial,?_⟩,λaa=>⟨λh2=>⟨V,V,trivial,?_⟩,λh2=> ?_⟩⟩
  .exact oP (n:=29) (e:=oQ (control c.toNat)) (I:=⟨1,2,a.p,a.o⟩) (f:=f) (pas:=false) (ks:= .one) (ai:=[27]) (ax:=[]) rfl aA (gq (n:=29) (j0:=j0) (j1:=j1) (j2:=j2) (j3:=j3) (kv:= .slice (some ⟨2,0,0,0,1⟩) 1 1) (pv:=pv) (ov:=ov) (ty:=ty) (uty:=uty) rfl aA ar ar (.inl ar) ar ar ⟨aA,rfl,ar,rfl⟩ aA ae g d (.inr (.inr ⟨rfl,y⟩))) (by rw [fU];exact Eg _) t aA (x V)
  .exact oP (n:=29) (e:=oQ (control c.toNat)) (I:=⟨1,2,a.p,a.o⟩) (f:=f) (pas:=false) (ks:= .one) (ai:=[27]) (ax:=[]) rfl aA (gq (n:=29) (j0:=j0) (j1:=j1) (j2:=j2) (j3:=j3) (kv:= .slice (some ⟨2,0,0,0,1⟩) 1 1) (pv:=pv) (ov:=ov) (ty:=ty) (uty:=uty) rfl aA ar ar (.inl ar) ar ar ⟨aA,rfl,ar,rfl⟩ aA ae g d (.inr (.inr ⟨rfl,y⟩))) (by rw [fU];exact Eg _) t aA (x V)
  .have z:¬(c.toNat<32\/c.toNat=127):= V;rw [Ed,lj];have pre:=Ee j0 j1 j2 j3 c;rcases Ec c with b|⟨r,b⟩
   .rw [b];refine⟨λ_=>⟨pre,λ_=>⟨rfl,?_⟩,λe=>absurd an e⟩,λe=>absurd rfl e⟩;rw [Na aw z b,fV]
    exact li (s:=⟨.cd,[27,c],[c],aw⟩) (gq (n:=77) (k:=73) (j0:=j0) (j1:=j1) (j2:=j2) (j3:=j3) (kv:= .slice (some ⟨73,0,0,0,1⟩) 2 2) (pv:=pv) (ov:=ov) (ty:=ty) (uty:=uty) rfl aA ar ar (.inl ar) ar ar
     (kE (es:=[.int .u8 27,.int .u8 c.toNat]) (ab:=0) (m:=0) (f:=0) aA rfl rfl ar) aA ae g d (.inr (.inl aA))) (by simp [l9])
   .rw [b]
    have one:∀(n:Nat)(h:T)(b3:J)(e:aP),h.Y=n->77<=n->h.get 0=some (bB 0 90 1 (.slice (some ⟨100,0,0,0,1⟩) 2 2) pv false ov ty)->h.get 1=some (bJ [] j0 j1 j2 j3 uty)->h.get 2=some (ac.aj [.int .u8 27] 1 true)->h.get 3=some P->h.get 4=some O->h.get 100=some (ac.aj [.int .u8 27,.int .u8 c.toNat] 1 false bZ)->100<n->b3=bi e ->
     (if valid [c]=true then dq r 2 else cQ [27,c])=e ->
     bU h ⟨0,0,0,0,6⟩ b3/\∀ad,bV h ⟨0,0,0,0,6⟩ b3 ad->_root_.cond (Nat.ble 20 ad.Y) (_root_.cond (Nat.ble 5 ad.Y) (J.tuple []=.tuple []/\∃aC,bS ad 0 aC (Keys.plain ⟨.cH,[27],[],aw⟩ c).1 (es++(Keys.plain ⟨.cH,[27],[],aw⟩ c).2)/\Fr (T.of [bB 0 f 1 (.slice (some ⟨2,0,0,0,1⟩) 1 1) pv false ov ty,bJ [] j0 j1 j2 j3 uty,ac.aj [.int .u8 27] 1 true,P,O]) ad 0 a aC) False) False:=by
     intro n h b3 e az L e0 aI aO A B C D he H;rw [Nb aw z b,H];exact Ea az V V (gq (k:=100) az V e0 aI (.inl aO) A B (kE (l:=[27,c]) aA rfl rfl C) D ae g d (.inr (.inl aA))) he t aA λad aC j i=>⟨rfl,li (s:=⟨.ground,[],[],aw⟩) ⟨j,i⟩ trivial⟩
    refine⟨λe=>absurd e an,λ_=>⟨λ_=>⟨pre,λe=>absurd e an,λ_=>⟨Ef,λw=> ?_,λw=> ?_⟩⟩,λe=>absurd rfl e⟩⟩
    .exact one 121 _ _ (dq r 2) rfl aA ar ar ar ar ar ar aA rfl (by rw [aE w])
    .exact one 122 _ _ (cQ [27,c]) rfl aA ar ar ar ar ar ar aA rfl (by rw [ap (by rw [w];decide)]))
 exact⟨ad,G,q⟩
theorem bS.l'{ad H':T}{r:Nat->Nat}(e:∀i b,ad.get i=some b->H'.get (r i)=some (b.aK r))(a:∀i j,r i=r j->i=j)(c:∀i,i<ad.Y->r i<H'.Y){d:Nat}{I:bO}{s:bq}{es:List aP}(g:bS ad d I s es):bS H' (r d) (I.map r) s es:=by obtain⟨ks,g,hs⟩:=g;exact⟨ks,g.l' e a c,hs⟩
theorem oR{fn:FuncId}{s f:bq}{es e:List aP}{c:UInt8}
 (small:∀ks kv pv ov ty uty j0 j1 j2 j3 K P O b,l9 s.nx ks s.ai->cU (T.of [bB 0 (b1 s.nx) 1 kv pv (decide (s.nx=.cb)) ov ty,bJ s.ax j0 j1 j2 j3 uty,K,P,O]) 0 b (b1 s.nx) (decide (s.nx=.cb)) ks s.ai s.ax s.aw es->(b.u=1/\(b.k=0\/b.k=2)/\(b.p=0\/b.p=3)/\(b.o=0\/b.o=4)) ->
  ∃ad,bu fn [.ptr (some ⟨0,0,0,0,6⟩),.int .u8 c.toNat] (T.of [bB 0 (b1 s.nx) 1 kv pv (decide (s.nx=.cb)) ov ty,bJ s.ax j0 j1 j2 j3 uty,K,P,O]) (.tuple []) ad/\∃aC,bS ad 0 aC f e/\Fr (T.of [bB 0 (b1 s.nx) 1 kv pv (decide (s.nx=.cb)) ov ty,bJ s.ax j0 j1 j2 j3 uty,K,P,O]) ad 0 b aC)
 {H:T} {d:Nat} {I:bO} (g:bS H d I s es):∃H',bu fn [.ptr (some ⟨d,0,0,0,6⟩),.int .u8 c.toNat] H (.tuple []) H'/\∃aC,bS H' d aC f e/\Fr H H' d I aC:=by
 obtain⟨ks,g,hs⟩:=g;exact g.lift (Q:=λh d I=>bS h d I f e) (λa j=>by rw [cC.1 j];exact ci.int _ _) (ci.of rfl) (λad H' r d I n l m q=>q.l' n l m) λkv pv ov ty uty j0 j1 j2 j3 K P O b gs i=>small ks kv pv ov ty uty j0 j1 j2 j3 K P O b hs gs i
def nD(s:bq)(c:UInt8):bq×List aP:=match s.nx with|.ground=>Keys.ground s c|_=>Keys.plain s c
def sf(s:bq)(c:UInt8):Prop:=s.ax=[]/\c≠27/\(s.nx=.ground\/s.nx=.cH)
theorem Nd{H:T}{d:Nat}{I:bO}{s:bq}{es:List aP}{c:UInt8}(g:bS H d I s es)(h:es.length<2^30)(l:sf s c):∃H',bu 60 [.ptr (some ⟨d,0,0,0,6⟩),.int .u8 c.toNat] H (.tuple []) H' /\
 ∃aC,bS H' d aC (nD s c).1 (es++(nD s c).2)/\Fr H H' d I aC:=by
 refine oR ?_ g;intro ks kv pv ov ty uty j0 j1 j2 j3 K P O i hs gs f;obtain⟨b,ae,m⟩:=kH gs;obtain⟨nx,ai,ax,aw⟩:=s;obtain⟨aa,e,h2⟩:=l;simp only at aa h2 hs gs b ae m⊢;subst aa;rcases h2 with rfl|rfl
 .cases ks with
  |nil =>
   obtain⟨rfl,rfl,_⟩:=b;exact M8 gs f c e h
  |one=>exact hs.elim
  |grown j=>exact hs.elim
 .cases ks with
  |one =>
   obtain⟨n,rfl,a,rfl⟩:=b;have:i.k=2:= V;rw [this,T.dG]at a;simp only [fe,hj,a6]at a;subst a;rw [this]at gs⊢;exact Nc gs f c e h
  |nil=>exact hs.elim
  |grown j=>exact hs.elim
theorem Nf:∀args h a,hv (2^30-4) sf nD args h=some a->a.cx Tryz.prog ck 60 args h:=nA λH d I s es c g e f b=>Nd g V b
noncomputable def Eh:dB:=vr.add 60 (hv (2^30-4) sf nD)
theorem Ei:dv Tryz.prog ck Eh:=r2.add Nf
theorem Ng(j:Nat)(h g:J)(f:bj)(e b d c:ac)(a:Int)(i:bm)(l:(a=27->i (.tuple []) (T.af 19 [(0,⟨[.agg [.func (.func 59) [.ptr (ba 0)] [],.slice (cX 9) 1 1,h,.bool false,.ptr (some ⟨1,0,0,0,5⟩),g]],6,true,false,0,0,0,f⟩),(1,e),(2,b),(3,d),(4,c),(9,ac.aj [.int .u8 a] 1 true)]))/\(¬a=27->cF (2^30-4) sf (T.af 10 [(0,(nC j h g f)),(1,e),(2,b),(3,d),(4,c)]) ⟨0,0,0,0,6⟩ a/\∀(k:T),cG nD (T.af 10 [(0,(nC j h g f)),(1,e),(2,b),(3,d),(4,c)]) ⟨0,0,0,0,6⟩ a k->bk 5 (k.Y) (i (.tuple []) k))) :
 bC 30 [.ptr (ba 0),.int .u8 a] (T.of [bB 0 j 1 (.slice none 0 0) h false g f,e,b,d,c]) i :=
 bI Ei (.aq 1 .nil .nil) l
theorem sg{l h:T}{R:bq->UInt8->Prop}{F:bq->UInt8->bq×List aP}{b I:bO}{s:bq}{es:List aP}{c:UInt8}{n aH N:Nat}(az:h.Y=n)(k:aH<=n)(a:bS h 0 I s es/\Fr l h 0 b I)(i:es.length<N)(e:s.ax.length<=4)(j:R s c)
 {Q:T->Prop} (g:∀ad aC,bS ad 0 aC (F s c).1 (es++(F s c).2)->Fr l ad 0 b aC->Q ad):cF N R h ⟨0,0,0,0,6⟩ c.toNat/\∀ad,cG F h ⟨0,0,0,0,6⟩ c.toNat ad->_root_.cond (Nat.ble aH ad.Y) (Q ad) False:=by
 have al:=c.toNat_lt;refine⟨⟨rfl,⟨I,s,es,a.1,i,e,by rw [qh];exact j⟩,V⟩,λad t=> ?_⟩;have:=t.Y;obtain⟨aC,d,f⟩:=t.all I s es a.1 e;rw [qh]at d;exact e2 V (g ad aC d (a.2.trans f))
theorem vu{l h:T}{a I:bO}{s:bq}{ks:eE}{es:List aP}(b:cU h 0 I (b1 s.nx) (decide (s.nx=.cb)) ks s.ai s.ax s.aw es/\Fr l h 0 a I)(c:l9 s.nx ks s.ai):bS h 0 I s es/\Fr l h 0 a I:=⟨⟨ks,b.1,c⟩,b.2⟩
def ji(s:bq)(c:UInt8):Prop:=s.ax=[]/\s.nx=.ground
theorem Nh{H:T}{d:Nat}{I:bO}{s:bq}{es:List aP}{c:UInt8}(g:bS H d I s es)(t:es.length<2^30-4)(m:ji s c):∃H',bu 30 [.ptr (some ⟨d,0,0,0,6⟩),.int .u8 c.toNat] H (.tuple []) H' /\
 ∃aC,bS H' d aC (Keys.ground s c).1 (es++(Keys.ground s c).2)/\Fr H H' d I aC:=by
 refine oR ?_ g;intro ks kv pv ov ty uty j0 j1 j2 j3 K P O a hs gs f;obtain⟨h,ae,b⟩:=kH gs;obtain⟨nx,ai,ax,aw⟩:=s;obtain⟨aa,h2⟩:=m;simp only at aa h2 hs gs h ae b⊢;subst aa h2;cases ks with
 |one=>exact hs.elim
 |grown j=>exact hs.elim
 |nil =>
  obtain⟨rfl,rfl,_⟩:=h
  obtain⟨v,ad,r,rfl,q⟩:=Ng (b1 .ground) pv ov ty (bJ [] j0 j1 j2 j3 uty) K P O c.toNat (λv ad=>v=.tuple []/\∃aC,bS ad 0 aC (Keys.ground ⟨.ground,[],[],aw⟩ c).1 (es++(Keys.ground ⟨.ground,[],[],aw⟩ c).2)/\Fr (T.of [bB 0 (b1 .ground) 1 (.slice none 0 0) pv false ov ty,bJ [] j0 j1 j2 j3 uty,K,P,O]) ad 0 a aC) (by
   delta nC zj dw
   refine⟨λe=>⟨rfl,?_⟩,λe=> ?_⟩
   .have al:c=27:=fq.1 (by show c.toNat=27;omega);rw [show Keys.ground ⟨.ground,[],[],aw⟩ c=(⟨.cH,[27],[],aw⟩,[])by simp [Keys.ground,al],fV]
    exact li (s:=⟨.cH,[27],[],aw⟩) (gq (n:=19) (k:=9) (ks:= .one) (j0:=j0) (j1:=j1) (j2:=j2) (j3:=j3) (kv:= .slice (some ⟨9,0,0,0,1⟩) 1 1) (pv:=pv) (ov:=ov) (ty:=ty) (uty:=uty) rfl aA ar ar (.inl ar) ar ar
     ⟨aA,rfl,by rw [<-e];kernel_rfl,rfl⟩ aA ae b f (.inr (.inl aA))) trivial
   .have al:c≠27:=by rintro rfl;exact e rfl
    refine sg (s:=⟨.ground,[],[],aw⟩) (I:=⟨1,0,a.p,a.o⟩) (n:=10) rfl aA (vu (ks:= .nil) (gq (n:=10) (k:=0) (j0:=j0) (j1:=j1) (j2:=j2) (j3:=j3) (kv:= .slice none 0 0) (pv:=pv) (ov:=ov) (ty:=ty) (uty:=uty) rfl aA ar ar (.inl ar) ar ar (vt _) aA ae b f (.inl rfl)) trivial) t an ⟨rfl,al,.inl rfl⟩ λad aC l i=>⟨rfl,aC,l,i⟩)
  exact⟨ad,r,q⟩
theorem Ni:∀args h a,hv (2^30-4) ji Keys.ground args h=some a->a.cx Tryz.prog ck 30 args h:=nA λH d I s es c g e f b=>Nh g e b
noncomputable def Ej:dB:=Eh.add 30 (hv (2^30-4) ji Keys.ground)
theorem vv:dv Tryz.prog ck Ej:=Ei.add Ni
abbrev dd(b:List J)(d c a:Nat):ac:=⟨b,1,false,false,d,c,a,some (5,0)⟩
abbrev zo(a:List J)(b:Nat):J:=J.agg [.int .i8 7,.int .i32 0,.int .u8 0,.int .i64 0,.int .i64 0,.str (strOf (List.take b a))]
abbrev zp(c:Nat)(e d:J)(b:bj)(f a:Nat):ac:=⟨[.agg [(dw c),.slice (some ⟨2,f,0,0,1⟩) a a,e,.bool false,.ptr (some ⟨1,0,0,0,5⟩),d]],6,true,false,0,0,0,b⟩
theorem Nj(l:Nat)(o n:J)(k:bj)(i h g:ac)(c:List J)(a f e b:Nat)(j:Int)(p:bm)(r:a=a/\0+b<=c.length/\(∃q,List.take b (List.drop (aT.idx ⟨2,a,0,0,1⟩) (ac.aQ (dd c a f e)))=aG q)/\bU (T.af 13 [(0,(zp l o n k a b)),(1,i),(2,(dd c a f e)),(3,h),(4,g)]) ⟨0,0,0,0,6⟩ ((zo c b))/\∀(d:T),bV (T.af 13 [(0,(zp l o n k a b)),(1,i),(2,(dd c a f e)),(3,h),(4,g)]) ⟨0,0,0,0,6⟩ ((zo c b)) d->aW 5 (d.Y) (a1 env.D 66 ⟨0,0,0,0,6⟩ (aY d 6)=some (.func (.func 30) [.ptr (ba 0)] [])/\cF (2^30-4) ji (aY d 6) ⟨0,0,0,0,6⟩ j/\∀(m:T),cG ground (aY d 6) ⟨0,0,0,0,6⟩ j m->bk 5 (m.Y) (p (.tuple []) m))) :
 bC 106 [.ptr (ba 0),.int .u8 j] (T.of [bB 0 l 1 (.slice (some ⟨2,a,0,0,1⟩) b b) o false n k,i,bL c 1 a f e bZ,h,g]) p :=
 bI vv (ag 5 (.ak (.val 1003 (.func (.func 30) [.ptr (ba 0)] [])) .nil)) r
abbrev oS:J:=J.agg [.int .i8 2,.int .i32 4,.int .u8 0,.int .i64 0,.int .i64 0,.str []]
theorem Nk(i:Nat)(g f:J)(e:bj)(d c b:ac)(a:Int)(h:bm)(m:(a=27->bU (T.af 11 [(0,(oO i g f e)),(1,d),(2,ac.aj [.int .u8 27] 1 true),(3,c),(4,b)]) ⟨0,0,0,0,6⟩ (oS)/\∀(j:T),bV (T.af 11 [(0,(oO i g f e)),(1,d),(2,ac.aj [.int .u8 27] 1 true),(3,c),(4,b)]) ⟨0,0,0,0,6⟩ (oS) j->aW 5 (j.Y) (cF (2^30-4) ji (aY j 3) ⟨0,0,0,0,6⟩ a/\∀(l:T),cG ground (aY j 3) ⟨0,0,0,0,6⟩ a l->bk 5 (l.Y) (h (.tuple []) l)))/\(¬a=27->(a=91->h (.tuple []) (T.af 27 [(0,⟨[.agg [.func (.func 87) [.ptr (ba 0)] [],.slice (cX 17) 2 2,g,.bool false,.ptr (some ⟨1,0,0,0,5⟩),f]],6,true,false,0,0,0,e⟩),(1,d),(2,ac.aj [.int .u8 27] 1 true),(3,c),(4,b),(16,ac.aj [.int .u8 a] 1 true),(17,ac.aj [.int .u8 27,.int .u8 a] 1 false (some (5,0)))]))/\(¬a=91->(a=79->h (.tuple []) (T.af 29 [(0,⟨[.agg [.func (.func 88) [.ptr (ba 0)] [],.slice (cX 19) 2 2,g,.bool false,.ptr (some ⟨1,0,0,0,5⟩),f]],6,true,false,0,0,0,e⟩),(1,d),(2,ac.aj [.int .u8 27] 1 true),(3,c),(4,b),(18,ac.aj [.int .u8 a] 1 true),(19,ac.aj [.int .u8 27,.int .u8 a] 1 false (some (5,0)))]))/\(¬a=79->cF (2^30-4) sf (T.af 15 [(0,(oO i g f e)),(1,d),(2,ac.aj [.int .u8 27] 1 true),(3,c),(4,b)]) ⟨0,0,0,0,6⟩ a/\∀(k:T),cG nD (T.af 15 [(0,(oO i g f e)),(1,d),(2,ac.aj [.int .u8 27] 1 true),(3,c),(4,b)]) ⟨0,0,0,0,6⟩ a k->bk 5 (k.Y) (h (.tuple []) k))))) :
 bC 59 [.ptr (ba 0),.int .u8 a] (T.of [bB 0 i 1 (.slice (cX 2) 1 1) g false f e,d,ac.aj [.int .u8 27] 1 true,c,b]) h :=
 bI vv (.aq 2000 .nil (.aq 5000 .nil (.aq 8000 .nil .nil))) m
abbrev sh:J:= .func (.func 30) [.ptr (ba 0)] []
abbrev oT:J:=J.agg [.int .i8 2,.int .i32 1,.int .u8 0,.int .i64 0,.int .i64 0,.str []]
abbrev nE:J:=J.agg [.int .i8 1,.int .i32 79,.int .u8 2,.int .i64 0,.int .i64 0,.str []]
abbrev kI(a:Int):J:=J.agg [.int .i8 2,.int .i32 (fZ a),.int .u8 0,.int .i64 0,.int .i64 0,.str []]
abbrev zq(a:Int):J:=J.agg [.int .i8 2,.int .i32 (21+(a-80)),.int .u8 0,.int .i64 0,.int .i64 0,.str []]
abbrev Ek(a:Nat)(b d c:J):J:=J.agg [(dw a),b,d,.bool false,.ptr (some ⟨1,0,0,0,5⟩),c]
abbrev qm(b:Nat)(c e d:J)(a:bj):ac:=⟨[(Ek b c e d)],6,true,false,0,0,0,a⟩
abbrev ma(f:Nat)(g i h:J)(e:bj)(d a c b:ac):T:=(T.af 21 [(0,(qm f g i h e)),(1,d),(2,a),(3,c),(4,b)])
theorem Nl(g:Nat)(h j i:J)(f:bj)(e b d c:ac)(a:Int)(l:bm)(q:(0<fZ a->bU (T.af 14 [(0,(qm g h j i f)),(1,e),(2,b),(3,d),(4,c)]) ⟨0,0,0,0,6⟩ ((kI a))/\∀(o:T),bV (T.af 14 [(0,(qm g h j i f)),(1,e),(2,b),(3,d),(4,c)]) ⟨0,0,0,0,6⟩ ((kI a)) o->bk 5 (o.Y) (l (.tuple []) o))/\(¬0<fZ a->(80<=a->(a<=83->(0<=a-80/\a-80<=255)/\(-2147483648<=a-80/\a-80<=2147483647)/\(-2147483648<=21+(a-80)/\21+(a-80)<=2147483647)/\bU (T.af 23 [(0,(qm g h j i f)),(1,e),(2,b),(3,d),(4,c)]) ⟨0,0,0,0,6⟩ ((zq a))/\∀(p:T),bV (T.af 23 [(0,(qm g h j i f)),(1,e),(2,b),(3,d),(4,c)]) ⟨0,0,0,0,6⟩ ((zq a)) p->bk 5 (p.Y) (l (.tuple []) p))/\(¬a<=83->(a=77->bU (ma g h j i f e b d c) ⟨0,0,0,0,6⟩ (oT)/\∀(m:T),bV (ma g h j i f e b d c) ⟨0,0,0,0,6⟩ (oT) m->bk 5 (m.Y) (l (.tuple []) m))/\(¬a=77->bU (ma g h j i f e b d c) ⟨0,0,0,0,6⟩ (nE)/\∀(k:T),bV (ma g h j i f e b d c) ⟨0,0,0,0,6⟩ (nE) k->aW 5 (k.Y) (a1 env.D 66 ⟨0,0,0,0,6⟩ (aY k 6)=some (sh)/\cF (2^30-4) ji (aY k 6) ⟨0,0,0,0,6⟩ a/\∀(n:T),cG ground (aY k 6) ⟨0,0,0,0,6⟩ a n->bk 5 (n.Y) (l (.tuple []) n)))))/\(¬80<=a->(a=77->bU (ma g h j i f e b d c) ⟨0,0,0,0,6⟩ (oT)/\∀(m:T),bV (ma g h j i f e b d c) ⟨0,0,0,0,6⟩ (oT) m->bk 5 (m.Y) (l (.tuple []) m))/\(¬a=77->bU (ma g h j i f e b d c) ⟨0,0,0,0,6⟩ (nE)/\∀(k:T),bV (ma g h j i f e b d c) ⟨0,0,0,0,6⟩ (nE) k->aW 5 (k.Y) (a1 env.D 66 ⟨0,0,0,0,6⟩ (aY k 6)=some (sh)/\cF (2^30-4) ji (aY k 6) ⟨0,0,0,0,6⟩ a/\∀(n:T),cG ground (aY k 6) ⟨0,0,0,0,6⟩ a n->bk 5 (n.Y) (l (.tuple []) n)))))) :
 bC 88 [.ptr (ba 0),.int .u8 a] (T.of [bB 0 g 1 h j false i f,e,b,d,c]) l :=
 bI vv (.aq 1001 .nil (.aq 3001 (.aq 3004 (ag 4002 (ag 4003 (ag 4004 .nil))) (.aq 5001 .nil (.ak (.val 8003 (sh)) .nil))) (.aq 5001 .nil (.ak (.val 8003 (sh)) .nil)))) q
theorem El{h:T}{d k:Nat}{I:bO}{f:Nat}{pas:Bool}{ks:eE}{ai ax aw:Bytes}{es:List aP}(g:cU h d I f pas ks ai ax aw es):cU ⟨h.Y+k,h.ay⟩ d I f pas ks ai ax aw es where
 ex:=g.ex
 gB:=g.gB
 lt:=by have:=g.lt;show d<h.Y+k/\I.u<h.Y+k/\I.k<h.Y+k/\I.p<h.Y+k/\I.o<h.Y+k;omega
 ne:=g.ne
theorem Nn{l h:T}{d k:Nat}{I aC:bO}(b6:Fr l h d I aC):Fr l ⟨h.Y+k,h.ay⟩ d I aC where
 Y:=by have:=b6.Y;show l.Y<=h.Y+k;omega
 get:=b6.get
 ids:=b6.ids
theorem si(x:Bytes):List.take x.length (aG x)=aG x:=by
 have e:x.length=(aG x).length:=by simp [aG]
 rw [e,jH]
theorem No{h:T}{I:bO}{pas:Bool}{ks:eE}{ai ax aw:Bytes}{es:List aP}(g:cU h 0 I (b1 .ground) pas ks ai ax aw es):a1 (a'.D env) 66 ⟨0,0,0,0,6⟩ h=some (.func (.func 30) [.ptr (some ⟨0,0,0,0,6⟩)] []):=by
 obtain⟨kv,pv,ov,ty,e,_⟩:=g.ex;unfold a1;rw [e]
 kernel_rfl
theorem Em{l h:T}{b3:J}{e:aP}{d I:bO}{f:Nat}{ks:eE}{ai aw:Bytes}{es:List aP}{c:UInt8}{k:Nat}(r:5<=h.Y)(b:cU h 0 I f false ks ai [] aw es/\Fr l h 0 d I)(he:b3=bi e)(s:es.length<2^30-8)
 {Q:T->Prop} (q:∀ad aC,bS ad 0 aC (Keys.ground ⟨.ground,[],[],aw⟩ c).1 (es++(e::(Keys.ground ⟨.ground,[],[],aw⟩ c).2))->Fr l ad 0 d aC->Q ad) :
 bU h ⟨0,0,0,0,6⟩ b3/\∀a,bV h ⟨0,0,0,0,6⟩ b3 a->(_root_.cond (Nat.ble 5 a.Y&&true) (cF (2^30-4) ji ⟨a.Y+k,a.ay⟩ ⟨0,0,0,0,6⟩ c.toNat /\
  ∀ad,cG Keys.ground ⟨a.Y+k,a.ay⟩ ⟨0,0,0,0,6⟩ c.toNat ad->_root_.cond (Nat.ble 5 ad.Y) (Q ad) False) False)/\a1 (a'.D env) 66 ⟨0,0,0,0,6⟩ ⟨a.Y+k,a.ay⟩=some (.func (.func 30) [.ptr (some ⟨0,0,0,0,6⟩)] []):=by
 refine⟨zh b.1 he V an,λa t=> ?_⟩;have az:=t.Y;obtain⟨aC,g,m⟩:=zg t b.1 b.2 he an;have p:bS ⟨a.Y+k,a.ay⟩ 0 aC ⟨.ground,[],[],aw⟩ (es++[e]):=⟨.nil,El g,trivial⟩
 refine⟨?_,No (El g)⟩;rw [Nat.ble_eq.mpr V];refine sg (n:=a.Y+k) rfl V ⟨p,Nn m⟩ (by simp;omega) an ⟨rfl,rfl⟩ λad j i o=>q ad j (by rw [ik]at i;exact i) o
theorem En{l h:T}{b3:J}{e:aP}{g I:bO}{f:Nat}{ks:eE}{ai aw:Bytes}{es:List aP}{c:UInt8}{k:Nat}(j:5<=h.Y)(i:cU h 0 I f false ks ai [] aw es/\Fr l h 0 g I)(he:b3=bi e)(n:es.length<2^30-8)
 {Q:T->Prop} (m:∀ad aC,bS ad 0 aC (Keys.ground ⟨.ground,[],[],aw⟩ c).1 (es++(e::(Keys.ground ⟨.ground,[],[],aw⟩ c).2))->Fr l ad 0 g aC->Q ad) :
 bU h ⟨0,0,0,0,6⟩ b3/\∀d,bV h ⟨0,0,0,0,6⟩ b3 d->_root_.cond (Nat.ble 5 d.Y&&true) (a1 (a'.D env) 66 ⟨0,0,0,0,6⟩ ⟨d.Y+k,d.ay⟩=some (.func (.func 30) [.ptr (some ⟨0,0,0,0,6⟩)] [])/\cF (2^30-4) ji ⟨d.Y+k,d.ay⟩ ⟨0,0,0,0,6⟩ c.toNat /\
  ∀ad,cG Keys.ground ⟨d.Y+k,d.ay⟩ ⟨0,0,0,0,6⟩ c.toNat ad->_root_.cond (Nat.ble 5 ad.Y) (Q ad) False) False:=by
 obtain⟨a,b⟩:=Em (k:=k) j i he n m;refine⟨a,λd t=> ?_⟩;obtain⟨aH,b2⟩:=b d t;have az:=t.Y;rw [Nat.ble_eq.mpr V]at aH⊢;exact⟨b2,aH⟩
def dr(s:bq)(c:UInt8):Prop:=s.ax=[]/\(s.nx=.cd\/s.nx=.sequence)
theorem Np{H:T}{d:Nat}{I:bO}{s:bq}{es:List aP}{c:UInt8}(g:bS H d I s es)(C:es.length<2^30-8)(A:dr s c):∃H',bu 106 [.ptr (some ⟨d,0,0,0,6⟩),.int .u8 c.toNat] H (.tuple []) H' /\
 ∃aC,bS H' d aC (Keys.bad s c).1 (es++(Keys.bad s c).2)/\Fr H H' d I aC:=by
 refine oR ?_ g;intro ks kv pv ov ty uty j0 j1 j2 j3 K P O p hs gs y;obtain⟨r,ae,i⟩:=kH gs;obtain⟨nx,ai,ax,aw⟩:=s;obtain⟨aa,h2⟩:=A;simp only at aa h2 hs gs r ae i⊢;subst aa
 have D:ks=.grown []/\decide (nx=gE.cb)=false:=by
  rcases h2 with rfl|rfl
  .cases ks with
   |grown j=>cases j with
    |nil=>exact⟨rfl,rfl⟩
    |cons a b=>exact hs.elim
   |_=>exact hs.elim
  .cases ks with
   |grown j=>cases j with
    |nil=>exact⟨rfl,rfl⟩
    |cons a b=>exact hs.elim
   |_=>exact hs.elim
 obtain⟨rfl,t⟩:=D;rw [t]at gs⊢;obtain⟨E,ab,m,l,rfl,o⟩:=r;have h:p.k=2:= V;rw [h,T.dG]at o;simp only [fe,hj,a6,eg]at o;simp only [dx]at ae i⊢;subst o;rw [h,t]at ae i;rw [h];have z:∀x:List UInt8,List.take x.length (List.drop 0 (aG x))=aG x:=λx=>si x
 obtain⟨v,ad,B,rfl,q⟩:=Nj (b1 nx) pv ov ty (bJ [] j0 j1 j2 j3 uty) P O (aG ai) ab m l ai.length c.toNat (λv ad=>v=.tuple []/\∃aC,bS ad 0 aC (Keys.bad ⟨nx,ai,[],aw⟩ c).1 (es++(Keys.bad ⟨nx,ai,[],aw⟩ c).2)/\Fr (T.of [bB 0 (b1 nx) 1 (.slice (some ⟨2,ab,0,0,1⟩) ai.length ai.length) pv false ov ty,bJ [] j0 j1 j2 j3 uty,bL (aG ai) 1 ab m l bZ,P,O]) ad 0 p aC) (by
  delta zo dd zp dw
  refine⟨rfl,by simp [aG];try omega,⟨ai,z ai⟩,?_⟩
  exact En (k:=6) (e:=cQ ai) (by show 5<=13;decide) (gq (n:=13) (f:=b1 nx) (pas:=false) (ks:= .grown []) (ai:=ai) (ax:=[]) (k:=2) (j0:=j0) (j1:=j1) (j2:=j2) (j3:=j3) (kv:= .slice (some ⟨2,ab,0,0,1⟩) ai.length ai.length) (pv:=pv) (ov:=ov) (ty:=ty) (uty:=uty) rfl aA ar ar (.inr h) ar ar
   (kE (es:=aG ai) (ab:=ab) (m:=m) (f:=l) aA rfl rfl ar) aA ae i y (.inr (.inr ⟨rfl,h⟩))) (by rw [si,hb];rfl) C λad aC w u=>⟨rfl,aC,w,u⟩)
 exact⟨ad,B,q⟩
theorem Nq:∀args h a,hv (2^30-8) dr Keys.bad args h=some a->a.cx Tryz.prog ck 106 args h:=nA λH d I s es c g e f b=>Np g V b
noncomputable def Eo:dB:=Ej.add 106 (hv (2^30-8) dr Keys.bad)
theorem Nr:dv Tryz.prog ck Eo:=vv.add Nq
theorem Ns{l h:T}{b3:J}{e:aP}{g I:bO}{f:Nat}{ks:eE}{ai aw:Bytes}{es:List aP}{c:UInt8}{k:Nat}(j:5<=h.Y)(i:cU h 0 I f false ks ai [] aw es/\Fr l h 0 g I)(he:b3=bi e)(n:es.length<2^30-8)
 {Q:T->Prop} (m:∀ad aC,bS ad 0 aC (Keys.ground ⟨.ground,[],[],aw⟩ c).1 (es++(e::(Keys.ground ⟨.ground,[],[],aw⟩ c).2))->Fr l ad 0 g aC->Q ad) :
 bU h ⟨0,0,0,0,6⟩ b3/\∀d,bV h ⟨0,0,0,0,6⟩ b3 d->_root_.cond (Nat.ble 5 d.Y&&true) (cF (2^30-4) ji ⟨d.Y+k,d.ay⟩ ⟨0,0,0,0,6⟩ c.toNat /\
  ∀ad,cG Keys.ground ⟨d.Y+k,d.ay⟩ ⟨0,0,0,0,6⟩ c.toNat ad->_root_.cond (Nat.ble 5 ad.Y) (Q ad) False) False:=by
 obtain⟨a,b⟩:=Em (k:=k) j i he n m;exact⟨a,λd t=>(b d t).1⟩
theorem Ep{h:T}{k n:Nat}{l:Bytes}{es:List J}(a:k≠0)(az:n=l.length)(he:es=aG l)(e:h.get k=some (ac.aj es 1 false bZ)):gL h 0 k (.slice (some ⟨k,0,0,0,1⟩) n n) (.grown []) l:=kE (ab:=0) (m:=0) (f:=0) a az he e
def sj(s:bq)(c:UInt8):Prop:=s.ax=[]/\s.nx=.cH
theorem Nt{H:T}{d:Nat}{I:bO}{s:bq}{es:List aP}{c:UInt8}(g:bS H d I s es)(y:es.length<2^30-8)(t:sj s c):∃H',bu 59 [.ptr (some ⟨d,0,0,0,6⟩),.int .u8 c.toNat] H (.tuple []) H' /\
 ∃aC,bS H' d aC (Keys.cH s c).1 (es++(Keys.cH s c).2)/\Fr H H' d I aC:=by
 refine oR ?_ g;intro ks kv pv ov ty uty j0 j1 j2 j3 K P O o hs gs h;obtain⟨r,ae,b⟩:=kH gs;obtain⟨nx,ai,ax,aw⟩:=s;obtain⟨aa,h2⟩:=t;simp only at aa h2 hs gs r ae b⊢;subst aa h2;cases ks with
 |nil=>exact hs.elim
 |grown j=>exact hs.elim
 |one =>
  obtain⟨z,rfl,m,rfl⟩:=r;have a:o.k=2:= V;rw [a,T.dG]at m;simp only [fe,hj,a6]at m;subst m;rw [a]at gs ae b⊢
  obtain⟨v,ad,x,rfl,q⟩:=Nk (b1 .cH) pv ov ty (bJ [] j0 j1 j2 j3 uty) P O c.toNat (λv ad=>v=.tuple []/\∃aC,bS ad 0 aC (Keys.cH ⟨.cH,[27],[],aw⟩ c).1 (es++(Keys.cH ⟨.cH,[27],[],aw⟩ c).2)/\Fr (T.of [bB 0 (b1 .cH) 1 (.slice (some ⟨2,0,0,0,1⟩) 1 1) pv false ov ty,bJ [] j0 j1 j2 j3 uty,ac.aj [.int .u8 27] 1 true,P,O]) ad 0 o aC) (by
   delta oO zm zl dw oS
   refine⟨λe=> ?_,λe=>⟨λaO=>⟨rfl,?_⟩,λaO=>⟨λp=>⟨rfl,?_⟩,λp=> ?_⟩⟩⟩
   .have al:c=27:=fq.1 (by show c.toNat=27;omega);rw [show Keys.cH ⟨.cH,[27],[],aw⟩ c=((Keys.ground ⟨.ground,[],[],aw⟩ c).1,cY 4::(Keys.ground ⟨.ground,[],[],aw⟩ c).2)by simp [Keys.cH,al,tell]]
    exact Ns (k:=3) (e:=cY 4) (by show 5<=11;decide) (gq (n:=11) (f:=b1 .cH) (pas:=false) (ks:= .one) (ai:=[27]) (ax:=[]) (k:=2) (j0:=j0) (j1:=j1) (j2:=j2) (j3:=j3) (kv:= .slice (some ⟨2,0,0,0,1⟩) 1 1) (pv:=pv) (ov:=ov) (ty:=ty) (uty:=uty) rfl aA ar ar (.inr a) ar ar
     ⟨aA,rfl,ar,rfl⟩ aA ae b h (.inr (.inr ⟨rfl,a⟩))) rfl y λad aC l i=>⟨rfl,aC,l,i⟩
   .have al:c=91:=fq.1 (by show c.toNat=91;omega);rw [show Keys.cH ⟨.cH,[27],[],aw⟩ c=(⟨.sequence,[27,c],[],aw⟩,[])by simp [Keys.cH,al],fV]
    exact li (s:=⟨.sequence,[27,c],[],aw⟩) (gq (n:=27) (k:=17) (ks:= .grown []) (j0:=j0) (j1:=j1) (j2:=j2) (j3:=j3) (kv:= .slice (some ⟨17,0,0,0,1⟩) 2 2) (pv:=pv) (ov:=ov) (ty:=ty) (uty:=uty) rfl aA ar ar (.inr a) ar ar
     (Ep (es:=[.int .u8 27,.int .u8 c.toNat]) aA rfl rfl ar) aA ae b h (.inr (.inl aA))) (by simp [l9])
   .have al:c=79:=fq.1 (by show c.toNat=79;omega);rw [show Keys.cH ⟨.cH,[27],[],aw⟩ c=(⟨.single,[27,c],[],aw⟩,[])by simp [Keys.cH,al],fV]
    exact li (s:=⟨.single,[27,c],[],aw⟩) (gq (n:=29) (k:=19) (ks:= .grown []) (j0:=j0) (j1:=j1) (j2:=j2) (j3:=j3) (kv:= .slice (some ⟨19,0,0,0,1⟩) 2 2) (pv:=pv) (ov:=ov) (ty:=ty) (uty:=uty) rfl aA ar ar (.inr a) ar ar
     (Ep (es:=[.int .u8 27,.int .u8 c.toNat]) aA rfl rfl ar) aA ae b h (.inr (.inl aA))) (by simp [l9])
   .have al:c≠27:=by rintro rfl;exact e rfl
    have u:c≠91:=by rintro rfl;exact aO rfl
    have w:c≠79:=by rintro rfl;exact p rfl
    rw [show Keys.cH ⟨.cH,[27],[],aw⟩ c=nD ⟨.cH,[27],[],aw⟩ c by simp [Keys.cH,al,u,w,nD]]
    exact sg (s:=⟨.cH,[27],[],aw⟩) (n:=15) rfl aA (vu (gq (n:=15) (f:=b1 .cH) (pas:=false) (ks:= .one) (ai:=[27]) (ax:=[]) (k:=2) (j0:=j0) (j1:=j1) (j2:=j2) (j3:=j3) (kv:= .slice (some ⟨2,0,0,0,1⟩) 1 1) (pv:=pv) (ov:=ov) (ty:=ty) (uty:=uty) rfl aA ar ar (.inr a) ar ar
     ⟨aA,rfl,ar,rfl⟩ aA ae b h (.inr (.inr ⟨rfl,a⟩))) trivial) V an ⟨rfl,al,.inr rfl⟩ λad aC l i=>⟨rfl,aC,l,i⟩)
  exact⟨ad,x,q⟩
theorem Nu:∀args h a,hv (2^30-8) sj Keys.cH args h=some a->a.cx Tryz.prog ck 59 args h:=nA λH d I s es c g e f b=>Nt g e b
theorem sk(c:Nat):fZ (c:Int)=dC c:=by
 unfold fZ dC;by_cases aa:65<=c/\c<=68
 .have h2:(65:Int)<=c/\(c:Int)<=68:= V;rw [aE aa,aE h2]
 .have h2:¬((65:Int)<=c/\(c:Int)<=68):= V;rw [ap aa,ap h2];by_cases d:c=72
  .have a:(c:Int)=72:= V;rw [aE d,aE a]
  .have a:¬(c:Int)=72:= V;rw [ap d,ap a];by_cases e:c=70
   .have b:(c:Int)=70:= V;rw [aE e,aE b]
   .have b:¬(c:Int)=70:= V;rw [ap e,ap b]
def singleR(s:bq)(c:UInt8):Prop:=s.ax=[]/\s.nx=.single
theorem Nv{H:T}{d:Nat}{I:bO}{s:bq}{es:List aP}{c:UInt8}(g:bS H d I s es)(L:es.length<2^30-8)(F:singleR s c):∃H',bu 88 [.ptr (some ⟨d,0,0,0,6⟩),.int .u8 c.toNat] H (.tuple []) H' /\
 ∃aC,bS H' d aC (Keys.single s c).1 (es++(Keys.single s c).2)/\Fr H H' d I aC:=by
 refine oR ?_ g;intro ks kv pv ov ty uty j0 j1 j2 j3 K P O f hs gs E;obtain⟨x,ae,A⟩:=kH gs;obtain⟨nx,ai,ax,aw⟩:=s;obtain⟨aa,h2⟩:=F;simp only at aa h2 hs gs x ae A⊢;subst aa h2
 have N:ks=.grown []:=by
  cases ks with
  |grown j=>cases j with
   |nil=>rfl
   |cons a b=>exact hs.elim
  |_=>exact hs.elim
 subst N;have al:=c.toNat_lt;have y:f.k=2:=by have:=x.1;omega
 have M:∀h:T,h.get 2=some K->gL h 0 2 kv (.grown []) ai:=λh e=>by obtain⟨R,ab,m,C,B,z⟩:=x;rw [y]at B z;refine⟨aA,ab,m,C,B,?_⟩;rw [e,<-z,T.dG];rfl
 have mk:∀{h:T}{n:Nat},h.Y=n->5<=n->h.get 0=some (bB 0 (b1 .single) 1 kv pv false ov ty)->h.get 1=some (bJ [] j0 j1 j2 j3 uty)->h.get 2=some K->h.get 3=some P->h.get 4=some O ->
  cU h 0 ⟨1,2,f.p,f.o⟩ (b1 .single) false (.grown []) ai [] aw es/\Fr (T.of [bB 0 (b1 .single) 1 kv pv false ov ty,bJ [] j0 j1 j2 j3 uty,K,P,O]) h 0 f ⟨1,2,f.p,f.o⟩:=λaz t e0 aI aO r i =>
  gq az t e0 aI (.inr y) r i (M _ aO) V ae A E (.inr (.inr ⟨rfl,y⟩))
 have t1:∀{h:T}{n:Nat}{b3:J}(e:aP),h.Y=n->5<=n->h.get 0=some (bB 0 (b1 .single) 1 kv pv false ov ty)->h.get 1=some (bJ [] j0 j1 j2 j3 uty)->h.get 2=some K->h.get 3=some P->h.get 4=some O->b3=bi e->Keys.single ⟨.single,ai,[],aw⟩ c=tell ⟨.single,ai,[],aw⟩ e ->
  bU h ⟨0,0,0,0,6⟩ b3/\∀ad,bV h ⟨0,0,0,0,6⟩ b3 ad->_root_.cond (Nat.ble 5 ad.Y) (J.tuple []=J.tuple []/\∃aC,bS ad 0 aC (Keys.single ⟨.single,ai,[],aw⟩ c).1 (es++(Keys.single ⟨.single,ai,[],aw⟩ c).2)/\Fr (T.of [bB 0 (b1 .single) 1 kv pv false ov ty,bJ [] j0 j1 j2 j3 uty,K,P,O]) ad 0 f aC) False:=λ{h n b3} e az t e0 aI aO r i he hm=>by
  rw [hm];exact oP (n:=n) az t (mk az t e0 aI aO r i) he V an λad aC w u=>⟨rfl,aC,se w,u⟩
 have t2:∀{h:T}{n:Nat}{b3:J}(e:aP),h.Y=n->5<=n->h.get 0=some (bB 0 (b1 .single) 1 kv pv false ov ty)->h.get 1=some (bJ [] j0 j1 j2 j3 uty)->h.get 2=some K->h.get 3=some P->h.get 4=some O->b3=bi e->Keys.single ⟨.single,ai,[],aw⟩ c=((Keys.ground ⟨.ground,[],[],aw⟩ c).1,e::(Keys.ground ⟨.ground,[],[],aw⟩ c).2) ->
  bU h ⟨0,0,0,0,6⟩ b3/\∀l,bV h ⟨0,0,0,0,6⟩ b3 l->_root_.cond (Nat.ble 5 l.Y&&true) (a1 (a'.D env) 66 ⟨0,0,0,0,6⟩ ⟨l.Y+6,l.ay⟩=some (.func (.func 30) [.ptr (some ⟨0,0,0,0,6⟩)] [])/\cF (2^30-4) ji ⟨l.Y+6,l.ay⟩ ⟨0,0,0,0,6⟩ c.toNat /\
  ∀ad,cG Keys.ground ⟨l.Y+6,l.ay⟩ ⟨0,0,0,0,6⟩ c.toNat ad->_root_.cond (Nat.ble 5 ad.Y) (J.tuple []=J.tuple []/\∃aC,bS ad 0 aC (Keys.single ⟨.single,ai,[],aw⟩ c).1 (es++(Keys.single ⟨.single,ai,[],aw⟩ c).2)/\Fr (T.of [bB 0 (b1 .single) 1 kv pv false ov ty,bJ [] j0 j1 j2 j3 uty,K,P,O]) ad 0 f aC) False) False:=λ{h n b3} e az t e0 aI aO r i he hm=>by
  rw [hm];exact En (k:=6) V (mk az t e0 aI aO r i) he L λad aC w u=>⟨rfl,aC,w,u⟩
 obtain⟨v,ad,G,rfl,q⟩:=Nl (b1 .single) kv pv ov ty (bJ [] j0 j1 j2 j3 uty) K P O c.toNat (λv ad=>v=.tuple []/\∃aC,bS ad 0 aC (Keys.single ⟨.single,ai,[],aw⟩ c).1 (es++(Keys.single ⟨.single,ai,[],aw⟩ c).2)/\Fr (T.of [bB 0 (b1 .single) 1 kv pv false ov ty,bJ [] j0 j1 j2 j3 uty,K,P,O]) ad 0 f aC) (by
  delta sh nE ma qm Ek dw oT zq kI
  rw [sk];have Q:0<dC c.toNat\/ ¬0<dC c.toNat:= V;refine⟨λe=> ?_,λe=>⟨λaO=>⟨λr=>⟨V,V,V,?_⟩,λr=>⟨λi=> ?_,λi=> ?_⟩⟩,λaO=>⟨λi=> ?_,λi=> ?_⟩⟩⟩
  .exact t1 (n:=14) (cY (dC c.toNat)) rfl aA ar ar ar ar ar rfl (by simp only [Keys.single];rw [aE e])
  .exact t1 (n:=23) (cY (21+(c.toNat-80))) rfl aA ar ar ar ar ar rfl (by simp only [Keys.single];rw [ap e,aE V])
  .omega
  .exact t2 (n:=21) (dq 79 2) rfl aA ar ar ar ar ar rfl (by simp only [Keys.single];rw [ap e,ap V,ap V];rfl)
  .exact t1 (n:=21) (cY 1) rfl aA ar ar ar ar ar rfl (by simp only [Keys.single];rw [ap e,ap V,aE V])
  .exact t2 (n:=21) (dq 79 2) rfl aA ar ar ar ar ar rfl (by simp only [Keys.single];rw [ap e,ap V,ap V];rfl))
 exact⟨ad,G,q⟩
theorem Nw:∀args h a,hv (2^30-8) singleR Keys.single args h=some a->a.cx Tryz.prog ck 88 args h:=nA λH d I s es c g e f b=>Nv g e b
noncomputable def sl:dB:=(Eo.add 59 (hv (2^30-8) sj Keys.cH)).add 88 (hv (2^30-8) singleR Keys.single)
theorem vw:dv Tryz.prog ck sl:=(Nr.add Nu).add Nw
def dm.pick(k:Nat):dm->Option dm
 |.or p (.one v1 aa c) (.or a (.one v2 h2 d) (.one v3 b e)) =>
  match k with
  |0=>some (.one v1 aa (p::c))
  |1=>some (.one v2 h2 ((¬p)::a::d))
  |_=>some (.one v3 b ((¬p)::(¬a)::e))
 |_=>none
noncomputable def so(k:Nat):List J->T->Option dm:=λargs h=>(r1 args h).bind (dm.pick k)
theorem Nx{f:FuncId}{args:List J}{h:T}{k:Nat} :∀{a b:dm},a.cx Tryz.prog ck f args h->dm.pick k a=some b->b.cx Tryz.prog ck f args h:=by
 intro a b e c;unfold dm.pick at c;split at c<;>first|(cases c;done)|skip
 split at c<;>simp only [a6]at c<;>subst c<;>intro ae
 .exact e.1 (ae _ jG) (λx d=>ae x (iR _ d))
 .exact(e.2 (ae _ jG)).1 (ae _ (iR _ jG)) (λx d=>ae x (iR _ (iR _ d)))
 .exact(e.2 (ae _ jG)).2 (ae _ (iR _ jG)) (λx d=>ae x (iR _ (iR _ d)))
theorem zr(k:Nat):∀args h a,so k args h=some a->a.cx Tryz.prog ck 107 args h:=by
 intro args h a e;unfold so at e;cases hs:r1 args h with
 |none=>rw [hs]at e;cases e
 |some b=>rw [hs]at e;exact Nx (DV args h b hs) e
noncomputable def Ny:dB:=sl.add 107 (so 0)
theorem Nz:dv Tryz.prog ck Ny:=vw.add (zr 0)
noncomputable def NA:dB:=sl.add 107 (so 1)
theorem NB:dv Tryz.prog ck NA:=vw.add (zr 1)
noncomputable def NC:dB:=sl.add 107 (so 2)
theorem ND:dv Tryz.prog ck NC:=vw.add (zr 2)
abbrev qn(b a:Nat):J:=J.slice (some ⟨2,b,0,0,1⟩) a a
abbrev sp(ab a:Nat):J:=J.slice (some {id:=2,ab:=ab+1,idx:=0,fld:=0,es:=1}) (a+1) (a+1)
abbrev NE:ch:=(.aq 6024 (ag 7007 (ag 8006 (.aq 9001 .nil (ag 11005 .nil)))) (he 12004 (.aq 1007 .nil .nil)))
abbrev cw(a:List J)(c b e:Nat)(d:Int):ac:=⟨a++[.int .u8 d],1,false,false,c+1,b,if b=c then List.length a else min e (List.length a),some (5,0)⟩
abbrev de(b:List J)(c:Nat)(a:Int):J:=J.agg [.int .i8 7,.int .i32 0,.int .u8 0,.int .i64 0,.int .i64 0,.str (strOf (List.take (c+1) (List.drop 0 (List.append b [.int .u8 a]))))]
abbrev vx(a b c d f e:Int):J:=J.agg [.int .u8 (bF (Prod.snd (bD a b c d f e)) 0 a),.int .u8 (bF (Prod.snd (bD a b c d f e)) 1 b),.int .u8 (bF (Prod.snd (bD a b c d f e)) 2 c),.int .u8 (bF (Prod.snd (bD a b c d f e)) 3 d),.int .i64 0]
abbrev qo(a:Nat)(d c:J)(e b:Nat):J:=J.agg [(dw a),(qn e b),d,.bool false,.ptr (some ⟨1,0,0,0,5⟩),c]
abbrev sq(a:Nat)(d c:J)(e b:Nat):J:=J.agg [(dw a),(sp e b),d,.bool false,.ptr (some ⟨1,0,0,0,5⟩),c]
abbrev Er:ch:=(he 4004 (.aq 4005 (ag 5007 .nil) (ag 6019 (ag 6023 NE))))
abbrev lk(g:bj)(h:Nat)(a b c d f e:Int):ac:=⟨[(vx a b c d f e)],5,true,false,0,0,0,g⟩
abbrev fa(g:bj)(h:Nat)(a b c d f e:Int):ac:=⟨[(oM a b c d f e)],5,true,false,0,0,0,g⟩
abbrev fw(b:Nat)(e d:J)(a:bj)(f c:Nat):ac:=⟨[(qo b e d f c)],6,true,false,0,0,0,a⟩
abbrev fx(b:Nat)(e d:J)(a:bj)(f c:Nat):ac:=⟨[(sq b e d f c)],6,true,false,0,0,0,a⟩
abbrev sr(j:Nat)(q p:J)(i r:bj)(d c:ac)(l:List J)(b n k m:Nat)(e f g h o a:Int):T:=(T.af 94 [(0,(fw j q p i b m)),(1,(fa r b e f g h o a)),(2,(dd l b n k)),(3,d),(4,c),(27,(cl a)),(70,ac.aj [.int .u8 a] 1 true)])
abbrev ss(j:Nat)(q p:J)(i r:bj)(d c:ac)(l:List J)(b n k m:Nat)(e f g h o a:Int):T:=(T.af 104 [(0,(fx j q p i b m)),(1,(fa r b e f g h o a)),(2,(cw l b n k a)),(3,d),(4,c),(27,(cl a)),(70,ac.aj [.int .u8 a] 1 true),(81,ac.aj [.int .u8 a] 1 true)])
abbrev st(j:Nat)(q p:J)(i r:bj)(d c:ac)(l:List J)(b n k m:Nat)(e f g h o a:Int):T:=(T.af 99 [(0,(fw j q p i b m)),(1,(lk r b e f g h o a)),(2,(dd l b n k)),(3,d),(4,c),(27,(cl a)),(70,ac.aj [.int .u8 a] 1 true),(94,ac.aj [.int .i32 65533] 1 true)])
theorem NF(o:Nat)(q p:J)(n r:bj)(m l:ac)(c:List J)(ab j i b:Nat)(d e f g h a:Int)(t:bm)(v:(0<(b:Int)->((0:Int)<=0/\0<(b:Int))/\ab=ab/\c[0]? =some (.int .u8 (aL c 0))/\(aL c 0=27->(bD d e f g h a).1=[]/\gp d e f g h a/\(0<(↑(List.length (Prod.snd (bD d e f g h a))):Int)->(ab=ab/\0+b=c.length/\b<b+1/\(b+1+(b+1)/4+512)*1<=281474976710656/\b+1<4611686018427387904)/\t (.tuple []) (T.af 62 [(0,(fx o q p n ab b)),(1,(fa r ab d e f g h a)),(2,(cw c ab j i a)),(3,m),(4,l),(29,(cl a)),(57,ac.aj [.int .u8 a] 1 true)]))/\(¬0<(↑(List.length (Prod.snd (bD d e f g h a))):Int)->((0:Int)<=1/\1<=(b:Int)/\b<=b)/\ab=ab/\1+(b-1)<=c.length/\(∃s,List.take (b-1) (List.drop (aT.idx ⟨2,ab,1,0,1⟩) (ac.aQ (dd c ab j i)))=aG s)/\Nat.le (Nat.succ (List.length (strOf (List.take (b-1) (List.drop 1 c)))+List.length [UInt8.ofNat (Int.toNat a)])) (2^62)/\List.length (strOf (List.take (b-1) (List.drop 1 c))++[UInt8.ofNat (Int.toNat a)])<1099511627776/\(valid (strOf (List.take (b-1) (List.drop 1 c))++[UInt8.ofNat (Int.toNat a)])=true->(ab=ab/\0+b=c.length/\b<b+1/\(b+1+(b+1)/4+512)*1<=281474976710656/\b+1<4611686018427387904)/\((0:Int)<=1/\1<=(↑(b+1):Int)/\b+1<=b+1)/\ab+1=ab+1/\1+(b+1-1)<=List.length (c++[.int .u8 a])/\(∃s,List.take (b+1-1) (List.drop (aT.idx {id:=2,ab:=ab+1,idx:=1,fld:=0,es:=1}) (ac.aQ (cw c ab j i a)))=aG s)/\List.length (strOf (List.take (b+1-1) (List.drop 1 (List.append c [.int .u8 a]))))<1099511627776/\(valid (strOf (List.take (b+1-1) (List.drop 1 (List.append c [.int .u8 a]))))=true->False)/\(valid (strOf (List.take (b+1-1) (List.drop 1 (List.append c [.int .u8 a]))))=false->ab+1=ab+1/\0+(b+1)<=List.length (c++[.int .u8 a])/\(∃s,List.take (b+1) (List.drop (aT.idx {id:=2,ab:=ab+1,idx:=0,fld:=0,es:=1}) (ac.aQ (cw c ab j i a)))=aG s)/\bU (T.af 106 [(0,(fx o q p n ab b)),(1,(fa r ab d e f g h a)),(2,(cw c ab j i a)),(3,m),(4,l),(29,(cl a)),(72,ac.aj [.int .u8 a] 1 true),(83,ac.aj [.int .u8 a] 1 true)]) ⟨0,0,0,0,6⟩ ((de c b a))/\∀(u:T),bV (T.af 106 [(0,(fx o q p n ab b)),(1,(fa r ab d e f g h a)),(2,(cw c ab j i a)),(3,m),(4,l),(29,(cl a)),(72,ac.aj [.int .u8 a] 1 true),(83,ac.aj [.int .u8 a] 1 true)]) ⟨0,0,0,0,6⟩ ((de c b a)) u->bk 5 (u.Y) (t (.tuple []) u)))/\(valid (strOf (List.take (b-1) (List.drop 1 c))++[UInt8.ofNat (Int.toNat a)])=false->((↑(List.length (Prod.snd (bD d e f g h a))):Int)=0->cF (2^30-8) dr (T.af 96 [(0,(fw o q p n ab b)),(1,(fa r ab d e f g h a)),(2,(dd c ab j i)),(3,m),(4,l),(29,(cl a)),(72,ac.aj [.int .u8 a] 1 true)]) ⟨0,0,0,0,6⟩ a/\∀(k:T),cG bad (T.af 96 [(0,(fw o q p n ab b)),(1,(fa r ab d e f g h a)),(2,(dd c ab j i)),(3,m),(4,l),(29,(cl a)),(72,ac.aj [.int .u8 a] 1 true)]) ⟨0,0,0,0,6⟩ a k->bk 5 (k.Y) (t (.tuple []) k))/\(¬(↑(List.length (Prod.snd (bD d e f g h a))):Int)=0->cF (2^30-8) dr (T.af 101 [(0,(fw o q p n ab b)),(1,(lk r ab d e f g h a)),(2,(dd c ab j i)),(3,m),(4,l),(29,(cl a)),(72,ac.aj [.int .u8 a] 1 true),(96,ac.aj [.int .i32 65533] 1 true)]) ⟨0,0,0,0,6⟩ a/\∀(k:T),cG bad (T.af 101 [(0,(fw o q p n ab b)),(1,(lk r ab d e f g h a)),(2,(dd c ab j i)),(3,m),(4,l),(29,(cl a)),(72,ac.aj [.int .u8 a] 1 true),(96,ac.aj [.int .i32 65533] 1 true)]) ⟨0,0,0,0,6⟩ a k->bk 5 (k.Y) (t (.tuple []) k)))))/\(¬aL c 0=27->(bD d e f g h a).1=[]/\gp d e f g h a/\(0<(↑(List.length (Prod.snd (bD d e f g h a))):Int)->(ab=ab/\0+b=c.length/\b<b+1/\(b+1+(b+1)/4+512)*1<=281474976710656/\b+1<4611686018427387904)/\t (.tuple []) (T.af 60 [(0,(fx o q p n ab b)),(1,(fa r ab d e f g h a)),(2,(cw c ab j i a)),(3,m),(4,l),(27,(cl a)),(55,ac.aj [.int .u8 a] 1 true)]))/\(¬0<(↑(List.length (Prod.snd (bD d e f g h a))):Int)->ab=ab/\0+(b-0)<=c.length/\(∃s,List.take (b-0) (List.drop (aT.idx ⟨2,ab,0,0,1⟩) (ac.aQ (dd c ab j i)))=aG s)/\Nat.le (Nat.succ (List.length (strOf (List.take (b-0) c))+List.length [UInt8.ofNat (Int.toNat a)])) (2^62)/\List.length (strOf (List.take (b-0) c)++[UInt8.ofNat (Int.toNat a)])<1099511627776/\(valid (strOf (List.take (b-0) c)++[UInt8.ofNat (Int.toNat a)])=true->(ab=ab/\0+b=c.length/\b<b+1/\(b+1+(b+1)/4+512)*1<=281474976710656/\b+1<4611686018427387904)/\ab+1=ab+1/\0+(b+1-0)<=List.length (c++[.int .u8 a])/\(∃s,List.take (b+1-0) (List.drop (aT.idx {id:=2,ab:=ab+1,idx:=0,fld:=0,es:=1}) (ac.aQ (cw c ab j i a)))=aG s)/\List.length (strOf (List.take (b+1-0) (List.drop 0 (List.append c [.int .u8 a]))))<1099511627776/\(valid (strOf (List.take (b+1-0) (List.drop 0 (List.append c [.int .u8 a]))))=true->False)/\(valid (strOf (List.take (b+1-0) (List.drop 0 (List.append c [.int .u8 a]))))=false->ab+1=ab+1/\0+(b+1)<=List.length (c++[.int .u8 a])/\(∃s,List.take (b+1) (List.drop (aT.idx {id:=2,ab:=ab+1,idx:=0,fld:=0,es:=1}) (ac.aQ (cw c ab j i a)))=aG s)/\bU (ss o q p n r m l c ab j i b d e f g h a) ⟨0,0,0,0,6⟩ ((de c b a))/\∀(u:T),bV (ss o q p n r m l c ab j i b d e f g h a) ⟨0,0,0,0,6⟩ ((de c b a)) u->bk 5 (u.Y) (t (.tuple []) u)))/\(valid (strOf (List.take (b-0) c)++[UInt8.ofNat (Int.toNat a)])=false->((↑(List.length (Prod.snd (bD d e f g h a))):Int)=0->cF (2^30-8) dr (sr o q p n r m l c ab j i b d e f g h a) ⟨0,0,0,0,6⟩ a/\∀(k:T),cG bad (sr o q p n r m l c ab j i b d e f g h a) ⟨0,0,0,0,6⟩ a k->bk 5 (k.Y) (t (.tuple []) k))/\(¬(↑(List.length (Prod.snd (bD d e f g h a))):Int)=0->cF (2^30-8) dr (st o q p n r m l c ab j i b d e f g h a) ⟨0,0,0,0,6⟩ a/\∀(k:T),cG bad (st o q p n r m l c ab j i b d e f g h a) ⟨0,0,0,0,6⟩ a k->bk 5 (k.Y) (t (.tuple []) k))))))/\(¬0<(b:Int)->(bD d e f g h a).1=[]/\gp d e f g h a/\(0<(↑(List.length (Prod.snd (bD d e f g h a))):Int)->(ab=ab/\0+b=c.length/\b<b+1/\(b+1+(b+1)/4+512)*1<=281474976710656/\b+1<4611686018427387904)/\t (.tuple []) (T.af 60 [(0,(fx o q p n ab b)),(1,(fa r ab d e f g h a)),(2,(cw c ab j i a)),(3,m),(4,l),(27,(cl a)),(55,ac.aj [.int .u8 a] 1 true)]))/\(¬0<(↑(List.length (Prod.snd (bD d e f g h a))):Int)->ab=ab/\0+(b-0)<=c.length/\(∃s,List.take (b-0) (List.drop (aT.idx ⟨2,ab,0,0,1⟩) (ac.aQ (dd c ab j i)))=aG s)/\Nat.le (Nat.succ (List.length (strOf (List.take (b-0) c))+List.length [UInt8.ofNat (Int.toNat a)])) (2^62)/\List.length (strOf (List.take (b-0) c)++[UInt8.ofNat (Int.toNat a)])<1099511627776/\(valid (strOf (List.take (b-0) c)++[UInt8.ofNat (Int.toNat a)])=true->(ab=ab/\0+b=c.length/\b<b+1/\(b+1+(b+1)/4+512)*1<=281474976710656/\b+1<4611686018427387904)/\ab+1=ab+1/\0+(b+1-0)<=List.length (c++[.int .u8 a])/\(∃s,List.take (b+1-0) (List.drop (aT.idx {id:=2,ab:=ab+1,idx:=0,fld:=0,es:=1}) (ac.aQ (cw c ab j i a)))=aG s)/\List.length (strOf (List.take (b+1-0) (List.drop 0 (List.append c [.int .u8 a]))))<1099511627776/\(valid (strOf (List.take (b+1-0) (List.drop 0 (List.append c [.int .u8 a]))))=true->False)/\(valid (strOf (List.take (b+1-0) (List.drop 0 (List.append c [.int .u8 a]))))=false->ab+1=ab+1/\0+(b+1)<=List.length (c++[.int .u8 a])/\(∃s,List.take (b+1) (List.drop (aT.idx {id:=2,ab:=ab+1,idx:=0,fld:=0,es:=1}) (ac.aQ (cw c ab j i a)))=aG s)/\bU (ss o q p n r m l c ab j i b d e f g h a) ⟨0,0,0,0,6⟩ ((de c b a))/\∀(u:T),bV (ss o q p n r m l c ab j i b d e f g h a) ⟨0,0,0,0,6⟩ ((de c b a)) u->bk 5 (u.Y) (t (.tuple []) u)))/\(valid (strOf (List.take (b-0) c)++[UInt8.ofNat (Int.toNat a)])=false->((↑(List.length (Prod.snd (bD d e f g h a))):Int)=0->cF (2^30-8) dr (sr o q p n r m l c ab j i b d e f g h a) ⟨0,0,0,0,6⟩ a/\∀(k:T),cG bad (sr o q p n r m l c ab j i b d e f g h a) ⟨0,0,0,0,6⟩ a k->bk 5 (k.Y) (t (.tuple []) k))/\(¬(↑(List.length (Prod.snd (bD d e f g h a))):Int)=0->cF (2^30-8) dr (st o q p n r m l c ab j i b d e f g h a) ⟨0,0,0,0,6⟩ a/\∀(k:T),cG bad (st o q p n r m l c ab j i b d e f g h a) ⟨0,0,0,0,6⟩ a k->bk 5 (k.Y) (t (.tuple []) k)))))) :
 bC 90 [.ptr (ba 0),.int .u8 a] (T.of [bB 0 o 1 (.slice (some ⟨2,ab,0,0,1⟩) b b) q false p n,fk d e f g h r,bL c 1 ab j i bZ,m,l]) t :=
 bI Nz (.aq 1005 (ag 1011 (ag 1012 (.aq 1013 (he 4004 (.aq 4005 (ag 5007 .nil) (ag 6018 (ag 6019 (ag 6023 (.aq 6024 (ag 7007 (ag 8005 (ag 8006 (.aq 9001 .nil (ag 11005 .nil))))) (he 12004 (.aq 1007 .nil .nil)))))))) Er))) Er) v
abbrev Es:ch:=(ag 7007 (ag 8006 (.aq 9001 .nil (ag 11005 .nil))))
abbrev zt:ch:=(ag 8005 (ag 8006 (.aq 9001 .nil (ag 11005 .nil))))
abbrev zu:ch:=(.aq 6024 Es (he 12004 (.aq 1007 .nil .nil)))
abbrev vy:ch:=(ag 6023 (.aq 6024 (ag 7007 zt) (he 12004 (.aq 1007 .nil .nil))))
abbrev vz:ch:=(.aq 6010 Es (ag 6019 (ag 6023 zu)))
abbrev mb(k:Nat)(q p:J)(j r:bj)(i h:ac)(m:List J)(b o l n:Nat)(c d e f g a:Int):T:=(T.af 95 [(0,(fw k q p j b n)),(1,(fa r b c d e f g a)),(2,(dd m b o l)),(3,i),(4,h),(27,(cl a)),(30,(hd c d e f g a)),(71,ac.aj [.int .u8 a] 1 true)])
abbrev su(k:Nat)(q p:J)(j r:bj)(i h:ac)(m:List J)(b o l n:Nat)(c d e f g a:Int):T:=(T.af 97 [(0,(fw k q p j b n)),(1,(fa r b c d e f g a)),(2,(dd m b o l)),(3,i),(4,h),(29,(cl a)),(32,(hd c d e f g a)),(73,ac.aj [.int .u8 a] 1 true)])
abbrev mc(k:Nat)(q p:J)(j r:bj)(i h:ac)(m:List J)(b o l n:Nat)(c d e f g a:Int):T:=(T.af 104 [(0,(fx k q p j b n)),(1,(fa r b c d e f g a)),(2,(cw m b o l a)),(3,i),(4,h),(27,(cl a)),(30,(hd c d e f g a)),(82,ac.aj [.int .u8 a] 1 true)])
abbrev me(k:Nat)(q p:J)(j r:bj)(i h:ac)(m:List J)(b o l n:Nat)(c d e f g a:Int):T:=(T.af 105 [(0,(fx k q p j b n)),(1,(fa r b c d e f g a)),(2,(cw m b o l a)),(3,i),(4,h),(27,(cl a)),(30,(hd c d e f g a)),(82,ac.aj [.int .u8 a] 1 true)])
abbrev sv(k:Nat)(q p:J)(j r:bj)(i h:ac)(m:List J)(b o l n:Nat)(c d e f g a:Int):T:=(T.af 106 [(0,(fx k q p j b n)),(1,(fa r b c d e f g a)),(2,(cw m b o l a)),(3,i),(4,h),(29,(cl a)),(32,(hd c d e f g a)),(84,ac.aj [.int .u8 a] 1 true)])
abbrev sw(k:Nat)(q p:J)(j r:bj)(i h:ac)(m:List J)(b o l n:Nat)(c d e f g a:Int):T:=(T.af 107 [(0,(fx k q p j b n)),(1,(fa r b c d e f g a)),(2,(cw m b o l a)),(3,i),(4,h),(29,(cl a)),(32,(hd c d e f g a)),(84,ac.aj [.int .u8 a] 1 true)])
abbrev mf(k:Nat)(q p:J)(j r:bj)(i h:ac)(m:List J)(b o l n:Nat)(c d e f g a:Int):T:=(T.af 104 [(0,(fx k q p j b n)),(1,(fa r b c d e f g a)),(2,(cw m b o l a)),(3,i),(4,h),(27,(cl a)),(30,(hd c d e f g a)),(71,ac.aj [.int .u8 a] 1 true),(82,ac.aj [.int .u8 a] 1 true)])
abbrev mg(k:Nat)(q p:J)(j r:bj)(i h:ac)(m:List J)(b o l n:Nat)(c d e f g a:Int):T:=(T.af 105 [(0,(fx k q p j b n)),(1,(fa r b c d e f g a)),(2,(cw m b o l a)),(3,i),(4,h),(27,(cl a)),(30,(hd c d e f g a)),(71,ac.aj [.int .u8 a] 1 true),(82,ac.aj [.int .u8 a] 1 true)])
abbrev sx(k:Nat)(q p:J)(j r:bj)(i h:ac)(m:List J)(b o l n:Nat)(c d e f g a:Int):T:=(T.af 106 [(0,(fx k q p j b n)),(1,(fa r b c d e f g a)),(2,(cw m b o l a)),(3,i),(4,h),(29,(cl a)),(32,(hd c d e f g a)),(73,ac.aj [.int .u8 a] 1 true),(84,ac.aj [.int .u8 a] 1 true)])
abbrev sy(k:Nat)(q p:J)(j r:bj)(i h:ac)(m:List J)(b o l n:Nat)(c d e f g a:Int):T:=(T.af 107 [(0,(fx k q p j b n)),(1,(fa r b c d e f g a)),(2,(cw m b o l a)),(3,i),(4,h),(29,(cl a)),(32,(hd c d e f g a)),(73,ac.aj [.int .u8 a] 1 true),(84,ac.aj [.int .u8 a] 1 true)])
abbrev mh(k:Nat)(q p:J)(j r:bj)(i h:ac)(m:List J)(b o l n:Nat)(c d e f g a:Int):T:=(T.af 100 [(0,(fw k q p j b n)),(1,(lk r b c d e f g a)),(2,(dd m b o l)),(3,i),(4,h),(27,(cl a)),(30,(hd c d e f g a)),(71,ac.aj [.int .u8 a] 1 true),(95,ac.aj [.int .i32 65533] 1 true)])
abbrev sA(k:Nat)(q p:J)(j r:bj)(i h:ac)(m:List J)(b o l n:Nat)(c d e f g a:Int):T:=(T.af 102 [(0,(fw k q p j b n)),(1,(lk r b c d e f g a)),(2,(dd m b o l)),(3,i),(4,h),(29,(cl a)),(32,(hd c d e f g a)),(73,ac.aj [.int .u8 a] 1 true),(97,ac.aj [.int .i32 65533] 1 true)])
theorem NG(n:Nat)(p o:J)(m q:bj)(l k:ac)(c:List J)(ab j i a:Nat)(d e f g h b:Int)(v:bm)(w:(0<(a:Int)->((0:Int)<=0/\0<(a:Int))/\ab=ab/\c[0]? =some (.int .u8 (aL c 0))/\(aL c 0=27-> ¬(bD d e f g h b).1=[]/\List.length (Prod.fst (bD d e f g h b))=1/\gp d e f g h b/\(0<(↑(List.length (Prod.snd (bD d e f g h b))):Int)->((a:Int)=1->(ab=ab/\0+a=c.length/\a<a+1/\(a+1+(a+1)/4+512)*1<=281474976710656/\a+1<4611686018427387904)/\((0:Int)<=1/\1<=(↑(a+1):Int)/\a+1<=a+1)/\ab+1=ab+1/\1+(a+1-1)<=List.length (c++[.int .u8 b])/\(∃r,List.take (a+1-1) (List.drop (aT.idx {id:=2,ab:=ab+1,idx:=1,fld:=0,es:=1}) (ac.aQ (cw c ab j i b)))=aG r)/\List.length (strOf (List.take (a+1-1) (List.drop 1 (List.append c [.int .u8 b]))))<1099511627776/\(valid (strOf (List.take (a+1-1) (List.drop 1 (List.append c [.int .u8 b]))))=true->bU (sv n p o m q l k c ab j i a d e f g h b) ⟨0,0,0,0,6⟩ ((f' d e f g h b))/\∀(s:T),bV (sv n p o m q l k c ab j i a d e f g h b) ⟨0,0,0,0,6⟩ ((f' d e f g h b)) s->bk 5 (s.Y) (v (.tuple []) s))/\(valid (strOf (List.take (a+1-1) (List.drop 1 (List.append c [.int .u8 b]))))=false->ab+1=ab+1/\0+(a+1)<=List.length (c++[.int .u8 b])/\(∃r,List.take (a+1) (List.drop (aT.idx {id:=2,ab:=ab+1,idx:=0,fld:=0,es:=1}) (ac.aQ (cw c ab j i b)))=aG r)/\bU (sw n p o m q l k c ab j i a d e f g h b) ⟨0,0,0,0,6⟩ ((de c a b))/\∀(t:T),bV (sw n p o m q l k c ab j i a d e f g h b) ⟨0,0,0,0,6⟩ ((de c a b)) t->bk 5 (t.Y) (v (.tuple []) t)))/\(¬(a:Int)=1->((0:Int)<=1/\1<=(a:Int)/\a<=a)/\ab=ab/\1+(a-1)<=c.length/\(∃r,List.take (a-1) (List.drop (aT.idx ⟨2,ab,1,0,1⟩) (ac.aQ (dd c ab j i)))=aG r)/\Nat.le (Nat.succ (List.length (strOf (List.take (a-1) (List.drop 1 c)))+List.length [UInt8.ofNat (Int.toNat b)])) (2^62)/\List.length (strOf (List.take (a-1) (List.drop 1 c))++[UInt8.ofNat (Int.toNat b)])<1099511627776/\(valid (strOf (List.take (a-1) (List.drop 1 c))++[UInt8.ofNat (Int.toNat b)])=true->(ab=ab/\0+a=c.length/\a<a+1/\(a+1+(a+1)/4+512)*1<=281474976710656/\a+1<4611686018427387904)/\((0:Int)<=1/\1<=(↑(a+1):Int)/\a+1<=a+1)/\ab+1=ab+1/\1+(a+1-1)<=List.length (c++[.int .u8 b])/\(∃r,List.take (a+1-1) (List.drop (aT.idx {id:=2,ab:=ab+1,idx:=1,fld:=0,es:=1}) (ac.aQ (cw c ab j i b)))=aG r)/\List.length (strOf (List.take (a+1-1) (List.drop 1 (List.append c [.int .u8 b]))))<1099511627776/\(valid (strOf (List.take (a+1-1) (List.drop 1 (List.append c [.int .u8 b]))))=true->bU (sx n p o m q l k c ab j i a d e f g h b) ⟨0,0,0,0,6⟩ ((f' d e f g h b))/\∀(s:T),bV (sx n p o m q l k c ab j i a d e f g h b) ⟨0,0,0,0,6⟩ ((f' d e f g h b)) s->bk 5 (s.Y) (v (.tuple []) s))/\(valid (strOf (List.take (a+1-1) (List.drop 1 (List.append c [.int .u8 b]))))=false->ab+1=ab+1/\0+(a+1)<=List.length (c++[.int .u8 b])/\(∃r,List.take (a+1) (List.drop (aT.idx {id:=2,ab:=ab+1,idx:=0,fld:=0,es:=1}) (ac.aQ (cw c ab j i b)))=aG r)/\bU (sy n p o m q l k c ab j i a d e f g h b) ⟨0,0,0,0,6⟩ ((de c a b))/\∀(t:T),bV (sy n p o m q l k c ab j i a d e f g h b) ⟨0,0,0,0,6⟩ ((de c a b)) t->bk 5 (t.Y) (v (.tuple []) t)))/\(valid (strOf (List.take (a-1) (List.drop 1 c))++[UInt8.ofNat (Int.toNat b)])=false->((↑(List.length (Prod.snd (bD d e f g h b))):Int)=0->cF (2^30-8) dr (su n p o m q l k c ab j i a d e f g h b) ⟨0,0,0,0,6⟩ b/\∀(u:T),cG bad (su n p o m q l k c ab j i a d e f g h b) ⟨0,0,0,0,6⟩ b u->bk 5 (u.Y) (v (.tuple []) u))/\(¬(↑(List.length (Prod.snd (bD d e f g h b))):Int)=0->cF (2^30-8) dr (sA n p o m q l k c ab j i a d e f g h b) ⟨0,0,0,0,6⟩ b/\∀(u:T),cG bad (sA n p o m q l k c ab j i a d e f g h b) ⟨0,0,0,0,6⟩ b u->bk 5 (u.Y) (v (.tuple []) u)))))/\(¬0<(↑(List.length (Prod.snd (bD d e f g h b))):Int)->((a:Int)=1->(ab=ab/\0+a=c.length/\a<a+1/\(a+1+(a+1)/4+512)*1<=281474976710656/\a+1<4611686018427387904)/\((0:Int)<=1/\1<=(↑(a+1):Int)/\a+1<=a+1)/\ab+1=ab+1/\1+(a+1-1)<=List.length (c++[.int .u8 b])/\(∃r,List.take (a+1-1) (List.drop (aT.idx {id:=2,ab:=ab+1,idx:=1,fld:=0,es:=1}) (ac.aQ (cw c ab j i b)))=aG r)/\List.length (strOf (List.take (a+1-1) (List.drop 1 (List.append c [.int .u8 b]))))<1099511627776/\(valid (strOf (List.take (a+1-1) (List.drop 1 (List.append c [.int .u8 b]))))=true->bU (sv n p o m q l k c ab j i a d e f g h b) ⟨0,0,0,0,6⟩ ((f' d e f g h b))/\∀(s:T),bV (sv n p o m q l k c ab j i a d e f g h b) ⟨0,0,0,0,6⟩ ((f' d e f g h b)) s->bk 5 (s.Y) (v (.tuple []) s))/\(valid (strOf (List.take (a+1-1) (List.drop 1 (List.append c [.int .u8 b]))))=false->ab+1=ab+1/\0+(a+1)<=List.length (c++[.int .u8 b])/\(∃r,List.take (a+1) (List.drop (aT.idx {id:=2,ab:=ab+1,idx:=0,fld:=0,es:=1}) (ac.aQ (cw c ab j i b)))=aG r)/\bU (sw n p o m q l k c ab j i a d e f g h b) ⟨0,0,0,0,6⟩ ((de c a b))/\∀(t:T),bV (sw n p o m q l k c ab j i a d e f g h b) ⟨0,0,0,0,6⟩ ((de c a b)) t->bk 5 (t.Y) (v (.tuple []) t)))/\(¬(a:Int)=1->((0:Int)<=1/\1<=(a:Int)/\a<=a)/\ab=ab/\1+(a-1)<=c.length/\(∃r,List.take (a-1) (List.drop (aT.idx ⟨2,ab,1,0,1⟩) (ac.aQ (dd c ab j i)))=aG r)/\Nat.le (Nat.succ (List.length (strOf (List.take (a-1) (List.drop 1 c)))+List.length [UInt8.ofNat (Int.toNat b)])) (2^62)/\List.length (strOf (List.take (a-1) (List.drop 1 c))++[UInt8.ofNat (Int.toNat b)])<1099511627776/\(valid (strOf (List.take (a-1) (List.drop 1 c))++[UInt8.ofNat (Int.toNat b)])=true->(ab=ab/\0+a=c.length/\a<a+1/\(a+1+(a+1)/4+512)*1<=281474976710656/\a+1<4611686018427387904)/\((0:Int)<=1/\1<=(↑(a+1):Int)/\a+1<=a+1)/\ab+1=ab+1/\1+(a+1-1)<=List.length (c++[.int .u8 b])/\(∃r,List.take (a+1-1) (List.drop (aT.idx {id:=2,ab:=ab+1,idx:=1,fld:=0,es:=1}) (ac.aQ (cw c ab j i b)))=aG r)/\List.length (strOf (List.take (a+1-1) (List.drop 1 (List.append c [.int .u8 b]))))<1099511627776/\(valid (strOf (List.take (a+1-1) (List.drop 1 (List.append c [.int .u8 b]))))=true->bU (sx n p o m q l k c ab j i a d e f g h b) ⟨0,0,0,0,6⟩ ((f' d e f g h b))/\∀(s:T),bV (sx n p o m q l k c ab j i a d e f g h b) ⟨0,0,0,0,6⟩ ((f' d e f g h b)) s->bk 5 (s.Y) (v (.tuple []) s))/\(valid (strOf (List.take (a+1-1) (List.drop 1 (List.append c [.int .u8 b]))))=false->ab+1=ab+1/\0+(a+1)<=List.length (c++[.int .u8 b])/\(∃r,List.take (a+1) (List.drop (aT.idx {id:=2,ab:=ab+1,idx:=0,fld:=0,es:=1}) (ac.aQ (cw c ab j i b)))=aG r)/\bU (sy n p o m q l k c ab j i a d e f g h b) ⟨0,0,0,0,6⟩ ((de c a b))/\∀(t:T),bV (sy n p o m q l k c ab j i a d e f g h b) ⟨0,0,0,0,6⟩ ((de c a b)) t->bk 5 (t.Y) (v (.tuple []) t)))/\(valid (strOf (List.take (a-1) (List.drop 1 c))++[UInt8.ofNat (Int.toNat b)])=false->((↑(List.length (Prod.snd (bD d e f g h b))):Int)=0->cF (2^30-8) dr (su n p o m q l k c ab j i a d e f g h b) ⟨0,0,0,0,6⟩ b/\∀(u:T),cG bad (su n p o m q l k c ab j i a d e f g h b) ⟨0,0,0,0,6⟩ b u->bk 5 (u.Y) (v (.tuple []) u))/\(¬(↑(List.length (Prod.snd (bD d e f g h b))):Int)=0->cF (2^30-8) dr (sA n p o m q l k c ab j i a d e f g h b) ⟨0,0,0,0,6⟩ b/\∀(u:T),cG bad (sA n p o m q l k c ab j i a d e f g h b) ⟨0,0,0,0,6⟩ b u->bk 5 (u.Y) (v (.tuple []) u))))))/\(¬aL c 0=27-> ¬(bD d e f g h b).1=[]/\List.length (Prod.fst (bD d e f g h b))=1/\gp d e f g h b/\(0<(↑(List.length (Prod.snd (bD d e f g h b))):Int)->((a:Int)=0->(ab=ab/\0+a=c.length/\a<a+1/\(a+1+(a+1)/4+512)*1<=281474976710656/\a+1<4611686018427387904)/\ab+1=ab+1/\0+(a+1-0)<=List.length (c++[.int .u8 b])/\(∃r,List.take (a+1-0) (List.drop (aT.idx {id:=2,ab:=ab+1,idx:=0,fld:=0,es:=1}) (ac.aQ (cw c ab j i b)))=aG r)/\List.length (strOf (List.take (a+1-0) (List.drop 0 (List.append c [.int .u8 b]))))<1099511627776/\(valid (strOf (List.take (a+1-0) (List.drop 0 (List.append c [.int .u8 b]))))=true->bU (mc n p o m q l k c ab j i a d e f g h b) ⟨0,0,0,0,6⟩ ((et d e f g h b))/\∀(s:T),bV (mc n p o m q l k c ab j i a d e f g h b) ⟨0,0,0,0,6⟩ ((et d e f g h b)) s->bk 5 (s.Y) (v (.tuple []) s))/\(valid (strOf (List.take (a+1-0) (List.drop 0 (List.append c [.int .u8 b]))))=false->ab+1=ab+1/\0+(a+1)<=List.length (c++[.int .u8 b])/\(∃r,List.take (a+1) (List.drop (aT.idx {id:=2,ab:=ab+1,idx:=0,fld:=0,es:=1}) (ac.aQ (cw c ab j i b)))=aG r)/\bU (me n p o m q l k c ab j i a d e f g h b) ⟨0,0,0,0,6⟩ ((de c a b))/\∀(t:T),bV (me n p o m q l k c ab j i a d e f g h b) ⟨0,0,0,0,6⟩ ((de c a b)) t->bk 5 (t.Y) (v (.tuple []) t)))/\(¬(a:Int)=0->ab=ab/\0+(a-0)<=c.length/\(∃r,List.take (a-0) (List.drop (aT.idx ⟨2,ab,0,0,1⟩) (ac.aQ (dd c ab j i)))=aG r)/\Nat.le (Nat.succ (List.length (strOf (List.take (a-0) c))+List.length [UInt8.ofNat (Int.toNat b)])) (2^62)/\List.length (strOf (List.take (a-0) c)++[UInt8.ofNat (Int.toNat b)])<1099511627776/\(valid (strOf (List.take (a-0) c)++[UInt8.ofNat (Int.toNat b)])=true->(ab=ab/\0+a=c.length/\a<a+1/\(a+1+(a+1)/4+512)*1<=281474976710656/\a+1<4611686018427387904)/\ab+1=ab+1/\0+(a+1-0)<=List.length (c++[.int .u8 b])/\(∃r,List.take (a+1-0) (List.drop (aT.idx {id:=2,ab:=ab+1,idx:=0,fld:=0,es:=1}) (ac.aQ (cw c ab j i b)))=aG r)/\List.length (strOf (List.take (a+1-0) (List.drop 0 (List.append c [.int .u8 b]))))<1099511627776/\(valid (strOf (List.take (a+1-0) (List.drop 0 (List.append c [.int .u8 b]))))=true->bU (mf n p o m q l k c ab j i a d e f g h b) ⟨0,0,0,0,6⟩ ((et d e f g h b))/\∀(s:T),bV (mf n p o m q l k c ab j i a d e f g h b) ⟨0,0,0,0,6⟩ ((et d e f g h b)) s->bk 5 (s.Y) (v (.tuple []) s))/\(valid (strOf (List.take (a+1-0) (List.drop 0 (List.append c [.int .u8 b]))))=false->ab+1=ab+1/\0+(a+1)<=List.length (c++[.int .u8 b])/\(∃r,List.take (a+1) (List.drop (aT.idx {id:=2,ab:=ab+1,idx:=0,fld:=0,es:=1}) (ac.aQ (cw c ab j i b)))=aG r)/\bU (mg n p o m q l k c ab j i a d e f g h b) ⟨0,0,0,0,6⟩ ((de c a b))/\∀(t:T),bV (mg n p o m q l k c ab j i a d e f g h b) ⟨0,0,0,0,6⟩ ((de c a b)) t->bk 5 (t.Y) (v (.tuple []) t)))/\(valid (strOf (List.take (a-0) c)++[UInt8.ofNat (Int.toNat b)])=false->((↑(List.length (Prod.snd (bD d e f g h b))):Int)=0->cF (2^30-8) dr (mb n p o m q l k c ab j i a d e f g h b) ⟨0,0,0,0,6⟩ b/\∀(u:T),cG bad (mb n p o m q l k c ab j i a d e f g h b) ⟨0,0,0,0,6⟩ b u->bk 5 (u.Y) (v (.tuple []) u))/\(¬(↑(List.length (Prod.snd (bD d e f g h b))):Int)=0->cF (2^30-8) dr (mh n p o m q l k c ab j i a d e f g h b) ⟨0,0,0,0,6⟩ b/\∀(u:T),cG bad (mh n p o m q l k c ab j i a d e f g h b) ⟨0,0,0,0,6⟩ b u->bk 5 (u.Y) (v (.tuple []) u)))))/\(¬0<(↑(List.length (Prod.snd (bD d e f g h b))):Int)->((a:Int)=0->(ab=ab/\0+a=c.length/\a<a+1/\(a+1+(a+1)/4+512)*1<=281474976710656/\a+1<4611686018427387904)/\ab+1=ab+1/\0+(a+1-0)<=List.length (c++[.int .u8 b])/\(∃r,List.take (a+1-0) (List.drop (aT.idx {id:=2,ab:=ab+1,idx:=0,fld:=0,es:=1}) (ac.aQ (cw c ab j i b)))=aG r)/\List.length (strOf (List.take (a+1-0) (List.drop 0 (List.append c [.int .u8 b]))))<1099511627776/\(valid (strOf (List.take (a+1-0) (List.drop 0 (List.append c [.int .u8 b]))))=true->bU (mc n p o m q l k c ab j i a d e f g h b) ⟨0,0,0,0,6⟩ ((et d e f g h b))/\∀(s:T),bV (mc n p o m q l k c ab j i a d e f g h b) ⟨0,0,0,0,6⟩ ((et d e f g h b)) s->bk 5 (s.Y) (v (.tuple []) s))/\(valid (strOf (List.take (a+1-0) (List.drop 0 (List.append c [.int .u8 b]))))=false->ab+1=ab+1/\0+(a+1)<=List.length (c++[.int .u8 b])/\(∃r,List.take (a+1) (List.drop (aT.idx {id:=2,ab:=ab+1,idx:=0,fld:=0,es:=1}) (ac.aQ (cw c ab j i b)))=aG r)/\bU (me n p o m q l k c ab j i a d e f g h b) ⟨0,0,0,0,6⟩ ((de c a b))/\∀(t:T),bV (me n p o m q l k c ab j i a d e f g h b) ⟨0,0,0,0,6⟩ ((de c a b)) t->bk 5 (t.Y) (v (.tuple []) t)))/\(¬(a:Int)=0->ab=ab/\0+(a-0)<=c.length/\(∃r,List.take (a-0) (List.drop (aT.idx ⟨2,ab,0,0,1⟩) (ac.aQ (dd c ab j i)))=aG r)/\Nat.le (Nat.succ (List.length (strOf (List.take (a-0) c))+List.length [UInt8.ofNat (Int.toNat b)])) (2^62)/\List.length (strOf (List.take (a-0) c)++[UInt8.ofNat (Int.toNat b)])<1099511627776/\(valid (strOf (List.take (a-0) c)++[UInt8.ofNat (Int.toNat b)])=true->(ab=ab/\0+a=c.length/\a<a+1/\(a+1+(a+1)/4+512)*1<=281474976710656/\a+1<4611686018427387904)/\ab+1=ab+1/\0+(a+1-0)<=List.length (c++[.int .u8 b])/\(∃r,List.take (a+1-0) (List.drop (aT.idx {id:=2,ab:=ab+1,idx:=0,fld:=0,es:=1}) (ac.aQ (cw c ab j i b)))=aG r)/\List.length (strOf (List.take (a+1-0) (List.drop 0 (List.append c [.int .u8 b]))))<1099511627776/\(valid (strOf (List.take (a+1-0) (List.drop 0 (List.append c [.int .u8 b]))))=true->bU (mf n p o m q l k c ab j i a d e f g h b) ⟨0,0,0,0,6⟩ ((et d e f g h b))/\∀(s:T),bV (mf n p o m q l k c ab j i a d e f g h b) ⟨0,0,0,0,6⟩ ((et d e f g h b)) s->bk 5 (s.Y) (v (.tuple []) s))/\(valid (strOf (List.take (a+1-0) (List.drop 0 (List.append c [.int .u8 b]))))=false->ab+1=ab+1/\0+(a+1)<=List.length (c++[.int .u8 b])/\(∃r,List.take (a+1) (List.drop (aT.idx {id:=2,ab:=ab+1,idx:=0,fld:=0,es:=1}) (ac.aQ (cw c ab j i b)))=aG r)/\bU (mg n p o m q l k c ab j i a d e f g h b) ⟨0,0,0,0,6⟩ ((de c a b))/\∀(t:T),bV (mg n p o m q l k c ab j i a d e f g h b) ⟨0,0,0,0,6⟩ ((de c a b)) t->bk 5 (t.Y) (v (.tuple []) t)))/\(valid (strOf (List.take (a-0) c)++[UInt8.ofNat (Int.toNat b)])=false->((↑(List.length (Prod.snd (bD d e f g h b))):Int)=0->cF (2^30-8) dr (mb n p o m q l k c ab j i a d e f g h b) ⟨0,0,0,0,6⟩ b/\∀(u:T),cG bad (mb n p o m q l k c ab j i a d e f g h b) ⟨0,0,0,0,6⟩ b u->bk 5 (u.Y) (v (.tuple []) u))/\(¬(↑(List.length (Prod.snd (bD d e f g h b))):Int)=0->cF (2^30-8) dr (mh n p o m q l k c ab j i a d e f g h b) ⟨0,0,0,0,6⟩ b/\∀(u:T),cG bad (mh n p o m q l k c ab j i a d e f g h b) ⟨0,0,0,0,6⟩ b u->bk 5 (u.Y) (v (.tuple []) u)))))))/\(¬0<(a:Int)-> ¬(bD d e f g h b).1=[]/\List.length (Prod.fst (bD d e f g h b))=1/\gp d e f g h b/\(0<(↑(List.length (Prod.snd (bD d e f g h b))):Int)->((a:Int)=0->(ab=ab/\0+a=c.length/\a<a+1/\(a+1+(a+1)/4+512)*1<=281474976710656/\a+1<4611686018427387904)/\ab+1=ab+1/\0+(a+1-0)<=List.length (c++[.int .u8 b])/\(∃r,List.take (a+1-0) (List.drop (aT.idx {id:=2,ab:=ab+1,idx:=0,fld:=0,es:=1}) (ac.aQ (cw c ab j i b)))=aG r)/\List.length (strOf (List.take (a+1-0) (List.drop 0 (List.append c [.int .u8 b]))))<1099511627776/\(valid (strOf (List.take (a+1-0) (List.drop 0 (List.append c [.int .u8 b]))))=true->bU (mc n p o m q l k c ab j i a d e f g h b) ⟨0,0,0,0,6⟩ ((et d e f g h b))/\∀(s:T),bV (mc n p o m q l k c ab j i a d e f g h b) ⟨0,0,0,0,6⟩ ((et d e f g h b)) s->bk 5 (s.Y) (v (.tuple []) s))/\(valid (strOf (List.take (a+1-0) (List.drop 0 (List.append c [.int .u8 b]))))=false->ab+1=ab+1/\0+(a+1)<=List.length (c++[.int .u8 b])/\(∃r,List.take (a+1) (List.drop (aT.idx {id:=2,ab:=ab+1,idx:=0,fld:=0,es:=1}) (ac.aQ (cw c ab j i b)))=aG r)/\bU (me n p o m q l k c ab j i a d e f g h b) ⟨0,0,0,0,6⟩ ((de c a b))/\∀(t:T),bV (me n p o m q l k c ab j i a d e f g h b) ⟨0,0,0,0,6⟩ ((de c a b)) t->bk 5 (t.Y) (v (.tuple []) t)))/\(¬(a:Int)=0->ab=ab/\0+(a-0)<=c.length/\(∃r,List.take (a-0) (List.drop (aT.idx ⟨2,ab,0,0,1⟩) (ac.aQ (dd c ab j i)))=aG r)/\Nat.le (Nat.succ (List.length (strOf (List.take (a-0) c))+List.length [UInt8.ofNat (Int.toNat b)])) (2^62)/\List.length (strOf (List.take (a-0) c)++[UInt8.ofNat (Int.toNat b)])<1099511627776/\(valid (strOf (List.take (a-0) c)++[UInt8.ofNat (Int.toNat b)])=true->(ab=ab/\0+a=c.length/\a<a+1/\(a+1+(a+1)/4+512)*1<=281474976710656/\a+1<4611686018427387904)/\ab+1=ab+1/\0+(a+1-0)<=List.length (c++[.int .u8 b])/\(∃r,List.take (a+1-0) (List.drop (aT.idx {id:=2,ab:=ab+1,idx:=0,fld:=0,es:=1}) (ac.aQ (cw c ab j i b)))=aG r)/\List.length (strOf (List.take (a+1-0) (List.drop 0 (List.append c [.int .u8 b]))))<1099511627776/\(valid (strOf (List.take (a+1-0) (List.drop 0 (List.append c [.int .u8 b]))))=true->bU (mf n p o m q l k c ab j i a d e f g h b) ⟨0,0,0,0,6⟩ ((et d e f g h b))/\∀(s:T),bV (mf n p o m q l k c ab j i a d e f g h b) ⟨0,0,0,0,6⟩ ((et d e f g h b)) s->bk 5 (s.Y) (v (.tuple []) s))/\(valid (strOf (List.take (a+1-0) (List.drop 0 (List.append c [.int .u8 b]))))=false->ab+1=ab+1/\0+(a+1)<=List.length (c++[.int .u8 b])/\(∃r,List.take (a+1) (List.drop (aT.idx {id:=2,ab:=ab+1,idx:=0,fld:=0,es:=1}) (ac.aQ (cw c ab j i b)))=aG r)/\bU (mg n p o m q l k c ab j i a d e f g h b) ⟨0,0,0,0,6⟩ ((de c a b))/\∀(t:T),bV (mg n p o m q l k c ab j i a d e f g h b) ⟨0,0,0,0,6⟩ ((de c a b)) t->bk 5 (t.Y) (v (.tuple []) t)))/\(valid (strOf (List.take (a-0) c)++[UInt8.ofNat (Int.toNat b)])=false->((↑(List.length (Prod.snd (bD d e f g h b))):Int)=0->cF (2^30-8) dr (mb n p o m q l k c ab j i a d e f g h b) ⟨0,0,0,0,6⟩ b/\∀(u:T),cG bad (mb n p o m q l k c ab j i a d e f g h b) ⟨0,0,0,0,6⟩ b u->bk 5 (u.Y) (v (.tuple []) u))/\(¬(↑(List.length (Prod.snd (bD d e f g h b))):Int)=0->cF (2^30-8) dr (mh n p o m q l k c ab j i a d e f g h b) ⟨0,0,0,0,6⟩ b/\∀(u:T),cG bad (mh n p o m q l k c ab j i a d e f g h b) ⟨0,0,0,0,6⟩ b u->bk 5 (u.Y) (v (.tuple []) u)))))/\(¬0<(↑(List.length (Prod.snd (bD d e f g h b))):Int)->((a:Int)=0->(ab=ab/\0+a=c.length/\a<a+1/\(a+1+(a+1)/4+512)*1<=281474976710656/\a+1<4611686018427387904)/\ab+1=ab+1/\0+(a+1-0)<=List.length (c++[.int .u8 b])/\(∃r,List.take (a+1-0) (List.drop (aT.idx {id:=2,ab:=ab+1,idx:=0,fld:=0,es:=1}) (ac.aQ (cw c ab j i b)))=aG r)/\List.length (strOf (List.take (a+1-0) (List.drop 0 (List.append c [.int .u8 b]))))<1099511627776/\(valid (strOf (List.take (a+1-0) (List.drop 0 (List.append c [.int .u8 b]))))=true->bU (mc n p o m q l k c ab j i a d e f g h b) ⟨0,0,0,0,6⟩ ((et d e f g h b))/\∀(s:T),bV (mc n p o m q l k c ab j i a d e f g h b) ⟨0,0,0,0,6⟩ ((et d e f g h b)) s->bk 5 (s.Y) (v (.tuple []) s))/\(valid (strOf (List.take (a+1-0) (List.drop 0 (List.append c [.int .u8 b]))))=false->ab+1=ab+1/\0+(a+1)<=List.length (c++[.int .u8 b])/\(∃r,List.take (a+1) (List.drop (aT.idx {id:=2,ab:=ab+1,idx:=0,fld:=0,es:=1}) (ac.aQ (cw c ab j i b)))=aG r)/\bU (me n p o m q l k c ab j i a d e f g h b) ⟨0,0,0,0,6⟩ ((de c a b))/\∀(t:T),bV (me n p o m q l k c ab j i a d e f g h b) ⟨0,0,0,0,6⟩ ((de c a b)) t->bk 5 (t.Y) (v (.tuple []) t)))/\(¬(a:Int)=0->ab=ab/\0+(a-0)<=c.length/\(∃r,List.take (a-0) (List.drop (aT.idx ⟨2,ab,0,0,1⟩) (ac.aQ (dd c ab j i)))=aG r)/\Nat.le (Nat.succ (List.length (strOf (List.take (a-0) c))+List.length [UInt8.ofNat (Int.toNat b)])) (2^62)/\List.length (strOf (List.take (a-0) c)++[UInt8.ofNat (Int.toNat b)])<1099511627776/\(valid (strOf (List.take (a-0) c)++[UInt8.ofNat (Int.toNat b)])=true->(ab=ab/\0+a=c.length/\a<a+1/\(a+1+(a+1)/4+512)*1<=281474976710656/\a+1<4611686018427387904)/\ab+1=ab+1/\0+(a+1-0)<=List.length (c++[.int .u8 b])/\(∃r,List.take (a+1-0) (List.drop (aT.idx {id:=2,ab:=ab+1,idx:=0,fld:=0,es:=1}) (ac.aQ (cw c ab j i b)))=aG r)/\List.length (strOf (List.take (a+1-0) (List.drop 0 (List.append c [.int .u8 b]))))<1099511627776/\(valid (strOf (List.take (a+1-0) (List.drop 0 (List.append c [.int .u8 b]))))=true->bU (mf n p o m q l k c ab j i a d e f g h b) ⟨0,0,0,0,6⟩ ((et d e f g h b))/\∀(s:T),bV (mf n p o m q l k c ab j i a d e f g h b) ⟨0,0,0,0,6⟩ ((et d e f g h b)) s->bk 5 (s.Y) (v (.tuple []) s))/\(valid (strOf (List.take (a+1-0) (List.drop 0 (List.append c [.int .u8 b]))))=false->ab+1=ab+1/\0+(a+1)<=List.length (c++[.int .u8 b])/\(∃r,List.take (a+1) (List.drop (aT.idx {id:=2,ab:=ab+1,idx:=0,fld:=0,es:=1}) (ac.aQ (cw c ab j i b)))=aG r)/\bU (mg n p o m q l k c ab j i a d e f g h b) ⟨0,0,0,0,6⟩ ((de c a b))/\∀(t:T),bV (mg n p o m q l k c ab j i a d e f g h b) ⟨0,0,0,0,6⟩ ((de c a b)) t->bk 5 (t.Y) (v (.tuple []) t)))/\(valid (strOf (List.take (a-0) c)++[UInt8.ofNat (Int.toNat b)])=false->((↑(List.length (Prod.snd (bD d e f g h b))):Int)=0->cF (2^30-8) dr (mb n p o m q l k c ab j i a d e f g h b) ⟨0,0,0,0,6⟩ b/\∀(u:T),cG bad (mb n p o m q l k c ab j i a d e f g h b) ⟨0,0,0,0,6⟩ b u->bk 5 (u.Y) (v (.tuple []) u))/\(¬(↑(List.length (Prod.snd (bD d e f g h b))):Int)=0->cF (2^30-8) dr (mh n p o m q l k c ab j i a d e f g h b) ⟨0,0,0,0,6⟩ b/\∀(u:T),cG bad (mh n p o m q l k c ab j i a d e f g h b) ⟨0,0,0,0,6⟩ b u->bk 5 (u.Y) (v (.tuple []) u))))))) :
 bC 90 [.ptr (ba 0),.int .u8 b] (T.of [bB 0 n 1 (.slice (some ⟨2,ab,0,0,1⟩) a a) p false o m,fk d e f g h q,bL c 1 ab j i bZ,l,k]) v :=
 bI NB (.aq 1005 (ag 1011 (ag 1012 (.aq 1013 (he 4004 (.aq 4005 (.aq 6010 (ag 7007 zt) (ag 6018 (ag 6019 vy))) (.aq 6010 (ag 7007 zt) (ag 6018 (ag 6019 vy))))) (he 4004 (.aq 4005 vz vz))))) (he 4004 (.aq 4005 vz vz))) w
end Go.Proofs.YtddnafghiejcoaaGreatDoor
